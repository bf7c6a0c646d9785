import Derived.Test.YthpcfeifmdbhnaaGreatDoorQRsC
import Derived.Test.YthpcfeifmdbhnaaGreatDoorQBad
import Derived.Test.YthpcfeifmdbhnaaGreatDoorQCrd
import Derived.Test.YthpcfeifmdbhnaaGreatDoorQStk
import Derived.Test.YthpcfeifmdbhnaaGreatDoorQSog
import Derived.Deep.RegionHeld3
open Array renaming getElem?_eq_some_iff→Au
open Go renaming Calls→Al,Value→Ak,World→Aj,bodyPost_ret→Ai,cell_of_row→By,heap_alloc_new→Bz,wpAnyH_done→An,wp_region_held_drew→Ao
open Go.IntKind renaming i64→Ab,u8→Ac
open Go.Lib renaming hid→Ah,wpList_append_run→As
open Go.RowKit.Below renaming refl→Ag
open Go.Value renaming int→Aa,slice→Ad
open List renaming flatMap_cons→Bf,getElem?_eq_getElem→Aw,getElem?_eq_some_iff→Ax,getElem_cons_succ→Cd,getElem_cons_zero→Cc,getElem_mem→Ay,getElem_toArray→Ce,length_append→Bh,length_map→Bo,length_take→Bm,mem_append→Bl,mem_cons→Bk,mem_iff_getElem→Be,replicate→Ba,setIfInBounds_toArray→Ch,set_cons_succ→Cg,set_cons_zero→Cf,take_of_length_le→Bg,take_succ_eq_append_getElem→Bc
open Nat renaming le_of_lt→Bu,le_refl→Am,le_trans→Br,lt_of_lt_of_le→Bq,zero_add→Bt
open Option renaming none→Ae,some→Af
set_option maxHeartbeats 8000000
set_option maxRecDepth 100000
namespace Go.Proofs.YthpcfeifmdbhnaaGreatDoor
open Go.RowKit
def kB (o:Option (List Stk)) (w:Aj) (e:Ending) (w':Aj):Prop:=
 Below w.heap.size w w'∧((o=Ae∧e= .returned (.tuple #[Ad Ae 0 0,Aa Ab 3]))∨
  ∃l A c zl,o=Af l∧e= .returned (.tuple #[Ad A l.length c,Aa Ab 0])∧Dd w.heap.size w' (Ad A l.length c) zl∧zl.map (·.1)=l)
def mvK (m:Mv) (x:Stk):Stk:=⟨(Gp m x.c).1,x.ls⟩
theorem zJ (m:Mv) (l:List Stk) (k:Nat) (h:k<l.length):(l.take (k+1)).map (mvK m)=(l.take k).map (mvK m)++[mvK m l[k]]:=by
 rw[Bc h,List.map_append];rfl
theorem gP {m:Mv} {c:Cl} (h:(Gp m c).2=0):(Gp m c).1.ok=true:=by
 unfold Gp at h⊢
 split
 ·assumption
 ·rename_i g;rw[if_neg g]at h
  cases h
def Bc1 (x:SkR) (h:x.1.c.ok=true):Rs.Sr:=by
 have h1:=Eu.1 h;exact⟨x.1.c.x,x.1.c.y,x.1.c.q,x.2.1,x.1.ls.length,x.2.2,x.1.ls,⟨h1.1,h1.2.1⟩,⟨h1.2.2.1,h1.2.2.2.1⟩,Ci⟩
def Wi (r:Rs.Sr):SkR:=(⟨⟨r.x,r.y,r.q⟩,r.ls⟩,(r.A,r.c))
theorem uZ (x:SkR) (h:x.1.c.ok=true):Wi (Bc1 x h)=x:=rfl
theorem rC:∀(zl:List SkR),(∀x∈zl,x.1.c.ok=true)→∃D:List Rs.Sr,D.map Wi=zl∧Rs.recs D=zl.flatMap Eg∧∀r∈D,r.n=r.ls.length
 |[],_=>⟨[],rfl,rfl,Cn⟩
 |x::r,h=>by
  obtain⟨D,h1,h2,h3⟩:=rC r λy hy=>h y (by simp[hy]);refine⟨Bc1 x (h x Cn)::D,by rw[List.map_cons,h1,uZ],?_,?_⟩
  ·unfold Rs.recs at h2⊢;rw[Bf,Bf,h2];rfl
  ·intro y hy;rcases Bk.1 hy with rfl|hy
   ·rfl
   ·exact h3 y hy
theorem uT {D:List Rs.Sr} (h:∀r∈D,r.n=r.ls.length):Rs.recs D=(D.map Wi).flatMap Eg:=by
 induction D with
 |nil=>rfl
 |cons x r ih=>
  have e:Rs.Sr.cells x=Eg (Wi x):=by
   unfold Rs.Sr.cells Eg Wi;dsimp only;rw[h x Cn]
  unfold Rs.recs at ih⊢;rw[Bf,List.map_cons,Bf,ih λy hy=>h y (by simp[hy]),e]
theorem Ac7 (D:List Rs.Sr):(Rs.srt Rs.Sr.t D).Perm D:=by
 induction D with
 |nil=>exact .refl _
 |cons x r ih=>
  show(Rs.mrg Rs.Sr.t [x] (Rs.srt Rs.Sr.t r)).Perm (x::r);unfold Rs.mrg;exact(List.merge_perm_append _).trans (ih.cons x)
theorem Dd.base {O O':Nat} {w:Aj} {v:Ak} {l:List SkR} (h:Dd O w v l) (hO:O'≤O):Dd O' w v l:=⟨Iv h.1 hO,λx hx=>(h.2.1 x hx).base hO,h.2.2⟩
theorem mJ {m:Mv} {l:List Stk} (h:∀x∈l,(Gp m x.c).2=0):Mf m l=Af (Iw (l.map (mvK m))):=by
 unfold Mf;rw[if_pos (by rw[List.all_eq_true];intro x hx;simp[h x hx])];rfl
theorem mI {m:Mv} {l:List Stk} {x:Stk} (hx:x∈l) (h:(Gp m x.c).2≠0):Mf m l=Ae:=by
 unfold Mf;rw[if_neg];intro hh;rw[List.all_eq_true]at hh;have:=hh x hx;simp at this;exact h this
theorem mK (A:Option Addr) (l:List Stk) (n cc:Nat) (m:Mv) (w:Aj) (hn:n=l.length) (h:Dh w A l) (hl:n≤100000) (hls:∀x∈l,x.ls.length≤100000) (hm:m.ok=true) (hc:∀x∈l,x.c.ok=true) (ht:m.t≤255) (hQ:Qf w) (hT:Tn w):
  Al Tryz.prog 50 #[Ad A n cc,.agg #[Aa Ac m.t,Aa Ab m.x,Aa Ab m.y]] w (kB (Mf m l) w):=by
 have HSK:=Ah (λ(w':Aj) (hb:Below w.heap.size w w')=>h.below hb);have HBA:=Ah (λ(w':Aj) (hb:Below w.heap.size w w')=>rS A l n cc w' hn (h.below hb) Ci)
 have hbad:(l.any λx=> !x.c.ok)=false:=by
  rw[List.any_eq_false];intro x hx;simp[hc x hx]
 rw[hbad]at HBA;have HN:=Ah hn;have HLS:=Ah hls;have HMV:=Ah (λ(c:Cl) (hcc:c.ok=true) (w':Aj) (hb:Below w.heap.size w w')=>Ov dK m c w' hm hcc (hQ.below hb) (hT.below hb));have HOK:=Ah hc;have HS:=Ah (λ(h:∀x∈l,(Gp m x.c).2=0)=>mJ h);have HNO:=Ah (λ(x:Stk) (hx:x∈l) (h:(Gp m x.c).2≠0)=>mI hx h);have hmc:=λw'=>Er m.t m.x m.y w' ⟨Ci,Ci⟩;have hm1:okM m.t m.x m.y=true:=hm;simp only[hm1,Gz]at hmc;have HMC:=Ah hmc;obtain⟨o,ho⟩:=ey (Mf m l);rw[ho]at HS HNO⊢;have HSN:=Ah (λk hk=>zJ m l k hk);obtain⟨MK,hMK⟩:=ey (mvK m);have HMK:=Ah (λx:Stk=>show MK x=⟨(Gp m x.c).1,x.ls⟩by rw[←hMK];rfl);rw[hMK]at HS HSN;obtain⟨MC,hMC⟩:=ey (Gp m);have HMO:=Ah (λ(c:Cl) (hh:(MC c).2=0)=>show(MC c).1.ok=true by subst hMC;exact gP hh);rw[hMC]at HMV HS HNO HMK;obtain⟨mt,mx,my⟩:=m;dsimp only at HMV HMC⊢;have H:=(Bx.start w).new #[Aa Ac mt,Aa Ab mx,Aa Ab my] 30 rfl;clear hn h hls hm hc ht hQ hT hbad hmc hm1 ho hMK hMC;go_enter Tryz.func50,Tryz.ntmps50;go_upto_region 1 with fail;obtain⟨N,hN⟩:=ez w.heap.size;rw[←hN]at H⊢;have HNN:=Ah hN;clear hN;obtain⟨W0,hW0⟩:=ez (w.alloc (.cells #[Aa Ac mt,Aa Ab mx,Aa Ab my] 30));rw[←hW0]at H⊢;clear hW0;obtain⟨⟨a0,a1,a2⟩,-⟩:=Cv (H.blk 0 _ _ _ rfl);go_wp2_with fail;refine(HMC.out _).mono ?_;rintro ee w1 ⟨rfl,hb⟩;have H1:=H.call hb;clear a0 a1 a2 hb H HMC;go_wp2_with fail;refine(HBA.out _ H1.below).mono ?_;rintro ee w2 ⟨rfl,hb⟩;have H2:=H1.call hb;clear hb H1 HBA;obtain⟨GO,hGO⟩:=ey w2.heap.size;have hmk:=Un n hl w2;have hO0:=Dd.made w2 n hl;have H3:=H2.other (.cells ((Ba n skZ).flatMap Eg).toArray 89);have hGw:w.heap.size≤GO:=by have:=H2.below.size;omega
 have hNG:N<GO:=by have:=H2.lt 0 rfl;omega
 rw[hGO]at hmk hO0;go_upto_region 4 with fail
 try rw[hGO]
 obtain⟨W4,hW4⟩:=ez (w2.alloc (.cells ((Ba n skZ).flatMap Eg).toArray 89));rw[←hW4]at H3 hO0⊢;clear hW4;have hN3:=H3.blk 0 _ _ _ rfl;have HI0:Hid (∃zl:List SkR,zl.map (·.1)=(l.take 0).map MK∧(∀j (hj:j<l.length),j<0→(MC l[j].c).2=0)∧Dd GO W4 (Ad (Af ⟨GO,0,Ae⟩) n n) (zl++Ba (n-0) skZ)):=Ah ⟨[],rfl,λj _ hj=>absurd hj Ci,hO0⟩;have HJ0:Hid (Below w.heap.size w W4∧W4.heap[N]? =Af (Obj.cells #[Aa Ac mt,Aa Ab mx,Aa Ab my] 30 (0,0))∧GO≤W4.heap.size):=Ah ⟨H3.below,hN3,by have:=(hO0.1.lt GO rfl).2;omega⟩;have HGW:=Ah hGw;have HNG:=Ah hNG;clear hmk hGO hO0 H2 H3 hN3 hGw hNG;go_wp2
 go_loopw [23] (λs23 wr=>∃k:Nat,k≤n∧s23= Aa Ab k∧Hid (∃zl:List SkR,zl.map (·.1)=(l.take k).map MK∧(∀j (hj:j<l.length),j<k→(MC l[j].c).2=0)∧Dd GO wr (Ad (Af ⟨GO,0,Ae⟩) n n) (zl++Ba (n-k) skZ))∧Hid (Below w.heap.size w wr∧wr.heap[N]? =Af (Obj.cells #[Aa Ac mt,Aa Ab mx,Aa Ab my] 30 (0,0))∧GO≤wr.heap.size)) (λs23 _=>n-(intOf s23).toNat)
 case atStart=>exact⟨0,Ci,rfl,HI0,HJ0⟩
 case round=>
  obtain⟨k,hk,rfl,HZ,HJ⟩:=hrel;clear HI0 HJ0;by_cases hlt:k<n
  ·have hkl:k<l.length:=by have:=HN.out;omega
   have q0:(k:Int)<(n:Int):=Ci;obtain⟨bb,o',A',c',hAA,hbl,⟨d0,d1,d2,d3⟩,hA',hle,hcm,hrd⟩:=(HSK.out _ HJ.out.1).get k hkl;have hmem:=Ay hkl;have hlk:=HLS.out l[k] hmem;have hsn:=HSN.out k hkl;have hmk1:=HMK.out l[k];have hno:=HNO.out l[k] hmem;have hmv:=HMV.out l[k].c (HOK.out l[k] hmem)
   have hnx:=λ(h0:(MC l[k].c).2=0) (j:Nat) (hj:j<l.length) (hjk:j<k+1)=>show(MC l[j].c).2=0 by
    by_cases hjj:j=k
    ·subst hjj;exact h0
    ·obtain⟨zl,-,hz,-⟩:=HZ.out;exact hz j hj Ci
   obtain⟨⟨⟨x0,x1,x2⟩,ids⟩,hx⟩:∃z,l[k]=z:=⟨_,rfl⟩;simp only[hx]at d0 d1 d2 d3 hlk hrd hA' hle hsn hmk1 hno hmv hnx;obtain⟨⟨⟨y0,y1,y2⟩,e9⟩,hmc⟩:∃z,MC (⟨x0,x1,x2⟩:Cl)=z:=⟨_,rfl⟩;rw[hmc]at hmk1 hno hmv hnx;unfold clR at hmv;dsimp only at hmk1 hno hmv hnx;obtain⟨m,hm⟩:=ey ids.length;rw[hm]at d3 hlk hrd hA' hle;have HMD:=Ah hm;have HSN2:=Ah (show(l.take (k+1)).map MK=(l.take k).map MK++[⟨⟨y0,y1,y2⟩,ids⟩]by rw[hsn,hmk1]);have HNO2:=Ah hno;have HMV2:=Ah hmv;have HNX:=Ah hnx;have HCP:=Ah (λ(w':Aj) (hb:Below wr.heap.size wr w')=>Lu ⟨y0,y1,y2⟩ A' ids m c' w' hm.symm hA' (hrd.below hb) Ci);have H:=(Bx.start wr).new #[Aa Ab x0,Aa Ab x1,Aa Ac x2,Ad A' m c'] 89 rfl;have hNl:=(Au.1 HJ.out.2.1).1;subst hAA;clear hsn hmk1 hno hmv hnx hrd hA' hle hx hm hmc hmem;obtain⟨C,hC⟩:=ey wr.heap.size;go_upto_region 7 with fail;rw[hC]at H
   try rw[hC]
   obtain⟨W5,hW5⟩:=ez (wr.alloc (.cells #[Aa Ab x0,Aa Ab x1,Aa Ac x2,Ad A' m c'] 89));rw[←hW5]at H⊢;clear hW5;clear d0 d1 d2 d3;obtain⟨⟨e0,e1,e2,e3⟩,-⟩:=Ez (H.blk 0 _ _ _ rfl);obtain⟨⟨a0,a1,a2⟩,-⟩:=Cv ((H.below.block N hNl).trans HJ.out.2.1);have hwr:=HJ.out.1.size;go_wp2_with fail;refine(HMV2.out _ (HJ.out.1.trans (H.below.mono hwr))).mono ?_;rintro ee w6 ⟨rfl,hb⟩;have H6:=H.call hb;clear e0 e1 e2 e3 a0 a1 a2 hb H HMV2;obtain⟨D,hD⟩:=ey w6.heap.size;have H7:=H6.new #[Aa Ab y0,Aa Ab y1,Aa Ac y2] 87 hD;by_cases he:e9=0
   ·subst he;have HNX2:=Ah (HNX.out rfl);clear HNX HNO2;go_upto_region 10 with fail
    try rw[hD]
    obtain⟨W7,hW7⟩:=ez (w6.alloc (.cells #[Aa Ab y0,Aa Ab y1,Aa Ac y2] 87));rw[←hW7]at H7⊢;clear hW7;clear hD H6;obtain⟨⟨e0,e1,e2,e3⟩,-⟩:=Ez (H7.blk 0 _ _ _ rfl);obtain⟨⟨a0,a1,a2⟩,-⟩:=Cv (H7.blk 1 _ _ _ rfl);have hC7:=H7.lt 0 rfl;go_wp2_with fail;refine(HCP.out _ H7.below).mono ?_;rintro ee w8 ⟨A9,rfl,hA9,hrow9,hb9⟩;dsimp only;obtain⟨zl,hz1,-,hz2⟩:=HZ.out
    have hzl:zl.length=k:=by
     have:=congrArg List.length hz1;simp at this;omega
    have hb69:=H7.below.trans (hb9.mono H7.below.size);have hbase:=H7.below.size;have hx9:Ir wr.heap.size w8 (⟨⟨y0,y1,y2⟩,ids⟩,(A9,ids.length)):=⟨hA9,Am _,by show ids.length≤maxLen;have:=HMD.out;unfold maxLen;omega,hrow9.base hbase⟩;obtain⟨ucell,ufree,hset⟩:=Te hz2 (i:=k) (by simp[hzl];omega) hb69 hx9 HJ.out.2.2
    have hLset:(zl++Ba (n-k) skZ).set k (⟨⟨y0,y1,y2⟩,ids⟩,(A9,ids.length))=(zl++[(⟨⟨y0,y1,y2⟩,ids⟩,(A9,ids.length))])++Ba (n-(k+1)) skZ:=by
     rw[List.set_append_right _ _ Ci,hzl,Nat.sub_self];rw[show n-k=(n-(k+1))+1 by omega,List.replicate_succ,Cf];simp
    rw[hLset]at hset;rw[HMD.out]at hset⊢;dsimp only at hset;obtain⟨v0,g0⟩:=ucell 0 Ci;obtain⟨v1,g1⟩:=ucell 1 Ci;obtain⟨v2,g2⟩:=ucell 2 Ci;obtain⟨v3,g3⟩:=ucell 3 Ci;rw[Nat.add_zero]at g0;have z0:=ufree (k*4);have z1:=ufree (k*4+1);have z2:=ufree (k*4+2);have z3:=ufree (k*4+3);have hne:N≠GO:=by have:=HNG.out;omega
    have hsto:∀(X:Aj) (f:Nat) (u:Ak),(X.setCell ⟨GO,f,Ae⟩ u).heap[N]? =X.heap[N]? :=λX f u=>Below.heap_setCell X ⟨GO,f,Ae⟩ u N (by show N≠GO;exact hne)
    have hJ2:Hid (Below w.heap.size w ((((w8.setCell ⟨GO,k*4,Ae⟩ (Aa Ab y0)).setCell ⟨GO,k*4+1,Ae⟩ (Aa Ab y1)).setCell ⟨GO,k*4+2,Ae⟩ (Aa Ac y2)).setCell ⟨GO,k*4+3,Ae⟩ (Ad A9 m m))∧((((w8.setCell ⟨GO,k*4,Ae⟩ (Aa Ab y0)).setCell ⟨GO,k*4+1,Ae⟩ (Aa Ab y1)).setCell ⟨GO,k*4+2,Ae⟩ (Aa Ac y2)).setCell ⟨GO,k*4+3,Ae⟩ (Ad A9 m m)).heap[N]? =Af (Obj.cells #[Aa Ac mt,Aa Ab mx,Aa Ab my] 30 (0,0))∧GO≤((((w8.setCell ⟨GO,k*4,Ae⟩ (Aa Ab y0)).setCell ⟨GO,k*4+1,Ae⟩ (Aa Ab y1)).setCell ⟨GO,k*4+2,Ae⟩ (Aa Ac y2)).setCell ⟨GO,k*4+3,Ae⟩ (Ad A9 m m)).heap.size):=Ah (by
     have hb6:=HJ.out.1.trans (hb69.mono hwr);have hgo:=HGW.out;refine⟨(((hb6.setCell (p:=⟨GO,k*4,Ae⟩) hgo _).setCell (p:=⟨GO,k*4+1,Ae⟩) hgo _).setCell (p:=⟨GO,k*4+2,Ae⟩) hgo _).setCell (p:=⟨GO,k*4+3,Ae⟩) hgo _,?_,?_⟩
     ·rw[hsto,hsto,hsto,hsto];exact(hb69.block N hNl).trans HJ.out.2.1
     ·have:=HJ.out.2.2;have:=hb69.size;simp;omega)
    have hZ2:Hid (∃zl:List SkR,zl.map (·.1)=(l.take (k+1)).map MK∧(∀j (hj:j<l.length),j<k+1→(MC l[j].c).2=0)∧Dd GO ((((w8.setCell ⟨GO,k*4,Ae⟩ (Aa Ab y0)).setCell ⟨GO,k*4+1,Ae⟩ (Aa Ab y1)).setCell ⟨GO,k*4+2,Ae⟩ (Aa Ac y2)).setCell ⟨GO,k*4+3,Ae⟩ (Ad A9 m m)) (Ad (Af ⟨GO,0,Ae⟩) n n) (zl++Ba (n-(k+1)) skZ)):=Ah ⟨_,by rw[List.map_append,hz1,HSN2.out];rfl,HNX2.out,hset⟩;clear ucell ufree hLset hx9 hz1 hz2 hzl hb69 hbase hb9 hrow9 hA9 e0 e1 e2 e3 a0 a1 a2 HZ HJ HCP hset hsto H7;go_wp2;exact⟨⟨k+1,Ci,by go_num,hZ2,hJ2⟩,by simp[intOf];omega⟩
   ·have q1:(e9 != 0)=true:=by simpa using he
    have hoo:=HNO2.out he;have HFIN:Hid (∀w',Below w.heap.size w w'→kB o w (.returned (.tuple #[Ad Ae 0 0,Aa Ab 3])) w'):=Ah λw' hb=>⟨hb,.inl ⟨hoo,rfl⟩⟩;have HBB:=Ah (HJ.out.1.trans (H7.below.mono hwr));clear hoo;go_wp2_with fail;refine Ai (v:= .tuple #[Ad Ae 0 0,Aa Ab 3]) (by simp[results,Tryz.results50,go_sem]) rfl ?_;exact HFIN.out _ HBB.out
  ·obtain rfl:k=n:=Ci;have q0:¬(k:Int)<(k:Int):=Ci;obtain⟨zl,hz1,hz2,hz3⟩:=HZ.out;have ht:l.take k=l:=Bg (by have:=HN.out;omega);rw[ht]at hz1;rw[Nat.sub_self,List.replicate_zero,List.append_nil]at hz3
   have hall:∀x∈l,(MC x.c).2=0:=λx hx=>by
    obtain⟨j,hj,rfl⟩:=Be.1 hx;exact hz2 j hj (by have:=HN.out;omega)
   have hzk:∀x∈zl,x.1.c.ok=true:=λx hx=>by
    have:x.1∈l.map MK:=hz1▸List.mem_map.2 ⟨x,hx,rfl⟩;obtain⟨y,hy,hyx⟩:=List.mem_map.1 this;rw[←hyx,HMK.out];exact HMO.out _ (hall y hy)
   obtain⟨D,hD1,hD2,hD3⟩:=rC zl hzk;have hso:=HS.out hall
   have hzl:zl.length=k:=by
    have:=congrArg List.length hz1;simp at this;have:=HN.out;omega
   have hDl:D.length=k:=by rw[←hzl,←hD1,Bo]
   have hown:=hz3.1;rw[hzl,←hD2]at hown;have HST:=Ah (Rs.stable_any GO GO k k k D wr hDl.symm Ci hown)
   have HFIN:Hid (∀w9,w9.ownsRow GO 89 4 (Ad (Af ⟨GO,0,Ae⟩) k k) k (Rs.recs (Rs.srt Rs.Sr.t D))→wr.grownBy w9 (Af GO)→kB o w (.returned (.tuple #[Ad (Af ⟨GO,0,Ae⟩) k k,Aa Ab 0])) w9):=Ah (by
    intro w9 ho9 hg9;have hpe:=Ac7 D;have hmp:((Rs.srt Rs.Sr.t D).map Wi).Perm zl:=hD1▸hpe.map Wi;have hln:((Rs.srt Rs.Sr.t D).map Wi).length=k:=by rw[hmp.length_eq,hzl]
    have hsl:((Rs.srt Rs.Sr.t D).map Wi).map (·.1)=Iw (l.map MK):=by
     have e:=Rs.sortC_srt (λr=>(Wi r).1) (λr=>rfl) D;have e2:D.map (λr=>(Wi r).1)=l.map MK:=by rw[←hz1,←hD1,List.map_map];rfl
     rw[e2]at e;rw[e,List.map_map];rfl
    have hrl:(Iw (l.map MK)).length=k:=by rw[←hsl,Bo,hln]
    have hout:=(hz3.perm (w':=w9) hmp (by rw[hln,←uT (λr hr=>hD3 r (hpe.mem_iff.1 hr))];exact ho9) hg9).base HGW.out;exact⟨HJ.out.1.grown hg9 HJ.out.1.size (λx hx=>by injection hx with hx;have:=HGW.out;omega),.inr ⟨Iw (l.map MK),Af ⟨GO,0,Ae⟩,k,(Rs.srt Rs.Sr.t D).map Wi,hso,by rw[hrl],by rw[hrl];exact hout,hsl⟩⟩)
   clear hz1 hz2 hz3 ht hall hzk hD1 hD2 hD3 hso hzl hDl hown HZ HJ;go_wp2_with fail;refine HST.out.mono ?_;rintro ee w9 ⟨rfl,ho9,hg9⟩;have HF9:=Ah (HFIN.out w9 ho9 hg9);clear ho9 hg9 HFIN HST;go_wp2_with fail;refine Ai (v:= .tuple #[Ad (Af ⟨GO,0,Ae⟩) k k,Aa Ab 0]) (by simp[results,Tryz.results50,go_sem]) rfl ?_;exact HF9.out
theorem tE (F:FuncId) (hen:∀(args:Array Ak) (w:Aj),(callFunc F args).run Tryz.prog w= .ok (.enter F args) w) (caps:Array Ak) (p:Nat→Bool) (A:Option Addr) (l:List Nat) (n c:Nat) (w:Aj) (hn:n=l.length) (h:Rd w A 1 n (Di l)) (hl:n≤1000000)
  (hf:∀(i:Nat) (w':Aj),i∈l→Below w.heap.size w w'→Al Tryz.prog F (#[Aa Ab (i:Int)]++caps) w' (Co (.bool (p i)) w')):
  Al Tryz.prog 201 #[Ad A n c,.func (.func F) #[] caps] w λe w'=>(∃r:Int,e= .returned (Aa Ab r)∧((l.any p)=decide (0≤r)))∧Below w.heap.size w w':=by
 have HRD:=Ah h;have HN:=Ah hn;have HFX:=Ah hf;clear h hn hf;go_enter Tryz.func201,Tryz.ntmps201;go_wp2
 go_loopw [5,8] (λ_ i wr=>∃k:Nat,k≤n∧i= Aa Ab k∧Below w.heap.size w wr∧Hid (∀j (hj:j<l.length),j<k→p l[j]=false)) (λ_ i _=>n-(intOf i).toNat)
 case atStart=>exact⟨0,Ci,rfl,Ag _ _,Ah λj _ hj=>absurd hj Ci⟩
 case round=>
  obtain⟨k,hk,rfl,hb,HK⟩:=hrel;by_cases hlt:k<n
  ·have hkl:k<l.length:=by have:=HN.out;omega
   obtain⟨bb,o,rfl,hbl,c0⟩:=Mi (HRD.out.below hb) k hkl;have q1:(k:Int)<(n:Int):=Ci;have hmem:=Ay hkl;obtain⟨r,hr⟩:=ey (l[k]);have HRR:=Ah hr;rw[hr]at c0 hmem;have hC:=HFX.out r wr hmem hb;obtain⟨ar,har⟩:=ey (#[Value.int .i64 (r:Int)]++caps);rw[har]at hC;have HC:=Ah hC;clear hr hmem hC;go_wp2_with fail;refine HC.out.mono ?_;rintro e w2 ⟨rfl,hb2⟩;have hb3:=hb.trans (hb2.mono hb.size)
   cases he:p r
   ·have HKN:=Ah (λj (hj:j<l.length) (h:j<k+1)=>show p l[j]=false by
     by_cases hjk:j=k
     ·subst hjk;rw[HRR.out];exact he
     ·exact HK.out j hj Ci)
    go_wp2;exact⟨⟨k+1,Ci,by go_num,hb3,HKN⟩,by simp[intOf];omega⟩
   ·have HA:Hid ((l.any p)=true):=Ah (by rw[List.any_eq_true];exact⟨l[k],Ay _,by rw[HRR.out];exact he⟩);go_wp2;go_ret;exact⟨⟨k,rfl,by rw[HA.out];simp⟩,hb3⟩
  ·have q1:¬(k:Int)<(n:Int):=Ci
   have HA:Hid ((l.any p)=false):=Ah (by
    rw[List.any_eq_false];intro x hx;obtain⟨j,hj,rfl⟩:=Be.1 hx;simpa using HK.out j hj (by have:=HN.out;omega))
   go_wp2;go_ret;exact⟨⟨-1,rfl,by rw[HA.out];rfl⟩,hb⟩
theorem sF (F:FuncId) (hen:∀(args:Array Ak) (w:Aj),(callFunc F args).run Tryz.prog w= .ok (.enter F args) w) (caps:Array Ak) (p:Nat→Bool) (A:Option Addr) (l:List Nat) (n c:Nat) (w:Aj) (hn:n=l.length) (h:Rd w A 1 n (Di l)) (hl:n≤1000000)
  (hf:∀(i:Nat) (w':Aj),i∈l→Below w.heap.size w w'→Al Tryz.prog F (#[Aa Ab (i:Int)]++caps) w' (Co (.bool (p i)) w')):
  Al Tryz.prog 157 #[Ad A n c,.func (.func F) #[] caps] w (Co (.bool (l.any p)) w):=by
 have HC:=Ah (tE F hen caps p A l n c w hn h hl hf);obtain⟨R,hR⟩:=ey (l.any p);rw[hR]at HC⊢;clear hn h hR hl hf hen;go_enter Tryz.func157,Tryz.ntmps157;go_wp2_with fail;refine HC.out.mono ?_;rintro e w2 ⟨⟨r,rfl,hr⟩,hb⟩;go_wp2;go_ret;exact⟨by rw[hr];rfl,hb⟩
theorem sE {w:Aj} {g o:Nat} {cw:Array Ak} {t:TypeId} {v:Ak} (h:w.heap[g]? =Af (Obj.cells cw t (0,0))) (hc:w.cell? ⟨g,o,Ae⟩=Af v):cw[o]? =Af v:=by
 rw[By w g o cw t (0,0) h]at hc;exact hc
def iU (a b:Int) (A:Option Addr) (n cc k M N N4 N5 go gk:Nat) (s:RS):List (Nat×Array Ak×TypeId):=
 [(N,#[Aa Ab a,Aa Ab b,Ad A n cc],28),(N4,#[.map (Af M)],220),(go,(Iq s.out).toArray,30),(N5,#[Ad (Af ⟨go,0,Ae⟩) k k],83),(gk,(De s.known).toArray,4)]
structure Lh (w:Aj) (a b:Int) (l:List Cr) (A:Option Addr) (n cc k M N N4 N5 go gk:Nat) (v:Ak) (wr:Aj) (s:RS):Prop where
 bx:Bx w (iU a b A n cc k M N N4 N5 go gk s) wr
 mp:Fq unK wr M (crM l)
 q:QAt wr w.heap.size [N,N4,N5,go,gk] v s.wait
 ok:Ay4 k s
theorem QAt.len {w:Aj} {base:Nat} {av:List Nat} {v:Ak} {l:List Nat} (h:QAt w base av v l):Av5 v=l.length:=by
 obtain⟨g,o,c,cw,rfl,_⟩:=h;rfl
theorem Lh.mm {w wr:Aj} {a b:Int} {l:List Cr} {A:Option Addr} {n cc k M N N4 N5 go gk:Nat} {v:Ak} {s:RS} (h:Lh w a b l A n cc k M N N4 N5 go gk v wr s):dD wr gk+Av5 v=s.mm:=by
 rw[sK (h.bx.blk 4 _ _ _ rfl),h.q.len];rfl
theorem Aa8 {a b:Int} {l:List Cr} {id e:Nat} {s:RS} (h:(nbI a b id e).2≠0):Jw a b l id e s=Af s:=by
 unfold Jw;rw[if_pos h]
theorem nP {a b:Int} {l:List Cr} {id e y:Nat} {s:RS} (h:nbI a b id e=((y:Int),0)) (hk:s.known.getD y false=true):Jw a b l id e s=if s.out.getD y mv0=Fj a b l s.out id e then Af s else Ae:=by
 unfold Jw;rw[if_neg (by rw[h];simp),h];simp only[Int.toNat_natCast,hk,if_true]
theorem Aa9 {a b:Int} {l:List Cr} {id e y:Nat} {s:RS} (h:nbI a b id e=((y:Int),0)) (hk:s.known.getD y false=false) (hy:y<s.out.length):Jw a b l id e s=Af ⟨s.out.set y (Fj a b l s.out id e),s.known.set y true,s.wait++[y]⟩:=by
 unfold Jw;rw[if_neg (by rw[h];simp),h];simp only[Int.toNat_natCast,hk,Bool.false_eq_true,if_false];rw[if_pos (by simp[List.getD,hy])]
theorem Lh.call {w wr w2:Aj} {a b:Int} {l:List Cr} {A:Option Addr} {n cc k M N N4 N5 go gk:Nat} {v:Ak} {s:RS} (h:Lh w a b l A n cc k M N N4 N5 go gk v wr s) (hb:Below wr.heap.size wr w2):Lh w a b l A n cc k M N N4 N5 go gk v w2 s:=
 ⟨h.bx.call hb,h.mp.below hb h.mp.lt,h.q.below hb,h.ok⟩
theorem QAt.avoid {w:Aj} {base:Nat} {av:List Nat} {v:Ak} {l:List Nat} (h:QAt w base av v l) {P:Nat} (hP:w.heap.size≤P):QAt w base (av++[P]) v l:=by
 obtain⟨g,o,c,cw,h1,h2,h3,h4,h5⟩:=h;refine⟨g,o,c,cw,h1,h2,λx hx=>?_,h4,h5⟩;have:=(Au.1 h4).1;rcases Bl.1 hx with h6|h6
 ·exact h3 x h6
 ·have:x=P:=by simpa using h6
  omega
theorem QAt.sub {w:Aj} {base:Nat} {av av':List Nat} {v:Ak} {l:List Nat} (h:QAt w base av v l) (hs:∀x∈av',x∈av):QAt w base av' v l:=by
 obtain⟨g,o,c,cw,h1,h2,h3,h4,h5⟩:=h;exact⟨g,o,c,cw,h1,h2,λx hx=>h3 x (hs x hx),h4,h5⟩
theorem Lh.put {w wr:Aj} {a b:Int} {l:List Cr} {A:Option Addr} {n cc k M N N4 N5 go gk:Nat} {v:Ak} {s:RS} (h:Lh w a b l A n cc k M N N4 N5 go gk v wr s) (y:Nat) (m:Mv) (hm:m.t≤255):
  Lh w a b l A n cc k M N N4 N5 go gk v ((((wr.setCell ⟨go,y*3,Ae⟩ (Aa Ac m.t)).setCell ⟨go,y*3+1,Ae⟩ (Aa Ab m.x)).setCell ⟨go,y*3+2,Ae⟩ (Aa Ab m.y)).setCell ⟨gk,y,Ae⟩ (.bool true)) ⟨s.out.set y m,s.known.set y true,s.wait⟩:=by
 have b1:=(((h.bx.set 2 (y*3) rfl (Aa Ac m.t)).set 2 (y*3+1) rfl (Aa Ab m.x)).set 2 (y*3+2) rfl (Aa Ab m.y)).set 4 y rfl (.bool true);rw[qQ,Ue]at b1;refine⟨b1,(((h.mp.setCell _ _).setCell _ _).setCell _ _).setCell _ _,(((h.q.set Cn _ _).set Cn _ _).set Cn _ _).set Cn _ _,⟨by simp[h.ok.out],by simp[h.ok.known],h.ok.wait,λx hx=>?_⟩⟩;rcases List.mem_or_eq_of_mem_set hx with h1|rfl
 ·exact h.ok.t x h1
 ·exact hm
theorem Lh.push {w wr w':Aj} {a b:Int} {l:List Cr} {A:Option Addr} {n cc k M N N4 N5 go gk:Nat} {v v':Ak} {s:RS} (h:Lh w a b l A n cc k M N N4 N5 go gk v wr s) (y:Nat) (hy:y<k)
  (hq:QAt w' w.heap.size [N,N4,N5,go,gk] v' (s.wait++[y])) (hw:(∃g j,w.heap.size≤g∧(∀x∈[N,N4,N5,go,gk],x≠g)∧w'=wr.setCell ⟨g,j,Ae⟩ (Aa Ab (y:Nat)))∨∃o,w'=wr.drew.alloc o):
  Lh w a b l A n cc k M N N4 N5 go gk v' w' ⟨s.out,s.known,s.wait++[y]⟩:=by
 have hok:Ay4 k ⟨s.out,s.known,s.wait++[y]⟩:=⟨h.ok.out,h.ok.known,λi hi=>by
  rcases Bl.1 hi with h1|h1
  ·exact h.ok.wait i h1
  ·have:i=y:=by simpa using h1
   subst this;exact hy,h.ok.t⟩
 rcases hw with⟨g,j,hg,hne,rfl⟩|⟨o,rfl⟩
 ·refine⟨h.bx.setOther hg (λi x hx=>hne _ ?_) j _,h.mp.setCell _ _,hq,hok⟩
  match i with
  |0=>simp[iU]at hx;subst hx;simp
  |1=>simp[iU]at hx;subst hx;simp
  |2=>simp[iU]at hx;subst hx;simp
  |3=>simp[iU]at hx;subst hx;simp
  |4=>simp[iU]at hx;subst hx;simp
  |i+5=>simp[iU]at hx
 ·exact⟨h.bx.drew.other o,h.mp.drew.below ((Ag wr.drew.heap.size wr.drew).alloc (Am _) o) h.mp.lt,hq,hok⟩
theorem iX (a b:Int) (A:Option Addr) (l:List Cr) (n cc:Nat) (w:Aj) (hp:Gx a b l) (hn:n=l.length) (h:Rd w A 3 n (crs l)) (hl:n≤1000000) (hQ:Qf w) (hT:Tn w):
  Al Tryz.prog 60 #[.agg #[Aa Ab a,Aa Ab b,Ad A n cc]] w (As4 (Od a b l) w):=by
 obtain⟨F,hF⟩:=ey (Od a b l);rw[hF];unfold Od at hF;obtain⟨k1,k2,k3⟩:=Gn hp.sheet;have hcount:=λw=>Pt a b w hp.sheet;have hcr:=λ(w':Aj) (hb:Below w.heap.size w w')=>kV a b A l n cc w' hn (h.below hb) hl;have hnb:=λid e w h=>Fi a b id e w hp.sheet h;obtain⟨k,hk⟩:=ey (Cq a b);rw[hk]at hF k1 k2 k3 hcount;have HCR:=Ah hcr;have HCOUNT:=Ah hcount;have HNB:=Ah hnb;have HF:=Ah hF;have HP:=Ah hp;have HQ:=Ah hQ;have HT:=Ah hT;have HK1:=Ah k1;have mk1:=λW=>zA k k3 W;have mk2:=λW=>Rl k k3 W;have H:=(Bx.start w).new #[Aa Ab a,Aa Ab b,Ad A n cc] 28 rfl;clear hp hn h hl hQ hT hF hk hcount hcr hnb k1;go_enter Tryz.func60,Tryz.ntmps60;go_upto_region 1 with fail;obtain⟨W,hW⟩:=ez (w.alloc (.cells #[Aa Ab a,Aa Ab b,Ad A n cc] 28));rw[←hW]at H⊢;obtain⟨N,hN⟩:=ez w.heap.size;rw[←hN]at H⊢;have HNN:=Ah hN;clear hW hN;obtain⟨⟨a0,a1,a2⟩,_⟩:=Cv (H.blk 0 _ _ _ rfl);go_wp2_with fail;refine(HCR.out _ H.below).mono ?_;rintro e w2 ⟨M,rfl,hM1,hM2,hb⟩;have H2:=H.call hb;clear a0 a1 a2 hb H;obtain⟨N4,hN4⟩:=ey w2.heap.size;have H3:=H2.new #[.map (Af M)] 220 hN4;have hM3:=hM2.below ((Ag w2.heap.size w2).alloc (Am _) (.cells #[.map (Af M)] 220)) hM2.lt;go_upto_region 2 with fail;obtain⟨W3,hW3⟩:=ez (w2.alloc (.cells #[.map (Af M)] 220));rw[←hW3]at H3 hM3⊢;clear hW3 hN4 H2 hM2;obtain⟨⟨a0,a1,a2⟩,_⟩:=Cv (H3.blk 0 _ _ _ rfl);go_wp2_with fail;refine(HCOUNT.out _).mono ?_;rintro e w4 ⟨rfl,hb⟩;have H4:=H3.call hb;have hM4:=hM3.below hb hM3.lt;clear a0 a1 a2 hb H3 hM3;have j3:(k:Int).toNat=k:=Int.toNat_natCast k;go_upto_region 3 with fail;obtain⟨go,hgo⟩:=ey w4.heap.size;obtain⟨N5,hN5⟩:=ey (go+1);have H5:=H4.new (Iq (Ba k mv0)).toArray 30 hgo
 have hM5:=hM4.below ((Ag w4.heap.size w4).alloc (Am _) (.cells (Iq (Ba k mv0)).toArray 30)) hM4.lt;have hz5:(w4.alloc (.cells (Iq (Ba k mv0)).toArray 30)).heap.size=N5:=by rw[←hN5,←hgo];simp
 rw[hgo,hN5];obtain⟨W5,hW5⟩:=ez (w4.alloc (.cells (Iq (Ba k mv0)).toArray 30));rw[←hW5]at H5 hM5 hz5⊢;have H6:=H5.new #[Ad (Af ⟨go,0,Ae⟩) k k] 83 hz5;have hM6:=hM5.below ((Ag W5.heap.size W5).alloc (Am _) (.cells #[Ad (Af ⟨go,0,Ae⟩) k k] 83)) hM5.lt;obtain⟨W6,hW6⟩:=ez (W5.alloc (.cells #[Ad (Af ⟨go,0,Ae⟩) k k] 83));rw[←hW6]at H6 hM6⊢;have c5:=By W6 N5 0 _ _ (0,0) (H6.blk 3 _ _ _ rfl);simp only[List.getElem?_toArray,List.getElem?_cons_zero]at c5;clear hW6 hW5 hz5 hgo hN5 H4 H5 hM4 hM5 mk1;obtain⟨gk,hgk⟩:=ey W6.heap.size;have H7:=H6.new (De (Ba k false)).toArray 4 hgk;have hM7:=hM6.below ((Ag W6.heap.size W6).alloc (Am _) (.cells (De (Ba k false)).toArray 4)) hM6.lt;go_upto_region 4 with fail;obtain⟨W7,hW7⟩:=ez (W6.alloc (.cells (De (Ba k false)).toArray 4));rw[←hW7]at H7 hM7⊢;have hb7:=H7.blk 4 _ _ _ rfl
 have c7:W7.cell? ⟨gk,0,Ae⟩=Af (.bool false):=by
  rw[By W7 gk 0 _ _ (0,0) hb7];obtain⟨j,rfl⟩:∃j,k=j+1:=⟨k-1,Ci⟩;rfl
 have z7:W7.frozen? ⟨gk,0,Ae⟩=false:=by simp[World.frozen?,hb7]
 have q7:(0:Int)<k:=Ci;have H8:=H7.set 4 0 rfl (.bool true);have hM8:=hM7.setCell ⟨gk,0,Ae⟩ (.bool true);rw[Ue]at H8
 have ek:(Ba k false).set 0 true=true::Ba (k-1) false:=by
  obtain⟨j,rfl⟩:∃j,k=j+1:=⟨k-1,Ci⟩;rfl
 rw[ek]at H8;have H9:Bx w (iU a b A n cc k M N N4 N5 go gk ⟨Ba k mv0,true::Ba (k-1) false,[0]⟩) (W7.setCell ⟨gk,0,Ae⟩ (.bool true)):=H8;clear H8;clear hW7 H6 hM6 c5 ek hb7 hM7 mk2 hgk;go_upto_region 6 with fail;obtain⟨W8,hW8⟩:=ez (W7.setCell ⟨gk,0,Ae⟩ (.bool true));rw[←hW8]at H9 hM8⊢;clear hW8;have H10:=H9.other (.cells #[Aa Ab 0] 3);have hM10:=hM8.below ((Ag W8.heap.size W8).alloc (Am _) (.cells #[Aa Ab 0] 3)) hM8.lt
 have hq10:QAt (W8.alloc (.cells #[Aa Ab 0] 3)) w.heap.size [N,N4,N5,go,gk] (Ad (Af ⟨W8.heap.size,0,Ae⟩) 1 1) [0]:=
  ⟨W8.heap.size,0,1,#[Aa Ab 0],rfl,H9.below.size,λx hx=>by
   simp at hx;rcases hx with rfl|rfl|rfl|rfl|rfl
   ·exact Nat.ne_of_lt (H9.lt 0 rfl)
   ·exact Nat.ne_of_lt (H9.lt 1 rfl)
   ·exact Nat.ne_of_lt (H9.lt 3 rfl)
   ·exact Nat.ne_of_lt (H9.lt 2 rfl)
   ·exact Nat.ne_of_lt (H9.lt 4 rfl),Bz W8 _,Cn,Cn,λi hi=>by
   have:i=0:=by simpa using hi
   subst this;rfl⟩
 have hst:Lh w a b l A n cc k M N N4 N5 go gk (Ad (Af ⟨W8.heap.size,0,Ae⟩) 1 1) (W8.alloc (.cells #[Aa Ab 0] 3)) ⟨Ba k mv0,true::Ba (k-1) false,[0]⟩:=
  ⟨H10,hM10,hq10,⟨Cn,by simp;omega,λi hi=>by simp at hi;omega,λm hm=>by rw[List.eq_of_mem_replicate hm];exact(by decide:0≤255)⟩⟩
 have hmm:(⟨Ba k mv0,true::Ba (k-1) false,[0]⟩:RS).mm≤k+1:=by simp[RS.mm,unk]
 clear H9 hM8 H10 hM10 hq10;obtain⟨g8,hg8⟩:=ey W8.heap.size;rw[hg8]at hst;go_upto_region 7 with fail;clear HCR HCOUNT c7 z7 q7 hg8 j3;have HOM:=Ah hmm;have HST:=Ah hst;clear hmm hst H7
 go_loopw [8] (λv wr=>∃(fuel:Nat) (s:RS),Lh w a b l A n cc k M N N4 N5 go gk v wr s∧s.mm≤fuel∧fuel≤k+1∧Hid (Ml a b l fuel s=F)) (λv wr=>dD wr gk+Av5 v)
 case atStart=>exact⟨k+1,_,HST.out,HOM.out,Am _,HF⟩
 case round=>
  obtain⟨fuel,s,hs,hmm,hfu,HG⟩:=hrel;obtain⟨out,kn,wt⟩:=s;have hmq:=hs.mm
  cases wt with
  |nil=>
   obtain⟨g,o,c,cw,rfl,_⟩:=hs.q
   have hG:Af out=F:=by
    have:=HG.out
    cases fuel with
    |zero=>exact this
    |succ f=>exact this
   have e5:=By wr N5 0 _ _ (0,0) (hs.bx.blk 3 _ _ _ rfl);simp only[List.getElem?_toArray,List.getElem?_cons_zero]at e5;have HE:=Ah hs;have hG':=Ah hG;clear hs hG hmq hmm HG;go_wp2_with fail
   go_ret2
   rw[←hG'.out];have hk:out.length=k:=HE.out.ok.out;exact⟨HE.out.bx.below,go,by rw[hk];rfl,HE.out.bx.lo 2 _ _ _ rfl,HE.out.bx.blk 2 _ _ _ rfl⟩
  |cons x r=>
   obtain⟨g,o,c,rfl,hc,hcell,hq'⟩:=hs.q.head;have hx:x<k:=hs.ok.wait x Cn;obtain⟨f,rfl⟩:∃f,fuel=f+1:=⟨fuel-1,by have:(⟨out,kn,x::r⟩:RS).mm=unk kn+(r.length+1):=rfl;omega⟩;obtain⟨B,hB⟩:=ey (unk kn+r.length);have hB1:(⟨out,kn,x::r⟩:RS).mm=B+1:=by rw[←hB];rfl
   have hB2:(⟨out,kn,r⟩:RS).mm=B:=hB;have HG1:Hid ((Oe a b l x (3-0) ⟨out,kn,r⟩).bind (Ml a b l f)=F):=Ah (by rw[Nat.sub_zero,←iW];exact HG.out);have HS2:=Ah (λsv (hv:QAt wr w.heap.size [N,N4,N5,go,gk] sv r)=>(⟨hs.bx,hs.mp,hv,⟨hs.ok.out,hs.ok.known,λi hi=>hs.ok.wait i (List.mem_cons_of_mem _ hi),hs.ok.t⟩⟩:Lh w a b l A n cc k M N N4 N5 go gk sv wr ⟨out,kn,r⟩));have HB:=Ah (⟨hB1,hB2,hmm,hmq⟩:_∧_∧_∧_);have p1:(0:Int)<(r.length:Int)+1:=Ci;have p2:(1:Int)≤(r.length:Int)+1:=Ci
   have hqA:c=1→QAt wr w.heap.size [N,N4,N5,go,gk] (Ad (Af ⟨g,o,Ae⟩) r.length 0) r:=λhc1=>by
    have hr0:r=[]:=List.length_eq_zero_iff.1 Ci;subst hr0;obtain⟨g',o',c',cw,he,h2,h3,h4,h5,h6,h7⟩:=hq';injection he with he1 he2 he3;injection he1 with he1;injection he1 with he1 _ _;subst he1
    exact⟨g,o,0,cw,rfl,h2,h3,h4,Am _,by
     have:=(Au.1 (sE h4 hcell)).1;omega,λi hi=>absurd hi Cn⟩
   have HQA:=Ah hqA;have HQB:=Ah hq';clear hs HG hq' hB1 hB2 hmm hmq hqA;go_upto_region 9 with fail;go_cut [8]from 27 to 34 (λs8 wx=>wr=wx∧QAt wr w.heap.size [N,N4,N5,go,gk] s8 r)
   case first=>
    go_wp2_with fail
    all_goals go_meet
    all_goals refine⟨rfl,?_⟩
    ·exact HQA.out (by assumption)
    ·exact HQB.out
   case rest=>
   obtain⟨rfl,hv⟩:=hcut;have HS3:=Ah (HS2.out _ hv);clear HS2 hv HQA HQB hcell p1 p2;go_wp2
   go_loopw [35,8] (λi v wr=>∃(e:Nat) (s:RS),e≤3∧i= Aa Ac e∧Lh w a b l A n cc k M N N4 N5 go gk v wr s∧s.mm≤B∧Hid ((Oe a b l x (3-e) s).bind (Ml a b l f)=F)) (λi _ _=>3-(intOf i).toNat)
   case atStart=>exact⟨0,_,Ci,rfl,HS3.out,Nat.le_of_eq HB.out.2.1,HG1⟩
   case round=>
    obtain⟨e,s,he,rfl,hs,hsB,HG⟩:=hrel;by_cases h3:e<3
    ·have hrem:Oe a b l x (3-e) s=(Jw a b l x e s).bind (Oe a b l x (3-(e+1))):=by
      have:e=0∨e=1∨e=2:=Ci;rcases this with rfl|rfl|rfl
      ·rfl
      ·rfl
      ·rfl
     have hG:=HG.out;rw[hrem]at hG;clear hrem HG;obtain⟨⟨a0,a1,a2⟩,_⟩:=Cv (hs.bx.blk 0 _ _ _ rfl);have HS:=Ah hs;have HSB:=Ah hsB;have q1:(e:Int)<3:=Ci;have q2:(e:Int)≤255:=Ci;have hnb:=HNB.out x e;have hnbl:=Yl (i:=(x:Int)) (e:=(e:Int)) HP.out.sheet;have hbad:=Aa8 (a:=a) (b:=b) (l:=l) (id:=x) (e:=e) (s:=s);have hkn:=λy=>nP (a:=a) (b:=b) (l:=l) (id:=x) (e:=e) (y:=y) (s:=s);have hnew:=λy=>Aa9 (a:=a) (b:=b) (l:=l) (id:=x) (e:=e) (y:=y) (s:=s);obtain⟨⟨nn,er⟩,hnz⟩:=ey (nbI a b x e);rw[hnz]at hnb hnbl hbad hkn hnew;have HRE:=Ah (⟨hbad,hkn,hnew⟩:_∧_∧_);have HNX:=Ah hnb;have HG:=Ah hG;clear hs hsB hG hnb hnz hbad hkn hnew;go_wp2_with fail;refine(HNX.out _ Ci (HQ.out.below HS.out.bx.below).qt).mono ?_;rintro en w2 ⟨rfl,hb2⟩;have HS2:=Ah (HS.out.call hb2);clear HNX HS hb2;by_cases her:er=0
     ·subst her;obtain⟨y,rfl⟩:∃y:Nat,(y:Int)=nn:=⟨nn.toNat,Int.toNat_of_nonneg (hnbl rfl).1⟩;have hyk:y<k:=by have h1:=(hnbl rfl).2;have h2:=HK1.out;omega
      have hkn:=HRE.out.2.1 y rfl;have hnew:=HRE.out.2.2 y rfl;have HAC:=Ah λ(w':Aj) (h:Lh w a b l A n cc k M N N4 N5 go gk u8 w' s)=>kF a b l s.out x e N N4 N5 M go k w' HP.out (HQ.out.below h.bx.below) (HT.out.below h.bx.below) h.ok.out.symm hx Ci h.ok.t (Cv (h.bx.blk 0 _ _ _ rfl)).1.1 (Cv (h.bx.blk 0 _ _ _ rfl)).1.2.1 (By w' N4 0 _ _ (0,0) (h.bx.blk 1 _ _ _ rfl)) h.mp (By w' N5 0 _ _ (0,0) (h.bx.blk 3 _ _ _ rfl)) (h.bx.range 2 rfl);have hmt:=eF a b l s.out x e HS2.out.ok.t;obtain⟨⟨mt,mx,my⟩,hm⟩:=ey (Fj a b l s.out x e);rw[hm]at hkn hnew HAC hmt;have HR2:=Ah (⟨hkn,hnew⟩:_∧_);clear hm hnbl hkn hnew HRE;unfold Zs;dsimp only;clear a0 a1 a2;go_wp2_with fail;refine(HAC.out _ HS2.out).mono ?_;rintro en3 w3 ⟨rfl,hb3⟩;have hs4:=(HS2.out.call hb3).call ((Ag w3.heap.size w3).alloc (Am _) (.cells #[Aa Ac mt,Aa Ab mx,Aa Ab my] 30));have hP:=Bz w3 (.cells #[Aa Ac mt,Aa Ab mx,Aa Ab my] 30);have hqP:=((HS2.out.call hb3).q.avoid (Am w3.heap.size)).below ((Ag w3.heap.size w3).alloc (Am _) (.cells #[Aa Ac mt,Aa Ab mx,Aa Ab my] 30));have hPg:go≠w3.heap.size:=Nat.ne_of_lt ((HS2.out.call hb3).bx.lt 2 rfl);have hPk:gk≠w3.heap.size:=Nat.ne_of_lt ((HS2.out.call hb3).bx.lt 4 rfl);clear HAC HS2 hb3;unfold Mv.v;go_upto_region 16 with fail;obtain⟨P,hPP⟩:=ey w3.heap.size;obtain⟨W4,hW4⟩:=ez (w3.alloc (.cells #[Aa Ac mt,Aa Ab mx,Aa Ab my] 30));rw[hPP]at hP hqP hPg hPk⊢;rw[←hW4]at hs4 hP hqP⊢;clear hPP hW4;have hyo:y<s.out.length:=by rw[hs4.ok.out];exact hyk
      obtain⟨o0,o1,o2⟩:=Rn (hs4.bx.range 2 rfl) y hyo;obtain⟨⟨d0,d1,d2⟩,dz⟩:=Cv hP
      have hgk:W4.cell? ⟨gk,y,Ae⟩=Af (.bool (s.known.getD y false)):=by
       have hyn:y<s.known.length:=by rw[hs4.ok.known];exact hyk
       rw[By W4 gk y _ _ (0,0) (hs4.bx.blk 4 _ _ _ rfl)];simp[De,List.getD,hyn]
      have e5:=By W4 N5 0 _ _ (0,0) (hs4.bx.blk 3 _ _ _ rfl);simp only[List.getElem?_toArray,List.getElem?_cons_zero]at e5;obtain⟨kb,hkb⟩:=ey (s.known.getD y false);rw[hkb]at hgk;have y1:(y:Int)<(k:Int):=Ci
      cases kb with
      |true=>
       have hR:=HR2.out.1 hkb;have hgd:s.out.getD y mv0=s.out[y]:=by simp[List.getD,hyo]
       rw[hgd]at hR;obtain⟨⟨ot,ox,oy⟩,ho⟩:=ey (s.out[y]);rw[ho]at hR o0 o1 o2;have HS4:=Ah hs4;clear hs4 hP dz HR2 hkb ho hgd hmt hqP hPg hPk;go_upto_region 19 with fail;by_cases hq:(⟨ot,ox,oy⟩:Mv)=⟨mt,mx,my⟩
       ·injection hq with hq1 hq2 hq3;subst hq1 hq2 hq3;rw[if_pos rfl]at hR
        have HG2:Hid ((Oe a b l x (3-(e+1)) s).bind (Ml a b l f)=F):=Ah (by
         have h:=HG.out;rw[hR]at h;exact h)
        clear hR HG
        go_quiet (fail)
        have hs5:=HS4.out.call (Dg (Ag W4.heap.size W4) nq);obtain⟨W9,hW9⟩:=ez (W4.drewN nq);rw[←hW9]at hs5⊢;have HS5:=Ah hs5;clear hW9 d0 d1 d2 o0 o1 o2 hgk e5 HS4 hs5;go_wp2;exact⟨⟨e+1,s,Ci,by go_num,HS5.out,HSB.out,HG2⟩,by simp[intOf];omega⟩
       ·have hcmp:∀(p q:Result Next),(if((ot:Nat):Int)=(mt:Int)then if ox=mx then if oy=my then p else q else q else q)=q:=λp q=>by
         split
         ·rename_i h1
          split
          ·rename_i h2
           split
           ·rename_i h3;exact absurd (by rw[Int.ofNat.inj h1,h2,h3]) hq
           ·rfl
          ·rfl
         ·rfl
        rw[if_neg hq]at hR
        have hF:Ae=F:=by
         have h:=HG.out;rw[hR]at h;exact h
        clear hq hR HG
        go_quiet (fail)
        have hs5:=HS4.out.call (Dg (Ag W4.heap.size W4) nq);obtain⟨W9,hW9⟩:=ez (W4.drewN nq);rw[←hW9]at hs5⊢;have HS5:=Ah hs5;clear hW9 d0 d1 d2 o0 o1 o2 hgk e5 HS4 hs5 hcmp;go_wp2_with fail
        go_ret2
        rw[←hF];exact⟨HS5.out.bx.below,rfl⟩
      |false=>
       have hR:=HR2.out.2 hkb hyo
       have HG2:Hid ((Oe a b l x (3-(e+1)) ⟨s.out.set y ⟨mt,mx,my⟩,s.known.set y true,s.wait++[y]⟩).bind (Ml a b l f)=F):=Ah (by
        have h:=HG.out;rw[hR]at h;exact h)
       clear hR HR2 HG;have hy3:y*3+3≤(Iq s.out).length:=by rw[Pa];omega
       have th:=hs4.bx.there 2 rfl;simp only[List.size_toArray]at th;have z0:=(th (y*3) Ci).2;have z1:=(th (y*3+1) Ci).2;have z2:=(th (y*3+2) Ci).2;have zk:=(hs4.bx.there 4 rfl y (by simp[De];rw[hs4.ok.known];exact hyk)).2;simp only[Bt]at z0 z1 z2 zk;have HS4:=Ah hs4;have HKB:=Ah hkb;have ngk:go≠gk:=hs4.bx.ne 2 4 Ct rfl rfl;have hmt':(mt:Int)≤255:=Ci;clear hs4 dz hkb th hy3;have HQP:=Ah (⟨hqP,hP⟩:_∧_);clear hqP hP;go_upto_region 18 with fail;have hs5:=HS4.out.put y ⟨mt,mx,my⟩ hmt;dsimp only at hs5;have hq5:=(((HQP.out.1.set (b:=go) Cn (y*3) (Aa Ac mt)).set (b:=go) Cn (y*3+1) (Aa Ab mx)).set (b:=go) Cn (y*3+2) (Aa Ab my)).set (b:=gk) Cn y (.bool true);have hp5:=(Below.heap_setCell _ ⟨gk,y,Ae⟩ (.bool true) P (Ne.symm hPk)).trans ((Below.heap_setCell _ ⟨go,y*3+2,Ae⟩ (Aa Ab my) P (Ne.symm hPg)).trans ((Below.heap_setCell _ ⟨go,y*3+1,Ae⟩ (Aa Ab mx) P (Ne.symm hPg)).trans ((Below.heap_setCell W4 ⟨go,y*3,Ae⟩ (Aa Ac mt) P (Ne.symm hPg)).trans HQP.out.2)));obtain⟨W5,hW5⟩:=ez ((((W4.setCell ⟨go,y*3,Ae⟩ (Aa Ac mt)).setCell ⟨go,y*3+1,Ae⟩ (Aa Ab mx)).setCell ⟨go,y*3+2,Ae⟩ (Aa Ab my)).setCell ⟨gk,y,Ae⟩ (.bool true));rw[←hW5]at hs5 hq5 hp5⊢;clear hW5 HQP hPg hPk d0 d1 d2 o0 o1 o2 hgk e5 z0 z1 z2 zk;have hs6:=hs5.call ((Ag W5.heap.size W5).alloc (Am _) (.cells #[Aa Ab y] 3))
       have hy6:(W5.alloc (.cells #[Aa Ab y] 3)).cell? ⟨W5.heap.size,0,Ae⟩=Af (Aa Ab (y:Nat)):=by
        rw[By _ _ 0 _ _ (0,0) (Bz W5 _)];rfl
       have hun:=rL s.known y (by rw[HS4.out.ok.known];exact hyk) HKB.out;have hsb:=HSB.out;have hmq:s.mm=unk s.known+s.wait.length:=rfl;have hB1:=HB.out
       obtain⟨v',w',hrun,hq',hw'⟩:=(hq5.below ((Ag W5.heap.size W5).alloc (Am _) (.cells #[Aa Ab y] 3))).push Ci hs6.bx.below.size (λx hx=>by
        simp at hx;rcases hx with rfl|rfl|rfl|rfl|rfl|rfl
        ·exact hs6.bx.lt 0 rfl
        ·exact hs6.bx.lt 1 rfl
        ·exact hs6.bx.lt 3 rfl
        ·exact hs6.bx.lt 2 rfl
        ·exact hs6.bx.lt 4 rfl
        ·exact Bq (Au.1 hp5).1 Cn) y W5.heap.size 1 hy6
       have hs7:=hs6.push y hyk (hq'.sub Cn) (hw'.imp (λ⟨g,j,h1,h2,h3⟩=>⟨g,j,h1,λx hx=>h2 x (List.mem_append_left _ hx),h3⟩) id);have hp6:=kept ((Ag W5.heap.size W5).alloc (Am _) (.cells #[Aa Ab y] 3)) hp5 (Au.1 hp5).1
       have hp7:w'.heap[P]? =Af (.cells #[Aa Ac mt,Aa Ab mx,Aa Ab my] 30 (0,0)):=by
        rcases hw' with⟨g,j,_,h2,rfl⟩|⟨o,rfl⟩
        ·exact(Below.heap_setCell _ ⟨g,j,Ae⟩ (Aa Ab (y:Nat)) P (h2 P Cn)).trans hp6
        ·exact kept ((Ag _ (W5.alloc (.cells #[Aa Ab y] 3)).drew).alloc (Am _) o) hp6 (Au.1 hp6).1
       obtain⟨⟨d0,d1,d2⟩,dz⟩:=Cv hp7;have hyo':y<(s.out.set y ⟨mt,mx,my⟩).length:=by simpa using hyo
       obtain⟨o0,o1,o2⟩:=Rn (hs7.bx.range 2 rfl) y hyo';simp only[List.getElem_set_self]at o0 o1 o2;have e5:=By w' N5 0 _ _ (0,0) (hs7.bx.blk 3 _ _ _ rfl);simp only[List.getElem?_toArray,List.getElem?_cons_zero]at e5;have HS7:=Ah hs7;have HRUN:=Ah hrun
       have HMM:Hid ((⟨s.out.set y ⟨mt,mx,my⟩,s.known.set y true,s.wait++[y]⟩:RS).mm≤B):=Ah (by
        have e1:(⟨s.out.set y ⟨mt,mx,my⟩,s.known.set y true,s.wait++[y]⟩:RS).mm=unk (s.known.set y true)+(s.wait++[y]).length:=rfl;rw[e1,Bh,List.length_singleton];omega)
       clear hs5 hs6 hy6 hq' hw' hrun hun hmq hB1 hsb HS4 hs7 hp6 hp7 hp5 hq5 dz hyo';go_wp2_with (at_builtin;refine As _ rfl _ _ _ _ rfl _ _ rfl rfl _ _ HRUN.out ?_)
       go_quiet (fail)
       have hs8:=HS7.out.call (Dg (Ag w'.heap.size w') nq);obtain⟨W9,hW9⟩:=ez (w'.drewN nq);rw[←hW9]at hs8⊢;have HS8:=Ah hs8;clear hW9 d0 d1 d2 o0 o1 o2 e5 HS7 hs8;go_wp2;exact⟨⟨e+1,_,Ci,by go_num,HS8.out,HMM.out,HG2⟩,by simp[intOf];omega⟩
     ·have HG2:Hid ((Oe a b l x (3-(e+1)) s).bind (Ml a b l f)=F):=Ah (by
       have h:=HG.out;rw[HRE.out.1 her]at h;exact h)
      unfold Zs;dsimp only;clear HG HRE hnbl a0 a1 a2;go_wp2;exact⟨⟨e+1,s,Ci,by go_num,HS2.out,HSB.out,HG2⟩,by simp[intOf];omega⟩
    ·have:e=3:=Ci;subst this;have HE:=Ah hs;have HSB:=Ah hsB;clear hs hsB;go_wp2_with fail;have h1:=HE.out.mm;have h2:=HSB.out;have h3:=HB.out;exact⟨⟨f,s,HE.out,Ci,Ci,HG⟩,Ci⟩
def Is (l:List Cl):List Ak:=l.flatMap Cl.cells
theorem Kn (c:Cl):c.cells.length=3:=rfl
theorem Jn (l:List Cl):(Is l).length=l.length*3:=by
 unfold Is;induction l with|nil=>rfl|cons x l ih=>simp[Bf,ih,Kn];omega
theorem Ah5 (l:List Cl) (n:Nat) (c:Cl):(((Is l).toArray.setIfInBounds (n*3) (Aa Ab c.x)).setIfInBounds (n*3+1) (Aa Ab c.y)).setIfInBounds (n*3+2) (Aa Ac c.q)=(Is (l.set n c)).toArray:=by
 have hat:∀(l:List Cl) (i f:Nat),i<l.length→f<3→(Is l)[i*3+f]? =(match l[i]? with|some m=>m.cells[f]? |none=>Ae):=λl i f hi hf=>by
  rw[Aw hi];exact Dz Cl.cells 3 Kn _ i f hi hf
 apply Array.ext';simp only[Array.toList_setIfInBounds];apply List.ext_getElem?;intro j;by_cases hj:j<l.length*3
 ·obtain⟨i,f,hf,rfl⟩:∃i f,f<3∧j=i*3+f:=⟨j/3,j%3,Ci,Ci⟩;have hi:i<l.length:=Ci;rw[hat (l.set n c) i f (by simpa using hi) hf];simp only[List.getElem?_set,List.length_set,Jn];by_cases e:n=i
  ·subst e;rw[if_pos rfl,if_pos hi];have h3:f=0∨f=1∨f=2:=Ci;rcases h3 with rfl|rfl|rfl
   ·simp[Cl.cells];omega
   ·simp[Cl.cells];omega
   ·simp[Cl.cells];omega
  ·rw[if_neg e,if_neg Ci,if_neg Ci,if_neg Ci,hat l i f hi hf]
 ·rw[List.getElem?_eq_none (by simp[Jn];omega),List.getElem?_eq_none (by simp[Jn];omega)]
theorem Ak9 (k:Nat):madeCells #[Aa Ab 0,Aa Ab 0,Aa Ac 0] (k*3)=(Is (Ba k cl0)).toArray:=by
 apply Array.ext';apply List.ext_getElem?;intro j;by_cases hj:j<k*3
 ·obtain⟨i,f,hf,rfl⟩:∃i f,f<3∧j=i*3+f:=⟨j/3,j%3,Ci,Ci⟩;have hi:i<k:=Ci;have h1:(Is (Ba k cl0))[i*3+f]? =(((Ba k cl0)[i]'(by simpa using hi)).cells)[f]? :=Dz Cl.cells 3 Kn _ i f (by simpa using hi) hf;rw[h1];have h3:f=0∨f=1∨f=2:=Ci;have hm:(i*3+f)%3=f:=Ci;simp[madeCells,hj,hm];rcases h3 with rfl|rfl|rfl
  ·rfl
  ·rfl
  ·rfl
 ·rw[List.getElem?_eq_none (by simp[madeCells];omega),List.getElem?_eq_none (by simp[Jn];omega)]
theorem yZ (k:Nat) (hk:k≤1024) (W:Aj):(Instr.makeSlice 93 (Aa Ab k) (Aa Ab k)).run Tryz.prog W= .ok (Ad (Af ⟨W.heap.size,0,Ae⟩) k k) (W.alloc (.cells (Is (Ba k cl0)).toArray 87)):=by
 have hinfo:(Tryz.prog.info? 87).map (λi=>(i.zero,i.size,i.bytes))=Af (Af (.agg #[Aa Ab 0,Aa Ab 0,Aa Ac 0]),3,24):=Cm;obtain⟨i,hi,hz,hs,hb⟩:=info_parts hinfo;have h:=run_make (P:=Tryz.prog) W 93 87 i _ Tryz.underlying93 hi hz .i64 .i64 k k Ci Ci (by rw[hb];omega) Ci;rw[h];simp only[Int.toNat_natCast,hs];have e:(Value.agg #[Aa Ab 0,Aa Ab 0,Aa Ac 0]).cells= #[Aa Ab 0,Aa Ab 0,Aa Ac 0]:=by rfl
 rw[e,Ak9]
def sW (a:Int) (root:Mv) (m:List Mv) (i:Nat):Cl:=(Kq (Gi (m.getD i mv0) root).1 (Cp a i)).1
def Hh (root:Mv) (m:List Mv) (i:Nat):List Mv:=(m.take i).map (λx=>(Gi x root).1)++m.drop i
def Jf (a:Int) (root:Mv) (m:List Mv) (i:Nat):List Cl:=(List.range i).map (sW a root m)++Ba (m.length-i) cl0
theorem Qh (root:Mv) (m:List Mv) (i:Nat):(Hh root m i).length=m.length:=by simp[Hh];omega
theorem bD (a:Int) (root:Mv) (m:List Mv) (i:Nat) (hi:i≤m.length):(Jf a root m i).length=m.length:=by simp[Jf];omega
theorem zX (root:Mv) (m:List Mv) (i:Nat) (hi:i<m.length) (h:i<(Hh root m i).length):(Hh root m i)[i]=m[i]:=by
 simp only[Hh];rw[List.getElem_append_right (by simp;omega)];simp[Nat.min_eq_left (Bu hi)]
theorem uJ (root:Mv) (m:List Mv) (i:Nat) (hi:i<m.length):(Hh root m i).set i (Gi m[i] root).1=Hh root m (i+1):=by
 apply List.ext_getElem
 ·simp[Hh];omega
 ·intro j h1 h2;have hj:j<m.length:=by simp[Qh]at h1;exact h1
  simp only[Hh,List.getElem_set,List.getElem_append,Bo,Bm,List.getElem_map,List.getElem_take,List.getElem_drop];by_cases e:i=j
  ·subst e;rw[if_pos rfl,dif_pos Ci]
  ·rw[if_neg e];by_cases hlt:j<i
   ·rw[dif_pos Ci,dif_pos Ci]
   ·rw[dif_neg Ci,dif_neg Ci]
    congr 1;omega
theorem bE (a:Int) (root:Mv) (m:List Mv) (i:Nat) (hi:i<m.length):(Jf a root m i).set i (sW a root m i)=Jf a root m (i+1):=by
 apply List.ext_getElem
 ·simp[Jf];omega
 ·intro j h1 h2;have hj:j<m.length:=by simp[Jf]at h1;omega
  simp only[Jf,List.getElem_set,List.getElem_append,Bo,List.length_range,List.getElem_map,List.getElem_range,List.getElem_replicate];by_cases e:i=j
  ·subst e;rw[if_pos rfl,dif_pos Ci]
  ·rw[if_neg e];by_cases hlt:j<i
   ·rw[dif_pos hlt,dif_pos Ci]
   ·rw[dif_neg hlt,dif_neg Ci]
theorem aG (a b:Int) (l:List Cr) (root:Mv) (m:List Mv) (hr:root.ok=true) (hm:Od a b l=Af m) (h:∀j,j<m.length→Gy a root m j=0):Df a b l root=((Hh root m m.length,Jf a root m m.length),0):=by
 unfold Df;rw[hr,hm]
 have hf:(List.range m.length).find? (λi=>decide (Gy a root m i≠0))=Ae:=by
  rw[List.find?_eq_none];intro j hj;simp[h j (by simpa using hj)]
 simp only[Bool.true_eq_false,if_false,hf];simp[Hh,Jf];intro i _;simp[sW]
theorem eR (a b:Int) (l:List Cr) (root:Mv) (m:List Mv) (i:Nat) (hr:root.ok=true) (hm:Od a b l=Af m) (hi:i<m.length) (h:∀j,j<i→Gy a root m j=0) (hb:Gy a root m i≠0):Df a b l root=(([],[]),Gy a root m i):=by
 unfold Df;rw[hr,hm]
 have hf:(List.range m.length).find? (λi=>decide (Gy a root m i≠0))=Af i:=by
  rw[List.find?_eq_some_iff_getElem];refine⟨by simp[hb],i,by simpa using hi,Cn,λj hj=>?_⟩;simp[h j hj]
 simp only[Bool.true_eq_false,if_false,hf]
theorem Rc (a b:Int) (l:List Cr) (root:Mv) (hr:root.ok=false):Df a b l root=(([],[]),1):=by
 unfold Df;rw[if_pos hr]
theorem Wy (a b:Int) (l:List Cr) (root:Mv) (hr:root.ok=true) (hm:Od a b l=Ae):Df a b l root=(([],[]),11):=by
 unfold Df;rw[hr,hm];rfl
theorem jP (x y:Mv) (h:(Gi x y).2=0):(Gi x y).1.ok=true:=by
 unfold Gi at h⊢
 split
 ·rename_i hc;rw[if_pos hc]at h;unfold Pm Zt at h⊢
  split
  ·rename_i ho;exact ho
  ·rename_i ho;rw[if_neg ho]at h;cases h
 ·rename_i hc;rw[if_neg hc]at h;cases h
theorem Yt {a b:Int} {l:List Cr} {id e k:Nat} {s s':RS} (h:Jw a b l id e s=Af s') (hl:s.out.length=k) (ht:∀m∈s.out,m.t≤255):s'.out.length=k∧∀m∈s'.out,m.t≤255:=by
 unfold Jw at h
 split at h
 ·injection h with h;subst h;exact⟨hl,ht⟩
 ·dsimp only at h
  split at h
  ·split at h
   ·injection h with h;subst h;exact⟨hl,ht⟩
   ·cases h
  ·split at h
   ·injection h with h;subst h;refine⟨by simpa using hl,λm hm=>?_⟩;rcases List.mem_or_eq_of_mem_set hm with h1|rfl
    ·exact ht m h1
    ·exact eF a b l s.out id e ht
   ·cases h
theorem iV {a b:Int} {l:List Cr} {id k:Nat} {s s':RS} (h:Ll a b l id s=Af s') (hl:s.out.length=k) (ht:∀m∈s.out,m.t≤255):s'.out.length=k∧∀m∈s'.out,m.t≤255:=by
 unfold Ll at h
 cases h0:Jw a b l id 0 s with
 |none=>rw[h0]at h;cases h
 |some s1=>
  rw[h0]at h;simp only[Option.bind_some]at h;obtain⟨q1,q2⟩:=Yt h0 hl ht
  cases h1:Jw a b l id 1 s1 with
  |none=>rw[h1]at h;cases h
  |some s2=>
   rw[h1]at h;simp only[Option.bind_some]at h;obtain⟨q3,q4⟩:=Yt h1 q1 q2;exact Yt h q3 q4
theorem bJ {a b:Int} {l:List Cr} {k:Nat}:∀(f:Nat) {s:RS} {m:List Mv},Ml a b l f s=Af m→s.out.length=k→(∀m∈s.out,m.t≤255)→m.length=k∧∀x∈m,x.t≤255
 |0,s,m,h,hl,ht=>by
  injection h with h;subst h;exact⟨hl,ht⟩
 |f+1,s,m,h,hl,ht=>by
  obtain⟨out,kn,wt⟩:=s
  cases wt with
  |nil=>injection h with h;subst h;exact⟨hl,ht⟩
  |cons x r=>
   have h:(Ll a b l x ⟨out,kn,r⟩).bind (Ml a b l f)=Af m:=h
   cases h0:Ll a b l x ⟨out,kn,r⟩with
   |none=>rw[h0]at h;cases h
   |some s1=>
    rw[h0]at h;simp only[Option.bind_some]at h;obtain⟨q1,q2⟩:=iV h0 hl ht;exact bJ f h q1 q2
theorem Yu {a b:Int} {l:List Cr} {m:List Mv} (h:Od a b l=Af m):m.length=Cq a b∧∀x∈m,x.t≤255:=by
 unfold Od at h;exact bJ _ h Cn (λx hx=>by rw[List.eq_of_mem_replicate hx];exact(by decide:0≤255))
def Af6 (r:(List Mv×List Cl)×Int) (w:Aj) (e:Ending) (w':Aj):Prop:=Below w.heap.size w w'∧
 ((r.2≠0∧e= .returned (.tuple #[Ad Ae 0 0,Ad Ae 0 0,Aa Ab r.2]))∨
  (r.2=0∧∃g h,e= .returned (.tuple #[Ad (Af ⟨g,0,Ae⟩) r.1.1.length r.1.1.length,Ad (Af ⟨h,0,Ae⟩) r.1.2.length r.1.2.length,Aa Ab 0])∧w.heap.size≤g∧w.heap.size≤h∧g≠h∧w'.heap[g]? =Af (Obj.cells (Iq r.1.1).toArray 30 (0,0))∧w'.heap[h]? =Af (Obj.cells (Is r.1.2).toArray 87 (0,0))))
def eS (a b:Int) (A:Option Addr) (n cc:Nat) (root:Mv) (N R go gi:Nat) (ms:List Mv) (is:List Cl):List (Nat×Array Ak×TypeId):=
 [(N,#[Aa Ab a,Aa Ab b,Ad A n cc],28),(R,#[Aa Ac root.t,Aa Ab root.x,Aa Ab root.y],30),(go,(Iq ms).toArray,30),(gi,(Is is).toArray,87)]
theorem Bx.add {w w3 w4:Aj} {l:List (Nat×Array Ak×TypeId)} {g:Nat} {cs:Array Ak} {t:TypeId} (h:Bx w l w3) (hb:Below w3.heap.size w3 w4) (hg:w3.heap.size≤g) (hblk:w4.heap[g]? =Af (Obj.cells cs t (0,0))):Bx w (l++[(g,cs,t)]) w4:=by
 have h4:=h.call hb
 have hk:∀(i g':Nat) (ds:Array Ak) (u:TypeId),(l++[(g,cs,t)])[i]? =Af (g',ds,u)→(i<l.length∧l[i]? =Af (g',ds,u))∨(i=l.length∧g'=g∧ds=cs∧u=t):=by
  intro i g' ds u hi;by_cases hl:i<l.length
  ·rw[List.getElem?_append_left hl]at hi;exact .inl ⟨hl,hi⟩
  ·have hi':i<(l++[(g,cs,t)]).length:=(Ax.1 hi).1;simp at hi';have:i=l.length:=Ci;subst this;rw[List.getElem?_append_right (Am _),Nat.sub_self]at hi;simp at hi;exact .inr ⟨rfl,hi.1.symm,hi.2.1.symm,hi.2.2.symm⟩
 refine⟨h4.below,λi g' ds u hi=>?_,λi g' ds u hi=>?_,λi j g' ds u es v hi hj=>?_⟩
 ·rcases hk i g' ds u hi with⟨_,h1⟩|⟨_,rfl,rfl,rfl⟩
  ·exact h4.blk i g' ds u h1
  ·exact hblk
 ·rcases hk i g' ds u hi with⟨_,h1⟩|⟨_,rfl,rfl,rfl⟩
  ·exact h.lo i g' ds u h1
  ·exact Br h.below.size hg
 ·rcases hk i g' ds u hi with⟨_,h1⟩|⟨h1,rfl,_,_⟩
  ·rcases hk j g' es v hj with⟨_,h2⟩|⟨_,rfl,_,_⟩
   ·exact h.inj i j g' ds u es v h1 h2
   ·exact absurd (h.lt i h1) Ci
  ·rcases hk j _ es v hj with⟨_,h2⟩|⟨h2,_,_,_⟩
   ·exact absurd (h.lt j h2) Ci
   ·omega
theorem xH {w:Aj} {g:Nat} {l:List Cl} (h:w.rangeAt g 0 (Is l)) (i:Nat) (hi:i<l.length):
  w.cell? ⟨g,i*3,Ae⟩=Af (Aa Ab l[i].x)∧w.cell? ⟨g,i*3+1,Ae⟩=Af (Aa Ab l[i].y)∧w.cell? ⟨g,i*3+2,Ae⟩=Af (Aa Ac l[i].q):=by
 have hat:∀f,f<3→(Is l)[i*3+f]? =(l[i].cells)[f]? :=λf hf=>Dz Cl.cells 3 Kn _ i f hi hf;have h0:=h (i*3+0) _ ((hat 0 Ci).trans rfl);have h1:=h (i*3+1) _ ((hat 1 Ci).trans rfl);have h2:=h (i*3+2) _ ((hat 2 Ci).trans rfl);simp only[Bt,Nat.add_zero]at h0 h1 h2;exact⟨h0,h1,h2⟩
theorem xJ {w wr:Aj} {a b:Int} {A:Option Addr} {n cc N R go gi P C:Nat} {root:Mv} {ms:List Mv} {is:List Cl} {x y:Array Ak} {tx ty:TypeId} (h:Bx w (eS a b A n cc root N R go gi ms is++[(P,x,tx),(C,y,ty)]) wr) (j:Nat) (hj:j<is.length):
  wr.frozen? ⟨gi,j*3,Ae⟩=false∧wr.frozen? ⟨gi,j*3+1,Ae⟩=false∧wr.frozen? ⟨gi,j*3+2,Ae⟩=false:=by
 have th:=h.there 3 rfl;have hy3:j*3+3≤(Is is).length:=by rw[Jn];omega
 simp only[List.size_toArray]at th;have z0:=(th (j*3) Ci).2;have z1:=(th (j*3+1) Ci).2;have z2:=(th (j*3+2) Ci).2;simp only[Bt]at z0 z1 z2;exact⟨z0,z1,z2⟩
theorem cL (a b:Int) (A:Option Addr) (l:List Cr) (n cc:Nat) (root:Mv) (w:Aj) (hp:Gx a b l) (hn:n=l.length) (h:Rd w A 3 n (crs l)) (hl:n≤1000000) (ht:root.t≤255) (hQ:Qf w) (hT:Tn w):
  Al Tryz.prog 25 #[.agg #[Aa Ab a,Aa Ab b,Ad A n cc],.agg #[Aa Ac root.t,Aa Ab root.x,Aa Ab root.y]] w (Af6 (Df a b l root) w):=by
 obtain⟨F,hF⟩:=ey (Df a b l root);rw[hF];have HFr:=Ah λ(hr:root.ok=false)=>hF.symm.trans (Rc a b l root hr);have HFn:=Ah λ(hr:root.ok=true) (hm:Od a b l=Ae)=>hF.symm.trans (Wy a b l root hr hm);have HFa:=Ah λ(m:List Mv) (hr:root.ok=true) (hm:Od a b l=Af m) (h:∀j,j<m.length→Gy a root m j=0)=>hF.symm.trans (aG a b l root m hr hm h);have HFe:=Ah λ(m:List Mv) (i:Nat) (hr:root.ok=true) (hm:Od a b l=Af m) (hi:i<m.length) (h:∀j,j<i→Gy a root m j=0) (hb:Gy a root m i≠0)=>hF.symm.trans (eR a b l root m i hr hm hi h hb);obtain⟨k1,k2,k3⟩:=Gn hp.sheet;have HPC:=Ah λ(w':Aj) (hb:Below w.heap.size w w')=>Uu a b A l n cc w' hn (h.below hb) hp (hQ.below hb).qt;have HREL:=Ah λ(w':Aj) (hb:Below w.heap.size w w')=>iX a b A l n cc w' hp hn (h.below hb) hl (hQ.below hb) (hT.below hb);obtain⟨rt,rx,ry⟩:=root;dsimp only at ht;have HMC:=Ah λ(w':Aj)=>Er rt rx ry w' ⟨Int.natCast_nonneg rt,Int.ofNat_le.2 ht⟩;have HK1:=Ah k1;have HT:=Ah hT;have HQ:=Ah hQ;have HP:=Ah hp;have HRT:=Ah ht;have H:=((Bx.start w).new #[Aa Ab a,Aa Ab b,Ad A n cc] 28 rfl).new #[Aa Ac rt,Aa Ab rx,Aa Ab ry] 30 (N:=w.heap.size+1) Cn;clear hp hn h hl hQ hT hF k1 ht;go_enter Tryz.func25,Tryz.ntmps25;go_upto_region 1 with fail;obtain⟨W,hW⟩:=ez ((w.alloc (.cells #[Aa Ab a,Aa Ab b,Ad A n cc] 28)).alloc (.cells #[Aa Ac rt,Aa Ab rx,Aa Ab ry] 30));rw[←hW]at H⊢;obtain⟨N,hN⟩:=ez w.heap.size;rw[←hN]at H⊢;obtain⟨R,hR⟩:=ez (N+1);rw[←hR]at H⊢;have HNN:=Ah hN;have HRR:=Ah hR;clear hW hN hR;obtain⟨⟨a0,a1,a2⟩,_⟩:=Cv (H.blk 0 _ _ _ rfl);go_wp2_with fail;refine(HPC.out _ H.below).mono ?_;rintro e w2 ⟨rfl,hb⟩;have H2:=H.call hb;clear a0 a1 a2 hb H;obtain⟨⟨r0,r1,r2⟩,_⟩:=Cv (H2.blk 1 _ _ _ rfl);go_wp2_with fail;refine(HMC.out _).mono ?_;rintro e w3 ⟨rfl,hb⟩;have H3:=H2.call hb
 clear r0 r1 r2 hb H2;by_cases hrok:(⟨rt,rx,ry⟩:Mv).ok=true
 ·have hec:ec (okM rt rx ry) 1=0:=by
   have:okM rt rx ry=true:=hrok;rw[this];rfl
  rw[hec];clear hec;obtain⟨⟨a0,a1,a2⟩,_⟩:=Cv (H3.blk 0 _ _ _ rfl);go_wp2_with fail;refine(HREL.out _ H3.below).mono ?_;rintro e w4 ⟨hb,hret⟩;have H4:=H3.call hb;clear a0 a1 a2
  cases hrel:Od a b l with
  |none=>
   rw[hrel]at hret;dsimp only at hret;subst hret;have hF:=HFn.out hrok hrel;clear hrel;go_wp2_with fail;refine Ai (v:= .tuple #[Ad Ae 0 0,Ad Ae 0 0,Aa Ab 11]) (by simp[results,Tryz.results25,go_sem]) rfl ?_;rw[hF];exact⟨H4.below,.inl ⟨Ct,rfl⟩⟩
  |some ms=>
   rw[hrel]at hret;dsimp only at hret;obtain⟨go,rfl,hgo,hblk⟩:=hret;obtain⟨hml,hmt⟩:=Yu hrel;obtain⟨k,hk⟩:=ey ms.length;rw[hk]at hml;rw[←hml]at k2 k3;have mk1:=λW=>yZ k k3 W;have HKK:=Ah (hml▸HK1.out:(k:Int)=4*a*b);have HML:=Ah hk;have HMT:=Ah hmt;have HREL2:=Ah hrel;have H5:Bx w [(N,#[Aa Ab a,Aa Ab b,Ad A n cc],28),(R,#[Aa Ac rt,Aa Ab rx,Aa Ab ry],30),(go,(Iq ms).toArray,30)] w4:=H3.add hb hgo hblk;rw[hk];clear H3 H4 hb hblk hml hk hmt hrel HREL HPC HMC HFn HFr hgo HK1;go_upto_region 10 with fail;obtain⟨gi,hgi⟩:=ey w4.heap.size;have H6:=H5.new (Is (Ba k cl0)).toArray 87 hgi;obtain⟨W6,hW6⟩:=ez (w4.alloc (.cells (Is (Ba k cl0)).toArray 87));rw[←hW6]at H6⊢;rw[hgi]
   have H7:Bx w (eS a b A n cc ⟨rt,rx,ry⟩ N R go gi (Hh ⟨rt,rx,ry⟩ ms 0) (Jf a ⟨rt,rx,ry⟩ ms 0)) W6:=by
    have e1:Hh ⟨rt,rx,ry⟩ ms 0=ms:=by simp[Hh]
    have e2:Jf a ⟨rt,rx,ry⟩ ms 0=Ba k cl0:=by simp[Jf,HML.out]
    rw[e1,e2];exact H6
   have HS:=Ah H7;clear hW6 hgi H5 H6 H7 mk1;go_wp2
   go_loopw [36] (λi wr=>∃j:Nat,j≤k∧i= Aa Ab j∧Bx w (eS a b A n cc ⟨rt,rx,ry⟩ N R go gi (Hh ⟨rt,rx,ry⟩ ms j) (Jf a ⟨rt,rx,ry⟩ ms j)) wr∧Hid (∀q,q<j→Gy a ⟨rt,rx,ry⟩ ms q=0)) (λi _=>k-(intOf i).toNat)
   case atStart=>exact⟨0,Nat.zero_le _,rfl,HS.out,Ah λq hq=>absurd hq Ci⟩
   case round=>
    obtain⟨j,hj,rfl,Hr,HE⟩:=hrel;by_cases hlt:j<k
    ·have hjm:j<ms.length:=by have:=HML.out;omega
     have hjp:j<(Hh ⟨rt,rx,ry⟩ ms j).length:=by rw[Qh];exact hjm
     obtain⟨o0,o1,o2⟩:=Rn (Hr.range 2 rfl) j hjp;rw[zX _ _ _ hjm]at o0 o1 o2
     have hEj:Gy a ⟨rt,rx,ry⟩ ms j=if(Gi ms[j] ⟨rt,rx,ry⟩).2≠0 then (Gi ms[j] ⟨rt,rx,ry⟩).2 else (Kq (Gi ms[j] ⟨rt,rx,ry⟩).1 (Cp a j)).2:=by
      unfold Gy;have:ms.getD j mv0=ms[j]:=by simp[List.getD,hjm]
      rw[this]
     have hpl:=uJ ⟨rt,rx,ry⟩ ms j hjm;have hpc:=bE a ⟨rt,rx,ry⟩ ms j hjm;have hmt:=HMT.out ms[j] (Ay _)
     have himg:sW a ⟨rt,rx,ry⟩ ms j=(Kq (Gi ms[j] ⟨rt,rx,ry⟩).1 (Cp a j)).1:=by
      unfold sW;have:ms.getD j mv0=ms[j]:=by simp[List.getD,hjm]
      rw[this]
     obtain⟨m,hm⟩:=ey (ms[j]);rw[hm]at o0 o1 o2 hEj hpl hmt himg;obtain⟨mt,mx,my⟩:=m;dsimp only at o0 o1 o2 hmt;have HEJ:=Ah hEj;have HPL:=Ah hpl;have HPC:=Ah hpc;have HIM:=Ah himg;have HR:=Ah Hr;have q1:(j:Int)<(k:Int):=Ci;have q2:(mt:Int)≤255:=Ci;clear hEj hpl hpc himg hm Hr;go_upto_region 13 with fail;obtain⟨P,hP⟩:=ey wr.heap.size;have H1:=HR.out.new #[Aa Ac mt,Aa Ab mx,Aa Ab my] 30 hP;obtain⟨W1,hW1⟩:=ez (wr.alloc (.cells #[Aa Ac mt,Aa Ab mx,Aa Ab my] 30));rw[←hW1]at H1⊢;rw[hP];clear hW1 hP HR o0 o1 o2;obtain⟨⟨a0,a1,a2⟩,_⟩:=Cv (H1.blk 0 _ _ _ rfl);have hjs:Nd a b j=true:=Jr.2 ⟨Ci,by have:=HKK.out;omega⟩;have hcell:=λ(w':Aj)=>Mu a b j w' HP.out.sheet
     have hci:Ip (Ol a b j)= .tuple #[(Cp a j).v,Aa Ab 0]:=by
      unfold Ol;rw[if_pos hjs];rfl
     rw[hci]at hcell;have hck:=eX HP.out.sheet hjs;obtain⟨c,hc⟩:=ey (Cp a j);rw[hc]at hcell hck HEJ HIM;obtain⟨cx,cy,cq⟩:=c;unfold Cl.v at hcell;dsimp only at hcell;have HCELL:=Ah hcell;clear hcell hci hjs hc;go_wp2_with fail;refine(HCELL.out _).mono ?_;rintro e w2 ⟨rfl,hb2⟩;have H2:=H1.call hb2;clear H1 hb2 a0 a1 a2 HCELL;go_upto_region 14 with fail;obtain⟨C,hC⟩:=ey w2.heap.size;have H3:=H2.new #[Aa Ab cx,Aa Ab cy,Aa Ac cq] 87 hC;obtain⟨W3,hW3⟩:=ez (w2.alloc (.cells #[Aa Ab cx,Aa Ab cy,Aa Ac cq] 87));rw[←hW3]at H3⊢;rw[hC];clear hW3 hC H2;obtain⟨⟨a0,a1,a2⟩,_⟩:=Cv (H3.blk 1 _ _ _ rfl);obtain⟨⟨b0,b1,b2⟩,_⟩:=Cv (H3.blk 4 _ _ _ rfl);have hth:=λ(w':Aj) (hb:Below w.heap.size w w')=>Ve ⟨mt,mx,my⟩ ⟨rt,rx,ry⟩ w' hmt HRT.out (HT.out.below hb);have htok:=jP ⟨mt,mx,my⟩ ⟨rt,rx,ry⟩;have htt:=rJ ⟨mt,mx,my⟩ ⟨rt,rx,ry⟩;obtain⟨⟨⟨pt,px,py⟩,te⟩,hte⟩:∃z,Gi ⟨mt,mx,my⟩ ⟨rt,rx,ry⟩=z:=⟨_,rfl⟩;rw[hte]at hth htok htt HEJ HPL HIM;unfold mvR Mv.v at hth;dsimp only at hth;have HTH:=Ah hth;have HTO:=Ah htok;clear hth hte htok;go_wp2_with fail;refine(HTH.out _ H3.below).mono ?_;rintro e w4 ⟨rfl,hb4⟩;have H4:=H3.call hb4;clear a0 a1 a2 b0 b1 b2 H3 hb4 HTH;have th:=H4.there 2 rfl;have hy3:j*3+3≤(Iq (Hh ⟨rt,rx,ry⟩ ms j)).length:=by rw[Pa];omega
     simp only[List.size_toArray]at th;have z0:=(th (j*3) Ci).2;have z1:=(th (j*3+1) Ci).2;have z2:=(th (j*3+2) Ci).2;simp only[Bt]at z0 z1 z2;obtain⟨o0,o1,o2⟩:=Rn (H4.range 2 rfl) j hjp;clear th hy3;have HH4:=Ah H4;clear H4;go_upto_region 15 with fail;have H5:=((HH4.out.set 2 (j*3) rfl (Aa Ac pt)).set 2 (j*3+1) rfl (Aa Ab px)).set 2 (j*3+2) rfl (Aa Ab py);have e3:=qQ (Hh ⟨rt,rx,ry⟩ ms j) j ⟨pt,px,py⟩;rw[HPL.out]at e3;dsimp only at e3;rw[e3]at H5;have H6:Bx w (eS a b A n cc ⟨rt,rx,ry⟩ N R go gi (Hh ⟨rt,rx,ry⟩ ms (j+1)) (Jf a ⟨rt,rx,ry⟩ ms j)++[(P,#[Aa Ac mt,Aa Ab mx,Aa Ab my],30),(C,#[Aa Ab cx,Aa Ab cy,Aa Ac cq],87)]) (((w4.setCell ⟨go,j*3,Ae⟩ (Aa Ac pt)).setCell ⟨go,j*3+1,Ae⟩ (Aa Ab px)).setCell ⟨go,j*3+2,Ae⟩ (Aa Ab py)):=H5;obtain⟨W5,hW5⟩:=ez (((w4.setCell ⟨go,j*3,Ae⟩ (Aa Ac pt)).setCell ⟨go,j*3+1,Ae⟩ (Aa Ab px)).setCell ⟨go,j*3+2,Ae⟩ (Aa Ab py));rw[←hW5]at H6⊢;clear e3 H5 hW5 z0 z1 z2 o0 o1 o2 HH4;by_cases hte:te=0
     ·subst hte;have hpok:=HTO.out rfl;have hEJ:=HEJ.out;rw[if_neg Cn]at hEJ
      have hmg:Kq ⟨pt,px,py⟩ ⟨cx,cy,cq⟩=Gp ⟨pt,px,py⟩ ⟨cx,cy,cq⟩:=by
       unfold Kq;rw[hpok,hck];rfl
      have hIM:=HIM.out;rw[hmg]at hEJ hIM;have hcm:=λ(w':Aj) (hb:Below w.heap.size w w')=>Ov dK ⟨pt,px,py⟩ ⟨cx,cy,cq⟩ w' hpok hck (HQ.out.below hb) (HT.out.below hb);obtain⟨⟨⟨ix,iy,iq⟩,ie⟩,hie⟩:∃z,Gp ⟨pt,px,py⟩ ⟨cx,cy,cq⟩=z:=⟨_,rfl⟩;rw[hie]at hEJ hIM hcm;have hcm2:∀(w':Aj),Below w.heap.size w w'→Al Tryz.prog 62 #[.agg #[Aa Ac pt,Aa Ab px,Aa Ab py],.agg #[Aa Ab cx,Aa Ab cy,Aa Ac cq]] w' (Co (.tuple #[.agg #[Aa Ab ix,Aa Ab iy,Aa Ac iq],Aa Ab ie]) w'):=hcm;have HCM:=Ah hcm2;have HEJ2:Hid (Gy a ⟨rt,rx,ry⟩ ms j=ie):=Ah hEJ;have HIM2:Hid (sW a ⟨rt,rx,ry⟩ ms j=⟨ix,iy,iq⟩):=Ah hIM;clear hcm2;have hjp1:j<(Hh ⟨rt,rx,ry⟩ ms (j+1)).length:=by rw[Qh];exact hjm
      have hat:(Hh ⟨rt,rx,ry⟩ ms (j+1))[j]=⟨pt,px,py⟩:=by
       have h1:(Hh ⟨rt,rx,ry⟩ ms (j+1))[j]? =Af ⟨pt,px,py⟩:=by
        rw[←HPL.out];simp[hjp]
       rw[Aw hjp1]at h1;injection h1
      obtain⟨o0,o1,o2⟩:=Rn (H6.range 2 rfl) j hjp1;rw[hat]at o0 o1 o2;dsimp only at o0 o1 o2;obtain⟨⟨b0,b1,b2⟩,_⟩:=Cv (H6.blk 5 _ _ _ rfl);have HH6:=Ah H6;clear hcm hie hmg hEJ hIM HEJ HIM hpok hat H6 HTO;go_upto_region 17 with fail;have hjc:j<(Jf a ⟨rt,rx,ry⟩ ms j).length:=by rw[bD _ _ _ _ (Bu hjm)];exact hjm
      have HJC:=Ah hjc;have hgg:go≠gi:=HH6.out.ne 2 3 Ct rfl rfl;have hcg:C≠gi:=HH6.out.ne 5 3 Ct rfl rfl;obtain⟨S,hSd⟩:∃S:Aj→Prop,S=λw'=>w'.cell? ⟨go,j*3,Ae⟩=Af (Aa Ac pt)∧w'.cell? ⟨go,j*3+1,Ae⟩=Af (Aa Ab px)∧w'.cell? ⟨go,j*3+2,Ae⟩=Af (Aa Ab py)∧w'.cell? ⟨C,0,Ae⟩=Af (Aa Ab cx)∧w'.cell? ⟨C,1,Ae⟩=Af (Aa Ab cy)∧w'.cell? ⟨C,2,Ae⟩=Af (Aa Ac cq):=⟨_,rfl⟩;have HSA:Hid (∀W',Below W5.heap.size W5 W'→S W'):=Ah λW' h=>by subst hSd;exact⟨Cj h o0,Cj h o1,Cj h o2,Cj h b0,Cj h b1,Cj h b2⟩
      have HSG:Hid (∀(W':Aj) (x y z:Ak),S W'→S (((W'.setCell ⟨gi,j*3,Ae⟩ x).setCell ⟨gi,j*3+1,Ae⟩ y).setCell ⟨gi,j*3+2,Ae⟩ z)):=Ah λW' x y z h=>by
       subst hSd;obtain⟨h0,h1,h2,h3,h4,h5⟩:=h;exact⟨Ej hgg h0,Ej hgg h1,Ej hgg h2,Ej hcg h3,Ej hcg h4,Ej hcg h5⟩
      have HSO:Hid (∀W',S W'→W'.cell? ⟨go,j*3,Ae⟩=Af (Aa Ac pt)∧W'.cell? ⟨go,j*3+1,Ae⟩=Af (Aa Ab px)∧W'.cell? ⟨go,j*3+2,Ae⟩=Af (Aa Ab py)∧W'.cell? ⟨C,0,Ae⟩=Af (Aa Ab cx)∧W'.cell? ⟨C,1,Ae⟩=Af (Aa Ab cy)∧W'.cell? ⟨C,2,Ae⟩=Af (Aa Ac cq)):=Ah λW' h=>by subst hSd;exact h
      clear hSd o0 o1 o2 b0 b1 b2;refine Ao (S:=S) Cm (HSA.out _ (Ag _ _).drew) (λhS=>?_);have hb:Below W5.heap.size W5 W5.drew:=(Ag _ _).drew;have H:=HH6.out.drew;obtain⟨X0,hX⟩:=ez W5.drew;rw[←hX]at H hb hS⊢;clear hX HH6;refine Ck 0 ?_;refine Ck 1 ?_;refine Ck 2 ?_;refine Ck 3 ?_;refine Ck 4 ?_;refine Ck 5 ?_;refine Ck 6 ?_;refine rdy 7 (λK hK=>?_);go_simp;refine(HCM.out _ H.below).mono ?_;rintro e X1 ⟨rfl,hbm⟩;have hb:=hb.trans (hbm.mono hb.size);have H:=H.call hbm;have hS:=HSA.out _ hb;refine hK.out _ _ hS (λhS=>?_);clear hK K hbm;refine Ck 8 ?_;refine Ck 9 ?_;refine Ck 10 ?_;refine Ck 11 ?_;refine rdy 12 (λK hK=>?_);have hgi:=H.lt 3 rfl;obtain⟨i0,i1,i2⟩:=xH (H.range 3 rfl) j HJC.out;obtain⟨z0,z1,z2⟩:=xJ H j HJC.out;have H5:=((H.set 3 (j*3) rfl (Aa Ab ix)).set 3 (j*3+1) rfl (Aa Ab iy)).set 3 (j*3+2) rfl (Aa Ac iq);have e3:=Ah5 (Jf a ⟨rt,rx,ry⟩ ms j) j ⟨ix,iy,iq⟩;rw[←HIM2.out,bE a ⟨rt,rx,ry⟩ ms j hjm,HIM2.out]at e3;dsimp only at e3;rw[e3]at H5;have H6:Hid (Bx w (eS a b A n cc ⟨rt,rx,ry⟩ N R go gi (Hh ⟨rt,rx,ry⟩ ms (j+1)) (Jf a ⟨rt,rx,ry⟩ ms (j+1))) (((X1.setCell ⟨gi,j*3,Ae⟩ (Aa Ab ix)).setCell ⟨gi,j*3+1,Ae⟩ (Aa Ab iy)).setCell ⟨gi,j*3+2,Ae⟩ (Aa Ac iq))):=Ah (H5.upto 4);clear e3 H5 H hb;go_simp;refine hK.out _ _ (HSG.out _ _ _ _ hS) (λhS=>?_);clear hK K i0 i1 i2 z0 z1 z2;obtain⟨X2,hX⟩:=ez (((X1.setCell ⟨gi,j*3,Ae⟩ (Aa Ab ix)).setCell ⟨gi,j*3+1,Ae⟩ (Aa Ab iy)).setCell ⟨gi,j*3+2,Ae⟩ (Aa Ac iq));rw[←hX]at H6 hS⊢;clear hX;refine Ck 13 ?_;refine An Cm ?_ _;clear hS HSO HSA HSG;by_cases hie:ie=0
      ·subst hie
       have HE2:Hid (∀q,q<j+1→Gy a ⟨rt,rx,ry⟩ ms q=0):=Ah λq hq=>by
        by_cases hqj:q=j
        ·subst hqj;exact HEJ2.out
        ·exact HE.out q Ci
       go_wp2;exact⟨⟨j+1,Ci,by go_num,H6.out,HE2⟩,by simp[intOf];omega⟩
      ·have hb:Gy a ⟨rt,rx,ry⟩ ms j≠0:=by rw[HEJ2.out];exact hie
       have hF:=HFe.out ms j hrok HREL2.out hjm HE.out hb;rw[HEJ2.out]at hF;clear hb HEJ2 HIM2 HPL HPC;go_wp2_with fail;refine Ai (v:= .tuple #[Ad Ae 0 0,Ad Ae 0 0,Aa Ab ie]) (by simp[results,Tryz.results25,go_sem]) rfl ?_;rw[hF];exact⟨H6.out.below,.inl ⟨hie,rfl⟩⟩
     ·have hb:Gy a ⟨rt,rx,ry⟩ ms j≠0:=by
       rw[HEJ.out,if_pos hte];exact hte
      have hF:=HFe.out ms j hrok HREL2.out hjm HE.out hb;rw[HEJ.out,if_pos hte]at hF;clear hb HEJ HIM HPL HPC;go_wp2_with fail;refine Ai (v:= .tuple #[Ad Ae 0 0,Ad Ae 0 0,Aa Ab te]) (by simp[results,Tryz.results25,go_sem]) rfl ?_;rw[hF];exact⟨H6.below,.inl ⟨hte,rfl⟩⟩
    ·obtain rfl:j=k:=Ci;have q1:¬(j:Int)<(j:Int):=Ci;have HR:=Ah Hr;have hF:=HFa.out ms hrok HREL2.out (λq hq=>HE.out q (by have:=HML.out;omega));clear Hr;go_wp2_with fail;refine Ai (v:= .tuple #[Ad (Af ⟨go,0,Ae⟩) j j,Ad (Af ⟨gi,0,Ae⟩) j j,Aa Ab 0]) (by simp[results,Tryz.results25,go_sem]) rfl ?_;rw[HML.out];have e1:=Qh ⟨rt,rx,ry⟩ ms j;have e2:=bD a ⟨rt,rx,ry⟩ ms j (by have:=HML.out;omega);rw[HML.out]at e1 e2;exact⟨HR.out.below,.inr ⟨rfl,go,gi,by dsimp only;rw[e1,e2],HR.out.lo 2 _ _ _ rfl,HR.out.lo 3 _ _ _ rfl,HR.out.ne 2 3 Ct rfl rfl,HR.out.blk 2 _ _ _ rfl,HR.out.blk 3 _ _ _ rfl⟩⟩
 ·have hrf:(⟨rt,rx,ry⟩:Mv).ok=false:=by simpa using hrok
  have hec:ec (okM rt rx ry) 1=1:=by
   have:okM rt rx ry=false:=hrf;rw[this];rfl
  rw[hec];clear hec;have hF:=HFr.out hrf;go_wp2_with fail;refine Ai (v:= .tuple #[Ad Ae 0 0,Ad Ae 0 0,Aa Ab 1]) (by simp[results,Tryz.results25,go_sem]) rfl ?_;rw[hF];exact⟨H3.below,.inl ⟨Ct,rfl⟩⟩
def cG (cs:List Ak) (n:Nat) (t:TypeId) (er:Int) (w:Aj) (e:Ending) (w':Aj):Prop:=Below w.heap.size w w'∧
 ((er≠0∧e= .returned (.tuple #[Ad Ae 0 0,Aa Ab er]))∨
  (er=0∧∃g,e= .returned (.tuple #[Ad (Af ⟨g,0,Ae⟩) n n,Aa Ab 0])∧w.heap.size≤g∧w'.heap[g]? =Af (Obj.cells cs.toArray t (0,0))))
theorem bF (a b:Int) (A:Option Addr) (l:List Cr) (n cc:Nat) (root:Mv) (w:Aj) (hp:Gx a b l) (hn:n=l.length) (h:Rd w A 3 n (crs l)) (hl:n≤1000000) (ht:root.t≤255) (hQ:Qf w) (hT:Tn w):
  Al Tryz.prog 23 #[.agg #[Aa Ab a,Aa Ab b,Ad A n cc],.agg #[Aa Ac root.t,Aa Ab root.x,Aa Ab root.y]] w (cG (Iq (Df a b l root).1.1) (Df a b l root).1.1.length 30 (Df a b l root).2 w):=by
 have hB:=λ(w':Aj) (hb:Below w.heap.size w w')=>cL a b A l n cc root w' hp hn (h.below hb) hl ht (hQ.below hb) (hT.below hb);obtain⟨⟨⟨ms,is⟩,er⟩,hF⟩:∃F,Df a b l root=F:=⟨_,rfl⟩;rw[hF]at hB⊢;dsimp only;obtain⟨rt,rx,ry⟩:=root;dsimp only at hB⊢;have HB:=Ah hB;have H:=((Bx.start w).new #[Aa Ab a,Aa Ab b,Ad A n cc] 28 rfl).new #[Aa Ac rt,Aa Ab rx,Aa Ab ry] 30 (N:=w.heap.size+1) Cn;clear hp hn h hl hQ hT hF ht hB;go_enter Tryz.func23,Tryz.ntmps23;go_upto_region 1 with fail;obtain⟨W,hW⟩:=ez ((w.alloc (.cells #[Aa Ab a,Aa Ab b,Ad A n cc] 28)).alloc (.cells #[Aa Ac rt,Aa Ab rx,Aa Ab ry] 30));rw[←hW]at H⊢;clear hW;obtain⟨N,hN⟩:=ez w.heap.size;rw[←hN]at H⊢;have HNN:=Ah hN;clear hN;obtain⟨⟨a0,a1,a2⟩,_⟩:=Cv (H.blk 0 _ _ _ rfl);obtain⟨⟨b0,b1,b2⟩,_⟩:=Cv (H.blk 1 _ _ _ rfl);go_wp2_with fail;refine(HB.out _ H.below).mono ?_;rintro e w2 ⟨hb,hret⟩;have H2:=H.call hb;have hlo:=H.below.size;clear a0 a1 a2 b0 b1 b2 hb HB H;dsimp only at hret;rcases hret with⟨h0,rfl⟩|⟨rfl,g,hh,rfl,hg,hgh,hne,hb1,hb2⟩
 ·go_wp2_with fail;refine Ai (v:= .tuple #[Ad Ae 0 0,Aa Ab er]) (by simp[results,Tryz.results23,go_sem]) rfl ?_;exact⟨H2.below,.inl ⟨h0,rfl⟩⟩
 ·go_wp2_with fail;refine Ai (v:= .tuple #[Ad (Af ⟨g,0,Ae⟩) ms.length ms.length,Aa Ab 0]) (by simp[results,Tryz.results23,go_sem]) rfl ?_;exact⟨H2.below,.inr ⟨rfl,g,rfl,Ci,hb1⟩⟩
theorem Pz (a b:Int) (A:Option Addr) (l:List Cr) (n cc:Nat) (root:Mv) (w:Aj) (hp:Gx a b l) (hn:n=l.length) (h:Rd w A 3 n (crs l)) (hl:n≤1000000) (ht:root.t≤255) (hQ:Qf w) (hT:Tn w):
  Al Tryz.prog 43 #[.agg #[Aa Ab a,Aa Ab b,Ad A n cc],.agg #[Aa Ac root.t,Aa Ab root.x,Aa Ab root.y]] w (cG (Is (Df a b l root).1.2) (Df a b l root).1.2.length 87 (Df a b l root).2 w):=by
 have hB:=λ(w':Aj) (hb:Below w.heap.size w w')=>cL a b A l n cc root w' hp hn (h.below hb) hl ht (hQ.below hb) (hT.below hb);obtain⟨⟨⟨ms,is⟩,er⟩,hF⟩:∃F,Df a b l root=F:=⟨_,rfl⟩;rw[hF]at hB⊢;dsimp only;obtain⟨rt,rx,ry⟩:=root;dsimp only at hB⊢;have HB:=Ah hB;have H:=((Bx.start w).new #[Aa Ab a,Aa Ab b,Ad A n cc] 28 rfl).new #[Aa Ac rt,Aa Ab rx,Aa Ab ry] 30 (N:=w.heap.size+1) Cn;clear hp hn h hl hQ hT hF ht hB;go_enter Tryz.func43,Tryz.ntmps43;go_upto_region 1 with fail;obtain⟨W,hW⟩:=ez ((w.alloc (.cells #[Aa Ab a,Aa Ab b,Ad A n cc] 28)).alloc (.cells #[Aa Ac rt,Aa Ab rx,Aa Ab ry] 30));rw[←hW]at H⊢;clear hW;obtain⟨N,hN⟩:=ez w.heap.size;rw[←hN]at H⊢;have HNN:=Ah hN;clear hN;obtain⟨⟨a0,a1,a2⟩,_⟩:=Cv (H.blk 0 _ _ _ rfl);obtain⟨⟨b0,b1,b2⟩,_⟩:=Cv (H.blk 1 _ _ _ rfl);go_wp2_with fail;refine(HB.out _ H.below).mono ?_;rintro e w2 ⟨hb,hret⟩;have H2:=H.call hb;have hlo:=H.below.size;clear a0 a1 a2 b0 b1 b2 hb HB H;dsimp only at hret;rcases hret with⟨h0,rfl⟩|⟨rfl,g,hh,rfl,hg,hgh,hne,hb1,hb2⟩
 ·go_wp2_with fail;refine Ai (v:= .tuple #[Ad Ae 0 0,Aa Ab er]) (by simp[results,Tryz.results43,go_sem]) rfl ?_;exact⟨H2.below,.inl ⟨h0,rfl⟩⟩
 ·go_wp2_with fail;refine Ai (v:= .tuple #[Ad (Af ⟨hh,0,Ae⟩) is.length is.length,Aa Ab 0]) (by simp[results,Tryz.results43,go_sem]) rfl ?_;exact⟨H2.below,.inr ⟨rfl,hh,rfl,Ci,hb2⟩⟩
theorem zF (m:Mv) (c:Cl) (h:(Kq m c).2=0):(Kq m c).1.ok=true:=by
 unfold Kq at h⊢
 split
 ·rename_i hc;rw[if_pos hc]at h;unfold Gp at h⊢
  split
  ·rename_i ho;exact ho
  ·rename_i ho;rw[if_neg ho]at h;cases h
 ·rename_i hc;rw[if_neg hc]at h;cases h
theorem Jc {a b:Int} {l:List Cr} {root:Mv} (h:(Df a b l root).2=0):
  (Df a b l root).1.1.length=Cq a b∧(Df a b l root).1.2.length=Cq a b∧(∀m∈(Df a b l root).1.1,m.ok=true)∧∀c∈(Df a b l root).1.2,c.ok=true:=by
 cases hr:root.ok with
 |false=>rw[Rc a b l root hr]at h;cases h
 |true=>
  cases hm:Od a b l with
  |none=>rw[Wy a b l root hr hm]at h;cases h
  |some m=>
   by_cases hall:∀j,j<m.length→Gy a root m j=0
   ·obtain⟨h1,_⟩:=Yu hm;have e:Df a b l root=((Hh root m m.length,Jf a root m m.length),0):=aG a b l root m hr hm hall
    have hE:∀j,j<m.length→(Gi (m.getD j mv0) root).2=0∧(Kq (Gi (m.getD j mv0) root).1 (Cp a j)).2=0:=by
     intro j hj;have h2:=hall j hj;unfold Gy at h2;by_cases h3:(Gi (m.getD j mv0) root).2=0
     ·rw[if_neg (by simpa using h3)]at h2;exact⟨h3,h2⟩
     ·rw[if_pos h3]at h2;exact absurd h2 h3
    rw[e];refine⟨by simp[Hh,h1],by simp[Jf,h1],λx hx=>?_,λc hc=>?_⟩
    ·simp only[Hh,List.take_length,List.drop_length,List.append_nil,List.mem_map]at hx;obtain⟨y,hy,rfl⟩:=hx;obtain⟨j,hj,rfl⟩:=Be.1 hy;have:=(hE j hj).1;rw[List.getD_eq_getElem?_getD,Aw hj]at this;exact jP _ _ this
    ·simp only[Jf,Nat.sub_self,List.replicate_zero,List.append_nil,List.mem_map,List.mem_range]at hc;obtain⟨j,hj,rfl⟩:=hc;exact zF _ _ (hE j hj).2
   ·have:∃i,i<m.length∧(∀j,j<i→Gy a root m j=0)∧Gy a root m i≠0:=by
     have hex:∃i,i<m.length∧Gy a root m i≠0:=by
      apply Classical.byContradiction;intro hn;exact hall λj hj=>Classical.byContradiction λh3=>hn ⟨j,hj,h3⟩
     obtain⟨n,hn1,hn2⟩:=hex
     induction n using Nat.strongRecOn with
     |_ n ih=>
      by_cases hq:∀j,j<n→Gy a root m j=0
      ·exact⟨n,hn1,hq,hn2⟩
      ·have:∃j,j<n∧Gy a root m j≠0:=by
        apply Classical.byContradiction;intro hn;exact hq λj hj=>Classical.byContradiction λh3=>hn ⟨j,hj,h3⟩
       obtain⟨j,hj1,hj2⟩:=this;exact ih j hj1 Ci hj2
    obtain⟨i,hi,h1,h2⟩:=this;rw[eR a b l root m i hr hm hi h1 h2]at h;exact absurd h h2
theorem kM (l:List Bool) (n:Nat) (v:Bool):(De l).toArray.setIfInBounds n (.bool v)=(De (l.set n v)).toArray:=by
 simp[De,List.map_set]
def Ku (ms:List Mv) (i:Nat):List Bool:=(ms.take i).map (λm=> !Hy m)++Ba (ms.length-i) false
theorem uK (ms:List Mv) (i:Nat) (hi:i≤ms.length):(Ku ms i).length=ms.length:=by simp[Ku];omega
theorem uL (ms:List Mv) (i:Nat) (hi:i<ms.length):(Ku ms i).set i (!Hy ms[i])=Ku ms (i+1):=by
 apply List.ext_getElem
 ·simp[Ku];omega
 ·intro j h1 h2;have hj:j<ms.length:=by simp[Ku]at h1;omega
  simp only[Ku,List.getElem_set,List.getElem_append,Bo,Bm,List.getElem_map,List.getElem_take,List.getElem_replicate];by_cases e:i=j
  ·subst e;rw[if_pos rfl,dif_pos Ci]
  ·rw[if_neg e];by_cases hlt:j<i
   ·rw[dif_pos Ci,dif_pos Ci]
   ·rw[dif_neg Ci,dif_neg Ci]
def upL (a b:Int) (A:Option Addr) (n cc:Nat) (root:Mv) (N R g gi:Nat) (ms:List Mv) (us:List Bool):List (Nat×Array Ak×TypeId):=
 [(N,#[Aa Ab a,Aa Ab b,Ad A n cc],28),(R,#[Aa Ac root.t,Aa Ab root.x,Aa Ab root.y],30),(g,(Iq ms).toArray,30),(gi,(De us).toArray,4)]
theorem Af4 (a b:Int) (A:Option Addr) (l:List Cr) (n cc:Nat) (root:Mv) (w:Aj) (hp:Gx a b l) (hn:n=l.length) (h:Rd w A 3 n (crs l)) (hl:n≤1000000) (ht:root.t≤255) (hQ:Qf w) (hT:Tn w):
  Al Tryz.prog 10 #[.agg #[Aa Ab a,Aa Ab b,Ad A n cc],.agg #[Aa Ac root.t,Aa Ab root.x,Aa Ab root.y]] w (cG (De (upF a b l root).1) (upF a b l root).1.length 4 (upF a b l root).2 w):=by
 have hB:=λ(w':Aj) (hb:Below w.heap.size w w')=>cL a b A l n cc root w' hp hn (h.below hb) hl ht (hQ.below hb) (hT.below hb);have hinv:=Jc (a:=a) (b:=b) (l:=l) (root:=root);obtain⟨_,_,k3⟩:=Gn hp.sheet;have hU:upF a b l root=if(Df a b l root).2≠0 then ([],(Df a b l root).2)else ((Df a b l root).1.1.map λm=> !Hy m,0):=rfl;obtain⟨⟨⟨ms,is⟩,er⟩,hF⟩:∃F,Df a b l root=F:=⟨_,rfl⟩;rw[hF]at hB hinv hU;dsimp only at hinv hU;obtain⟨U,hUU⟩:=ey (upF a b l root);rw[hUU]at hU⊢;obtain⟨rt,rx,ry⟩:=root;dsimp only at hB⊢;have HB:=Ah hB;have HU:=Ah hU;have HI:=Ah hinv;have H:=((Bx.start w).new #[Aa Ab a,Aa Ab b,Ad A n cc] 28 rfl).new #[Aa Ac rt,Aa Ab rx,Aa Ab ry] 30 (N:=w.heap.size+1) Cn;clear hp hn h hl hQ hT hF ht hB hU hUU hinv;go_enter Tryz.func10,Tryz.ntmps10;go_upto_region 1 with fail;obtain⟨W,hW⟩:=ez ((w.alloc (.cells #[Aa Ab a,Aa Ab b,Ad A n cc] 28)).alloc (.cells #[Aa Ac rt,Aa Ab rx,Aa Ab ry] 30));rw[←hW]at H⊢;clear hW;obtain⟨N,hN⟩:=ez w.heap.size;rw[←hN]at H⊢;have HNN:=Ah hN;clear hN;obtain⟨R,hR⟩:=ez (N+1);rw[←hR]at H⊢;clear hR;obtain⟨⟨a0,a1,a2⟩,_⟩:=Cv (H.blk 0 _ _ _ rfl);obtain⟨⟨b0,b1,b2⟩,_⟩:=Cv (H.blk 1 _ _ _ rfl);go_wp2_with fail;refine(HB.out _ H.below).mono ?_;rintro e w2 ⟨hb,hret⟩;have hlo:=H.below.size;clear a0 a1 a2 b0 b1 b2 HB;dsimp only at hret;rcases hret with⟨h0,rfl⟩|⟨rfl,g,hh,rfl,hg,hgh,hne,hb1,hb2⟩
 ·have hUe:=HU.out;rw[if_pos h0]at hUe;subst hUe;have H2:=H.call hb;clear HU HI hb H;go_wp2_with fail;refine Ai (v:= .tuple #[Ad Ae 0 0,Aa Ab er]) (by simp[results,Tryz.results10,go_sem]) rfl ?_;exact⟨H2.below,.inl ⟨h0,rfl⟩⟩
 ·have hUe:=HU.out;rw[if_neg Cn]at hUe;subst hUe;obtain⟨i1,_,i3,_⟩:=HI.out rfl;obtain⟨k,hk⟩:=ey ms.length;have hk3:k≤1024:=Ci;have mk1:=λW=>Rl k hk3 W;have HK:=Ah hk;have HI3:=Ah i3;have H2:=H.add hb hg hb1;have HG:Hid (w.heap.size≤w2.heap.size):=Ah (Br hlo hb.size);rw[hk];clear HU HI hb H i1 i3 hk hb1 hb2 hg hgh hne hlo;go_upto_region 5 with fail;obtain⟨gi,hgi⟩:=ey w2.heap.size;have H6:=H2.new (De (Ba k false)).toArray 4 hgi;obtain⟨W6,hW6⟩:=ez (w2.alloc (.cells (De (Ba k false)).toArray 4));rw[←hW6]at H6⊢;clear hW6;rw[hgi]
  have H7:Bx w (upL a b A n cc ⟨rt,rx,ry⟩ N R g gi ms (Ku ms 0)) W6:=by
   have e2:Ku ms 0=Ba k false:=by simp[Ku,HK.out]
   rw[e2];exact H6
  have HS:=Ah H7;have HGI:Hid (w.heap.size≤gi):=Ah (hgi▸HG.out);clear hgi H2 H6 H7 mk1 HG;go_wp2
  go_loopw [27] (λi wr=>∃j:Nat,j≤k∧i= Aa Ab j∧Bx w (upL a b A n cc ⟨rt,rx,ry⟩ N R g gi ms (Ku ms j)) wr) (λi _=>k-(intOf i).toNat)
  case atStart=>exact⟨0,Nat.zero_le _,rfl,HS.out⟩
  case round=>
   obtain⟨j,hj,rfl,Hr⟩:=hrel;by_cases hlt:j<k
   ·have hjm:j<ms.length:=by have:=HK.out;omega
    obtain⟨o0,o1,o2⟩:=Rn (Hr.range 2 rfl) j hjm;have hps:=uL ms j hjm;have hmt:=(Mv.ok_iff.1 (HI3.out ms[j] (Ay _))).1;obtain⟨m,hm⟩:=ey (ms[j]);rw[hm]at o0 o1 o2 hps hmt;obtain⟨mt,mx,my⟩:=m;obtain⟨fb,hfb⟩:=ey (Hy ⟨mt,mx,my⟩);have hfl:=λw'=>sL ⟨mt,mx,my⟩ w' (by dsimp only at hmt⊢;omega);rw[hfb]at hps hfl;dsimp only at o0 o1 o2 hmt hfl;have HPS:=Ah hps;have HFL:=Ah hfl;have HR:=Ah Hr;have q1:(j:Int)<(k:Int):=Ci;clear hps hm Hr hfb hfl hmt;go_upto_region 8 with fail;obtain⟨P,hP⟩:=ey wr.heap.size;have H1:=HR.out.new #[Aa Ac mt,Aa Ab mx,Aa Ab my] 30 hP;obtain⟨W1,hW1⟩:=ez (wr.alloc (.cells #[Aa Ac mt,Aa Ab mx,Aa Ab my] 30));rw[←hW1]at H1⊢;clear hW1;rw[hP];clear hP HR o0 o1 o2;obtain⟨⟨a0,a1,a2⟩,_⟩:=Cv (H1.blk 4 _ _ _ rfl);go_wp2_with fail;refine(HFL.out _).mono ?_;rintro e w3 ⟨rfl,hb3⟩;have H3:=H1.call hb3;clear a0 a1 a2 H1 hb3;have hju:j<(Ku ms j).length:=by rw[uK _ _ (Bu hjm)];exact hjm
    have th:=H3.there 3 rfl;simp only[List.size_toArray]at th;obtain⟨z0,z1⟩:=th j (by simp[De];exact hju);simp only[Bt]at z0 z1
    have z2:w3.cell? ⟨gi,j,Ae⟩=Af (.bool (Ku ms j)[j]):=by
     have:=(H3.range 3 rfl) j (.bool (Ku ms j)[j]) (by simp[De,hju]);simpa using this
    have H4:=(H3.set 3 j rfl (.bool (!fb))).upto 4;rw[kM,HPS.out]at H4;have HH4:Hid (Bx w (upL a b A n cc ⟨rt,rx,ry⟩ N R g gi ms (Ku ms (j+1))) (w3.setCell ⟨gi,j,Ae⟩ (.bool (!fb)))):=Ah H4;clear H3 H4 th;go_wp2;exact⟨⟨j+1,Ci,by go_num,HH4.out⟩,by simp[intOf];omega⟩
   ·obtain rfl:j=k:=Ci;have q1:¬(j:Int)<(j:Int):=Ci;have HR:=Ah Hr;clear Hr;go_wp2_with fail;refine Ai (v:= .tuple #[Ad (Af ⟨gi,0,Ae⟩) j j,Aa Ab 0]) (by simp[results,Tryz.results10,go_sem]) rfl ?_
    have e1:Ku ms j=ms.map λm=> !Hy m:=by
     unfold Ku;rw[HK.out,Nat.sub_self,←HK.out];simp
    have hblk:=HR.out.blk 3 _ _ _ rfl;rw[e1]at hblk;exact⟨HR.out.below,.inr ⟨rfl,gi,by rw[HK.out],HGI.out,hblk⟩⟩
end Go.Proofs.YthpcfeifmdbhnaaGreatDoor
