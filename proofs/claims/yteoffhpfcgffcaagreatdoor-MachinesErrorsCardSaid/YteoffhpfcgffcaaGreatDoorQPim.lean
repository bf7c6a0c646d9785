import Derived.Test.YteoffhpfcgffcaaGreatDoorQRsC
import Derived.Test.YteoffhpfcgffcaaGreatDoorQBad
import Derived.Test.YteoffhpfcgffcaaGreatDoorQCrd
import Derived.Test.YteoffhpfcgffcaaGreatDoorQStk
import Derived.Test.YteoffhpfcgffcaaGreatDoorQSog
import Derived.Deep.RegionHeld3
open Array renaming getElem?_eq_some_iff→Aq
open Go renaming Calls→Ai,Value→Ah,World→Ag,bodyPost_ret→Af,cell_of_row→Bs,heap_alloc_new→Bt,wpAnyH_done→Ak,wp_region_held_drew→Al
open Go.IntKind renaming i64→Ab,u8→Ac
open Go.Lib renaming hid→Ae,wpList_append_run→Ap
open Go.Value renaming int→Aa,slice→Ad
open List renaming flatMap_cons→Ba,getElem?_eq_getElem→Ar,getElem?_eq_some_iff→As,getElem_cons_succ→Bz,getElem_cons_zero→By,getElem_mem→Au,getElem_toArray→Ca,length_append→Be,length_map→Bk,length_take→Bj,mem_append→Bi,mem_cons→Bh,mem_iff_getElem→Ay,replicate→Aw,setIfInBounds_toArray→Cd,set_cons_succ→Cc,set_cons_zero→Cb,take_of_length_le→Bc,take_succ_eq_append_getElem→Ax
open Nat renaming le_of_lt→Bq,le_refl→Aj,le_trans→Bo,lt_of_lt_of_le→Bm,zero_add→Bp
set_option maxHeartbeats 8000000
set_option maxRecDepth 100000
namespace Go.Proofs.YteoffhpfcgffcaaGreatDoor
open Go.RowKit
def dA (o:Option (List Stk)) (w:Ag) (e:Ending) (w':Ag):Prop:=
 Below w.heap.size w w'∧((o=none∧e= .returned (.tuple #[Ad none 0 0,Aa Ab 3]))∨
  ∃l A c zl,o=some l∧e= .returned (.tuple #[Ad A l.length c,Aa Ab 0])∧Cv w.heap.size w' (Ad A l.length c) zl∧zl.map (·.1)=l)
def mvK (m:Mv) (x:Stk):Stk:=⟨(Gh m x.c).1,x.ls⟩
theorem rU (m:Mv) (l:List Stk) (k:Nat) (h:k<l.length):(l.take (k+1)).map (mvK m)=(l.take k).map (mvK m)++[mvK m l[k]]:=by
 rw[Ax h,List.map_append];rfl
theorem aN {m:Mv} {c:Cl} (h:(Gh m c).2=0):(Gh m c).1.ok=true:=by
 unfold Gh at h⊢
 split
 ·assumption
 ·rename_i g;rw[if_neg g]at h
  cases h
def Aj2 (x:SkR) (h:x.1.c.ok=true):Rs.Sr:=by
 have h1:=Er.1 h;exact⟨x.1.c.x,x.1.c.y,x.1.c.q,x.2.1,x.1.ls.length,x.2.2,x.1.ls,⟨h1.1,h1.2.1⟩,⟨h1.2.2.1,h1.2.2.2.1⟩,by omega⟩
def Sx (r:Rs.Sr):SkR:=(⟨⟨r.x,r.y,r.q⟩,r.ls⟩,(r.A,r.c))
theorem mU (x:SkR) (h:x.1.c.ok=true):Sx (Aj2 x h)=x:=rfl
theorem jQ:∀(zl:List SkR),(∀x∈zl,x.1.c.ok=true)→∃D:List Rs.Sr,D.map Sx=zl∧Rs.recs D=zl.flatMap Ds∧∀r∈D,r.n=r.ls.length
 |[],_=>⟨[],rfl,rfl,by simp⟩
 |x::r,h=>by
  obtain⟨D,h1,h2,h3⟩:=jQ r fun y hy=>h y (by simp[hy]);refine⟨Aj2 x (h x (by simp))::D,by rw[List.map_cons,h1,mU],?_,?_⟩
  ·unfold Rs.recs at h2⊢;rw[Ba,Ba,h2];rfl
  ·intro y hy;rcases Bh.1 hy with rfl|hy
   ·rfl
   ·exact h3 y hy
theorem mS {D:List Rs.Sr} (h:∀r∈D,r.n=r.ls.length):Rs.recs D=(D.map Sx).flatMap Ds:=by
 induction D with
 |nil=>rfl
 |cons x r ih=>
  have e:Rs.Sr.cells x=Ds (Sx x):=by
   unfold Rs.Sr.cells Ds Sx;dsimp only;rw[h x (by simp)]
  unfold Rs.recs at ih⊢;rw[Ba,List.map_cons,Ba,ih fun y hy=>h y (by simp[hy]),e]
theorem tM (D:List Rs.Sr):(Rs.srt Rs.Sr.t D).Perm D:=by
 induction D with
 |nil=>exact .refl _
 |cons x r ih=>
  show(Rs.mrg Rs.Sr.t [x] (Rs.srt Rs.Sr.t r)).Perm (x::r);unfold Rs.mrg;exact(List.merge_perm_append _).trans (ih.cons x)
theorem Cv.base {O O':Nat} {w:Ag} {v:Ah} {l:List SkR} (h:Cv O w v l) (hO:O'≤O):Cv O' w v l:=⟨Dr h.1 hO,fun x hx=>(h.2.1 x hx).base hO,h.2.2⟩
theorem fB {m:Mv} {l:List Stk} (h:∀x∈l,(Gh m x.c).2=0):Lr m l=some (Ih (l.map (mvK m))):=by
 unfold Lr;rw[if_pos (by rw[List.all_eq_true];intro x hx;simp[h x hx])];rfl
theorem fA {m:Mv} {l:List Stk} {x:Stk} (hx:x∈l) (h:(Gh m x.c).2≠0):Lr m l=none:=by
 unfold Lr;rw[if_neg];intro hh;rw[List.all_eq_true]at hh;have:=hh x hx;simp at this;exact h this
theorem fC (A:Option Addr) (l:List Stk) (n cc:Nat) (m:Mv) (w:Ag) (hn:n=l.length) (h:Cs w A l) (hl:n≤100000) (hls:∀x∈l,x.ls.length≤100000) (hm:m.ok=true) (hc:∀x∈l,x.c.ok=true) (ht:m.t≤255) (hQ:Qf w) (hT:Tn w):
  Ai Tryz.prog 53 #[Ad A n cc,.agg #[Aa Ac m.t,Aa Ab m.x,Aa Ab m.y]] w (dA (Lr m l) w):=by
 have HSK:=Ae (fun(w':Ag) (hb:Below w.heap.size w w')=>h.below hb);have HBA:=Ae (fun(w':Ag) (hb:Below w.heap.size w w')=>jX A l n cc w' hn (h.below hb) (by omega))
 have hbad:(l.any fun x=> !x.c.ok)=false:=by
  rw[List.any_eq_false];intro x hx;simp[hc x hx]
 rw[hbad]at HBA;have HN:=Ae hn;have HLS:=Ae hls;have HMV:=Ae (fun(c:Cl) (hcc:c.ok=true) (w':Ag) (hb:Below w.heap.size w w')=>Ms Yd m c w' hm hcc (hQ.below hb) (hT.below hb));have HOK:=Ae hc;have HS:=Ae (fun(h:∀x∈l,(Gh m x.c).2=0)=>fB h);have HNO:=Ae (fun(x:Stk) (hx:x∈l) (h:(Gh m x.c).2≠0)=>fA hx h);have hmc:=fun w'=>Eg m.t m.x m.y w' ⟨by omega,by omega⟩;have hm1:okM m.t m.x m.y=true:=hm;simp only[hm1,Fo]at hmc;have HMC:=Ae hmc;obtain⟨o,ho⟩:=ey (Lr m l);rw[ho]at HS HNO⊢;have HSN:=Ae (fun k hk=>rU m l k hk);obtain⟨MK,hMK⟩:=ey (mvK m);have HMK:=Ae (fun x:Stk=>show MK x=⟨(Gh m x.c).1,x.ls⟩by rw[←hMK];rfl);rw[hMK]at HS HSN;obtain⟨MC,hMC⟩:=ey (Gh m);have HMO:=Ae (fun(c:Cl) (hh:(MC c).2=0)=>show(MC c).1.ok=true by subst hMC;exact aN hh);rw[hMC]at HMV HS HNO HMK;obtain⟨mt,mx,my⟩:=m;dsimp only at HMV HMC⊢;have H:=(Bx.start w).new #[Aa Ac mt,Aa Ab mx,Aa Ab my] 40 rfl;clear hn h hls hm hc ht hQ hT hbad hmc hm1 ho hMK hMC;go_enter Tryz.func53,Tryz.ntmps53;go_upto_region 1 with fail;obtain⟨N,hN⟩:=ez w.heap.size;rw[←hN]at H⊢;have HNN:=Ae hN;clear hN;obtain⟨W0,hW0⟩:=ez (w.alloc (.cells #[Aa Ac mt,Aa Ab mx,Aa Ab my] 40));rw[←hW0]at H⊢;clear hW0;obtain⟨⟨a0,a1,a2⟩,-⟩:=Ci (H.blk 0 _ _ _ rfl);go_wp2_with fail;refine(HMC.out _).mono ?_;rintro ee w1 ⟨rfl,hb⟩;have H1:=H.call hb;clear a0 a1 a2 hb H HMC;go_wp2_with fail;refine(HBA.out _ H1.below).mono ?_;rintro ee w2 ⟨rfl,hb⟩;have H2:=H1.call hb;clear hb H1 HBA;obtain⟨GO,hGO⟩:=ey w2.heap.size;have hmk:=Rn n hl w2;have hO0:=Cv.made w2 n hl;have H3:=H2.other (.cells ((Aw n skZ).flatMap Ds).toArray 125);have hGw:w.heap.size≤GO:=by have:=H2.below.size;omega
 have hNG:N<GO:=by have:=H2.lt 0 rfl;omega
 rw[hGO]at hmk hO0;go_upto_region 4 with fail
 try rw[hGO]
 obtain⟨W4,hW4⟩:=ez (w2.alloc (.cells ((Aw n skZ).flatMap Ds).toArray 125));rw[←hW4]at H3 hO0⊢;clear hW4;have hN3:=H3.blk 0 _ _ _ rfl;have HI0:Hid (∃zl:List SkR,zl.map (·.1)=(l.take 0).map MK∧(∀j (hj:j<l.length),j<0→(MC l[j].c).2=0)∧Cv GO W4 (Ad (some ⟨GO,0,none⟩) n n) (zl++Aw (n-0) skZ)):=Ae ⟨[],rfl,fun j _ hj=>absurd hj (by omega),hO0⟩;have HJ0:Hid (Below w.heap.size w W4∧W4.heap[N]? =some (Obj.cells #[Aa Ac mt,Aa Ab mx,Aa Ab my] 40 (0,0))∧GO≤W4.heap.size):=Ae ⟨H3.below,hN3,by have:=(hO0.1.lt GO rfl).2;omega⟩;have HGW:=Ae hGw;have HNG:=Ae hNG;clear hmk hGO hO0 H2 H3 hN3 hGw hNG;go_wp2_with fail
 go_loopw [23] (fun s23 wr=>∃k:Nat,k≤n∧s23= Aa Ab k∧Hid (∃zl:List SkR,zl.map (·.1)=(l.take k).map MK∧(∀j (hj:j<l.length),j<k→(MC l[j].c).2=0)∧Cv GO wr (Ad (some ⟨GO,0,none⟩) n n) (zl++Aw (n-k) skZ))∧Hid (Below w.heap.size w wr∧wr.heap[N]? =some (Obj.cells #[Aa Ac mt,Aa Ab mx,Aa Ab my] 40 (0,0))∧GO≤wr.heap.size)) (fun s23 _=>n-(intOf s23).toNat)
 case atStart=>exact⟨0,by omega,rfl,HI0,HJ0⟩
 case round=>
  obtain⟨k,hk,rfl,HZ,HJ⟩:=hrel;clear HI0 HJ0;by_cases hlt:k<n
  ·have hkl:k<l.length:=by have:=HN.out;omega
   have q0:(k:Int)<(n:Int):=by omega
   obtain⟨bb,o',A',c',hAA,hbl,⟨d0,d1,d2,d3⟩,hA',hle,hcm,hrd⟩:=(HSK.out _ HJ.out.1).get k hkl;have hmem:=Au hkl;have hlk:=HLS.out l[k] hmem;have hsn:=HSN.out k hkl;have hmk1:=HMK.out l[k];have hno:=HNO.out l[k] hmem;have hmv:=HMV.out l[k].c (HOK.out l[k] hmem)
   have hnx:=fun(h0:(MC l[k].c).2=0) (j:Nat) (hj:j<l.length) (hjk:j<k+1)=>show(MC l[j].c).2=0 by
    by_cases hjj:j=k
    ·subst hjj;exact h0
    ·obtain⟨zl,-,hz,-⟩:=HZ.out;exact hz j hj (by omega)
   obtain⟨⟨⟨x0,x1,x2⟩,ids⟩,hx⟩:∃z,l[k]=z:=⟨_,rfl⟩;simp only[hx]at d0 d1 d2 d3 hlk hrd hA' hle hsn hmk1 hno hmv hnx;obtain⟨⟨⟨y0,y1,y2⟩,e9⟩,hmc⟩:∃z,MC (⟨x0,x1,x2⟩:Cl)=z:=⟨_,rfl⟩;rw[hmc]at hmk1 hno hmv hnx;unfold clR at hmv;dsimp only at hmk1 hno hmv hnx;obtain⟨m,hm⟩:=ey ids.length;rw[hm]at d3 hlk hrd hA' hle;have HMD:=Ae hm;have HSN2:=Ae (show(l.take (k+1)).map MK=(l.take k).map MK++[⟨⟨y0,y1,y2⟩,ids⟩]by rw[hsn,hmk1]);have HNO2:=Ae hno;have HMV2:=Ae hmv;have HNX:=Ae hnx;have HCP:=Ae (fun(w':Ag) (hb:Below wr.heap.size wr w')=>Kd ⟨y0,y1,y2⟩ A' ids m c' w' hm.symm hA' (hrd.below hb) (by omega));have H:=(Bx.start wr).new #[Aa Ab x0,Aa Ab x1,Aa Ac x2,Ad A' m c'] 125 rfl;have hNl:=(Aq.1 HJ.out.2.1).1;subst hAA;clear hsn hmk1 hno hmv hnx hrd hA' hle hx hm hmc hmem;obtain⟨C,hC⟩:=ey wr.heap.size;go_upto_region 7 with fail;rw[hC]at H
   try rw[hC]
   obtain⟨W5,hW5⟩:=ez (wr.alloc (.cells #[Aa Ab x0,Aa Ab x1,Aa Ac x2,Ad A' m c'] 125));rw[←hW5]at H⊢;clear hW5;clear d0 d1 d2 d3;obtain⟨⟨e0,e1,e2,e3⟩,-⟩:=Co (H.blk 0 _ _ _ rfl);obtain⟨⟨a0,a1,a2⟩,-⟩:=Ci ((H.below.block N hNl).trans HJ.out.2.1);have hwr:=HJ.out.1.size;go_wp2_with fail;refine(HMV2.out _ (HJ.out.1.trans (H.below.mono hwr))).mono ?_;rintro ee w6 ⟨rfl,hb⟩;have H6:=H.call hb;clear e0 e1 e2 e3 a0 a1 a2 hb H HMV2;obtain⟨D,hD⟩:=ey w6.heap.size;have H7:=H6.new #[Aa Ab y0,Aa Ab y1,Aa Ac y2] 123 hD;by_cases he:e9=0
   ·subst he;have HNX2:=Ae (HNX.out rfl);clear HNX HNO2;go_upto_region 10 with fail
    try rw[hD]
    obtain⟨W7,hW7⟩:=ez (w6.alloc (.cells #[Aa Ab y0,Aa Ab y1,Aa Ac y2] 123));rw[←hW7]at H7⊢;clear hW7;clear hD H6;obtain⟨⟨e0,e1,e2,e3⟩,-⟩:=Co (H7.blk 0 _ _ _ rfl);obtain⟨⟨a0,a1,a2⟩,-⟩:=Ci (H7.blk 1 _ _ _ rfl);have hC7:=H7.lt 0 rfl;go_wp2_with fail;refine(HCP.out _ H7.below).mono ?_;rintro ee w8 ⟨A9,rfl,hA9,hrow9,hb9⟩;dsimp only;obtain⟨zl,hz1,-,hz2⟩:=HZ.out
    have hzl:zl.length=k:=by
     have:=congrArg List.length hz1;simp at this;omega
    have hb69:=H7.below.trans (hb9.mono H7.below.size);have hbase:=H7.below.size;have hx9:Gx wr.heap.size w8 (⟨⟨y0,y1,y2⟩,ids⟩,(A9,ids.length)):=⟨hA9,Aj _,by show ids.length≤maxLen;have:=HMD.out;unfold maxLen;omega,hrow9.base hbase⟩;obtain⟨ucell,ufree,hset⟩:=Qr hz2 (i:=k) (by simp[hzl];omega) hb69 hx9 HJ.out.2.2
    have hLset:(zl++Aw (n-k) skZ).set k (⟨⟨y0,y1,y2⟩,ids⟩,(A9,ids.length))=(zl++[(⟨⟨y0,y1,y2⟩,ids⟩,(A9,ids.length))])++Aw (n-(k+1)) skZ:=by
     rw[List.set_append_right _ _ (by omega),hzl,Nat.sub_self];rw[show n-k=(n-(k+1))+1 by omega,List.replicate_succ,Cb];simp
    rw[hLset]at hset;rw[HMD.out]at hset⊢;dsimp only at hset;obtain⟨v0,g0⟩:=ucell 0 (by omega);obtain⟨v1,g1⟩:=ucell 1 (by omega);obtain⟨v2,g2⟩:=ucell 2 (by omega);obtain⟨v3,g3⟩:=ucell 3 (by omega);rw[Nat.add_zero]at g0;have z0:=ufree (k*4);have z1:=ufree (k*4+1);have z2:=ufree (k*4+2);have z3:=ufree (k*4+3);have hne:N≠GO:=by have:=HNG.out;omega
    have hsto:∀(X:Ag) (f:Nat) (u:Ah),(X.setCell ⟨GO,f,none⟩ u).heap[N]? =X.heap[N]? :=fun X f u=>Below.heap_setCell X ⟨GO,f,none⟩ u N (by show N≠GO;exact hne)
    have hJ2:Hid (Below w.heap.size w ((((w8.setCell ⟨GO,k*4,none⟩ (Aa Ab y0)).setCell ⟨GO,k*4+1,none⟩ (Aa Ab y1)).setCell ⟨GO,k*4+2,none⟩ (Aa Ac y2)).setCell ⟨GO,k*4+3,none⟩ (Ad A9 m m))∧((((w8.setCell ⟨GO,k*4,none⟩ (Aa Ab y0)).setCell ⟨GO,k*4+1,none⟩ (Aa Ab y1)).setCell ⟨GO,k*4+2,none⟩ (Aa Ac y2)).setCell ⟨GO,k*4+3,none⟩ (Ad A9 m m)).heap[N]? =some (Obj.cells #[Aa Ac mt,Aa Ab mx,Aa Ab my] 40 (0,0))∧GO≤((((w8.setCell ⟨GO,k*4,none⟩ (Aa Ab y0)).setCell ⟨GO,k*4+1,none⟩ (Aa Ab y1)).setCell ⟨GO,k*4+2,none⟩ (Aa Ac y2)).setCell ⟨GO,k*4+3,none⟩ (Ad A9 m m)).heap.size):=Ae (by
     have hb6:=HJ.out.1.trans (hb69.mono hwr);have hgo:=HGW.out;refine⟨(((hb6.setCell (p:=⟨GO,k*4,none⟩) hgo _).setCell (p:=⟨GO,k*4+1,none⟩) hgo _).setCell (p:=⟨GO,k*4+2,none⟩) hgo _).setCell (p:=⟨GO,k*4+3,none⟩) hgo _,?_,?_⟩
     ·rw[hsto,hsto,hsto,hsto];exact(hb69.block N hNl).trans HJ.out.2.1
     ·have:=HJ.out.2.2;have:=hb69.size;simp;omega)
    have hZ2:Hid (∃zl:List SkR,zl.map (·.1)=(l.take (k+1)).map MK∧(∀j (hj:j<l.length),j<k+1→(MC l[j].c).2=0)∧Cv GO ((((w8.setCell ⟨GO,k*4,none⟩ (Aa Ab y0)).setCell ⟨GO,k*4+1,none⟩ (Aa Ab y1)).setCell ⟨GO,k*4+2,none⟩ (Aa Ac y2)).setCell ⟨GO,k*4+3,none⟩ (Ad A9 m m)) (Ad (some ⟨GO,0,none⟩) n n) (zl++Aw (n-(k+1)) skZ)):=Ae ⟨_,by rw[List.map_append,hz1,HSN2.out];rfl,HNX2.out,hset⟩;clear ucell ufree hLset hx9 hz1 hz2 hzl hb69 hbase hb9 hrow9 hA9 e0 e1 e2 e3 a0 a1 a2 HZ HJ HCP hset hsto H7;go_wp2_with fail;exact⟨⟨k+1,by omega,by go_num,hZ2,hJ2⟩,by simp[intOf];omega⟩
   ·have q1:(e9 != 0)=true:=by simpa using he
    have hoo:=HNO2.out he;have HFIN:Hid (∀w',Below w.heap.size w w'→dA o w (.returned (.tuple #[Ad none 0 0,Aa Ab 3])) w'):=Ae fun w' hb=>⟨hb,.inl ⟨hoo,rfl⟩⟩;have HBB:=Ae (HJ.out.1.trans (H7.below.mono hwr));clear hoo;go_wp2_with fail;refine Af (v:= .tuple #[Ad none 0 0,Aa Ab 3]) (by simp[results,Tryz.results53,go_sem]) rfl ?_;exact HFIN.out _ HBB.out
  ·obtain rfl:k=n:=by omega
   have q0:¬(k:Int)<(k:Int):=by omega
   obtain⟨zl,hz1,hz2,hz3⟩:=HZ.out;have ht:l.take k=l:=Bc (by have:=HN.out;omega);rw[ht]at hz1;rw[Nat.sub_self,List.replicate_zero,List.append_nil]at hz3
   have hall:∀x∈l,(MC x.c).2=0:=fun x hx=>by
    obtain⟨j,hj,rfl⟩:=Ay.1 hx;exact hz2 j hj (by have:=HN.out;omega)
   have hzk:∀x∈zl,x.1.c.ok=true:=fun x hx=>by
    have:x.1∈l.map MK:=hz1▸List.mem_map.2 ⟨x,hx,rfl⟩;obtain⟨y,hy,hyx⟩:=List.mem_map.1 this;rw[←hyx,HMK.out];exact HMO.out _ (hall y hy)
   obtain⟨D,hD1,hD2,hD3⟩:=jQ zl hzk;have hso:=HS.out hall
   have hzl:zl.length=k:=by
    have:=congrArg List.length hz1;simp at this;have:=HN.out;omega
   have hDl:D.length=k:=by rw[←hzl,←hD1,Bk]
   have hown:=hz3.1;rw[hzl,←hD2]at hown;have HST:=Ae (Rs.stable_any GO GO k k k D wr hDl.symm (by omega) hown)
   have HFIN:Hid (∀w9,w9.ownsRow GO 125 4 (Ad (some ⟨GO,0,none⟩) k k) k (Rs.recs (Rs.srt Rs.Sr.t D))→wr.grownBy w9 (some GO)→dA o w (.returned (.tuple #[Ad (some ⟨GO,0,none⟩) k k,Aa Ab 0])) w9):=Ae (by
    intro w9 ho9 hg9;have hpe:=tM D;have hmp:((Rs.srt Rs.Sr.t D).map Sx).Perm zl:=hD1▸hpe.map Sx;have hln:((Rs.srt Rs.Sr.t D).map Sx).length=k:=by rw[hmp.length_eq,hzl]
    have hsl:((Rs.srt Rs.Sr.t D).map Sx).map (·.1)=Ih (l.map MK):=by
     have e:=Rs.sortC_srt (fun r=>(Sx r).1) (fun r=>rfl) D;have e2:D.map (fun r=>(Sx r).1)=l.map MK:=by rw[←hz1,←hD1,List.map_map];rfl
     rw[e2]at e;rw[e,List.map_map];rfl
    have hrl:(Ih (l.map MK)).length=k:=by rw[←hsl,Bk,hln]
    have hout:=(hz3.perm (w':=w9) hmp (by rw[hln,←mS (fun r hr=>hD3 r (hpe.mem_iff.1 hr))];exact ho9) hg9).base HGW.out;exact⟨HJ.out.1.grown hg9 HJ.out.1.size (fun x hx=>by injection hx with hx;have:=HGW.out;omega),.inr ⟨Ih (l.map MK),some ⟨GO,0,none⟩,k,(Rs.srt Rs.Sr.t D).map Sx,hso,by rw[hrl],by rw[hrl];exact hout,hsl⟩⟩)
   clear hz1 hz2 hz3 ht hall hzk hD1 hD2 hD3 hso hzl hDl hown HZ HJ;go_wp2_with fail;refine HST.out.mono ?_;rintro ee w9 ⟨rfl,ho9,hg9⟩;have HF9:=Ae (HFIN.out w9 ho9 hg9);clear ho9 hg9 HFIN HST;go_wp2_with fail;refine Af (v:= .tuple #[Ad (some ⟨GO,0,none⟩) k k,Aa Ab 0]) (by simp[results,Tryz.results53,go_sem]) rfl ?_;exact HF9.out
theorem lH (F:FuncId) (hen:∀(args:Array Ah) (w:Ag),(callFunc F args).run Tryz.prog w= .ok (.enter F args) w) (caps:Array Ah) (p:Nat→Bool) (A:Option Addr) (l:List Nat) (n c:Nat) (w:Ag) (hn:n=l.length) (h:Rd w A 1 n (Cz l)) (hl:n≤1000000)
  (hf:∀(i:Nat) (w':Ag),i∈l→Below w.heap.size w w'→Ai Tryz.prog F (#[Aa Ab (i:Int)]++caps) w' (Cg (.bool (p i)) w')):
  Ai Tryz.prog 240 #[Ad A n c,.func (.func F) #[] caps] w fun e w'=>(∃r:Int,e= .returned (Aa Ab r)∧((l.any p)=decide (0≤r)))∧Below w.heap.size w w':=by
 have HRD:=Ae h;have HN:=Ae hn;have HFX:=Ae hf;clear h hn hf;go_enter Tryz.func240,Tryz.ntmps240;go_wp2_with fail
 go_loopw [5,8] (fun _ i wr=>∃k:Nat,k≤n∧i= Aa Ab k∧Below w.heap.size w wr∧Hid (∀j (hj:j<l.length),j<k→p l[j]=false)) (fun _ i _=>n-(intOf i).toNat)
 case atStart=>exact⟨0,by omega,rfl,Below.refl _ _,Ae fun j _ hj=>absurd hj (by omega)⟩
 case round=>
  obtain⟨k,hk,rfl,hb,HK⟩:=hrel;by_cases hlt:k<n
  ·have hkl:k<l.length:=by have:=HN.out;omega
   obtain⟨bb,o,rfl,hbl,c0⟩:=Km (HRD.out.below hb) k hkl;have q1:(k:Int)<(n:Int):=by omega
   have hmem:=Au hkl;obtain⟨r,hr⟩:=ey (l[k]);have HRR:=Ae hr;rw[hr]at c0 hmem;have hC:=HFX.out r wr hmem hb;obtain⟨ar,har⟩:=ey (#[Value.int .i64 (r:Int)]++caps);rw[har]at hC;have HC:=Ae hC;clear hr hmem hC;go_wp2_with fail;refine HC.out.mono ?_;rintro e w2 ⟨rfl,hb2⟩;have hb3:=hb.trans (hb2.mono hb.size)
   cases he:p r
   ·have HKN:=Ae (fun j (hj:j<l.length) (h:j<k+1)=>show p l[j]=false by
     by_cases hjk:j=k
     ·subst hjk;rw[HRR.out];exact he
     ·exact HK.out j hj (by omega))
    go_wp2_with fail;exact⟨⟨k+1,by omega,by go_num,hb3,HKN⟩,by simp[intOf];omega⟩
   ·have HA:Hid ((l.any p)=true):=Ae (by rw[List.any_eq_true];exact⟨l[k],Au _,by rw[HRR.out];exact he⟩);go_wp2_with fail;go_ret;exact⟨⟨k,rfl,by rw[HA.out];simp⟩,hb3⟩
  ·have q1:¬(k:Int)<(n:Int):=by omega
   have HA:Hid ((l.any p)=false):=Ae (by
    rw[List.any_eq_false];intro x hx;obtain⟨j,hj,rfl⟩:=Ay.1 hx;simpa using HK.out j hj (by have:=HN.out;omega))
   go_wp2_with fail;go_ret;exact⟨⟨-1,rfl,by rw[HA.out];rfl⟩,hb⟩
theorem kK (F:FuncId) (hen:∀(args:Array Ah) (w:Ag),(callFunc F args).run Tryz.prog w= .ok (.enter F args) w) (caps:Array Ah) (p:Nat→Bool) (A:Option Addr) (l:List Nat) (n c:Nat) (w:Ag) (hn:n=l.length) (h:Rd w A 1 n (Cz l)) (hl:n≤1000000)
  (hf:∀(i:Nat) (w':Ag),i∈l→Below w.heap.size w w'→Ai Tryz.prog F (#[Aa Ab (i:Int)]++caps) w' (Cg (.bool (p i)) w')):
  Ai Tryz.prog 171 #[Ad A n c,.func (.func F) #[] caps] w (Cg (.bool (l.any p)) w):=by
 have HC:=Ae (lH F hen caps p A l n c w hn h hl hf);obtain⟨R,hR⟩:=ey (l.any p);rw[hR]at HC⊢;clear hn h hR hl hf hen;go_enter Tryz.func171,Tryz.ntmps171;go_wp2_with fail;refine HC.out.mono ?_;rintro e w2 ⟨⟨r,rfl,hr⟩,hb⟩;go_wp2_with fail;go_ret;exact⟨by rw[hr];rfl,hb⟩
theorem kI {w:Ag} {g o:Nat} {cw:Array Ah} {t:TypeId} {v:Ah} (h:w.heap[g]? =some (Obj.cells cw t (0,0))) (hc:w.cell? ⟨g,o,none⟩=some v):cw[o]? =some v:=by
 rw[Bs w g o cw t (0,0) h]at hc;exact hc
def bM (a b:Int) (A:Option Addr) (n cc k M N N4 N5 go gk:Nat) (s:RS):List (Nat×Array Ah×TypeId):=
 [(N,#[Aa Ab a,Aa Ab b,Ad A n cc],38),(N4,#[.map (some M)],345),(go,(Hu s.out).toArray,40),(N5,#[Ad (some ⟨go,0,none⟩) k k],171),(gk,(Cx s.known).toArray,4)]
structure Jl (w:Ag) (a b:Int) (l:List Cr) (A:Option Addr) (n cc k M N N4 N5 go gk:Nat) (v:Ah) (wr:Ag) (s:RS):Prop where
 bx:Bx w (bM a b A n cc k M N N4 N5 go gk s) wr
 mp:Fa unK wr M (crM l)
 q:QAt wr w.heap.size [N,N4,N5,go,gk] v s.wait
 ok:Af7 k s
theorem QAt.len {w:Ag} {base:Nat} {av:List Nat} {v:Ah} {l:List Nat} (h:QAt w base av v l):Aa8 v=l.length:=by
 obtain⟨g,o,c,cw,rfl,_⟩:=h;rfl
theorem Jl.mm {w wr:Ag} {a b:Int} {l:List Cr} {A:Option Addr} {n cc k M N N4 N5 go gk:Nat} {v:Ah} {s:RS} (h:Jl w a b l A n cc k M N N4 N5 go gk v wr s):Xu wr gk+Aa8 v=s.mm:=by
 rw[kQ (h.bx.blk 4 _ _ _ rfl),h.q.len];rfl
theorem sR {a b:Int} {l:List Cr} {id e:Nat} {s:RS} (h:(nbI a b id e).2≠0):Jr a b l id e s=some s:=by
 unfold Jr;rw[if_pos h]
theorem fV {a b:Int} {l:List Cr} {id e y:Nat} {s:RS} (h:nbI a b id e=((y:Int),0)) (hk:s.known.getD y false=true):Jr a b l id e s=if s.out.getD y mv0=Jq a b l s.out id e then some s else none:=by
 unfold Jr;rw[if_neg (by rw[h];simp),h];simp only[Int.toNat_natCast,hk,if_true]
theorem sS {a b:Int} {l:List Cr} {id e y:Nat} {s:RS} (h:nbI a b id e=((y:Int),0)) (hk:s.known.getD y false=false) (hy:y<s.out.length):Jr a b l id e s=some ⟨s.out.set y (Jq a b l s.out id e),s.known.set y true,s.wait++[y]⟩:=by
 unfold Jr;rw[if_neg (by rw[h];simp),h];simp only[Int.toNat_natCast,hk,Bool.false_eq_true,if_false];rw[if_pos (by simp[List.getD,hy])]
theorem Jl.call {w wr w2:Ag} {a b:Int} {l:List Cr} {A:Option Addr} {n cc k M N N4 N5 go gk:Nat} {v:Ah} {s:RS} (h:Jl w a b l A n cc k M N N4 N5 go gk v wr s) (hb:Below wr.heap.size wr w2):Jl w a b l A n cc k M N N4 N5 go gk v w2 s:=
 ⟨h.bx.call hb,h.mp.below hb h.mp.lt,h.q.below hb,h.ok⟩
theorem QAt.avoid {w:Ag} {base:Nat} {av:List Nat} {v:Ah} {l:List Nat} (h:QAt w base av v l) {P:Nat} (hP:w.heap.size≤P):QAt w base (av++[P]) v l:=by
 obtain⟨g,o,c,cw,h1,h2,h3,h4,h5⟩:=h;refine⟨g,o,c,cw,h1,h2,fun x hx=>?_,h4,h5⟩;have:=(Aq.1 h4).1;rcases Bi.1 hx with h6|h6
 ·exact h3 x h6
 ·have:x=P:=by simpa using h6
  omega
theorem QAt.sub {w:Ag} {base:Nat} {av av':List Nat} {v:Ah} {l:List Nat} (h:QAt w base av v l) (hs:∀x∈av',x∈av):QAt w base av' v l:=by
 obtain⟨g,o,c,cw,h1,h2,h3,h4,h5⟩:=h;exact⟨g,o,c,cw,h1,h2,fun x hx=>h3 x (hs x hx),h4,h5⟩
theorem Jl.put {w wr:Ag} {a b:Int} {l:List Cr} {A:Option Addr} {n cc k M N N4 N5 go gk:Nat} {v:Ah} {s:RS} (h:Jl w a b l A n cc k M N N4 N5 go gk v wr s) (y:Nat) (m:Mv) (hm:m.t≤255):
  Jl w a b l A n cc k M N N4 N5 go gk v ((((wr.setCell ⟨go,y*3,none⟩ (Aa Ac m.t)).setCell ⟨go,y*3+1,none⟩ (Aa Ab m.x)).setCell ⟨go,y*3+2,none⟩ (Aa Ab m.y)).setCell ⟨gk,y,none⟩ (.bool true)) ⟨s.out.set y m,s.known.set y true,s.wait⟩:=by
 have b1:=(((h.bx.set 2 (y*3) rfl (Aa Ac m.t)).set 2 (y*3+1) rfl (Aa Ab m.x)).set 2 (y*3+2) rfl (Aa Ab m.y)).set 4 y rfl (.bool true);rw[jG,Ri]at b1;refine⟨b1,(((h.mp.setCell _ _).setCell _ _).setCell _ _).setCell _ _,(((h.q.set (by simp) _ _).set (by simp) _ _).set (by simp) _ _).set (by simp) _ _,⟨by simp[h.ok.out],by simp[h.ok.known],h.ok.wait,fun x hx=>?_⟩⟩;rcases List.mem_or_eq_of_mem_set hx with h1|rfl
 ·exact h.ok.t x h1
 ·exact hm
theorem Jl.push {w wr w':Ag} {a b:Int} {l:List Cr} {A:Option Addr} {n cc k M N N4 N5 go gk:Nat} {v v':Ah} {s:RS} (h:Jl w a b l A n cc k M N N4 N5 go gk v wr s) (y:Nat) (hy:y<k)
  (hq:QAt w' w.heap.size [N,N4,N5,go,gk] v' (s.wait++[y])) (hw:(∃g j,w.heap.size≤g∧(∀x∈[N,N4,N5,go,gk],x≠g)∧w'=wr.setCell ⟨g,j,none⟩ (Aa Ab (y:Nat)))∨∃o,w'=wr.drew.alloc o):
  Jl w a b l A n cc k M N N4 N5 go gk v' w' ⟨s.out,s.known,s.wait++[y]⟩:=by
 have hok:Af7 k ⟨s.out,s.known,s.wait++[y]⟩:=⟨h.ok.out,h.ok.known,fun i hi=>by
  rcases Bi.1 hi with h1|h1
  ·exact h.ok.wait i h1
  ·have:i=y:=by simpa using h1
   subst this;exact hy,h.ok.t⟩
 rcases hw with⟨g,j,hg,hne,rfl⟩|⟨o,rfl⟩
 ·refine⟨h.bx.setOther hg (fun i x hx=>hne _ ?_) j _,h.mp.setCell _ _,hq,hok⟩
  match i with
  |0=>simp[bM]at hx;subst hx;simp
  |1=>simp[bM]at hx;subst hx;simp
  |2=>simp[bM]at hx;subst hx;simp
  |3=>simp[bM]at hx;subst hx;simp
  |4=>simp[bM]at hx;subst hx;simp
  |i+5=>simp[bM]at hx
 ·exact⟨h.bx.drew.other o,h.mp.drew.below ((Below.refl wr.drew.heap.size wr.drew).alloc (Aj _) o) h.mp.lt,hq,hok⟩
theorem bP (a b:Int) (A:Option Addr) (l:List Cr) (n cc:Nat) (w:Ag) (hp:Fy a b l) (hn:n=l.length) (h:Rd w A 3 n (crs l)) (hl:n≤1000000) (hQ:Qf w) (hT:Tn w):
  Ai Tryz.prog 145 #[.agg #[Aa Ab a,Aa Ab b,Ad A n cc]] w (zC (Qw a b l) w):=by
 obtain⟨F,hF⟩:=ey (Qw a b l);rw[hF];unfold Qw at hF;obtain⟨k1,k2,k3⟩:=Fc hp.sheet;have hcount:=fun w=>Ns a b w hp.sheet;have hcr:=fun(w':Ag) (hb:Below w.heap.size w w')=>dR a b A l n cc w' hn (h.below hb) hl;have hnb:=fun id e w h=>Ea a b id e w hp.sheet h;obtain⟨k,hk⟩:=ey (Cq a b);rw[hk]at hF k1 k2 k3 hcount;have HCR:=Ae hcr;have HCOUNT:=Ae hcount;have HNB:=Ae hnb;have HF:=Ae hF;have HP:=Ae hp;have HQ:=Ae hQ;have HT:=Ae hT;have HK1:=Ae k1;have mk1:=fun W=>rL k k3 W;have mk2:=fun W=>Pi k k3 W;have H:=(Bx.start w).new #[Aa Ab a,Aa Ab b,Ad A n cc] 38 rfl;clear hp hn h hl hQ hT hF hk hcount hcr hnb k1;go_enter Tryz.func145,Tryz.ntmps145;go_upto_region 1 with fail;obtain⟨W,hW⟩:=ez (w.alloc (.cells #[Aa Ab a,Aa Ab b,Ad A n cc] 38));rw[←hW]at H⊢;obtain⟨N,hN⟩:=ez w.heap.size;rw[←hN]at H⊢;have HNN:=Ae hN;clear hW hN;obtain⟨⟨a0,a1,a2⟩,_⟩:=Ci (H.blk 0 _ _ _ rfl);go_wp2_with fail;refine(HCR.out _ H.below).mono ?_;rintro e w2 ⟨M,rfl,hM1,hM2,hb⟩;have H2:=H.call hb;clear a0 a1 a2 hb H;obtain⟨N4,hN4⟩:=ey w2.heap.size;have H3:=H2.new #[.map (some M)] 345 hN4;have hM3:=hM2.below ((Below.refl w2.heap.size w2).alloc (Aj _) (.cells #[.map (some M)] 345)) hM2.lt;go_upto_region 2 with fail;obtain⟨W3,hW3⟩:=ez (w2.alloc (.cells #[.map (some M)] 345));rw[←hW3]at H3 hM3⊢;clear hW3 hN4 H2 hM2;obtain⟨⟨a0,a1,a2⟩,_⟩:=Ci (H3.blk 0 _ _ _ rfl);go_wp2_with fail;refine(HCOUNT.out _).mono ?_;rintro e w4 ⟨rfl,hb⟩;have H4:=H3.call hb;have hM4:=hM3.below hb hM3.lt;clear a0 a1 a2 hb H3 hM3;have j3:(k:Int).toNat=k:=Int.toNat_natCast k;go_upto_region 3 with fail;obtain⟨go,hgo⟩:=ey w4.heap.size;obtain⟨N5,hN5⟩:=ey (go+1);have H5:=H4.new (Hu (Aw k mv0)).toArray 40 hgo
 have hM5:=hM4.below ((Below.refl w4.heap.size w4).alloc (Aj _) (.cells (Hu (Aw k mv0)).toArray 40)) hM4.lt;have hz5:(w4.alloc (.cells (Hu (Aw k mv0)).toArray 40)).heap.size=N5:=by rw[←hN5,←hgo];simp
 rw[hgo,hN5];obtain⟨W5,hW5⟩:=ez (w4.alloc (.cells (Hu (Aw k mv0)).toArray 40));rw[←hW5]at H5 hM5 hz5⊢;have H6:=H5.new #[Ad (some ⟨go,0,none⟩) k k] 171 hz5;have hM6:=hM5.below ((Below.refl W5.heap.size W5).alloc (Aj _) (.cells #[Ad (some ⟨go,0,none⟩) k k] 171)) hM5.lt;obtain⟨W6,hW6⟩:=ez (W5.alloc (.cells #[Ad (some ⟨go,0,none⟩) k k] 171));rw[←hW6]at H6 hM6⊢;have c5:=Bs W6 N5 0 _ _ (0,0) (H6.blk 3 _ _ _ rfl);simp only[List.getElem?_toArray,List.getElem?_cons_zero]at c5;clear hW6 hW5 hz5 hgo hN5 H4 H5 hM4 hM5 mk1;obtain⟨gk,hgk⟩:=ey W6.heap.size;have H7:=H6.new (Cx (Aw k false)).toArray 4 hgk;have hM7:=hM6.below ((Below.refl W6.heap.size W6).alloc (Aj _) (.cells (Cx (Aw k false)).toArray 4)) hM6.lt;go_upto_region 4 with fail;obtain⟨W7,hW7⟩:=ez (W6.alloc (.cells (Cx (Aw k false)).toArray 4));rw[←hW7]at H7 hM7⊢;have hb7:=H7.blk 4 _ _ _ rfl
 have c7:W7.cell? ⟨gk,0,none⟩=some (.bool false):=by
  rw[Bs W7 gk 0 _ _ (0,0) hb7];obtain⟨j,rfl⟩:∃j,k=j+1:=⟨k-1,by omega⟩;rfl
 have z7:W7.frozen? ⟨gk,0,none⟩=false:=by simp[World.frozen?,hb7]
 have q7:(0:Int)<k:=by omega
 have H8:=H7.set 4 0 rfl (.bool true);have hM8:=hM7.setCell ⟨gk,0,none⟩ (.bool true);rw[Ri]at H8
 have ek:(Aw k false).set 0 true=true::Aw (k-1) false:=by
  obtain⟨j,rfl⟩:∃j,k=j+1:=⟨k-1,by omega⟩;rfl
 rw[ek]at H8;have H9:Bx w (bM a b A n cc k M N N4 N5 go gk ⟨Aw k mv0,true::Aw (k-1) false,[0]⟩) (W7.setCell ⟨gk,0,none⟩ (.bool true)):=H8;clear H8;clear hW7 H6 hM6 c5 ek hb7 hM7 mk2 hgk;go_upto_region 6 with fail;obtain⟨W8,hW8⟩:=ez (W7.setCell ⟨gk,0,none⟩ (.bool true));rw[←hW8]at H9 hM8⊢;clear hW8;have H10:=H9.other (.cells #[Aa Ab 0] 3);have hM10:=hM8.below ((Below.refl W8.heap.size W8).alloc (Aj _) (.cells #[Aa Ab 0] 3)) hM8.lt
 have hq10:QAt (W8.alloc (.cells #[Aa Ab 0] 3)) w.heap.size [N,N4,N5,go,gk] (Ad (some ⟨W8.heap.size,0,none⟩) 1 1) [0]:=
  ⟨W8.heap.size,0,1,#[Aa Ab 0],rfl,H9.below.size,fun x hx=>by
   simp at hx;rcases hx with rfl|rfl|rfl|rfl|rfl
   ·exact Nat.ne_of_lt (H9.lt 0 rfl)
   ·exact Nat.ne_of_lt (H9.lt 1 rfl)
   ·exact Nat.ne_of_lt (H9.lt 3 rfl)
   ·exact Nat.ne_of_lt (H9.lt 2 rfl)
   ·exact Nat.ne_of_lt (H9.lt 4 rfl),Bt W8 _,by simp,by simp,fun i hi=>by
   have:i=0:=by simpa using hi
   subst this;rfl⟩
 have hst:Jl w a b l A n cc k M N N4 N5 go gk (Ad (some ⟨W8.heap.size,0,none⟩) 1 1) (W8.alloc (.cells #[Aa Ab 0] 3)) ⟨Aw k mv0,true::Aw (k-1) false,[0]⟩:=
  ⟨H10,hM10,hq10,⟨by simp,by simp;omega,fun i hi=>by simp at hi;omega,fun m hm=>by rw[List.eq_of_mem_replicate hm];exact(by decide:0≤255)⟩⟩
 have hmm:(⟨Aw k mv0,true::Aw (k-1) false,[0]⟩:RS).mm≤k+1:=by simp[RS.mm,unk]
 clear H9 hM8 H10 hM10 hq10;obtain⟨g8,hg8⟩:=ey W8.heap.size;rw[hg8]at hst;go_upto_region 7 with fail;clear HCR HCOUNT c7 z7 q7 hg8 j3;have HOM:=Ae hmm;have HST:=Ae hst;clear hmm hst H7
 go_loopw [8] (fun v wr=>∃(fuel:Nat) (s:RS),Jl w a b l A n cc k M N N4 N5 go gk v wr s∧s.mm≤fuel∧fuel≤k+1∧Hid (Ow a b l fuel s=F)) (fun v wr=>Xu wr gk+Aa8 v)
 case atStart=>exact⟨k+1,_,HST.out,HOM.out,Aj _,HF⟩
 case round=>
  obtain⟨fuel,s,hs,hmm,hfu,HG⟩:=hrel;obtain⟨out,kn,wt⟩:=s;have hmq:=hs.mm
  cases wt with
  |nil=>
   obtain⟨g,o,c,cw,rfl,_⟩:=hs.q
   have hG:some out=F:=by
    have:=HG.out
    cases fuel with
    |zero=>exact this
    |succ f=>exact this
   have e5:=Bs wr N5 0 _ _ (0,0) (hs.bx.blk 3 _ _ _ rfl);simp only[List.getElem?_toArray,List.getElem?_cons_zero]at e5;have HE:=Ae hs;have hG':=Ae hG;clear hs hG hmq hmm HG;go_wp2_with fail
   go_ret2
   rw[←hG'.out];have hk:out.length=k:=HE.out.ok.out;exact⟨HE.out.bx.below,go,by rw[hk];rfl,HE.out.bx.lo 2 _ _ _ rfl,HE.out.bx.blk 2 _ _ _ rfl⟩
  |cons x r=>
   obtain⟨g,o,c,rfl,hc,hcell,hq'⟩:=hs.q.head;have hx:x<k:=hs.ok.wait x (by simp);obtain⟨f,rfl⟩:∃f,fuel=f+1:=⟨fuel-1,by have:(⟨out,kn,x::r⟩:RS).mm=unk kn+(r.length+1):=rfl;omega⟩;obtain⟨B,hB⟩:=ey (unk kn+r.length);have hB1:(⟨out,kn,x::r⟩:RS).mm=B+1:=by rw[←hB];rfl
   have hB2:(⟨out,kn,r⟩:RS).mm=B:=hB;have HG1:Hid ((Mg a b l x (3-0) ⟨out,kn,r⟩).bind (Ow a b l f)=F):=Ae (by rw[Nat.sub_zero,←bO];exact HG.out);have HS2:=Ae (fun sv (hv:QAt wr w.heap.size [N,N4,N5,go,gk] sv r)=>(⟨hs.bx,hs.mp,hv,⟨hs.ok.out,hs.ok.known,fun i hi=>hs.ok.wait i (List.mem_cons_of_mem _ hi),hs.ok.t⟩⟩:Jl w a b l A n cc k M N N4 N5 go gk sv wr ⟨out,kn,r⟩));have HB:=Ae (⟨hB1,hB2,hmm,hmq⟩:_∧_∧_∧_);have p1:(0:Int)<(r.length:Int)+1:=by omega
   have p2:(1:Int)≤(r.length:Int)+1:=by omega
   have hqA:c=1→QAt wr w.heap.size [N,N4,N5,go,gk] (Ad (some ⟨g,o,none⟩) r.length 0) r:=fun hc1=>by
    have hr0:r=[]:=List.length_eq_zero_iff.1 (by omega);subst hr0;obtain⟨g',o',c',cw,he,h2,h3,h4,h5,h6,h7⟩:=hq';injection he with he1 he2 he3;injection he1 with he1;injection he1 with he1 _ _;subst he1
    exact⟨g,o,0,cw,rfl,h2,h3,h4,Aj _,by
     have:=(Aq.1 (kI h4 hcell)).1;omega,fun i hi=>absurd hi (by simp)⟩
   have HQA:=Ae hqA;have HQB:=Ae hq';clear hs HG hq' hB1 hB2 hmm hmq hqA;go_upto_region 9 with fail;go_cut [8]from 27 to 34 (fun s8 wx=>wr=wx∧QAt wr w.heap.size [N,N4,N5,go,gk] s8 r)
   case first=>
    go_wp2_with fail
    all_goals go_meet
    all_goals refine⟨rfl,?_⟩
    ·exact HQA.out (by assumption)
    ·exact HQB.out
   case rest=>
   obtain⟨rfl,hv⟩:=hcut;have HS3:=Ae (HS2.out _ hv);clear HS2 hv HQA HQB hcell p1 p2;go_wp2_with fail
   go_loopw [35,8] (fun i v wr=>∃(e:Nat) (s:RS),e≤3∧i= Aa Ac e∧Jl w a b l A n cc k M N N4 N5 go gk v wr s∧s.mm≤B∧Hid ((Mg a b l x (3-e) s).bind (Ow a b l f)=F)) (fun i _ _=>3-(intOf i).toNat)
   case atStart=>exact⟨0,_,by omega,rfl,HS3.out,Nat.le_of_eq HB.out.2.1,HG1⟩
   case round=>
    obtain⟨e,s,he,rfl,hs,hsB,HG⟩:=hrel;by_cases h3:e<3
    ·have hrem:Mg a b l x (3-e) s=(Jr a b l x e s).bind (Mg a b l x (3-(e+1))):=by
      have:e=0∨e=1∨e=2:=by omega
      rcases this with rfl|rfl|rfl
      ·rfl
      ·rfl
      ·rfl
     have hG:=HG.out;rw[hrem]at hG;clear hrem HG;obtain⟨⟨a0,a1,a2⟩,_⟩:=Ci (hs.bx.blk 0 _ _ _ rfl);have HS:=Ae hs;have HSB:=Ae hsB;have q1:(e:Int)<3:=by omega
     have q2:(e:Int)≤255:=by omega
     have hnb:=HNB.out x e;have hnbl:=Uq (i:=(x:Int)) (e:=(e:Int)) HP.out.sheet;have hbad:=sR (a:=a) (b:=b) (l:=l) (id:=x) (e:=e) (s:=s);have hkn:=fun y=>fV (a:=a) (b:=b) (l:=l) (id:=x) (e:=e) (y:=y) (s:=s);have hnew:=fun y=>sS (a:=a) (b:=b) (l:=l) (id:=x) (e:=e) (y:=y) (s:=s);obtain⟨⟨nn,er⟩,hnz⟩:=ey (nbI a b x e);rw[hnz]at hnb hnbl hbad hkn hnew;have HRE:=Ae (⟨hbad,hkn,hnew⟩:_∧_∧_);have HNX:=Ae hnb;have HG:=Ae hG;clear hs hsB hG hnb hnz hbad hkn hnew;go_wp2_with fail;refine(HNX.out _ (by omega) (HQ.out.below HS.out.bx.below).qt).mono ?_;rintro en w2 ⟨rfl,hb2⟩;have HS2:=Ae (HS.out.call hb2);clear HNX HS hb2;by_cases her:er=0
     ·subst her;obtain⟨y,rfl⟩:∃y:Nat,(y:Int)=nn:=⟨nn.toNat,Int.toNat_of_nonneg (hnbl rfl).1⟩;have hyk:y<k:=by have h1:=(hnbl rfl).2;have h2:=HK1.out;omega
      have hkn:=HRE.out.2.1 y rfl;have hnew:=HRE.out.2.2 y rfl;have HAC:=Ae fun(w':Ag) (h:Jl w a b l A n cc k M N N4 N5 go gk u8 w' s)=>dE a b l s.out x e N N4 N5 M go k w' HP.out (HQ.out.below h.bx.below) (HT.out.below h.bx.below) h.ok.out.symm hx (by omega) h.ok.t (Ci (h.bx.blk 0 _ _ _ rfl)).1.1 (Ci (h.bx.blk 0 _ _ _ rfl)).1.2.1 (Bs w' N4 0 _ _ (0,0) (h.bx.blk 1 _ _ _ rfl)) h.mp (Bs w' N5 0 _ _ (0,0) (h.bx.blk 3 _ _ _ rfl)) (h.bx.range 2 rfl);have hmt:=Yx a b l s.out x e HS2.out.ok.t;obtain⟨⟨mt,mx,my⟩,hm⟩:=ey (Jq a b l s.out x e);rw[hm]at hkn hnew HAC hmt;have HR2:=Ae (⟨hkn,hnew⟩:_∧_);clear hm hnbl hkn hnew HRE;unfold Ug;dsimp only;clear a0 a1 a2;go_wp2_with fail;refine(HAC.out _ HS2.out).mono ?_;rintro en3 w3 ⟨rfl,hb3⟩;have hs4:=(HS2.out.call hb3).call ((Below.refl w3.heap.size w3).alloc (Aj _) (.cells #[Aa Ac mt,Aa Ab mx,Aa Ab my] 40));have hP:=Bt w3 (.cells #[Aa Ac mt,Aa Ab mx,Aa Ab my] 40);have hqP:=((HS2.out.call hb3).q.avoid (Aj w3.heap.size)).below ((Below.refl w3.heap.size w3).alloc (Aj _) (.cells #[Aa Ac mt,Aa Ab mx,Aa Ab my] 40));have hPg:go≠w3.heap.size:=Nat.ne_of_lt ((HS2.out.call hb3).bx.lt 2 rfl);have hPk:gk≠w3.heap.size:=Nat.ne_of_lt ((HS2.out.call hb3).bx.lt 4 rfl);clear HAC HS2 hb3;unfold Mv.v;go_upto_region 16 with fail;obtain⟨P,hPP⟩:=ey w3.heap.size;obtain⟨W4,hW4⟩:=ez (w3.alloc (.cells #[Aa Ac mt,Aa Ab mx,Aa Ab my] 40));rw[hPP]at hP hqP hPg hPk⊢;rw[←hW4]at hs4 hP hqP⊢;clear hPP hW4;have hyo:y<s.out.length:=by rw[hs4.ok.out];exact hyk
      obtain⟨o0,o1,o2⟩:=Pm (hs4.bx.range 2 rfl) y hyo;obtain⟨⟨d0,d1,d2⟩,dz⟩:=Ci hP
      have hgk:W4.cell? ⟨gk,y,none⟩=some (.bool (s.known.getD y false)):=by
       have hyn:y<s.known.length:=by rw[hs4.ok.known];exact hyk
       rw[Bs W4 gk y _ _ (0,0) (hs4.bx.blk 4 _ _ _ rfl)];simp[Cx,List.getD,hyn]
      have e5:=Bs W4 N5 0 _ _ (0,0) (hs4.bx.blk 3 _ _ _ rfl);simp only[List.getElem?_toArray,List.getElem?_cons_zero]at e5;obtain⟨kb,hkb⟩:=ey (s.known.getD y false);rw[hkb]at hgk;have y1:(y:Int)<(k:Int):=by omega
      cases kb with
      |true=>
       have hR:=HR2.out.1 hkb;have hgd:s.out.getD y mv0=s.out[y]:=by simp[List.getD,hyo]
       rw[hgd]at hR;obtain⟨⟨ot,ox,oy⟩,ho⟩:=ey (s.out[y]);rw[ho]at hR o0 o1 o2;have HS4:=Ae hs4;clear hs4 hP dz HR2 hkb ho hgd hmt hqP hPg hPk;go_upto_region 19 with fail;by_cases hq:(⟨ot,ox,oy⟩:Mv)=⟨mt,mx,my⟩
       ·injection hq with hq1 hq2 hq3;subst hq1 hq2 hq3;rw[if_pos rfl]at hR
        have HG2:Hid ((Mg a b l x (3-(e+1)) s).bind (Ow a b l f)=F):=Ae (by
         have h:=HG.out;rw[hR]at h;exact h)
        clear hR HG
        go_quiet (fail)
        have hs5:=HS4.out.call (Cp (Below.refl W4.heap.size W4) nq);obtain⟨W9,hW9⟩:=ez (W4.drewN nq);rw[←hW9]at hs5⊢;have HS5:=Ae hs5;clear hW9 d0 d1 d2 o0 o1 o2 hgk e5 HS4 hs5;go_wp2_with fail;exact⟨⟨e+1,s,by omega,by go_num,HS5.out,HSB.out,HG2⟩,by simp[intOf];omega⟩
       ·have hcmp:∀(p q:Result Next),(if((ot:Nat):Int)=(mt:Int)then if ox=mx then if oy=my then p else q else q else q)=q:=fun p q=>by
         split
         ·rename_i h1
          split
          ·rename_i h2
           split
           ·rename_i h3;exact absurd (by rw[Int.ofNat.inj h1,h2,h3]) hq
           ·rfl
          ·rfl
         ·rfl
        rw[if_neg hq]at hR
        have hF:none=F:=by
         have h:=HG.out;rw[hR]at h;exact h
        clear hq hR HG
        go_quiet (fail)
        have hs5:=HS4.out.call (Cp (Below.refl W4.heap.size W4) nq);obtain⟨W9,hW9⟩:=ez (W4.drewN nq);rw[←hW9]at hs5⊢;have HS5:=Ae hs5;clear hW9 d0 d1 d2 o0 o1 o2 hgk e5 HS4 hs5 hcmp;go_wp2_with fail
        go_ret2
        rw[←hF];exact⟨HS5.out.bx.below,rfl⟩
      |false=>
       have hR:=HR2.out.2 hkb hyo
       have HG2:Hid ((Mg a b l x (3-(e+1)) ⟨s.out.set y ⟨mt,mx,my⟩,s.known.set y true,s.wait++[y]⟩).bind (Ow a b l f)=F):=Ae (by
        have h:=HG.out;rw[hR]at h;exact h)
       clear hR HR2 HG;have hy3:y*3+3≤(Hu s.out).length:=by rw[Nb];omega
       have th:=hs4.bx.there 2 rfl;simp only[List.size_toArray]at th;have z0:=(th (y*3) (by omega)).2;have z1:=(th (y*3+1) (by omega)).2;have z2:=(th (y*3+2) (by omega)).2;have zk:=(hs4.bx.there 4 rfl y (by simp[Cx];rw[hs4.ok.known];exact hyk)).2;simp only[Bp]at z0 z1 z2 zk;have HS4:=Ae hs4;have HKB:=Ae hkb;have ngk:go≠gk:=hs4.bx.ne 2 4 (by decide) rfl rfl;have hmt':(mt:Int)≤255:=by omega
       clear hs4 dz hkb th hy3;have HQP:=Ae (⟨hqP,hP⟩:_∧_);clear hqP hP;go_upto_region 18 with fail;have hs5:=HS4.out.put y ⟨mt,mx,my⟩ hmt;dsimp only at hs5;have hq5:=(((HQP.out.1.set (b:=go) (by simp) (y*3) (Aa Ac mt)).set (b:=go) (by simp) (y*3+1) (Aa Ab mx)).set (b:=go) (by simp) (y*3+2) (Aa Ab my)).set (b:=gk) (by simp) y (.bool true);have hp5:=(Below.heap_setCell _ ⟨gk,y,none⟩ (.bool true) P (Ne.symm hPk)).trans ((Below.heap_setCell _ ⟨go,y*3+2,none⟩ (Aa Ab my) P (Ne.symm hPg)).trans ((Below.heap_setCell _ ⟨go,y*3+1,none⟩ (Aa Ab mx) P (Ne.symm hPg)).trans ((Below.heap_setCell W4 ⟨go,y*3,none⟩ (Aa Ac mt) P (Ne.symm hPg)).trans HQP.out.2)));obtain⟨W5,hW5⟩:=ez ((((W4.setCell ⟨go,y*3,none⟩ (Aa Ac mt)).setCell ⟨go,y*3+1,none⟩ (Aa Ab mx)).setCell ⟨go,y*3+2,none⟩ (Aa Ab my)).setCell ⟨gk,y,none⟩ (.bool true));rw[←hW5]at hs5 hq5 hp5⊢;clear hW5 HQP hPg hPk d0 d1 d2 o0 o1 o2 hgk e5 z0 z1 z2 zk;have hs6:=hs5.call ((Below.refl W5.heap.size W5).alloc (Aj _) (.cells #[Aa Ab y] 3))
       have hy6:(W5.alloc (.cells #[Aa Ab y] 3)).cell? ⟨W5.heap.size,0,none⟩=some (Aa Ab (y:Nat)):=by
        rw[Bs _ _ 0 _ _ (0,0) (Bt W5 _)];rfl
       have hun:=jU s.known y (by rw[HS4.out.ok.known];exact hyk) HKB.out;have hsb:=HSB.out;have hmq:s.mm=unk s.known+s.wait.length:=rfl;have hB1:=HB.out
       obtain⟨v',w',hrun,hq',hw'⟩:=(hq5.below ((Below.refl W5.heap.size W5).alloc (Aj _) (.cells #[Aa Ab y] 3))).push (by omega) hs6.bx.below.size (fun x hx=>by
        simp at hx;rcases hx with rfl|rfl|rfl|rfl|rfl|rfl
        ·exact hs6.bx.lt 0 rfl
        ·exact hs6.bx.lt 1 rfl
        ·exact hs6.bx.lt 3 rfl
        ·exact hs6.bx.lt 2 rfl
        ·exact hs6.bx.lt 4 rfl
        ·exact Bm (Aq.1 hp5).1 (by simp)) y W5.heap.size 1 hy6
       have hs7:=hs6.push y hyk (hq'.sub (by simp)) (hw'.imp (fun⟨g,j,h1,h2,h3⟩=>⟨g,j,h1,fun x hx=>h2 x (List.mem_append_left _ hx),h3⟩) id);have hp6:=kept ((Below.refl W5.heap.size W5).alloc (Aj _) (.cells #[Aa Ab y] 3)) hp5 (Aq.1 hp5).1
       have hp7:w'.heap[P]? =some (.cells #[Aa Ac mt,Aa Ab mx,Aa Ab my] 40 (0,0)):=by
        rcases hw' with⟨g,j,_,h2,rfl⟩|⟨o,rfl⟩
        ·exact(Below.heap_setCell _ ⟨g,j,none⟩ (Aa Ab (y:Nat)) P (h2 P (by simp))).trans hp6
        ·exact kept ((Below.refl _ (W5.alloc (.cells #[Aa Ab y] 3)).drew).alloc (Aj _) o) hp6 (Aq.1 hp6).1
       obtain⟨⟨d0,d1,d2⟩,dz⟩:=Ci hp7;have hyo':y<(s.out.set y ⟨mt,mx,my⟩).length:=by simpa using hyo
       obtain⟨o0,o1,o2⟩:=Pm (hs7.bx.range 2 rfl) y hyo';simp only[List.getElem_set_self]at o0 o1 o2;have e5:=Bs w' N5 0 _ _ (0,0) (hs7.bx.blk 3 _ _ _ rfl);simp only[List.getElem?_toArray,List.getElem?_cons_zero]at e5;have HS7:=Ae hs7;have HRUN:=Ae hrun
       have HMM:Hid ((⟨s.out.set y ⟨mt,mx,my⟩,s.known.set y true,s.wait++[y]⟩:RS).mm≤B):=Ae (by
        have e1:(⟨s.out.set y ⟨mt,mx,my⟩,s.known.set y true,s.wait++[y]⟩:RS).mm=unk (s.known.set y true)+(s.wait++[y]).length:=rfl;rw[e1,Be,List.length_singleton];omega)
       clear hs5 hs6 hy6 hq' hw' hrun hun hmq hB1 hsb HS4 hs7 hp6 hp7 hp5 hq5 dz hyo';go_wp2_with (at_builtin;refine Ap _ rfl _ _ _ _ rfl _ _ rfl rfl _ _ HRUN.out ?_)
       go_quiet (fail)
       have hs8:=HS7.out.call (Cp (Below.refl w'.heap.size w') nq);obtain⟨W9,hW9⟩:=ez (w'.drewN nq);rw[←hW9]at hs8⊢;have HS8:=Ae hs8;clear hW9 d0 d1 d2 o0 o1 o2 e5 HS7 hs8;go_wp2_with fail;exact⟨⟨e+1,_,by omega,by go_num,HS8.out,HMM.out,HG2⟩,by simp[intOf];omega⟩
     ·have HG2:Hid ((Mg a b l x (3-(e+1)) s).bind (Ow a b l f)=F):=Ae (by
       have h:=HG.out;rw[HRE.out.1 her]at h;exact h)
      unfold Ug;dsimp only;clear HG HRE hnbl a0 a1 a2;go_wp2_with fail;exact⟨⟨e+1,s,by omega,by go_num,HS2.out,HSB.out,HG2⟩,by simp[intOf];omega⟩
    ·have:e=3:=by omega
     subst this;have HE:=Ae hs;have HSB:=Ae hsB;clear hs hsB;go_wp2_with fail;have h1:=HE.out.mm;have h2:=HSB.out;have h3:=HB.out;exact⟨⟨f,s,HE.out,by omega,by omega,HG⟩,by omega⟩
def Ej (l:List Cl):List Ah:=l.flatMap Cl.cells
theorem Jc (c:Cl):c.cells.length=3:=rfl
theorem Gm (l:List Cl):(Ej l).length=l.length*3:=by
 unfold Ej;induction l with|nil=>rfl|cons x l ih=>simp[Ba,ih,Jc];omega
theorem vS (l:List Cl) (n:Nat) (c:Cl):(((Ej l).toArray.setIfInBounds (n*3) (Aa Ab c.x)).setIfInBounds (n*3+1) (Aa Ab c.y)).setIfInBounds (n*3+2) (Aa Ac c.q)=(Ej (l.set n c)).toArray:=by
 have hat:∀(l:List Cl) (i f:Nat),i<l.length→f<3→(Ej l)[i*3+f]? =(match l[i]? with|some m=>m.cells[f]? |none=>none):=fun l i f hi hf=>by
  rw[Ar hi];exact Dc Cl.cells 3 Jc _ i f hi hf
 apply Array.ext';simp only[Array.toList_setIfInBounds];apply List.ext_getElem?;intro j;by_cases hj:j<l.length*3
 ·obtain⟨i,f,hf,rfl⟩:∃i f,f<3∧j=i*3+f:=⟨j/3,j%3,by omega,by omega⟩;have hi:i<l.length:=by omega
  rw[hat (l.set n c) i f (by simpa using hi) hf];simp only[List.getElem?_set,List.length_set,Gm];by_cases e:n=i
  ·subst e;rw[if_pos rfl,if_pos hi];have h3:f=0∨f=1∨f=2:=by omega
   rcases h3 with rfl|rfl|rfl
   ·simp[Cl.cells];omega
   ·simp[Cl.cells];omega
   ·simp[Cl.cells];omega
  ·rw[if_neg e,if_neg (by omega),if_neg (by omega),if_neg (by omega),hat l i f hi hf]
 ·rw[List.getElem?_eq_none (by simp[Gm];omega),List.getElem?_eq_none (by simp[Gm];omega)]
theorem wY (k:Nat):madeCells #[Aa Ab 0,Aa Ab 0,Aa Ac 0] (k*3)=(Ej (Aw k cl0)).toArray:=by
 apply Array.ext';apply List.ext_getElem?;intro j;by_cases hj:j<k*3
 ·obtain⟨i,f,hf,rfl⟩:∃i f,f<3∧j=i*3+f:=⟨j/3,j%3,by omega,by omega⟩;have hi:i<k:=by omega
  have h1:(Ej (Aw k cl0))[i*3+f]? =(((Aw k cl0)[i]'(by simpa using hi)).cells)[f]? :=Dc Cl.cells 3 Jc _ i f (by simpa using hi) hf;rw[h1];have h3:f=0∨f=1∨f=2:=by omega
  have hm:(i*3+f)%3=f:=by omega
  simp[madeCells,hj,hm];rcases h3 with rfl|rfl|rfl
  ·rfl
  ·rfl
  ·rfl
 ·rw[List.getElem?_eq_none (by simp[madeCells];omega),List.getElem?_eq_none (by simp[Gm];omega)]
theorem rK (k:Nat) (hk:k≤1024) (W:Ag):(Instr.makeSlice 118 (Aa Ab k) (Aa Ab k)).run Tryz.prog W= .ok (Ad (some ⟨W.heap.size,0,none⟩) k k) (W.alloc (.cells (Ej (Aw k cl0)).toArray 123)):=by
 have hinfo:(Tryz.prog.info? 123).map (fun i=>(i.zero,i.size,i.bytes))=some (some (.agg #[Aa Ab 0,Aa Ab 0,Aa Ac 0]),3,24):=by kernel_rfl
 obtain⟨i,hi,hz,hs,hb⟩:=info_parts hinfo;have h:=run_make (P:=Tryz.prog) W 118 123 i _ Tryz.underlying118 hi hz .i64 .i64 k k (by omega) (by omega) (by rw[hb];omega) (by omega);rw[h];simp only[Int.toNat_natCast,hs];have e:(Value.agg #[Aa Ab 0,Aa Ab 0,Aa Ac 0]).cells= #[Aa Ab 0,Aa Ab 0,Aa Ac 0]:=by rfl
 rw[e,wY]
def kY (a:Int) (root:Mv) (m:List Mv) (i:Nat):Cl:=(Ku (Fq (m.getD i mv0) root).1 (Da a i)).1
def Ga (root:Mv) (m:List Mv) (i:Nat):List Mv:=(m.take i).map (fun x=>(Fq x root).1)++m.drop i
def Hn (a:Int) (root:Mv) (m:List Mv) (i:Nat):List Cl:=(List.range i).map (kY a root m)++Aw (m.length-i) cl0
theorem Ob (root:Mv) (m:List Mv) (i:Nat):(Ga root m i).length=m.length:=by simp[Ga];omega
theorem Wu (a:Int) (root:Mv) (m:List Mv) (i:Nat) (hi:i≤m.length):(Hn a root m i).length=m.length:=by simp[Hn];omega
theorem sI (root:Mv) (m:List Mv) (i:Nat) (hi:i<m.length) (h:i<(Ga root m i).length):(Ga root m i)[i]=m[i]:=by
 simp only[Ga];rw[List.getElem_append_right (by simp;omega)];simp[Nat.min_eq_left (Bq hi)]
theorem mH (root:Mv) (m:List Mv) (i:Nat) (hi:i<m.length):(Ga root m i).set i (Fq m[i] root).1=Ga root m (i+1):=by
 apply List.ext_getElem
 ·simp[Ga];omega
 ·intro j h1 h2;have hj:j<m.length:=by simp[Ob]at h1;exact h1
  simp only[Ga,List.getElem_set,List.getElem_append,Bk,Bj,List.getElem_map,List.getElem_take,List.getElem_drop];by_cases e:i=j
  ·subst e;rw[if_pos rfl,dif_pos (by omega)]
  ·rw[if_neg e];by_cases hlt:j<i
   ·rw[dif_pos (by omega),dif_pos (by omega)]
   ·rw[dif_neg (by omega),dif_neg (by omega)]
    congr 1;omega
theorem Wv (a:Int) (root:Mv) (m:List Mv) (i:Nat) (hi:i<m.length):(Hn a root m i).set i (kY a root m i)=Hn a root m (i+1):=by
 apply List.ext_getElem
 ·simp[Hn];omega
 ·intro j h1 h2;have hj:j<m.length:=by simp[Hn]at h1;omega
  simp only[Hn,List.getElem_set,List.getElem_append,Bk,List.length_range,List.getElem_map,List.getElem_range,List.getElem_replicate];by_cases e:i=j
  ·subst e;rw[if_pos rfl,dif_pos (by omega)]
  ·rw[if_neg e];by_cases hlt:j<i
   ·rw[dif_pos hlt,dif_pos (by omega)]
   ·rw[dif_neg hlt,dif_neg (by omega)]
theorem Wf (a b:Int) (l:List Cr) (root:Mv) (m:List Mv) (hr:root.ok=true) (hm:Qw a b l=some m) (h:∀j,j<m.length→Gd a root m j=0):Dd a b l root=((Ga root m m.length,Hn a root m m.length),0):=by
 unfold Dd;rw[hr,hm]
 have hf:(List.range m.length).find? (fun i=>decide (Gd a root m i≠0))=none:=by
  rw[List.find?_eq_none];intro j hj;simp[h j (by simpa using hj)]
 simp only[Bool.true_eq_false,if_false,hf];simp[Ga,Hn];intro i _;simp[kY]
theorem Zd (a b:Int) (l:List Cr) (root:Mv) (m:List Mv) (i:Nat) (hr:root.ok=true) (hm:Qw a b l=some m) (hi:i<m.length) (h:∀j,j<i→Gd a root m j=0) (hb:Gd a root m i≠0):Dd a b l root=(([],[]),Gd a root m i):=by
 unfold Dd;rw[hr,hm]
 have hf:(List.range m.length).find? (fun i=>decide (Gd a root m i≠0))=some i:=by
  rw[List.find?_eq_some_iff_getElem];refine⟨by simp[hb],i,by simpa using hi,by simp,fun j hj=>?_⟩;simp[h j hj]
 simp only[Bool.true_eq_false,if_false,hf]
theorem Pc (a b:Int) (l:List Cr) (root:Mv) (hr:root.ok=false):Dd a b l root=(([],[]),1):=by
 unfold Dd;rw[if_pos hr]
theorem Tm (a b:Int) (l:List Cr) (root:Mv) (hr:root.ok=true) (hm:Qw a b l=none):Dd a b l root=(([],[]),11):=by
 unfold Dd;rw[hr,hm];rfl
theorem cG (x y:Mv) (h:(Fq x y).2=0):(Fq x y).1.ok=true:=by
 unfold Fq at h⊢
 split
 ·rename_i hc;rw[if_pos hc]at h;unfold Ni aI at h⊢
  split
  ·rename_i ho;exact ho
  ·rename_i ho;rw[if_neg ho]at h;cases h
 ·rename_i hc;rw[if_neg hc]at h;cases h
theorem Ut {a b:Int} {l:List Cr} {id e k:Nat} {s s':RS} (h:Jr a b l id e s=some s') (hl:s.out.length=k) (ht:∀m∈s.out,m.t≤255):s'.out.length=k∧∀m∈s'.out,m.t≤255:=by
 unfold Jr at h
 split at h
 ·injection h with h;subst h;exact⟨hl,ht⟩
 ·dsimp only at h
  split at h
  ·split at h
   ·injection h with h;subst h;exact⟨hl,ht⟩
   ·cases h
  ·split at h
   ·injection h with h;subst h;refine⟨by simpa using hl,fun m hm=>?_⟩;rcases List.mem_or_eq_of_mem_set hm with h1|rfl
    ·exact ht m h1
    ·exact Yx a b l s.out id e ht
   ·cases h
theorem bN {a b:Int} {l:List Cr} {id k:Nat} {s s':RS} (h:Oe a b l id s=some s') (hl:s.out.length=k) (ht:∀m∈s.out,m.t≤255):s'.out.length=k∧∀m∈s'.out,m.t≤255:=by
 unfold Oe at h
 cases h0:Jr a b l id 0 s with
 |none=>rw[h0]at h;cases h
 |some s1=>
  rw[h0]at h;simp only[Option.bind_some]at h;obtain⟨q1,q2⟩:=Ut h0 hl ht
  cases h1:Jr a b l id 1 s1 with
  |none=>rw[h1]at h;cases h
  |some s2=>
   rw[h1]at h;simp only[Option.bind_some]at h;obtain⟨q3,q4⟩:=Ut h1 q1 q2;exact Ut h q3 q4
theorem Wy {a b:Int} {l:List Cr} {k:Nat}:∀(f:Nat) {s:RS} {m:List Mv},Ow a b l f s=some m→s.out.length=k→(∀m∈s.out,m.t≤255)→m.length=k∧∀x∈m,x.t≤255
 |0,s,m,h,hl,ht=>by
  injection h with h;subst h;exact⟨hl,ht⟩
 |f+1,s,m,h,hl,ht=>by
  obtain⟨out,kn,wt⟩:=s
  cases wt with
  |nil=>injection h with h;subst h;exact⟨hl,ht⟩
  |cons x r=>
   have h:(Oe a b l x ⟨out,kn,r⟩).bind (Ow a b l f)=some m:=h
   cases h0:Oe a b l x ⟨out,kn,r⟩with
   |none=>rw[h0]at h;cases h
   |some s1=>
    rw[h0]at h;simp only[Option.bind_some]at h;obtain⟨q1,q2⟩:=bN h0 hl ht;exact Wy f h q1 q2
theorem bL {a b:Int} {l:List Cr} {m:List Mv} (h:Qw a b l=some m):m.length=Cq a b∧∀x∈m,x.t≤255:=by
 unfold Qw at h;exact Wy _ h (by simp) (fun x hx=>by rw[List.eq_of_mem_replicate hx];exact(by decide:0≤255))
def uR (r:(List Mv×List Cl)×Int) (w:Ag) (e:Ending) (w':Ag):Prop:=Below w.heap.size w w'∧
 ((r.2≠0∧e= .returned (.tuple #[Ad none 0 0,Ad none 0 0,Aa Ab r.2]))∨
  (r.2=0∧∃g h,e= .returned (.tuple #[Ad (some ⟨g,0,none⟩) r.1.1.length r.1.1.length,Ad (some ⟨h,0,none⟩) r.1.2.length r.1.2.length,Aa Ab 0])∧w.heap.size≤g∧w.heap.size≤h∧g≠h∧w'.heap[g]? =some (Obj.cells (Hu r.1.1).toArray 40 (0,0))∧w'.heap[h]? =some (Obj.cells (Ej r.1.2).toArray 123 (0,0))))
def Ze (a b:Int) (A:Option Addr) (n cc:Nat) (root:Mv) (N R go gi:Nat) (ms:List Mv) (is:List Cl):List (Nat×Array Ah×TypeId):=
 [(N,#[Aa Ab a,Aa Ab b,Ad A n cc],38),(R,#[Aa Ac root.t,Aa Ab root.x,Aa Ab root.y],40),(go,(Hu ms).toArray,40),(gi,(Ej is).toArray,123)]
theorem Bx.add {w w3 w4:Ag} {l:List (Nat×Array Ah×TypeId)} {g:Nat} {cs:Array Ah} {t:TypeId} (h:Bx w l w3) (hb:Below w3.heap.size w3 w4) (hg:w3.heap.size≤g) (hblk:w4.heap[g]? =some (Obj.cells cs t (0,0))):Bx w (l++[(g,cs,t)]) w4:=by
 have h4:=h.call hb
 have hk:∀(i g':Nat) (ds:Array Ah) (u:TypeId),(l++[(g,cs,t)])[i]? =some (g',ds,u)→(i<l.length∧l[i]? =some (g',ds,u))∨(i=l.length∧g'=g∧ds=cs∧u=t):=by
  intro i g' ds u hi;by_cases hl:i<l.length
  ·rw[List.getElem?_append_left hl]at hi;exact .inl ⟨hl,hi⟩
  ·have hi':i<(l++[(g,cs,t)]).length:=(As.1 hi).1;simp at hi';have:i=l.length:=by omega
   subst this;rw[List.getElem?_append_right (Aj _),Nat.sub_self]at hi;simp at hi;exact .inr ⟨rfl,hi.1.symm,hi.2.1.symm,hi.2.2.symm⟩
 refine⟨h4.below,fun i g' ds u hi=>?_,fun i g' ds u hi=>?_,fun i j g' ds u es v hi hj=>?_⟩
 ·rcases hk i g' ds u hi with⟨_,h1⟩|⟨_,rfl,rfl,rfl⟩
  ·exact h4.blk i g' ds u h1
  ·exact hblk
 ·rcases hk i g' ds u hi with⟨_,h1⟩|⟨_,rfl,rfl,rfl⟩
  ·exact h.lo i g' ds u h1
  ·exact Bo h.below.size hg
 ·rcases hk i g' ds u hi with⟨_,h1⟩|⟨h1,rfl,_,_⟩
  ·rcases hk j g' es v hj with⟨_,h2⟩|⟨_,rfl,_,_⟩
   ·exact h.inj i j g' ds u es v h1 h2
   ·exact absurd (h.lt i h1) (by omega)
  ·rcases hk j _ es v hj with⟨_,h2⟩|⟨h2,_,_,_⟩
   ·exact absurd (h.lt j h2) (by omega)
   ·omega
theorem pP {w:Ag} {g:Nat} {l:List Cl} (h:w.rangeAt g 0 (Ej l)) (i:Nat) (hi:i<l.length):
  w.cell? ⟨g,i*3,none⟩=some (Aa Ab l[i].x)∧w.cell? ⟨g,i*3+1,none⟩=some (Aa Ab l[i].y)∧w.cell? ⟨g,i*3+2,none⟩=some (Aa Ac l[i].q):=by
 have hat:∀f,f<3→(Ej l)[i*3+f]? =(l[i].cells)[f]? :=fun f hf=>Dc Cl.cells 3 Jc _ i f hi hf;have h0:=h (i*3+0) _ ((hat 0 (by omega)).trans rfl);have h1:=h (i*3+1) _ ((hat 1 (by omega)).trans rfl);have h2:=h (i*3+2) _ ((hat 2 (by omega)).trans rfl);simp only[Bp,Nat.add_zero]at h0 h1 h2;exact⟨h0,h1,h2⟩
theorem pR {w wr:Ag} {a b:Int} {A:Option Addr} {n cc N R go gi P C:Nat} {root:Mv} {ms:List Mv} {is:List Cl} {x y:Array Ah} {tx ty:TypeId} (h:Bx w (Ze a b A n cc root N R go gi ms is++[(P,x,tx),(C,y,ty)]) wr) (j:Nat) (hj:j<is.length):
  wr.frozen? ⟨gi,j*3,none⟩=false∧wr.frozen? ⟨gi,j*3+1,none⟩=false∧wr.frozen? ⟨gi,j*3+2,none⟩=false:=by
 have th:=h.there 3 rfl;have hy3:j*3+3≤(Ej is).length:=by rw[Gm];omega
 simp only[List.size_toArray]at th;have z0:=(th (j*3) (by omega)).2;have z1:=(th (j*3+1) (by omega)).2;have z2:=(th (j*3+2) (by omega)).2;simp only[Bp]at z0 z1 z2;exact⟨z0,z1,z2⟩
theorem Xl (a b:Int) (A:Option Addr) (l:List Cr) (n cc:Nat) (root:Mv) (w:Ag) (hp:Fy a b l) (hn:n=l.length) (h:Rd w A 3 n (crs l)) (hl:n≤1000000) (ht:root.t≤255) (hQ:Qf w) (hT:Tn w):
  Ai Tryz.prog 76 #[.agg #[Aa Ab a,Aa Ab b,Ad A n cc],.agg #[Aa Ac root.t,Aa Ab root.x,Aa Ab root.y]] w (uR (Dd a b l root) w):=by
 obtain⟨F,hF⟩:=ey (Dd a b l root);rw[hF];have HFr:=Ae fun(hr:root.ok=false)=>hF.symm.trans (Pc a b l root hr);have HFn:=Ae fun(hr:root.ok=true) (hm:Qw a b l=none)=>hF.symm.trans (Tm a b l root hr hm);have HFa:=Ae fun(m:List Mv) (hr:root.ok=true) (hm:Qw a b l=some m) (h:∀j,j<m.length→Gd a root m j=0)=>hF.symm.trans (Wf a b l root m hr hm h);have HFe:=Ae fun(m:List Mv) (i:Nat) (hr:root.ok=true) (hm:Qw a b l=some m) (hi:i<m.length) (h:∀j,j<i→Gd a root m j=0) (hb:Gd a root m i≠0)=>hF.symm.trans (Zd a b l root m i hr hm hi h hb);obtain⟨k1,k2,k3⟩:=Fc hp.sheet;have HPC:=Ae fun(w':Ag) (hb:Below w.heap.size w w')=>Wx a b A l n cc w' hn (h.below hb) hp (hQ.below hb).qt;have HREL:=Ae fun(w':Ag) (hb:Below w.heap.size w w')=>bP a b A l n cc w' hp hn (h.below hb) hl (hQ.below hb) (hT.below hb);obtain⟨rt,rx,ry⟩:=root;dsimp only at ht;have HMC:=Ae fun(w':Ag)=>Eg rt rx ry w' ⟨Int.natCast_nonneg rt,Int.ofNat_le.2 ht⟩;have HK1:=Ae k1;have HT:=Ae hT;have HQ:=Ae hQ;have HP:=Ae hp;have HRT:=Ae ht;have H:=((Bx.start w).new #[Aa Ab a,Aa Ab b,Ad A n cc] 38 rfl).new #[Aa Ac rt,Aa Ab rx,Aa Ab ry] 40 (N:=w.heap.size+1) (by simp);clear hp hn h hl hQ hT hF k1 ht;go_enter Tryz.func76,Tryz.ntmps76;go_upto_region 1 with fail;obtain⟨W,hW⟩:=ez ((w.alloc (.cells #[Aa Ab a,Aa Ab b,Ad A n cc] 38)).alloc (.cells #[Aa Ac rt,Aa Ab rx,Aa Ab ry] 40));rw[←hW]at H⊢;obtain⟨N,hN⟩:=ez w.heap.size;rw[←hN]at H⊢;obtain⟨R,hR⟩:=ez (N+1);rw[←hR]at H⊢;have HNN:=Ae hN;have HRR:=Ae hR;clear hW hN hR;obtain⟨⟨a0,a1,a2⟩,_⟩:=Ci (H.blk 0 _ _ _ rfl);go_wp2_with fail;refine(HPC.out _ H.below).mono ?_;rintro e w2 ⟨rfl,hb⟩;have H2:=H.call hb;clear a0 a1 a2 hb H;obtain⟨⟨r0,r1,r2⟩,_⟩:=Ci (H2.blk 1 _ _ _ rfl);go_wp2_with fail;refine(HMC.out _).mono ?_;rintro e w3 ⟨rfl,hb⟩;have H3:=H2.call hb
 clear r0 r1 r2 hb H2;by_cases hrok:(⟨rt,rx,ry⟩:Mv).ok=true
 ·have hec:ec (okM rt rx ry) 1=0:=by
   have:okM rt rx ry=true:=hrok;rw[this];rfl
  rw[hec];clear hec;obtain⟨⟨a0,a1,a2⟩,_⟩:=Ci (H3.blk 0 _ _ _ rfl);go_wp2_with fail;refine(HREL.out _ H3.below).mono ?_;rintro e w4 ⟨hb,hret⟩;have H4:=H3.call hb;clear a0 a1 a2
  cases hrel:Qw a b l with
  |none=>
   rw[hrel]at hret;dsimp only at hret;subst hret;have hF:=HFn.out hrok hrel;clear hrel;go_wp2_with fail;refine Af (v:= .tuple #[Ad none 0 0,Ad none 0 0,Aa Ab 11]) (by simp[results,Tryz.results76,go_sem]) rfl ?_;rw[hF];exact⟨H4.below,.inl ⟨by decide,rfl⟩⟩
  |some ms=>
   rw[hrel]at hret;dsimp only at hret;obtain⟨go,rfl,hgo,hblk⟩:=hret;obtain⟨hml,hmt⟩:=bL hrel;obtain⟨k,hk⟩:=ey ms.length;rw[hk]at hml;rw[←hml]at k2 k3;have mk1:=fun W=>rK k k3 W;have HKK:=Ae (hml▸HK1.out:(k:Int)=4*a*b);have HML:=Ae hk;have HMT:=Ae hmt;have HREL2:=Ae hrel;have H5:Bx w [(N,#[Aa Ab a,Aa Ab b,Ad A n cc],38),(R,#[Aa Ac rt,Aa Ab rx,Aa Ab ry],40),(go,(Hu ms).toArray,40)] w4:=H3.add hb hgo hblk;rw[hk];clear H3 H4 hb hblk hml hk hmt hrel HREL HPC HMC HFn HFr hgo HK1;go_upto_region 10 with fail;obtain⟨gi,hgi⟩:=ey w4.heap.size;have H6:=H5.new (Ej (Aw k cl0)).toArray 123 hgi;obtain⟨W6,hW6⟩:=ez (w4.alloc (.cells (Ej (Aw k cl0)).toArray 123));rw[←hW6]at H6⊢;rw[hgi]
   have H7:Bx w (Ze a b A n cc ⟨rt,rx,ry⟩ N R go gi (Ga ⟨rt,rx,ry⟩ ms 0) (Hn a ⟨rt,rx,ry⟩ ms 0)) W6:=by
    have e1:Ga ⟨rt,rx,ry⟩ ms 0=ms:=by simp[Ga]
    have e2:Hn a ⟨rt,rx,ry⟩ ms 0=Aw k cl0:=by simp[Hn,HML.out]
    rw[e1,e2];exact H6
   have HS:=Ae H7;clear hW6 hgi H5 H6 H7 mk1;go_wp2_with fail
   go_loopw [36] (fun i wr=>∃j:Nat,j≤k∧i= Aa Ab j∧Bx w (Ze a b A n cc ⟨rt,rx,ry⟩ N R go gi (Ga ⟨rt,rx,ry⟩ ms j) (Hn a ⟨rt,rx,ry⟩ ms j)) wr∧Hid (∀q,q<j→Gd a ⟨rt,rx,ry⟩ ms q=0)) (fun i _=>k-(intOf i).toNat)
   case atStart=>exact⟨0,Nat.zero_le _,rfl,HS.out,Ae fun q hq=>absurd hq (by omega)⟩
   case round=>
    obtain⟨j,hj,rfl,Hr,HE⟩:=hrel;by_cases hlt:j<k
    ·have hjm:j<ms.length:=by have:=HML.out;omega
     have hjp:j<(Ga ⟨rt,rx,ry⟩ ms j).length:=by rw[Ob];exact hjm
     obtain⟨o0,o1,o2⟩:=Pm (Hr.range 2 rfl) j hjp;rw[sI _ _ _ hjm]at o0 o1 o2
     have hEj:Gd a ⟨rt,rx,ry⟩ ms j=if(Fq ms[j] ⟨rt,rx,ry⟩).2≠0 then (Fq ms[j] ⟨rt,rx,ry⟩).2 else (Ku (Fq ms[j] ⟨rt,rx,ry⟩).1 (Da a j)).2:=by
      unfold Gd;have:ms.getD j mv0=ms[j]:=by simp[List.getD,hjm]
      rw[this]
     have hpl:=mH ⟨rt,rx,ry⟩ ms j hjm;have hpc:=Wv a ⟨rt,rx,ry⟩ ms j hjm;have hmt:=HMT.out ms[j] (Au _)
     have himg:kY a ⟨rt,rx,ry⟩ ms j=(Ku (Fq ms[j] ⟨rt,rx,ry⟩).1 (Da a j)).1:=by
      unfold kY;have:ms.getD j mv0=ms[j]:=by simp[List.getD,hjm]
      rw[this]
     obtain⟨m,hm⟩:=ey (ms[j]);rw[hm]at o0 o1 o2 hEj hpl hmt himg;obtain⟨mt,mx,my⟩:=m;dsimp only at o0 o1 o2 hmt;have HEJ:=Ae hEj;have HPL:=Ae hpl;have HPC:=Ae hpc;have HIM:=Ae himg;have HR:=Ae Hr;have q1:(j:Int)<(k:Int):=by omega
     have q2:(mt:Int)≤255:=by omega
     clear hEj hpl hpc himg hm Hr;go_upto_region 13 with fail;obtain⟨P,hP⟩:=ey wr.heap.size;have H1:=HR.out.new #[Aa Ac mt,Aa Ab mx,Aa Ab my] 40 hP;obtain⟨W1,hW1⟩:=ez (wr.alloc (.cells #[Aa Ac mt,Aa Ab mx,Aa Ab my] 40));rw[←hW1]at H1⊢;rw[hP];clear hW1 hP HR o0 o1 o2;obtain⟨⟨a0,a1,a2⟩,_⟩:=Ci (H1.blk 0 _ _ _ rfl);have hjs:Oj a b j=true:=Mw.2 ⟨by omega,by have:=HKK.out;omega⟩;have hcell:=fun(w':Ag)=>Lf a b j w' HP.out.sheet
     have hci:Gu (Mm a b j)= .tuple #[(Da a j).v,Aa Ab 0]:=by
      unfold Mm;rw[if_pos hjs];rfl
     rw[hci]at hcell;have hck:=Zg HP.out.sheet hjs;obtain⟨c,hc⟩:=ey (Da a j);rw[hc]at hcell hck HEJ HIM;obtain⟨cx,cy,cq⟩:=c;unfold Cl.v at hcell;dsimp only at hcell;have HCELL:=Ae hcell;clear hcell hci hjs hc;go_wp2_with fail;refine(HCELL.out _).mono ?_;rintro e w2 ⟨rfl,hb2⟩;have H2:=H1.call hb2;clear H1 hb2 a0 a1 a2 HCELL;go_upto_region 14 with fail;obtain⟨C,hC⟩:=ey w2.heap.size;have H3:=H2.new #[Aa Ab cx,Aa Ab cy,Aa Ac cq] 123 hC;obtain⟨W3,hW3⟩:=ez (w2.alloc (.cells #[Aa Ab cx,Aa Ab cy,Aa Ac cq] 123));rw[←hW3]at H3⊢;rw[hC];clear hW3 hC H2;obtain⟨⟨a0,a1,a2⟩,_⟩:=Ci (H3.blk 1 _ _ _ rfl);obtain⟨⟨b0,b1,b2⟩,_⟩:=Ci (H3.blk 4 _ _ _ rfl);have hth:=fun(w':Ag) (hb:Below w.heap.size w w')=>Rv ⟨mt,mx,my⟩ ⟨rt,rx,ry⟩ w' hmt HRT.out (HT.out.below hb);have htok:=cG ⟨mt,mx,my⟩ ⟨rt,rx,ry⟩;have htt:=jT ⟨mt,mx,my⟩ ⟨rt,rx,ry⟩;obtain⟨⟨⟨pt,px,py⟩,te⟩,hte⟩:∃z,Fq ⟨mt,mx,my⟩ ⟨rt,rx,ry⟩=z:=⟨_,rfl⟩;rw[hte]at hth htok htt HEJ HPL HIM;unfold mvR Mv.v at hth;dsimp only at hth;have HTH:=Ae hth;have HTO:=Ae htok;clear hth hte htok;go_wp2_with fail;refine(HTH.out _ H3.below).mono ?_;rintro e w4 ⟨rfl,hb4⟩;have H4:=H3.call hb4;clear a0 a1 a2 b0 b1 b2 H3 hb4 HTH;have th:=H4.there 2 rfl;have hy3:j*3+3≤(Hu (Ga ⟨rt,rx,ry⟩ ms j)).length:=by rw[Nb];omega
     simp only[List.size_toArray]at th;have z0:=(th (j*3) (by omega)).2;have z1:=(th (j*3+1) (by omega)).2;have z2:=(th (j*3+2) (by omega)).2;simp only[Bp]at z0 z1 z2;obtain⟨o0,o1,o2⟩:=Pm (H4.range 2 rfl) j hjp;clear th hy3;have HH4:=Ae H4;clear H4;go_upto_region 15 with fail;have H5:=((HH4.out.set 2 (j*3) rfl (Aa Ac pt)).set 2 (j*3+1) rfl (Aa Ab px)).set 2 (j*3+2) rfl (Aa Ab py);have e3:=jG (Ga ⟨rt,rx,ry⟩ ms j) j ⟨pt,px,py⟩;rw[HPL.out]at e3;dsimp only at e3;rw[e3]at H5;have H6:Bx w (Ze a b A n cc ⟨rt,rx,ry⟩ N R go gi (Ga ⟨rt,rx,ry⟩ ms (j+1)) (Hn a ⟨rt,rx,ry⟩ ms j)++[(P,#[Aa Ac mt,Aa Ab mx,Aa Ab my],40),(C,#[Aa Ab cx,Aa Ab cy,Aa Ac cq],123)]) (((w4.setCell ⟨go,j*3,none⟩ (Aa Ac pt)).setCell ⟨go,j*3+1,none⟩ (Aa Ab px)).setCell ⟨go,j*3+2,none⟩ (Aa Ab py)):=H5;obtain⟨W5,hW5⟩:=ez (((w4.setCell ⟨go,j*3,none⟩ (Aa Ac pt)).setCell ⟨go,j*3+1,none⟩ (Aa Ab px)).setCell ⟨go,j*3+2,none⟩ (Aa Ab py));rw[←hW5]at H6⊢;clear e3 H5 hW5 z0 z1 z2 o0 o1 o2 HH4;by_cases hte:te=0
     ·subst hte;have hpok:=HTO.out rfl;have hEJ:=HEJ.out;rw[if_neg (by simp)]at hEJ
      have hmg:Ku ⟨pt,px,py⟩ ⟨cx,cy,cq⟩=Gh ⟨pt,px,py⟩ ⟨cx,cy,cq⟩:=by
       unfold Ku;rw[hpok,hck];rfl
      have hIM:=HIM.out;rw[hmg]at hEJ hIM;have hcm:=fun(w':Ag) (hb:Below w.heap.size w w')=>Ms Yd ⟨pt,px,py⟩ ⟨cx,cy,cq⟩ w' hpok hck (HQ.out.below hb) (HT.out.below hb);obtain⟨⟨⟨ix,iy,iq⟩,ie⟩,hie⟩:∃z,Gh ⟨pt,px,py⟩ ⟨cx,cy,cq⟩=z:=⟨_,rfl⟩;rw[hie]at hEJ hIM hcm;have hcm2:∀(w':Ag),Below w.heap.size w w'→Ai Tryz.prog 92 #[.agg #[Aa Ac pt,Aa Ab px,Aa Ab py],.agg #[Aa Ab cx,Aa Ab cy,Aa Ac cq]] w' (Cg (.tuple #[.agg #[Aa Ab ix,Aa Ab iy,Aa Ac iq],Aa Ab ie]) w'):=hcm;have HCM:=Ae hcm2;have HEJ2:Hid (Gd a ⟨rt,rx,ry⟩ ms j=ie):=Ae hEJ;have HIM2:Hid (kY a ⟨rt,rx,ry⟩ ms j=⟨ix,iy,iq⟩):=Ae hIM;clear hcm2;have hjp1:j<(Ga ⟨rt,rx,ry⟩ ms (j+1)).length:=by rw[Ob];exact hjm
      have hat:(Ga ⟨rt,rx,ry⟩ ms (j+1))[j]=⟨pt,px,py⟩:=by
       have h1:(Ga ⟨rt,rx,ry⟩ ms (j+1))[j]? =some ⟨pt,px,py⟩:=by
        rw[←HPL.out];simp[hjp]
       rw[Ar hjp1]at h1;injection h1
      obtain⟨o0,o1,o2⟩:=Pm (H6.range 2 rfl) j hjp1;rw[hat]at o0 o1 o2;dsimp only at o0 o1 o2;obtain⟨⟨b0,b1,b2⟩,_⟩:=Ci (H6.blk 5 _ _ _ rfl);have HH6:=Ae H6;clear hcm hie hmg hEJ hIM HEJ HIM hpok hat H6 HTO;go_upto_region 17 with fail;have hjc:j<(Hn a ⟨rt,rx,ry⟩ ms j).length:=by rw[Wu _ _ _ _ (Bq hjm)];exact hjm
      have HJC:=Ae hjc;have hgg:go≠gi:=HH6.out.ne 2 3 (by decide) rfl rfl;have hcg:C≠gi:=HH6.out.ne 5 3 (by decide) rfl rfl;obtain⟨S,hSd⟩:∃S:Ag→Prop,S=fun w'=>w'.cell? ⟨go,j*3,none⟩=some (Aa Ac pt)∧w'.cell? ⟨go,j*3+1,none⟩=some (Aa Ab px)∧w'.cell? ⟨go,j*3+2,none⟩=some (Aa Ab py)∧w'.cell? ⟨C,0,none⟩=some (Aa Ab cx)∧w'.cell? ⟨C,1,none⟩=some (Aa Ab cy)∧w'.cell? ⟨C,2,none⟩=some (Aa Ac cq):=⟨_,rfl⟩;have HSA:Hid (∀W',Below W5.heap.size W5 W'→S W'):=Ae fun W' h=>by subst hSd;exact⟨Ce h o0,Ce h o1,Ce h o2,Ce h b0,Ce h b1,Ce h b2⟩
      have HSG:Hid (∀(W':Ag) (x y z:Ah),S W'→S (((W'.setCell ⟨gi,j*3,none⟩ x).setCell ⟨gi,j*3+1,none⟩ y).setCell ⟨gi,j*3+2,none⟩ z)):=Ae fun W' x y z h=>by
       subst hSd;obtain⟨h0,h1,h2,h3,h4,h5⟩:=h;exact⟨Du hgg h0,Du hgg h1,Du hgg h2,Du hcg h3,Du hcg h4,Du hcg h5⟩
      have HSO:Hid (∀W',S W'→W'.cell? ⟨go,j*3,none⟩=some (Aa Ac pt)∧W'.cell? ⟨go,j*3+1,none⟩=some (Aa Ab px)∧W'.cell? ⟨go,j*3+2,none⟩=some (Aa Ab py)∧W'.cell? ⟨C,0,none⟩=some (Aa Ab cx)∧W'.cell? ⟨C,1,none⟩=some (Aa Ab cy)∧W'.cell? ⟨C,2,none⟩=some (Aa Ac cq)):=Ae fun W' h=>by subst hSd;exact h
      clear hSd o0 o1 o2 b0 b1 b2;refine Al (S:=S) (by kernel_rfl) (HSA.out _ (Below.refl _ _).drew) (fun hS=>?_);have hb:Below W5.heap.size W5 W5.drew:=(Below.refl _ _).drew;have H:=HH6.out.drew;obtain⟨X0,hX⟩:=ez W5.drew;rw[←hX]at H hb hS⊢;clear hX HH6;refine Cf 0 ?_;refine Cf 1 ?_;refine Cf 2 ?_;refine Cf 3 ?_;refine Cf 4 ?_;refine Cf 5 ?_;refine Cf 6 ?_;refine rdy 7 (fun K hK=>?_);go_simp;refine(HCM.out _ H.below).mono ?_;rintro e X1 ⟨rfl,hbm⟩;have hb:=hb.trans (hbm.mono hb.size);have H:=H.call hbm;have hS:=HSA.out _ hb;refine hK.out _ _ hS (fun hS=>?_);clear hK K hbm;refine Cf 8 ?_;refine Cf 9 ?_;refine Cf 10 ?_;refine Cf 11 ?_;refine rdy 12 (fun K hK=>?_);have hgi:=H.lt 3 rfl;obtain⟨i0,i1,i2⟩:=pP (H.range 3 rfl) j HJC.out;obtain⟨z0,z1,z2⟩:=pR H j HJC.out;have H5:=((H.set 3 (j*3) rfl (Aa Ab ix)).set 3 (j*3+1) rfl (Aa Ab iy)).set 3 (j*3+2) rfl (Aa Ac iq);have e3:=vS (Hn a ⟨rt,rx,ry⟩ ms j) j ⟨ix,iy,iq⟩;rw[←HIM2.out,Wv a ⟨rt,rx,ry⟩ ms j hjm,HIM2.out]at e3;dsimp only at e3;rw[e3]at H5;have H6:Hid (Bx w (Ze a b A n cc ⟨rt,rx,ry⟩ N R go gi (Ga ⟨rt,rx,ry⟩ ms (j+1)) (Hn a ⟨rt,rx,ry⟩ ms (j+1))) (((X1.setCell ⟨gi,j*3,none⟩ (Aa Ab ix)).setCell ⟨gi,j*3+1,none⟩ (Aa Ab iy)).setCell ⟨gi,j*3+2,none⟩ (Aa Ac iq))):=Ae (H5.upto 4);clear e3 H5 H hb;go_simp;refine hK.out _ _ (HSG.out _ _ _ _ hS) (fun hS=>?_);clear hK K i0 i1 i2 z0 z1 z2;obtain⟨X2,hX⟩:=ez (((X1.setCell ⟨gi,j*3,none⟩ (Aa Ab ix)).setCell ⟨gi,j*3+1,none⟩ (Aa Ab iy)).setCell ⟨gi,j*3+2,none⟩ (Aa Ac iq));rw[←hX]at H6 hS⊢;clear hX;refine Cf 13 ?_;refine Ak (by kernel_rfl) ?_ _;clear hS HSO HSA HSG;by_cases hie:ie=0
      ·subst hie
       have HE2:Hid (∀q,q<j+1→Gd a ⟨rt,rx,ry⟩ ms q=0):=Ae fun q hq=>by
        by_cases hqj:q=j
        ·subst hqj;exact HEJ2.out
        ·exact HE.out q (by omega)
       go_wp2_with fail;exact⟨⟨j+1,by omega,by go_num,H6.out,HE2⟩,by simp[intOf];omega⟩
      ·have hb:Gd a ⟨rt,rx,ry⟩ ms j≠0:=by rw[HEJ2.out];exact hie
       have hF:=HFe.out ms j hrok HREL2.out hjm HE.out hb;rw[HEJ2.out]at hF;clear hb HEJ2 HIM2 HPL HPC;go_wp2_with fail;refine Af (v:= .tuple #[Ad none 0 0,Ad none 0 0,Aa Ab ie]) (by simp[results,Tryz.results76,go_sem]) rfl ?_;rw[hF];exact⟨H6.out.below,.inl ⟨hie,rfl⟩⟩
     ·have hb:Gd a ⟨rt,rx,ry⟩ ms j≠0:=by
       rw[HEJ.out,if_pos hte];exact hte
      have hF:=HFe.out ms j hrok HREL2.out hjm HE.out hb;rw[HEJ.out,if_pos hte]at hF;clear hb HEJ HIM HPL HPC;go_wp2_with fail;refine Af (v:= .tuple #[Ad none 0 0,Ad none 0 0,Aa Ab te]) (by simp[results,Tryz.results76,go_sem]) rfl ?_;rw[hF];exact⟨H6.below,.inl ⟨hte,rfl⟩⟩
    ·obtain rfl:j=k:=by omega
     have q1:¬(j:Int)<(j:Int):=by omega
     have HR:=Ae Hr;have hF:=HFa.out ms hrok HREL2.out (fun q hq=>HE.out q (by have:=HML.out;omega));clear Hr;go_wp2_with fail;refine Af (v:= .tuple #[Ad (some ⟨go,0,none⟩) j j,Ad (some ⟨gi,0,none⟩) j j,Aa Ab 0]) (by simp[results,Tryz.results76,go_sem]) rfl ?_;rw[HML.out];have e1:=Ob ⟨rt,rx,ry⟩ ms j;have e2:=Wu a ⟨rt,rx,ry⟩ ms j (by have:=HML.out;omega);rw[HML.out]at e1 e2;exact⟨HR.out.below,.inr ⟨rfl,go,gi,by dsimp only;rw[e1,e2],HR.out.lo 2 _ _ _ rfl,HR.out.lo 3 _ _ _ rfl,HR.out.ne 2 3 (by decide) rfl rfl,HR.out.blk 2 _ _ _ rfl,HR.out.blk 3 _ _ _ rfl⟩⟩
 ·have hrf:(⟨rt,rx,ry⟩:Mv).ok=false:=by simpa using hrok
  have hec:ec (okM rt rx ry) 1=1:=by
   have:okM rt rx ry=false:=hrf;rw[this];rfl
  rw[hec];clear hec;have hF:=HFr.out hrf;go_wp2_with fail;refine Af (v:= .tuple #[Ad none 0 0,Ad none 0 0,Aa Ab 1]) (by simp[results,Tryz.results76,go_sem]) rfl ?_;rw[hF];exact⟨H3.below,.inl ⟨by decide,rfl⟩⟩
def dC (cs:List Ah) (n:Nat) (t:TypeId) (er:Int) (w:Ag) (e:Ending) (w':Ag):Prop:=Below w.heap.size w w'∧
 ((er≠0∧e= .returned (.tuple #[Ad none 0 0,Aa Ab er]))∨
  (er=0∧∃g,e= .returned (.tuple #[Ad (some ⟨g,0,none⟩) n n,Aa Ab 0])∧w.heap.size≤g∧w'.heap[g]? =some (Obj.cells cs.toArray t (0,0))))
theorem mO (a b:Int) (A:Option Addr) (l:List Cr) (n cc:Nat) (root:Mv) (w:Ag) (hp:Fy a b l) (hn:n=l.length) (h:Rd w A 3 n (crs l)) (hl:n≤1000000) (ht:root.t≤255) (hQ:Qf w) (hT:Tn w):
  Ai Tryz.prog 110 #[.agg #[Aa Ab a,Aa Ab b,Ad A n cc],.agg #[Aa Ac root.t,Aa Ab root.x,Aa Ab root.y]] w (dC (Hu (Dd a b l root).1.1) (Dd a b l root).1.1.length 40 (Dd a b l root).2 w):=by
 have hB:=fun(w':Ag) (hb:Below w.heap.size w w')=>Xl a b A l n cc root w' hp hn (h.below hb) hl ht (hQ.below hb) (hT.below hb);obtain⟨⟨⟨ms,is⟩,er⟩,hF⟩:∃F,Dd a b l root=F:=⟨_,rfl⟩;rw[hF]at hB⊢;dsimp only;obtain⟨rt,rx,ry⟩:=root;dsimp only at hB⊢;have HB:=Ae hB;have H:=((Bx.start w).new #[Aa Ab a,Aa Ab b,Ad A n cc] 38 rfl).new #[Aa Ac rt,Aa Ab rx,Aa Ab ry] 40 (N:=w.heap.size+1) (by simp);clear hp hn h hl hQ hT hF ht hB;go_enter Tryz.func110,Tryz.ntmps110;go_upto_region 1 with fail;obtain⟨W,hW⟩:=ez ((w.alloc (.cells #[Aa Ab a,Aa Ab b,Ad A n cc] 38)).alloc (.cells #[Aa Ac rt,Aa Ab rx,Aa Ab ry] 40));rw[←hW]at H⊢;clear hW;obtain⟨N,hN⟩:=ez w.heap.size;rw[←hN]at H⊢;have HNN:=Ae hN;clear hN;obtain⟨⟨a0,a1,a2⟩,_⟩:=Ci (H.blk 0 _ _ _ rfl);obtain⟨⟨b0,b1,b2⟩,_⟩:=Ci (H.blk 1 _ _ _ rfl);go_wp2_with fail;refine(HB.out _ H.below).mono ?_;rintro e w2 ⟨hb,hret⟩;have H2:=H.call hb;have hlo:=H.below.size;clear a0 a1 a2 b0 b1 b2 hb HB H;dsimp only at hret;rcases hret with⟨h0,rfl⟩|⟨rfl,g,hh,rfl,hg,hgh,hne,hb1,hb2⟩
 ·go_wp2_with fail;refine Af (v:= .tuple #[Ad none 0 0,Aa Ab er]) (by simp[results,Tryz.results110,go_sem]) rfl ?_;exact⟨H2.below,.inl ⟨h0,rfl⟩⟩
 ·go_wp2_with fail;refine Af (v:= .tuple #[Ad (some ⟨g,0,none⟩) ms.length ms.length,Aa Ab 0]) (by simp[results,Tryz.results110,go_sem]) rfl ?_;exact⟨H2.below,.inr ⟨rfl,g,rfl,by omega,hb1⟩⟩
theorem Lo (a b:Int) (A:Option Addr) (l:List Cr) (n cc:Nat) (root:Mv) (w:Ag) (hp:Fy a b l) (hn:n=l.length) (h:Rd w A 3 n (crs l)) (hl:n≤1000000) (ht:root.t≤255) (hQ:Qf w) (hT:Tn w):
  Ai Tryz.prog 46 #[.agg #[Aa Ab a,Aa Ab b,Ad A n cc],.agg #[Aa Ac root.t,Aa Ab root.x,Aa Ab root.y]] w (dC (Ej (Dd a b l root).1.2) (Dd a b l root).1.2.length 123 (Dd a b l root).2 w):=by
 have hB:=fun(w':Ag) (hb:Below w.heap.size w w')=>Xl a b A l n cc root w' hp hn (h.below hb) hl ht (hQ.below hb) (hT.below hb);obtain⟨⟨⟨ms,is⟩,er⟩,hF⟩:∃F,Dd a b l root=F:=⟨_,rfl⟩;rw[hF]at hB⊢;dsimp only;obtain⟨rt,rx,ry⟩:=root;dsimp only at hB⊢;have HB:=Ae hB;have H:=((Bx.start w).new #[Aa Ab a,Aa Ab b,Ad A n cc] 38 rfl).new #[Aa Ac rt,Aa Ab rx,Aa Ab ry] 40 (N:=w.heap.size+1) (by simp);clear hp hn h hl hQ hT hF ht hB;go_enter Tryz.func46,Tryz.ntmps46;go_upto_region 1 with fail;obtain⟨W,hW⟩:=ez ((w.alloc (.cells #[Aa Ab a,Aa Ab b,Ad A n cc] 38)).alloc (.cells #[Aa Ac rt,Aa Ab rx,Aa Ab ry] 40));rw[←hW]at H⊢;clear hW;obtain⟨N,hN⟩:=ez w.heap.size;rw[←hN]at H⊢;have HNN:=Ae hN;clear hN;obtain⟨⟨a0,a1,a2⟩,_⟩:=Ci (H.blk 0 _ _ _ rfl);obtain⟨⟨b0,b1,b2⟩,_⟩:=Ci (H.blk 1 _ _ _ rfl);go_wp2_with fail;refine(HB.out _ H.below).mono ?_;rintro e w2 ⟨hb,hret⟩;have H2:=H.call hb;have hlo:=H.below.size;clear a0 a1 a2 b0 b1 b2 hb HB H;dsimp only at hret;rcases hret with⟨h0,rfl⟩|⟨rfl,g,hh,rfl,hg,hgh,hne,hb1,hb2⟩
 ·go_wp2_with fail;refine Af (v:= .tuple #[Ad none 0 0,Aa Ab er]) (by simp[results,Tryz.results46,go_sem]) rfl ?_;exact⟨H2.below,.inl ⟨h0,rfl⟩⟩
 ·go_wp2_with fail;refine Af (v:= .tuple #[Ad (some ⟨hh,0,none⟩) is.length is.length,Aa Ab 0]) (by simp[results,Tryz.results46,go_sem]) rfl ?_;exact⟨H2.below,.inr ⟨rfl,hh,rfl,by omega,hb2⟩⟩
theorem rQ (m:Mv) (c:Cl) (h:(Ku m c).2=0):(Ku m c).1.ok=true:=by
 unfold Ku at h⊢
 split
 ·rename_i hc;rw[if_pos hc]at h;unfold Gh at h⊢
  split
  ·rename_i ho;exact ho
  ·rename_i ho;rw[if_neg ho]at h;cases h
 ·rename_i hc;rw[if_neg hc]at h;cases h
theorem Gq {a b:Int} {l:List Cr} {root:Mv} (h:(Dd a b l root).2=0):
  (Dd a b l root).1.1.length=Cq a b∧(Dd a b l root).1.2.length=Cq a b∧(∀m∈(Dd a b l root).1.1,m.ok=true)∧∀c∈(Dd a b l root).1.2,c.ok=true:=by
 cases hr:root.ok with
 |false=>rw[Pc a b l root hr]at h;cases h
 |true=>
  cases hm:Qw a b l with
  |none=>rw[Tm a b l root hr hm]at h;cases h
  |some m=>
   by_cases hall:∀j,j<m.length→Gd a root m j=0
   ·obtain⟨h1,_⟩:=bL hm;have e:Dd a b l root=((Ga root m m.length,Hn a root m m.length),0):=Wf a b l root m hr hm hall
    have hE:∀j,j<m.length→(Fq (m.getD j mv0) root).2=0∧(Ku (Fq (m.getD j mv0) root).1 (Da a j)).2=0:=by
     intro j hj;have h2:=hall j hj;unfold Gd at h2;by_cases h3:(Fq (m.getD j mv0) root).2=0
     ·rw[if_neg (by simpa using h3)]at h2;exact⟨h3,h2⟩
     ·rw[if_pos h3]at h2;exact absurd h2 h3
    rw[e];refine⟨by simp[Ga,h1],by simp[Hn,h1],fun x hx=>?_,fun c hc=>?_⟩
    ·simp only[Ga,List.take_length,List.drop_length,List.append_nil,List.mem_map]at hx;obtain⟨y,hy,rfl⟩:=hx;obtain⟨j,hj,rfl⟩:=Ay.1 hy;have:=(hE j hj).1;rw[List.getD_eq_getElem?_getD,Ar hj]at this;exact cG _ _ this
    ·simp only[Hn,Nat.sub_self,List.replicate_zero,List.append_nil,List.mem_map,List.mem_range]at hc;obtain⟨j,hj,rfl⟩:=hc;exact rQ _ _ (hE j hj).2
   ·have:∃i,i<m.length∧(∀j,j<i→Gd a root m j=0)∧Gd a root m i≠0:=by
     have hex:∃i,i<m.length∧Gd a root m i≠0:=by
      apply Classical.byContradiction;intro hn;exact hall fun j hj=>Classical.byContradiction fun h3=>hn ⟨j,hj,h3⟩
     obtain⟨n,hn1,hn2⟩:=hex
     induction n using Nat.strongRecOn with
     |_ n ih=>
      by_cases hq:∀j,j<n→Gd a root m j=0
      ·exact⟨n,hn1,hq,hn2⟩
      ·have:∃j,j<n∧Gd a root m j≠0:=by
        apply Classical.byContradiction;intro hn;exact hq fun j hj=>Classical.byContradiction fun h3=>hn ⟨j,hj,h3⟩
       obtain⟨j,hj1,hj2⟩:=this;exact ih j hj1 (by omega) hj2
    obtain⟨i,hi,h1,h2⟩:=this;rw[Zd a b l root m i hr hm hi h1 h2]at h;exact absurd h h2
theorem dH (l:List Bool) (n:Nat) (v:Bool):(Cx l).toArray.setIfInBounds n (.bool v)=(Cx (l.set n v)).toArray:=by
 simp[Cx,List.map_set]
def Jf (ms:List Mv) (i:Nat):List Bool:=(ms.take i).map (fun m=> !Ld m)++Aw (ms.length-i) false
theorem mJ (ms:List Mv) (i:Nat) (hi:i≤ms.length):(Jf ms i).length=ms.length:=by simp[Jf];omega
theorem mK (ms:List Mv) (i:Nat) (hi:i<ms.length):(Jf ms i).set i (!Ld ms[i])=Jf ms (i+1):=by
 apply List.ext_getElem
 ·simp[Jf];omega
 ·intro j h1 h2;have hj:j<ms.length:=by simp[Jf]at h1;omega
  simp only[Jf,List.getElem_set,List.getElem_append,Bk,Bj,List.getElem_map,List.getElem_take,List.getElem_replicate];by_cases e:i=j
  ·subst e;rw[if_pos rfl,dif_pos (by omega)]
  ·rw[if_neg e];by_cases hlt:j<i
   ·rw[dif_pos (by omega),dif_pos (by omega)]
   ·rw[dif_neg (by omega),dif_neg (by omega)]
def upL (a b:Int) (A:Option Addr) (n cc:Nat) (root:Mv) (N R g gi:Nat) (ms:List Mv) (us:List Bool):List (Nat×Array Ah×TypeId):=
 [(N,#[Aa Ab a,Aa Ab b,Ad A n cc],38),(R,#[Aa Ac root.t,Aa Ab root.x,Aa Ab root.y],40),(g,(Hu ms).toArray,40),(gi,(Cx us).toArray,4)]
theorem uN (a b:Int) (A:Option Addr) (l:List Cr) (n cc:Nat) (root:Mv) (w:Ag) (hp:Fy a b l) (hn:n=l.length) (h:Rd w A 3 n (crs l)) (hl:n≤1000000) (ht:root.t≤255) (hQ:Qf w) (hT:Tn w):
  Ai Tryz.prog 56 #[.agg #[Aa Ab a,Aa Ab b,Ad A n cc],.agg #[Aa Ac root.t,Aa Ab root.x,Aa Ab root.y]] w (dC (Cx (upF a b l root).1) (upF a b l root).1.length 4 (upF a b l root).2 w):=by
 have hB:=fun(w':Ag) (hb:Below w.heap.size w w')=>Xl a b A l n cc root w' hp hn (h.below hb) hl ht (hQ.below hb) (hT.below hb);have hinv:=Gq (a:=a) (b:=b) (l:=l) (root:=root);obtain⟨_,_,k3⟩:=Fc hp.sheet;have hU:upF a b l root=if(Dd a b l root).2≠0 then ([],(Dd a b l root).2)else ((Dd a b l root).1.1.map fun m=> !Ld m,0):=rfl;obtain⟨⟨⟨ms,is⟩,er⟩,hF⟩:∃F,Dd a b l root=F:=⟨_,rfl⟩;rw[hF]at hB hinv hU;dsimp only at hinv hU;obtain⟨U,hUU⟩:=ey (upF a b l root);rw[hUU]at hU⊢;obtain⟨rt,rx,ry⟩:=root;dsimp only at hB⊢;have HB:=Ae hB;have HU:=Ae hU;have HI:=Ae hinv;have H:=((Bx.start w).new #[Aa Ab a,Aa Ab b,Ad A n cc] 38 rfl).new #[Aa Ac rt,Aa Ab rx,Aa Ab ry] 40 (N:=w.heap.size+1) (by simp);clear hp hn h hl hQ hT hF ht hB hU hUU hinv;go_enter Tryz.func56,Tryz.ntmps56;go_upto_region 1 with fail;obtain⟨W,hW⟩:=ez ((w.alloc (.cells #[Aa Ab a,Aa Ab b,Ad A n cc] 38)).alloc (.cells #[Aa Ac rt,Aa Ab rx,Aa Ab ry] 40));rw[←hW]at H⊢;clear hW;obtain⟨N,hN⟩:=ez w.heap.size;rw[←hN]at H⊢;have HNN:=Ae hN;clear hN;obtain⟨R,hR⟩:=ez (N+1);rw[←hR]at H⊢;clear hR;obtain⟨⟨a0,a1,a2⟩,_⟩:=Ci (H.blk 0 _ _ _ rfl);obtain⟨⟨b0,b1,b2⟩,_⟩:=Ci (H.blk 1 _ _ _ rfl);go_wp2_with fail;refine(HB.out _ H.below).mono ?_;rintro e w2 ⟨hb,hret⟩;have hlo:=H.below.size;clear a0 a1 a2 b0 b1 b2 HB;dsimp only at hret;rcases hret with⟨h0,rfl⟩|⟨rfl,g,hh,rfl,hg,hgh,hne,hb1,hb2⟩
 ·have hUe:=HU.out;rw[if_pos h0]at hUe;subst hUe;have H2:=H.call hb;clear HU HI hb H;go_wp2_with fail;refine Af (v:= .tuple #[Ad none 0 0,Aa Ab er]) (by simp[results,Tryz.results56,go_sem]) rfl ?_;exact⟨H2.below,.inl ⟨h0,rfl⟩⟩
 ·have hUe:=HU.out;rw[if_neg (by simp)]at hUe;subst hUe;obtain⟨i1,_,i3,_⟩:=HI.out rfl;obtain⟨k,hk⟩:=ey ms.length;have hk3:k≤1024:=by omega
  have mk1:=fun W=>Pi k hk3 W;have HK:=Ae hk;have HI3:=Ae i3;have H2:=H.add hb hg hb1;have HG:Hid (w.heap.size≤w2.heap.size):=Ae (Bo hlo hb.size);rw[hk];clear HU HI hb H i1 i3 hk hb1 hb2 hg hgh hne hlo;go_upto_region 5 with fail;obtain⟨gi,hgi⟩:=ey w2.heap.size;have H6:=H2.new (Cx (Aw k false)).toArray 4 hgi;obtain⟨W6,hW6⟩:=ez (w2.alloc (.cells (Cx (Aw k false)).toArray 4));rw[←hW6]at H6⊢;clear hW6;rw[hgi]
  have H7:Bx w (upL a b A n cc ⟨rt,rx,ry⟩ N R g gi ms (Jf ms 0)) W6:=by
   have e2:Jf ms 0=Aw k false:=by simp[Jf,HK.out]
   rw[e2];exact H6
  have HS:=Ae H7;have HGI:Hid (w.heap.size≤gi):=Ae (hgi▸HG.out);clear hgi H2 H6 H7 mk1 HG;go_wp2_with fail
  go_loopw [27] (fun i wr=>∃j:Nat,j≤k∧i= Aa Ab j∧Bx w (upL a b A n cc ⟨rt,rx,ry⟩ N R g gi ms (Jf ms j)) wr) (fun i _=>k-(intOf i).toNat)
  case atStart=>exact⟨0,Nat.zero_le _,rfl,HS.out⟩
  case round=>
   obtain⟨j,hj,rfl,Hr⟩:=hrel;by_cases hlt:j<k
   ·have hjm:j<ms.length:=by have:=HK.out;omega
    obtain⟨o0,o1,o2⟩:=Pm (Hr.range 2 rfl) j hjm;have hps:=mK ms j hjm;have hmt:=(Mv.ok_iff.1 (HI3.out ms[j] (Au _))).1;obtain⟨m,hm⟩:=ey (ms[j]);rw[hm]at o0 o1 o2 hps hmt;obtain⟨mt,mx,my⟩:=m;obtain⟨fb,hfb⟩:=ey (Ld ⟨mt,mx,my⟩);have hfl:=fun w'=>kR ⟨mt,mx,my⟩ w' (by dsimp only at hmt⊢;omega);rw[hfb]at hps hfl;dsimp only at o0 o1 o2 hmt hfl;have HPS:=Ae hps;have HFL:=Ae hfl;have HR:=Ae Hr;have q1:(j:Int)<(k:Int):=by omega
    clear hps hm Hr hfb hfl hmt;go_upto_region 8 with fail;obtain⟨P,hP⟩:=ey wr.heap.size;have H1:=HR.out.new #[Aa Ac mt,Aa Ab mx,Aa Ab my] 40 hP;obtain⟨W1,hW1⟩:=ez (wr.alloc (.cells #[Aa Ac mt,Aa Ab mx,Aa Ab my] 40));rw[←hW1]at H1⊢;clear hW1;rw[hP];clear hP HR o0 o1 o2;obtain⟨⟨a0,a1,a2⟩,_⟩:=Ci (H1.blk 4 _ _ _ rfl);go_wp2_with fail;refine(HFL.out _).mono ?_;rintro e w3 ⟨rfl,hb3⟩;have H3:=H1.call hb3;clear a0 a1 a2 H1 hb3;have hju:j<(Jf ms j).length:=by rw[mJ _ _ (Bq hjm)];exact hjm
    have th:=H3.there 3 rfl;simp only[List.size_toArray]at th;obtain⟨z0,z1⟩:=th j (by simp[Cx];exact hju);simp only[Bp]at z0 z1
    have z2:w3.cell? ⟨gi,j,none⟩=some (.bool (Jf ms j)[j]):=by
     have:=(H3.range 3 rfl) j (.bool (Jf ms j)[j]) (by simp[Cx,hju]);simpa using this
    have H4:=(H3.set 3 j rfl (.bool (!fb))).upto 4;rw[dH,HPS.out]at H4;have HH4:Hid (Bx w (upL a b A n cc ⟨rt,rx,ry⟩ N R g gi ms (Jf ms (j+1))) (w3.setCell ⟨gi,j,none⟩ (.bool (!fb)))):=Ae H4;clear H3 H4 th;go_wp2_with fail;exact⟨⟨j+1,by omega,by go_num,HH4.out⟩,by simp[intOf];omega⟩
   ·obtain rfl:j=k:=by omega
    have q1:¬(j:Int)<(j:Int):=by omega
    have HR:=Ae Hr;clear Hr;go_wp2_with fail;refine Af (v:= .tuple #[Ad (some ⟨gi,0,none⟩) j j,Aa Ab 0]) (by simp[results,Tryz.results56,go_sem]) rfl ?_
    have e1:Jf ms j=ms.map fun m=> !Ld m:=by
     unfold Jf;rw[HK.out,Nat.sub_self,←HK.out];simp
    have hblk:=HR.out.blk 3 _ _ _ rfl;rw[e1]at hblk;exact⟨HR.out.below,.inr ⟨rfl,gi,by rw[HK.out],HGI.out,hblk⟩⟩
end Go.Proofs.YteoffhpfcgffcaaGreatDoor
