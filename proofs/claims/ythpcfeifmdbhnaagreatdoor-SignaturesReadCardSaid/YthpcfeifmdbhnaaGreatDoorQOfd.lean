import Derived.Test.YthpcfeifmdbhnaaGreatDoorQBat
import Derived.Test.YthpcfeifmdbhnaaGreatDoorQCrd
import Derived.Test.YthpcfeifmdbhnaaGreatDoorQRsC
import Derived.Test.YthpcfeifmdbhnaaGreatDoorQStk
import Derived.Test.YthpcfeifmdbhnaaGreatDoorQLkm
import Derived.Test.YthpcfeifmdbhnaaGreatDoorQPim
import Derived.Test.YthpcfeifmdbhnaaGreatDoorQSid
import Derived.Test.YthpcfeifmdbhnaaGreatDoorQSog
open Array renaming getElem?_eq_some_iff→Au
open Go renaming Calls→Al,Value→Ak,World→Aj,bodyPost_ret→Ai,cell_of_row→By,wpAnyH_done→An,wpAnyH_ready→Ap,wp_region_held_drew→Ao
open Go.AllReadyH renaming cons→Aq,nil→Ar
open Go.IntKind renaming i64→Ab,u8→Ac
open Go.Lib renaming hid→Ah,wpList_append_run→As
open Go.RowKit.Below renaming refl→Ag
open Go.Value renaming int→Aa,slice→Ad
open List renaming append_assoc→Bj,flatMap_append→Bi,flatMap_cons→Bf,getElem?_eq_getElem→Aw,getElem?_eq_some_iff→Ax,getElem_cons_succ→Cd,getElem_cons_zero→Cc,getElem_mem→Ay,getElem_toArray→Ce,length_append→Bh,length_map→Bo,mem_append→Bl,mem_cons→Bk,mem_iff_getElem→Be,nodup_append→Bp,replicate→Ba,setIfInBounds_toArray→Ch,set_cons_succ→Cg,set_cons_zero→Cf,take_of_length_le→Bg,take_succ_eq_append_getElem→Bc
open Nat renaming le_refl→Am,le_trans→Br,lt_of_lt_of_le→Bq,zero_add→Bt
open Option renaming none→Ae,some→Af
set_option maxHeartbeats 8000000
set_option maxRecDepth 100000
namespace Go.Proofs.YthpcfeifmdbhnaaGreatDoor
open Go.RowKit
theorem Kk {O B N:Nat} {F:List Nat} {v:LkV} {k:Lk} {w:Aj} {l:List SmB} (h:Dn O B F (v.fix k N) w l):
  w.cell? ⟨B,0,Ae⟩=Af (Aa Ab k.a)∧w.cell? ⟨B,1,Ae⟩=Af (Aa Ab k.b)∧w.cell? ⟨B,2,Ae⟩=Af (Ad v.cA v.nc v.cc)∧w.cell? ⟨B,3,Ae⟩=Af (Ad v.pA N v.pc)∧w.cell? ⟨B,4,Ae⟩=Af (Ad v.iA N v.ic)∧w.cell? ⟨B,5,Ae⟩=Af (Ad v.hA N v.hc):=by
 obtain⟨M,kv,e1,e2,-⟩:=h;obtain⟨-,-,-,-,hc⟩:=Hu e1 e2;exact⟨hc 0 _ rfl,hc 1 _ rfl,hc 2 _ rfl,hc 3 _ rfl,hc 4 _ rfl,hc 5 _ rfl⟩
theorem As8 {k:Lk} {id e:Nat} {s:Sm} (h:(nbI k.a k.b id e).2≠0):k.add id e s={s with es:=s.es++[id]}:=by
 unfold Lk.add;rw[if_pos h]
theorem At0 {k:Lk} {id e:Nat} {s:Sm} (h:(nbI k.a k.b id e).2=0) (h2:(nbI k.a k.b id e).1<id):k.add id e s=s:=by
 unfold Lk.add;rw[if_neg (λg=>g h),if_pos h2]
theorem At2 {k:Lk} {id e n:Nat} {s:Sm} (h:(nbI k.a k.b id e).2=0) (h2:¬(nbI k.a k.b id e).1<id) (hn:(nbI k.a k.b id e).1=(n:Int)) (hk:Cx k.cr id e=0):
  k.add id e s={s with ps:=s.ps++[if k.img id=s.b then (n,id)else (id,n)]}:=by
 unfold Lk.add;rw[if_neg (λg=>g h),if_neg h2,if_pos hk,hn];by_cases hb:k.img id=s.b
 ·simp only[hb,if_true,Int.toNat_natCast];simp
 ·simp only[hb,if_false,Int.toNat_natCast];simp
theorem As9 {k:Lk} {id e n:Nat} {s:Sm} (h:(nbI k.a k.b id e).2=0) (h2:¬(nbI k.a k.b id e).1<id) (hn:(nbI k.a k.b id e).1=(n:Int)) (hk:Cx k.cr id e≠0):
  k.add id e s={s with ls:=s.ls++[if k.hs.getD id 0<k.hs.getD n 0 then (if k.img id=s.b then 1 else 0,id,n)else (if k.img id=s.b then 1 else 0,n,id)]}:=by
 unfold Lk.add;rw[if_neg (λg=>g h),if_neg h2,if_neg hk,hn];simp only[Int.toNat_natCast]
theorem wU {O B:Nat} {F:List Nat} {fix:List Ak} {w:Aj} {l1 l2:List SmB} {x:SmB} (h:Dn O B F fix w (l1++x::l2)):
  w.cell? ⟨x.p,3,Ae⟩=Af (Aa Ab x.s.b.x)∧w.cell? ⟨x.p,4,Ae⟩=Af (Aa Ab x.s.b.y)∧w.cell? ⟨x.p,5,Ae⟩=Af (Aa Ac x.s.b.q):=by
 obtain⟨-,h1,-⟩:=h.sms.1 x Cn;have hc:=λj=>By w x.p j _ _ (0,0) h1;exact⟨(hc 3).trans rfl,(hc 4).trans rfl,(hc 5).trans rfl⟩
theorem zC (O B N id e:Nat) (F:List Nat) (k:Lk) (v:LkV) (l:List SmB) (w:Aj) (hk:kA k N) (hid:id<N) (he:e≤2) (hm:Sa O F w k N v) (h:Dn O B F (v.fix k N) w l) (hl:l.length≤1000000)
  (hx:∀x∈l,x.s.ps.length≤1000000∧x.s.ls.length≤1000000∧x.s.es.length≤1000000):
  Al Tryz.prog 120 #[.pointer (Af ⟨B,0,Ae⟩),Aa Ab id,Aa Ac e] w (pD O B F (v.fix k N) (k.meet id e (l.map (·.s))) w):=by
 have hs:=hk.pat.sheet;have hidc:id<Cq k.a k.b:=hk.n▸hid;have hN:N≤1024:=by rw[hk.n];exact Nc hs
 have H1:=λw'=>Mu k.a k.b id w' hs;rw[wW hidc]at H1;unfold Ip at H1;obtain⟨hn1,hn2⟩:=Aw1 hs hidc he;have H2:=λw' (hQ:Qt w')=>Mr (Cp k.a id).x (Cp k.a id).y (Cp k.a id).q e w' Ci Ci hQ;rw[hn1]at H2;unfold Ip at H2;have hml:id<k.ms.length:=by rw[hk.ms];exact hid
 have hil:id<k.is.length:=by rw[hk.is];exact hid
 have hmok:=hk.mok _ (Ay hml);have hiok:=hk.cok _ (Ay hil);have H3:=λw' (hQ:Qf w') (hT:Tn w')=>Ov dK k.ms[id] (Mq (Cp k.a id) e).1 w' hmok hn2 hQ hT;unfold clR at H3
 have hoth:k.other id e=(Gp k.ms[id] (Mq (Cp k.a id) e).1).1:=by
  unfold Lk.other;rw[List.getD_eq_getElem?_getD,Aw hml];unfold Kq;simp only[Option.getD_some,hmok,hn2,Bool.and_self,if_true]
 have himg:k.img id=k.is[id]:=by
  unfold Lk.img;rw[List.getD_eq_getElem?_getD,Aw hil];rfl
 have hoq:(k.other id e).q≤255:=by
  rw[hoth];have:=qN k.ms[id] (Mq (Cp k.a id) e).1;omega
 have hiq:(k.img id).q≤255:=by
  rw[himg];unfold Cl.ok at hiok;have:=(Eu.1 hiok).2.2.2.2;omega
 rw[←hoth]at H3;obtain⟨⟨c0,c1,c2⟩,hc⟩:=ey (Cp k.a id);rw[hc]at H1 H2 H3;obtain⟨⟨d0,d1,d2⟩,hd⟩:=ey ((Mq (⟨c0,c1,c2⟩:Cl) e).1);rw[hd]at H2 H3;obtain⟨oe,hoe⟩:=ey ((Gp k.ms[id] ⟨d0,d1,d2⟩).2);rw[hoe]at H3;have H4:=λw' (hQ:Qt w')=>Fi k.a k.b id e w' hs Ci hQ;have hpat:=hk.pat
 have hnlt:(nbI k.a k.b id e).2=0→0≤(nbI k.a k.b id e).1∧(nbI k.a k.b id e).1<N:=λh=>by
  have:=Yl hs h;have hn:=hk.n;unfold Cq at hn;omega
 have hH5:=λ(h0:(nbI k.a k.b id e).2=0) (h1:(id:Int)≤(nbI k.a k.b id e).1) (w':Aj) (hf:Frm O F w w')=>qJ k.a k.b v.cA k.cr v.nc v.cc id e id w' (hm w' hf).1 (hm w' hf).2.1 hk.pat (hm w' hf).2.2.2.2.2.1.qt (Am1 h0 h1) Ci Ci;have hAE:=λ(s:Sm)=>@As8 k id e s;have hAN:=λ(s:Sm)=>@At0 k id e s;have hAP:=λ(s:Sm) (n:Nat)=>@At2 k id e n s;have hAL:=λ(s:Sm) (n:Nat)=>@As9 k id e n s;obtain⟨⟨nn,ne⟩,hnb⟩:=ey (nbI k.a k.b id e);rw[hnb]at H4 hnlt hH5 hAE hAN hAP hAL;obtain⟨kk,hkk⟩:=ey (Cx k.cr id e);rw[hkk]at hH5 hAP hAL;dsimp only at hH5 hnlt hAE hAN hAP hAL;unfold Zs at H4;have hAT:=λ(w':Aj) (h:Dn O B F (v.fix k N) w' l)=>At8 O B F (v.fix k N) (k.img id) (k.other id e) l w' hiq hoq h Ci;rw[show qH (k.img id) (k.other id e)=k.key id e from rfl]at hAT;have hRM:=λ(w':Aj) (hf:Frm O F w w')=>Bb5 (hm w' hf).2.2.1 id hml;have hRI:=λ(w':Aj) (hf:Frm O F w w')=>Aa5 (hm w' hf).2.2.2.1 id hil;rw[←himg]at hRI;obtain⟨⟨mt,mx,my⟩,hmv⟩:=ey (k.ms[id]);rw[hmv]at hRM H3;obtain⟨⟨i0,i1,i2⟩,hig⟩:=ey (k.img id);obtain⟨⟨o0,o1,o2⟩,hog⟩:=ey (k.other id e);rw[hog]at H3 hAT;rw[hig]at hAT hRI;unfold clK at hAT;dsimp only at H1 H2 H3 hAT hRM hRI H4;have HC5:=Ah hH5;have HAE:=Ah hAE;have HAN:=Ah hAN;have HAP:=Ah hAP;have HAL:=Ah hAL;have HNL:=Ah hnlt;clear hH5 hAE hAN hAP hAL hnlt hnb hkk hpat;have HC1:=Ah H1;have HC2:=Ah H2;have HC3:=Ah H3;have HC4:=Ah H4;have HAT:=Ah hAT;have HRM:=Ah hRM;have HRI:=Ah hRI;have HM:=Ah hm;have HB:=Ah h;have HX:=Ah hx;have HIG:=Ah hig;have HK:=Ah hk;have HL:=Ah hl;have q0:(id:Int)<(N:Int):=Ci;clear hAT hRM hRI H1 H2 H3 H4 hn1 hn2 hml hil hmok hiok hoth himg hoq hiq hc hd hoe hmv hig hog hm hx hs hidc h hk hl;obtain⟨f0,f1,-,f3,f4,-⟩:=Kk HB.out;go_enter Tryz.func120,Tryz.ntmps120;go_wp2_with fail;refine(HC1.out _).mono ?_;rintro ee w1 ⟨rfl,hb⟩
 have H1:=(Bx.start w).call hb;clear f0 f1 f3 f4;obtain⟨C1,hC1⟩:=ey w1.heap.size;have H2:=H1.new #[Aa Ab c0,Aa Ab c1,Aa Ac c2] 87 hC1;go_upto_region 1 with fail;obtain⟨W1,hW1⟩:=ez (w1.alloc (.cells #[Aa Ab c0,Aa Ab c1,Aa Ac c2] 87));rw[←hW1]at H2⊢;clear hW1;clear H1 hb hC1;obtain⟨⟨a0,a1,a2⟩,-⟩:=Cv (H2.blk 0 _ _ _ rfl);go_wp2_with fail;refine(HC2.out _ (HM.out _ (HB.out.frm H2.below)).2.2.2.2.2.1.qt).mono ?_;rintro ee w2 ⟨rfl,hb⟩;have H3:=H2.call hb;clear a0 a1 a2 H2;obtain⟨C2,hC2⟩:=ey w2.heap.size;have H4:=H3.new #[Aa Ab d0,Aa Ab d1,Aa Ac d2] 87 hC2;go_upto_region 2 with fail;obtain⟨W2,hW2⟩:=ez (w2.alloc (.cells #[Aa Ab d0,Aa Ab d1,Aa Ac d2] 87));rw[←hW2]at H4⊢;clear hW2;clear H3 hb hC2;have hF:=HB.out.frm H4.below;obtain⟨-,-,-,f3,-,-⟩:=Kk (HB.out.below H4.below);obtain⟨pb,po,hpA,hpl,p0,p1,p2⟩:=HRM.out _ hF;rw[hpA]at f3;obtain⟨⟨a0,a1,a2⟩,-⟩:=Cv (H4.blk 1 _ _ _ rfl);have HQT:Hid (∀W',Below W2.heap.size W2 W'→Qf W'∧Tn W'):=Ah λW' hb=>(HM.out _ (HB.out.frm (H4.below.trans (hb.mono H4.below.size)))).2.2.2.2.2
 obtain⟨S,hSd⟩:∃S:Aj→Prop,S=λW'=>W'.cell? ⟨B,3,Ae⟩=Af (Ad (Af ⟨pb,po,Ae⟩) N v.pc)∧(W'.cell? ⟨pb,po+id*3,Ae⟩=Af (Aa Ac mt)∧W'.cell? ⟨pb,po+id*3+1,Ae⟩=Af (Aa Ab mx)∧W'.cell? ⟨pb,po+id*3+2,Ae⟩=Af (Aa Ab my))∧
  W'.cell? ⟨C2,0,Ae⟩=Af (Aa Ab d0)∧W'.cell? ⟨C2,1,Ae⟩=Af (Aa Ab d1)∧W'.cell? ⟨C2,2,Ae⟩=Af (Aa Ac d2):=⟨_,rfl⟩
 have HSO:Hid (∀W',S W'→W'.cell? ⟨B,3,Ae⟩=Af (Ad (Af ⟨pb,po,Ae⟩) N v.pc)∧(W'.cell? ⟨pb,po+id*3,Ae⟩=Af (Aa Ac mt)∧W'.cell? ⟨pb,po+id*3+1,Ae⟩=Af (Aa Ab mx)∧W'.cell? ⟨pb,po+id*3+2,Ae⟩=Af (Aa Ab my))∧
  W'.cell? ⟨C2,0,Ae⟩=Af (Aa Ab d0)∧W'.cell? ⟨C2,1,Ae⟩=Af (Aa Ab d1)∧W'.cell? ⟨C2,2,Ae⟩=Af (Aa Ac d2)):=Ah λW' h=>by subst hSd;exact h
 have HSA:Hid (∀W',Below W2.heap.size W2 W'→S W'):=Ah λW' h=>by
  subst hSd;exact⟨Cj h f3,⟨Cj h p0,Cj h p1,Cj h p2⟩,Cj h a0,Cj h a1,Cj h a2⟩
 clear f3 p0 p1 p2 a0 a1 a2 hSd hF;go_cut [10] (λs10 wx=>∃C3,s10= .pointer (Af ⟨C3,0,Ae⟩)∧Bx w [(C1,#[Aa Ab c0,Aa Ab c1,Aa Ac c2],87),(C2,#[Aa Ab d0,Aa Ab d1,Aa Ac d2],87),(C3,#[Aa Ab o0,Aa Ab o1,Aa Ac o2],87)] wx)
 case first=>
  refine Ao (S:=S) Cm (HSA.out _ (Ag _ _).drew) (λhS=>?_);have hb:Below W2.heap.size W2 W2.drew:=(Ag _ _).drew;have H:=H4.drew;obtain⟨X0,hX0⟩:=ez W2.drew;rw[←hX0]at hb hS H⊢;clear hX0;clear H4;refine Ck 0 ?_;refine Ck 1 ?_;refine Ck 2 ?_;refine Ck 3 ?_;refine Ck 4 ?_;refine Ck 5 ?_;refine Ck 6 ?_;refine Ck 7 ?_;refine Ap (rs:=[8,12]) Cm Cn (Aq rfl (λK hK=>?_) (Aq rfl (λK hK=>?_) Ar))
  ·go_simp;refine(HC3.out _ (HQT.out _ hb).1 (HQT.out _ hb).2).mono ?_;rintro ee X1 ⟨rfl,hbm⟩;have hb:=hb.trans (hbm.mono hb.size);have H:=H.call hbm;refine hK.out _ _ (HSA.out _ hb) (λhS=>?_);clear hK K hbm;refine Ck 9 ?_;refine Ck 10 ?_;refine Ck 11 ?_;refine rdy 12 (λK hK=>?_);obtain⟨C3,hC3⟩:=ey X1.heap.size;have H:=H.new #[Aa Ab 0,Aa Ab 0,Aa Ac 0] 87 hC3;have hC3l:W2.heap.size≤C3:=hC3▸hb.size;have hb:=hb.alloc hb.size (.cells #[Aa Ab 0,Aa Ab 0,Aa Ac 0] 87);go_simp;refine hK.out _ _ (HSA.out _ hb) (λhS=>?_);clear hK K hC3;obtain⟨X2,hX2⟩:=ez (X1.alloc (.cells #[Aa Ab 0,Aa Ab 0,Aa Ac 0] 87));rw[←hX2]at H hb hS⊢;clear hX2;obtain⟨⟨y0,y1,y2⟩,z0,z1,z2⟩:=Cv (H.blk 2 _ _ _ rfl);have H:=((H.set 2 0 rfl (Aa Ab o0)).set 2 1 rfl (Aa Ab o1)).set 2 2 rfl (Aa Ac o2);have hb:=((hb.setCell (p:=⟨C3,0,Ae⟩) hC3l (Aa Ab o0)).setCell (p:=⟨C3,1,Ae⟩) hC3l (Aa Ab o1)).setCell (p:=⟨C3,2,Ae⟩) hC3l (Aa Ac o2);refine rdy 13 (λK hK=>?_);go_simp;refine hK.out _ _ (HSA.out _ hb) (λhS=>?_);clear hK K z0 z1 z2 y0 y1 y2;refine Ck 14 ?_;refine An Cm ?_ _;go_wp2;go_meet;exact⟨C3,rfl,H⟩
  ·obtain⟨C3,hC3⟩:=ey X0.heap.size;have H:=H.new #[Aa Ab 0,Aa Ab 0,Aa Ac 0] 87 hC3;have hC3l:W2.heap.size≤C3:=hC3▸hb.size;have hb:=hb.alloc hb.size (.cells #[Aa Ab 0,Aa Ab 0,Aa Ac 0] 87);go_simp;refine hK.out _ _ (HSA.out _ hb) (λhS=>?_);clear hK K hC3;obtain⟨X2,hX2⟩:=ez (X0.alloc (.cells #[Aa Ab 0,Aa Ab 0,Aa Ac 0] 87));rw[←hX2]at H hb hS⊢;clear hX2;refine rdy 8 (λK hK=>?_);go_simp;refine(HC3.out _ (HQT.out _ hb).1 (HQT.out _ hb).2).mono ?_;rintro ee X1 ⟨rfl,hbm⟩;have hb:=hb.trans (hbm.mono hb.size);have H:=H.call hbm;refine hK.out _ _ (HSA.out _ hb) (λhS=>?_);clear hK K hbm;refine Ck 9 ?_;refine Ck 10 ?_;refine Ck 11 ?_;obtain⟨⟨y0,y1,y2⟩,z0,z1,z2⟩:=Cv (H.blk 2 _ _ _ rfl);have H:=((H.set 2 0 rfl (Aa Ab o0)).set 2 1 rfl (Aa Ab o1)).set 2 2 rfl (Aa Ac o2);have hb:=((hb.setCell (p:=⟨C3,0,Ae⟩) hC3l (Aa Ab o0)).setCell (p:=⟨C3,1,Ae⟩) hC3l (Aa Ab o1)).setCell (p:=⟨C3,2,Ae⟩) hC3l (Aa Ac o2);refine rdy 13 (λK hK=>?_);go_simp;refine hK.out _ _ (HSA.out _ hb) (λhS=>?_);clear hK K z0 z1 z2 y0 y1 y2;refine Ck 14 ?_;refine An Cm ?_ _;go_wp2;go_meet;exact⟨C3,rfl,H⟩
 case rest=>
  obtain⟨C3,rfl,H5⟩:=hcut;clear HSO HSA HQT hpA hpl H4 HC1 HC2 HC3 HRM;have HB5:=Ah (HB.out.below H5.below);obtain⟨-,-,-,-,f4,-⟩:=Kk HB5.out;obtain⟨ib,io,hiA,hil,j0,j1,j2⟩:=HRI.out _ (HB.out.frm H5.below);rw[hiA]at f4;obtain⟨S3,hSd⟩:∃S3:Aj→Prop,S3=λW'=>W'.cell? ⟨B,4,Ae⟩=Af (Ad (Af ⟨ib,io,Ae⟩) N v.ic)∧W'.cell? ⟨ib,io+id*3,Ae⟩=Af (Aa Ab i0)∧W'.cell? ⟨ib,io+id*3+1,Ae⟩=Af (Aa Ab i1)∧W'.cell? ⟨ib,io+id*3+2,Ae⟩=Af (Aa Ac i2):=⟨_,rfl⟩;have HSO:Hid (∀W',S3 W'→W'.cell? ⟨B,4,Ae⟩=Af (Ad (Af ⟨ib,io,Ae⟩) N v.ic)∧W'.cell? ⟨ib,io+id*3,Ae⟩=Af (Aa Ab i0)∧W'.cell? ⟨ib,io+id*3+1,Ae⟩=Af (Aa Ab i1)∧W'.cell? ⟨ib,io+id*3+2,Ae⟩=Af (Aa Ac i2)):=Ah λW' h=>by subst hSd;exact h
  have HSA:Hid (∀W' l',Dn O B F (v.fix k N) W' l'→Frm O F w W'→S3 W'):=Ah λW' l' h hF=>by
   obtain⟨-,-,-,-,f4,-⟩:=Kk h;obtain⟨ib',io',e,-,j0,j1,j2⟩:=HRI.out _ hF;rw[hiA]at e f4;obtain⟨rfl,rfl⟩:ib=ib'∧io=io':=by simpa using e
   subst hSd;exact⟨f4,j0,j1,j2⟩
  clear f4 hil j0 j1 j2 hSd;go_upto_region 3 with fail;refine Ao (S:=S3) Cm (HSA.out _ _ (HB.out.below H5.drew.below) (HB.out.frm H5.drew.below)) (λhS=>?_);have H6:=H5.drew;obtain⟨X0,hX0⟩:=ez wc.drew;rw[←hX0]at hS H6⊢;clear hX0;clear H5 HB5;refine Ck 0 ?_;refine Ck 1 ?_;refine Ck 2 ?_;refine Ck 3 ?_;refine Ck 4 ?_;refine Ck 5 ?_;refine Ck 6 ?_;refine Ck 7 ?_;obtain⟨⟨a0,a1,a2⟩,-⟩:=Cv (H6.blk 2 _ _ _ rfl);refine rdy 8 (λK hK=>?_);go_simp;refine hK.out _ _ hS (λhS=>?_);clear hK K a0 a1 a2;refine rdy 9 (λK hK=>?_);go_simp;refine(HAT.out _ (HB.out.below H6.below)).mono ?_;rintro ee w4 ⟨l1,x,l2,rfl,hxk,hcs,hB4,hF4⟩;have hF5:=(HB.out.frm H6.below).trans hF4;refine hK.out _ _ (HSA.out _ _ hB4 hF5) (λhS=>?_);clear hK K;refine Ck 10 ?_;refine An Cm ?_ _;clear hS HSO HSA hF4 H6 HAT;obtain⟨f0,f1,-⟩:=Kk hB4
  have HFIN:Hid (∀(y:SmB) w',y.s=k.add id e x.s→Dn O B F (v.fix k N) w' (l1++y::l2)→Frm O F w w'→pD O B F (v.fix k N) (k.meet id e (l.map (·.s))) w (.returned (.tuple #[])) w'):=Ah λy w' hy hB hF=>
   ⟨rfl,_,Al3 hxk hcs hB4.keys hy,hB,hF⟩
  have HXB:Hid (x.s.ps.length≤1000000∧x.s.ls.length≤1000000∧x.s.es.length≤1000000):=Ah (by
   rcases hcs with rfl|⟨-,-,-,h⟩
   ·exact HX.out x Cn
   ·rw[h];simp[Sm.none])
  clear hxk hcs HX HL;go_wp2_with fail;refine(HC4.out _ (HM.out _ hF5).2.2.2.2.2.1.qt).mono ?_;rintro ee w5 ⟨rfl,hb⟩;have hF6:=hF5.trans (hB4.frm hb);have hB5:=hB4.below hb;unfold SmB.ptr;have HF6:=Ah hF6;have HB5:=Ah hB5;clear f0 f1 hb hB4 hF5 hF6 HC4 w4;by_cases hne:ne=0
  ·subst hne;obtain⟨n0,nN⟩:=HNL.out rfl;obtain⟨n,rfl⟩:∃z:Nat,nn=z:=⟨nn.toNat,Ci⟩;by_cases hlt:(n:Int)<(id:Int)
   ·have HDN:=Ah (HFIN.out x _ (HAN.out x.s rfl hlt).symm hB5 HF6.out);clear hB5
    as_aux_lemma=>
     go_wp2_with fail
     go_end0
     exact HDN.out
   ·obtain⟨f0,f1,f2,-⟩:=Kk hB5;have hle:(id:Int)≤(n:Int):=Ci;have HC6:=Ah (HC5.out rfl hle);have HP2:=Ah (HAP.out x.s n rfl Ci rfl);have HL2:=Ah (HAL.out x.s n rfl Ci rfl);clear HC5 HAP HAL HAN HAE;go_wp2_with fail;refine(HC6.out _ HF6.out).mono ?_;rintro ee w6 ⟨rfl,hb⟩;have HF7:=Ah (HF6.out.trans (hB5.frm hb));have HB7:=Ah (hB5.below hb);clear f0 f1 f2 hb hB5 HB5 HF6 HC6 w5;obtain⟨-,-,-,-,f4,-⟩:=Kk HB7.out;obtain⟨ib,io,hiA,-,j0,j1,j2⟩:=HRI.out _ HF7.out;rw[hiA]at f4;obtain⟨s3,s4,s5⟩:=wU HB7.out;obtain⟨⟨b0,b1,b2⟩,hsb⟩:=ey x.s.b;rw[hsb]at s3 s4 s5;obtain⟨r,hr⟩:=ey (decide ((⟨i0,i1,i2⟩:Cl)=⟨b0,b1,b2⟩))
    have HR3:Hid (r=decide (i0=b0∧i1=b1∧(i2:Int)=(b2:Int))):=Ah (by
     rw[←hr];simp only[Cl.mk.injEq]
     congr 1
     apply propext;omega)
    dsimp only at s3 s4 s5;have HRR:Hid (decide (k.img id=x.s.b)=r):=Ah (by rw[HIG.out,hsb];exact hr);clear hr hsb HRI HIG
    obtain⟨S4,hSd⟩:∃S4:Aj→Prop,S4=λW'=>W'.cell? ⟨B,4,Ae⟩=Af (Ad (Af ⟨ib,io,Ae⟩) N v.ic)∧(W'.cell? ⟨ib,io+id*3,Ae⟩=Af (Aa Ab i0)∧W'.cell? ⟨ib,io+id*3+1,Ae⟩=Af (Aa Ab i1)∧W'.cell? ⟨ib,io+id*3+2,Ae⟩=Af (Aa Ac i2))∧
     (W'.cell? ⟨x.p,3,Ae⟩=Af (Aa Ab b0)∧W'.cell? ⟨x.p,4,Ae⟩=Af (Aa Ab b1)∧W'.cell? ⟨x.p,5,Ae⟩=Af (Aa Ac b2)):=⟨_,rfl⟩
    have HSO:Hid (∀W',S4 W'→W'.cell? ⟨B,4,Ae⟩=Af (Ad (Af ⟨ib,io,Ae⟩) N v.ic)∧(W'.cell? ⟨ib,io+id*3,Ae⟩=Af (Aa Ab i0)∧W'.cell? ⟨ib,io+id*3+1,Ae⟩=Af (Aa Ab i1)∧W'.cell? ⟨ib,io+id*3+2,Ae⟩=Af (Aa Ac i2))∧
     (W'.cell? ⟨x.p,3,Ae⟩=Af (Aa Ab b0)∧W'.cell? ⟨x.p,4,Ae⟩=Af (Aa Ab b1)∧W'.cell? ⟨x.p,5,Ae⟩=Af (Aa Ac b2))):=Ah λW' h=>by subst hSd;exact h
    have hS0:S4 w6.drew:=by subst hSd;exact⟨f4,⟨j0,j1,j2⟩,s3,s4,s5⟩
    clear f4 j0 j1 j2 s3 s4 s5 hSd;go_upto_region 10 with fail;refine Ao (S:=S4) Cm hS0 (λhS=>?_);have HF8:=Ah (HF7.out.trans (HB7.out.frm (Ag w6.heap.size w6).drew));have HB8:=Ah (HB7.out.below (Ag w6.heap.size w6).drew);obtain⟨X1,hX1⟩:=ez w6.drew;rw[←hX1]at hS HF8 HB8⊢;clear hX1;clear hS0 HF7 HB7;refine Ck 0 ?_;refine Ck 1 ?_;refine Ck 2 ?_;refine Ck 3 ?_;refine Ck 4 ?_;refine Ck 5 ?_;refine Ck 6 ?_;refine Ck 7 ?_;refine Ck 8 ?_;refine Ck 9 ?_;refine Ck 10 ?_;refine wpAnyH_take (i:=11) (v:= .bool r) rfl Cm Cm Cm (λ_ _ _ h=>h) (Or.inl ⟨by rfl,?_⟩) hS ?_
    ·intro w0 _;go_simp;rw[HR3.out];by_cases g0:i0=b0
     ·by_cases g1:i1=b1
      ·by_cases g2:(i2:Int)=(b2:Int)
       ·simp[g0,g1,g2]
       ·simp[g0,g1,g2]
      ·simp[g0,g1]
     ·simp[g0]
    try simp only[Act.put,Ce,Cc,Cd,Ch,Cf,Cg]
    refine An Cm ?_ _;clear HSO HR3;obtain⟨f0,f1,f2,f3,-,f5⟩:=Kk HB8.out;have hHS:=(HM.out _ HF8.out).2.2.2.2.1;have hidh:id<k.hs.length:=by rw[HK.out.hs];exact hid
    have hnh:n<k.hs.length:=by rw[HK.out.hs];omega
    obtain⟨gb,go',hgA,-,g0⟩:=Mi hHS id hidh;obtain⟨gb',go'',hgA',-,g1⟩:=Mi hHS n hnh;rw[hgA]at hgA' f5;obtain⟨rfl,rfl⟩:gb=gb'∧go'=go'':=by simpa using hgA'
    have hap:=HP2.out;have hal:=HL2.out;have e1:k.hs.getD id 0=k.hs[id]:=by rw[List.getD_eq_getElem?_getD,Aw hidh];rfl
    have e2:k.hs.getD n 0=k.hs[n]:=by rw[List.getD_eq_getElem?_getD,Aw hnh];rfl
    rw[e1,e2]at hal;obtain⟨hi,hhi⟩:=ey (k.hs[id]);obtain⟨hn,hhn⟩:=ey (k.hs[n]);rw[hhi]at g0 hal;rw[hhn]at g1 hal;have hrr:=HRR.out;clear HM HB HK HRR hHS hidh hnh hgA hgA' hiA e1 e2 hhi hhn
    cases r with
    |true=>
     have hs1:k.img id=x.s.b:=of_decide_eq_true hrr;rw[if_pos hs1]at hap hal;clear hrr hs1;by_cases hk0:kk=0
     ·subst hk0;have hadd:=hap rfl;obtain⟨A,c,hv,k6,A',c',w9,hrun,z6,c6,hBn,hFn⟩:=wK HB8.out HXB.out.1 (n,id);have HRUN:=Ah hrun;have HDN:=Ah (HFIN.out _ _ hadd.symm hBn (HF8.out.trans hFn));obtain⟨m,hmm⟩:=ey x.s.ps.length;rw[hmm]at k6 HRUN HDN;clear hv hrun hBn hFn hmm hap hal hadd f0 f1 f2 f3 f5 g0 g1
      as_aux_lemma=>
       go_wp2_with (at_builtin;refine As _ rfl _ _ _ _ rfl _ _ rfl rfl _ _ HRUN.out ?_)
       go_end0
       exact HDN.out
     ·have q3:(kk==0)=false:=by simpa using hk0
      have hadd:=hal hk0;clear hap hal hk0;obtain⟨S5,hSd⟩:∃S5:Aj→Prop,S5=λW'=>W'.cell? ⟨B,5,Ae⟩=Af (Ad (Af ⟨gb,go',Ae⟩) N v.hc)∧W'.cell? ⟨gb,go'+id,Ae⟩=Af (Aa Ab hi)∧W'.cell? ⟨gb,go'+n,Ae⟩=Af (Aa Ab hn):=⟨_,rfl⟩;have HSO:Hid (∀W',S5 W'→W'.cell? ⟨B,5,Ae⟩=Af (Ad (Af ⟨gb,go',Ae⟩) N v.hc)∧W'.cell? ⟨gb,go'+id,Ae⟩=Af (Aa Ab hi)∧W'.cell? ⟨gb,go'+n,Ae⟩=Af (Aa Ab hn)):=Ah λW' h=>by subst hSd;exact h
      have hS0:S5 X1.drew:=by subst hSd;exact⟨f5,g0,g1⟩
      clear hSd f0 f1 f2 f3 f5 g0 g1;go_upto_region 17 with fail;refine Ao (S:=S5) Cm hS0 (λhS=>?_);have HF9:=Ah (HF8.out.trans (HB8.out.frm (Ag X1.heap.size X1).drew));have HB9:=Ah (HB8.out.below (Ag X1.heap.size X1).drew);obtain⟨X2,hX2⟩:=ez X1.drew;rw[←hX2]at hS HF9 HB9⊢;clear hX2;clear hS0 HF8 HB8;refine Ck 0 ?_;refine Ck 1 ?_;refine Ck 2 ?_;refine Ck 3 ?_;refine Ck 4 ?_;refine Ck 5 ?_;refine Ck 6 ?_;refine Ck 7 ?_;refine Ck 8 ?_;refine Ck 9 ?_;refine Ck 10 ?_;refine Ck 11 ?_;refine Ck 12 ?_;refine Ck 13 ?_;refine Ck 14 ?_;refine Ck 15 ?_;refine An Cm ?_ _;clear hS HSO;by_cases hh:hi<hn
      ·have q4:(hi:Int)<(hn:Int):=Ci;rw[if_pos hh]at hadd;obtain⟨A,c,hv,k7,A',c',w9,hrun,z7,c7,hBn,hFn⟩:=cI HB9.out HXB.out.2.1 (1,id,n);have HRUN:=Ah hrun;have HDN:=Ah (HFIN.out _ _ hadd.symm hBn (HF9.out.trans hFn));obtain⟨m,hmm⟩:=ey x.s.ls.length;rw[hmm]at k7 HRUN HDN;clear hv hrun hBn hFn hmm hadd hh
       as_aux_lemma=>
        go_wp2_with (at_builtin;refine As _ rfl _ _ _ _ rfl _ _ rfl rfl _ _ HRUN.out ?_)
        go_end0
        exact HDN.out
      ·have q4:¬(hi:Int)<(hn:Int):=Ci;rw[if_neg hh]at hadd;obtain⟨A,c,hv,k7,A',c',w9,hrun,z7,c7,hBn,hFn⟩:=cI HB9.out HXB.out.2.1 (1,n,id);have HRUN:=Ah hrun;have HDN:=Ah (HFIN.out _ _ hadd.symm hBn (HF9.out.trans hFn));obtain⟨m,hmm⟩:=ey x.s.ls.length;rw[hmm]at k7 HRUN HDN;clear hv hrun hBn hFn hmm hadd hh
       as_aux_lemma=>
        go_wp2_with (at_builtin;refine As _ rfl _ _ _ _ rfl _ _ rfl rfl _ _ HRUN.out ?_)
        go_end0
        exact HDN.out
    |false=>
     have hs1:¬k.img id=x.s.b:=of_decide_eq_false hrr;rw[if_neg hs1]at hap hal;clear hrr hs1;by_cases hk0:kk=0
     ·subst hk0;have hadd:=hap rfl;obtain⟨A,c,hv,k6,A',c',w9,hrun,z6,c6,hBn,hFn⟩:=wK HB8.out HXB.out.1 (id,n);have HRUN:=Ah hrun;have HDN:=Ah (HFIN.out _ _ hadd.symm hBn (HF8.out.trans hFn));obtain⟨m,hmm⟩:=ey x.s.ps.length;rw[hmm]at k6 HRUN HDN;clear hv hrun hBn hFn hmm hap hal hadd f0 f1 f2 f3 f5 g0 g1
      as_aux_lemma=>
       go_wp2_with (at_builtin;refine As _ rfl _ _ _ _ rfl _ _ rfl rfl _ _ HRUN.out ?_)
       go_end0
       exact HDN.out
     ·have q3:(kk==0)=false:=by simpa using hk0
      have hadd:=hal hk0;clear hap hal hk0;obtain⟨S5,hSd⟩:∃S5:Aj→Prop,S5=λW'=>W'.cell? ⟨B,5,Ae⟩=Af (Ad (Af ⟨gb,go',Ae⟩) N v.hc)∧W'.cell? ⟨gb,go'+id,Ae⟩=Af (Aa Ab hi)∧W'.cell? ⟨gb,go'+n,Ae⟩=Af (Aa Ab hn):=⟨_,rfl⟩;have HSO:Hid (∀W',S5 W'→W'.cell? ⟨B,5,Ae⟩=Af (Ad (Af ⟨gb,go',Ae⟩) N v.hc)∧W'.cell? ⟨gb,go'+id,Ae⟩=Af (Aa Ab hi)∧W'.cell? ⟨gb,go'+n,Ae⟩=Af (Aa Ab hn)):=Ah λW' h=>by subst hSd;exact h
      have hS0:S5 X1.drew:=by subst hSd;exact⟨f5,g0,g1⟩
      clear hSd f0 f1 f2 f3 f5 g0 g1;go_upto_region 17 with fail;refine Ao (S:=S5) Cm hS0 (λhS=>?_);have HF9:=Ah (HF8.out.trans (HB8.out.frm (Ag X1.heap.size X1).drew));have HB9:=Ah (HB8.out.below (Ag X1.heap.size X1).drew);obtain⟨X2,hX2⟩:=ez X1.drew;rw[←hX2]at hS HF9 HB9⊢;clear hX2;clear hS0 HF8 HB8;refine Ck 0 ?_;refine Ck 1 ?_;refine Ck 2 ?_;refine Ck 3 ?_;refine Ck 4 ?_;refine Ck 5 ?_;refine Ck 6 ?_;refine Ck 7 ?_;refine Ck 8 ?_;refine Ck 9 ?_;refine Ck 10 ?_;refine Ck 11 ?_;refine Ck 12 ?_;refine Ck 13 ?_;refine Ck 14 ?_;refine Ck 15 ?_;refine An Cm ?_ _;clear hS HSO;by_cases hh:hi<hn
      ·have q4:(hi:Int)<(hn:Int):=Ci;rw[if_pos hh]at hadd;obtain⟨A,c,hv,k7,A',c',w9,hrun,z7,c7,hBn,hFn⟩:=cI HB9.out HXB.out.2.1 (0,id,n);have HRUN:=Ah hrun;have HDN:=Ah (HFIN.out _ _ hadd.symm hBn (HF9.out.trans hFn));obtain⟨m,hmm⟩:=ey x.s.ls.length;rw[hmm]at k7 HRUN HDN;clear hv hrun hBn hFn hmm hadd hh
       as_aux_lemma=>
        go_wp2_with (at_builtin;refine As _ rfl _ _ _ _ rfl _ _ rfl rfl _ _ HRUN.out ?_)
        go_end0
        exact HDN.out
      ·have q4:¬(hi:Int)<(hn:Int):=Ci;rw[if_neg hh]at hadd;obtain⟨A,c,hv,k7,A',c',w9,hrun,z7,c7,hBn,hFn⟩:=cI HB9.out HXB.out.2.1 (0,n,id);have HRUN:=Ah hrun;have HDN:=Ah (HFIN.out _ _ hadd.symm hBn (HF9.out.trans hFn));obtain⟨m,hmm⟩:=ey x.s.ls.length;rw[hmm]at k7 HRUN HDN;clear hv hrun hBn hFn hmm hadd hh
       as_aux_lemma=>
        go_wp2_with (at_builtin;refine As _ rfl _ _ _ _ rfl _ _ rfl rfl _ _ HRUN.out ?_)
        go_end0
        exact HDN.out
  ·have q1:(ne != 0)=true:=by simpa using hne
   obtain⟨A,c,hv,k8,A',c',w6,hrun,z8,c8,hBn,hFn⟩:=At4 hB5 HXB.out.2.2 id;have HRUN:=Ah hrun;have HDN:=Ah (HFIN.out _ _ (HAE.out x.s hne).symm hBn (HF6.out.trans hFn));obtain⟨m,hmm⟩:=ey x.s.es.length;rw[hmm]at k8 HRUN HDN;clear hv hrun hBn hFn hB5 hmm hne
   as_aux_lemma=>
    go_wp2_with (at_builtin;refine As _ rfl _ _ _ _ rfl _ _ rfl rfl _ _ HRUN.out ?_)
    go_end0
    exact HDN.out
theorem Ax8 {O B:Nat} {F:List Nat} {fix:List Ak} {w w':Aj} {l1 l2:List SmB} {x:SmB} (h:Dn O B F fix w (l1++x::l2)) {r:List Nat} (ho:w'.ownsRow O 3 1 x.ve r.length (Di r)) (hg:w.grownBy w' x.ve.ownBlock):
  Dn O B F fix w' (l1++(⟨{x.s with es:=r},x.p,x.vp,x.vl,x.ve⟩:SmB)::l2)∧Frm O F w w':=by
 have hsm:=h.sms
 have hO:O≤w.heap.size:=by
  obtain⟨M,kv,_,h2,_,_,_,_,_,h8,_⟩:=h;have:=(Au.1 h2).1;omega
 have hok:=hsm.1 x Cn;have hnd:=Kd hsm;obtain⟨h0,h1,h2,h3,h4⟩:=hok;have hnd':=hnd;unfold SmB.blks at hnd';simp only[List.nodup_cons,Bp,Bl,Option.mem_toList,not_or]at hnd';obtain⟨⟨⟨np1,np2⟩,np3⟩,⟨-,-,n12⟩,-,n3⟩:=hnd';have hpl:x.p<w.heap.size:=(Au.1 h1).1;have hother:∀g,g<w.heap.size→x.ve.ownBlock≠Af g→w'.heap[g]? =w.heap[g]? :=λg hg0 hve=>hg.block g hg0 (Ne.symm hve)
 have hy:(⟨{x.s with es:=r},x.p,x.vp,x.vl,x.ve⟩:SmB).ok O w':=by
  refine⟨h0,(hother x.p hpl np3).trans h1,?_,?_,?_⟩
  ·exact Dr h2 λg hg=>hother g (h2.lt g hg).2 λe=>n3 g (.inl hg) g e rfl
  ·exact Dr h3 λg hg=>hother g (h3.lt g hg).2 λe=>n3 g (.inr hg) g e rfl
  ·exact ho
 have hr:=h.change (y:=⟨{x.s with es:=r},x.p,x.vp,x.vl,x.ve⟩) hy rfl rfl hnd (λg hg=> .inl hg) (λg hg0 hx=>hother g hg0 λe=>hx (by unfold SmB.blks;simp[e])) hg.size;exact⟨hr.1,(Ag O w).grown hg hO (λk hk=>(h4.lt k hk).1),hr.2⟩
theorem Ax9 {O B:Nat} {F:List Nat} {fix:List Ak} {w w':Aj} {l1 l2:List SmB} {x:SmB} (h:Dn O B F fix w (l1++x::l2)) {r:List (Nat×Nat×Nat)} (ho:w'.ownsRow O 176 3 x.vl r.length (Iu r)) (hg:w.grownBy w' x.vl.ownBlock):
  Dn O B F fix w' (l1++(⟨{x.s with ls:=r},x.p,x.vp,x.vl,x.ve⟩:SmB)::l2)∧Frm O F w w':=by
 have hsm:=h.sms
 have hO:O≤w.heap.size:=by
  obtain⟨M,kv,_,h2,_,_,_,_,_,h8,_⟩:=h;have:=(Au.1 h2).1;omega
 have hok:=hsm.1 x Cn;have hnd:=Kd hsm;obtain⟨h0,h1,h2,h3,h4⟩:=hok;have hnd':=hnd;unfold SmB.blks at hnd';simp only[List.nodup_cons,Bp,Bl,Option.mem_toList,not_or]at hnd';obtain⟨⟨⟨np1,np2⟩,np3⟩,⟨-,-,n12⟩,-,n3⟩:=hnd';have hpl:x.p<w.heap.size:=(Au.1 h1).1;have hother:∀g,g<w.heap.size→x.vl.ownBlock≠Af g→w'.heap[g]? =w.heap[g]? :=λg hg0 hve=>hg.block g hg0 (Ne.symm hve)
 have hy:(⟨{x.s with ls:=r},x.p,x.vp,x.vl,x.ve⟩:SmB).ok O w':=by
  refine⟨h0,(hother x.p hpl np2).trans h1,?_,?_,?_⟩
  ·exact Dr h2 λg hg=>hother g (h2.lt g hg).2 λe=>n12 g hg g e rfl
  ·exact ho
  ·exact Dr h4 λg hg=>hother g (h4.lt g hg).2 λe=>n3 g (.inr e) g hg rfl
 have hr:=h.change (y:=⟨{x.s with ls:=r},x.p,x.vp,x.vl,x.ve⟩) hy rfl rfl hnd (λg hg=> .inl hg) (λg hg0 hx=>hother g hg0 λe=>hx (by unfold SmB.blks;simp[e])) hg.size;exact⟨hr.1,(Ag O w).grown hg hO (λk hk=>(h3.lt k hk).1),hr.2⟩
theorem Ay0 {O B:Nat} {F:List Nat} {fix:List Ak} {w w':Aj} {l1 l2:List SmB} {x:SmB} (h:Dn O B F fix w (l1++x::l2)) {r:List (Nat×Nat)} (ho:w'.ownsRow O 297 2 x.vp r.length (Kv r)) (hg:w.grownBy w' x.vp.ownBlock):
  Dn O B F fix w' (l1++(⟨{x.s with ps:=r},x.p,x.vp,x.vl,x.ve⟩:SmB)::l2)∧Frm O F w w':=by
 have hsm:=h.sms
 have hO:O≤w.heap.size:=by
  obtain⟨M,kv,_,h2,_,_,_,_,_,h8,_⟩:=h;have:=(Au.1 h2).1;omega
 have hok:=hsm.1 x Cn;have hnd:=Kd hsm;obtain⟨h0,h1,h2,h3,h4⟩:=hok;have hnd':=hnd;unfold SmB.blks at hnd';simp only[List.nodup_cons,Bp,Bl,Option.mem_toList,not_or]at hnd';obtain⟨⟨⟨np1,np2⟩,np3⟩,⟨-,-,n12⟩,-,n3⟩:=hnd';have hpl:x.p<w.heap.size:=(Au.1 h1).1;have hother:∀g,g<w.heap.size→x.vp.ownBlock≠Af g→w'.heap[g]? =w.heap[g]? :=λg hg0 hve=>hg.block g hg0 (Ne.symm hve)
 have hy:(⟨{x.s with ps:=r},x.p,x.vp,x.vl,x.ve⟩:SmB).ok O w':=by
  refine⟨h0,(hother x.p hpl np1).trans h1,?_,?_,?_⟩
  ·exact ho
  ·exact Dr h3 λg hg=>hother g (h3.lt g hg).2 λe=>n12 g e g hg rfl
  ·exact Dr h4 λg hg=>hother g (h4.lt g hg).2 λe=>n3 g (.inl e) g hg rfl
 have hr:=h.change (y:=⟨{x.s with ps:=r},x.p,x.vp,x.vl,x.ve⟩) hy rfl rfl hnd (λg hg=> .inl hg) (λg hg0 hx=>hother g hg0 λe=>hx (by unfold SmB.blks;simp[e])) hg.size;exact⟨hr.1,(Ag O w).grown hg hO (λk hk=>(h2.lt k hk).1),hr.2⟩
end Go.Proofs.YthpcfeifmdbhnaaGreatDoor
namespace Go.Proofs.YthpcfeifmdbhnaaGreatDoor
open Go.RowKit Go.Sort
theorem eD {α:Type} {P:α→Prop} (l:List α) (h:∀x∈l,P x):(l.attach.map λx=>(⟨x.1,h x.1 x.2⟩:{x:α//P x})).map (·.1)=l:=by
 rw[List.map_map]
 conv=>rhs;rw[←List.attach_map_subtype_val l]
 rfl
theorem Zk {α:Type} {P:α→Prop} (f:α→List Ak) (l:List {x:α//P x}):(l.flatMap λx=>f x.1)=(l.map (·.1)).flatMap f:=by
 rw[List.flatMap_map]
def wD {α:Type} (enc:List α→List Ak) (l:List α) (O e k m:Nat) (v:Ak) (w:Aj) (en:Ending) (w':Aj):Prop:=
 en= .returned (.tuple #[])∧∃r:List α,r.Perm l∧w'.ownsRow O e k v m (enc r)∧w.grownBy w' v.ownBlock
theorem oN (Pb Bb:Nat) (hs:List Nat) (hn:0<hs.length) {O m c:Nat} {A:Option Addr} (l:List (Nat×Nat)) (hl:∀p∈l,p.1<hs.length) (w:Aj) (h:w.ownsRow O 297 2 (Ad A m c) m (Kv l)) (hm:m≤1000000)
  (hg:∀W',w.grownBy W' (Value.slice A m c).ownBlock→jZ Pb Bb hs W'):
  Al Tryz.prog 161 #[Ad A m c,.func (.func 162) #[] #[.pointer (Af ⟨Pb,0,Ae⟩)]] w (wD Kv l O 297 2 m (Ad A m c) w):=by
 have hv:=eD l hl;obtain⟨l',hl'⟩:∃z:List (PsE hs.length),(l.attach.map λx=>(⟨x.1,hl x.1 x.2⟩:PsE hs.length))=z:=⟨_,rfl⟩;rw[hl']at hv;have e:∀z:List (PsE hs.length),z.flatMap psV=Kv (z.map (·.1)):=λz=>Zk Qy z;refine(oM Pb Bb hs hn l' w (by rw[e,hv];exact h) hm hg).mono ?_;rintro en w' ⟨rfl,r,hp,-,ho,hgr⟩;rw[e]at ho;exact⟨rfl,r.map (·.1),hv▸hp.map _,ho,hgr⟩
theorem oK (Pb Bb:Nat) (hs:List Nat) (hn:0<hs.length) {O m c:Nat} {A:Option Addr} (l:List (Nat×Nat×Nat)) (hl:∀p∈l,p.2.1<hs.length) (w:Aj) (h:w.ownsRow O 176 3 (Ad A m c) m (Iu l)) (hm:m≤1000000)
  (hg:∀W',w.grownBy W' (Value.slice A m c).ownBlock→jZ Pb Bb hs W'):
  Al Tryz.prog 163 #[Ad A m c,.func (.func 164) #[] #[.pointer (Af ⟨Pb,0,Ae⟩)]] w (wD Iu l O 176 3 m (Ad A m c) w):=by
 have hv:=eD l hl;obtain⟨l',hl'⟩:∃z:List (LpE hs.length),(l.attach.map λx=>(⟨x.1,hl x.1 x.2⟩:LpE hs.length))=z:=⟨_,rfl⟩;rw[hl']at hv;have e:∀z:List (LpE hs.length),z.flatMap lpV=Iu (z.map (·.1)):=λz=>Zk Qv z;refine(oJ Pb Bb hs hn l' w (by rw[e,hv];exact h) hm hg).mono ?_;rintro en w' ⟨rfl,r,hp,-,ho,hgr⟩;rw[e]at ho;exact⟨rfl,r.map (·.1),hv▸hp.map _,ho,hgr⟩
theorem Ag8 {O B:Nat} {F:List Nat} {fix:List Ak} {w w':Aj} {l1 l2:List SmB} {x:SmB} (h:Dn O B F fix w (l1++x::l2)) {o:Option Nat} (ho:∀g,o=Af g→g∈x.blks) (hg:w.grownBy w' o):Frm O F w w'∧w'.heap[B]? =w.heap[B]? :=by
 have hsm:=h.sms;have hlt:=(hsm.1 x Cn).lt;obtain⟨M,kv,h1,h2,h3,h4,h5,h6,h7,h8,h9,h10⟩:=h;have hB:=(Au.1 h2).1
 have hmem:∀g∈x.blks,g∈Cz B M kv (l1++x::l2):=λg hg=>by
  unfold Cz;simp only[Bk,Bl,Bi,Bf];exact .inr (.inr (.inr (.inr (.inl hg))))
 refine⟨⟨(Ag O w).grown hg Ci λk hk=>(hlt k (ho k hk)).1,λg hgF=>hg.block g (h10 g hgF).1 λe=>(h10 g hgF).2 (hmem g (ho g e.symm))⟩,hg.block B hB λe=>?_⟩;have hx:=ho B e.symm;unfold Cz at h7;simp only[List.nodup_cons,Bk,Bl,Bi,Bf,not_or]at h7;exact h7.1.2.2.2.1 hx
end Go.Proofs.YthpcfeifmdbhnaaGreatDoor
namespace Go.Proofs.YthpcfeifmdbhnaaGreatDoor
structure SmP (s t:Sm):Prop where
 a:s.a=t.a
 b:s.b=t.b
 ps:s.ps.Perm t.ps
 ls:s.ls.Perm t.ls
 es:s.es.Perm t.es
theorem SmP.refl (s:Sm):SmP s s:=⟨rfl,rfl,.refl _,.refl _,.refl _⟩
theorem SmP.trans {s t u:Sm} (h:SmP s t) (k:SmP t u):SmP s u:=⟨h.a.trans k.a,h.b.trans k.b,h.ps.trans k.ps,h.ls.trans k.ls,h.es.trans k.es⟩
def wF (l r:List Sm):Prop:=∃z:List (Sm×Sm),l.Perm (z.map (·.1))∧r=z.map (·.2)∧∀p∈z,SmP p.1 p.2
theorem eI {P:Sm→Bool} (hP:∀s t,SmP s t→P s=P t) {l r:List Sm} (h:wF l r):l.any P=r.any P:=by
 obtain⟨z,h1,rfl,h2⟩:=h;rw[h1.any_eq,List.any_map,List.any_map];clear h1
 induction z with
 |nil=>rfl
 |cons p z ih=>
  rw[List.any_cons,List.any_cons,ih λq hq=>h2 q (List.mem_cons_of_mem _ hq)];simp only[Function.comp];rw[hP _ _ (h2 p Cn)]
theorem Rx {l:List Nat} {s t:Sm} (h:SmP s t) (side:Nat):(Dp l s side).Perm (Dp l t side):=h.ps.map _
theorem Ye {l:List Nat} {s t:Sm} (h:SmP s t) (side:Nat):(aV l s side).Perm (aV l t side):=(h.ls.filter _).map _
theorem Yf {l:List Nat} {s t:Sm} (h:SmP s t) (side:Nat):(Nj l s side).Perm (Nj l t side):=(Ye h side).map _
theorem Xn {l:List Nat} {s t:Sm} (h:SmP s t) (side:Nat):Jq l s side=Jq l t side:=by
 unfold Jq;rw[(Rx h side).all_eq,(Ye h side).all_eq]
theorem Vk {t t':List Int} {l l':List (Int×Int)} (ht:t.Perm t') (hl:l.Perm l'):Ih t l=Ih t' l':=by
 unfold Ih;rw[hl.any_eq]
 congr 1
 funext x
 rw[ht.any_eq,hl.any_eq]
theorem fD {l m:List Nat} {s t:Sm} (h:SmP s t):La (Dp l s 0) (Dp m s 1)=La (Dp l t 0) (Dp m t 1):=by
 have e:∀u:Sm,(Dp l u 0).zip (Dp m u 1)=u.ps.map λp=>(Gh l (dS 0 p),Gh m (dS 1 p)):=λu=>by
  unfold Dp;rw[List.zip_map']
 have hp:((Dp l s 0).zip (Dp m s 1)).Perm ((Dp l t 0).zip (Dp m t 1)):=by rw[e,e];exact h.ps.map _
 unfold La;rw[hp.any_eq]
 congr 1
 funext x
 rw[hp.any_eq]
theorem fF (l:List Stk) (s t:Sm) (h:SmP s t):Fh l s=Fh l t:=by
 unfold Fh;rw[h.a,h.b,Xn h,Xn h,h.ls.any_eq,Vk (Rx h 0) (Yf h 0),Vk (Rx h 1) (Yf h 1),fD h]
theorem oZ {f:Nat×Nat×Nat→Bool} (s t:Sm) (h:SmP s t):s.ls.any f=t.ls.any f:=h.ls.any_eq
def aU (k:Cl×Cl) (l:List Sm):Sm:=(l.find? λs=>decide (k=(s.a,s.b))).getD (Sm.none k.1 k.2)
theorem Sy {l:List Sm} {s:Sm} (hn:(l.map λs=>(s.a,s.b)).Nodup) (h:s∈l):aU (s.a,s.b) l=s:=by
 induction l with
 |nil=>simp at h
 |cons t r ih=>
  unfold aU at ih⊢;rw[List.map_cons,List.nodup_cons]at hn;rcases Bk.1 h with rfl|h
  ·simp
  ·have hne:¬(s.a,s.b)=(t.a,t.b):=λe=>hn.1 (by rw[←e];exact List.mem_map.2 ⟨s,h,rfl⟩);rw[List.find?_cons];simp only[hne,decide_false];exact ih hn.2 h
theorem tO {l:List Sm} (hn:(l.map λs=>(s.a,s.b)).Nodup):((l.map λs=>(s.a,s.b)).map λk=>aU k l)=l:=by
 rw[List.map_map]
 conv=>rhs;rw[←List.map_id l]
 exact List.map_congr_left λs hs=>Sy hn hs
end Go.Proofs.YthpcfeifmdbhnaaGreatDoor
namespace Go.Proofs.YthpcfeifmdbhnaaGreatDoor
open Go.RowKit
def Jj (w:Aj) (O:Nat) (t:Sm) (A1 A2 A3:Option Addr):Prop:=
 (AOk A1 t.ps.length t.ps.length∧En w O 297 2 A1 t.ps.length (Kv t.ps))∧(AOk A2 t.ls.length t.ls.length∧En w O 176 3 A2 t.ls.length (Iu t.ls))∧AOk A3 t.es.length t.es.length∧En w O 3 1 A3 t.es.length (Di t.es)
def Sm.val (t:Sm) (A1 A2 A3:Option Addr):Ak:= .agg (t.cells (Ad A1 t.ps.length t.ps.length) (Ad A2 t.ls.length t.ls.length) (Ad A3 t.es.length t.es.length))
def wE (O B:Nat) (F:List Nat) (fix:List Ak) (l1 l2:List SmB) (x:SmB) (w:Aj) (e:Ending) (w':Aj):Prop:=
 ∃(y:SmB) (A1 A2 A3:Option Addr),e= .returned (y.s.val A1 A2 A3)∧SmP x.s y.s∧y.p=x.p∧y.key=x.key∧Dn O B F fix w' (l1++y::l2)∧Frm O F w w'∧Jj w' w.heap.size y.s A1 A2 A3∧y.blks=x.blks∧∀g,g<w.heap.size→g∉x.blks→w'.heap[g]? =w.heap[g]?
theorem Na {O B:Nat} {F:List Nat} {fix:List Ak} {w:Aj} {l1 l2:List SmB} {x:SmB} (h:Dn O B F fix w (l1++x::l2)):w.heap[x.p]? =Af (.cells (x.s.cells x.vp x.vl x.ve) 173 (0,0)):=(h.sms.1 x Cn).2.1
theorem Dn.more {O B P:Nat} {F:List Nat} {fix:List Ak} {w w':Aj} {l:List SmB} (h:Dn O B F fix w l) (hb:Below w.heap.size w w') (h1:w.heap.size≤P) (h2:P<w'.heap.size):Dn O B (P::F) fix w' l:=by
 obtain⟨M,kv,a1,a2,a3,a4,a5,a6,a7,a8,a9,a10⟩:=h;have hlt:=Ud a2 a3 a4 a5 a8 a9;have hB:Dn O B F fix w l:=⟨M,kv,a1,a2,a3,a4,a5,a6,a7,a8,a9,a10⟩
 exact⟨M,kv,a1,kept hb a2 (Au.1 a2).1,a3.below hb a3.lt,a4.same λg hg=>hb.block g (a4.lt g hg).2,a5.same λg hg=>hb.block g (a5.lt g hg).2,a6,a7,a8,a9,λg hg=>by
  rcases Bk.1 hg with rfl|hg
  ·exact⟨h2,λh=>by have:=(hlt g h).2;omega⟩
  ·exact⟨Bq (a10 g hg).1 hb.size,(a10 g hg).2⟩⟩
theorem Dn.poke {O B P:Nat} {F:List Nat} {fix:List Ak} {w w':Aj} {l:List SmB} (h:Dn O B (P::F) fix w l) (hs:∀g,g<w.heap.size→g≠P→w'.heap[g]? =w.heap[g]?) (hz:w.heap.size≤w'.heap.size):Dn O B F fix w' l:=by
 obtain⟨M,kv,a1,a2,a3,a4,a5,a6,a7,a8,a9,a10⟩:=h;have hlt:=Ud a2 a3 a4 a5 a8 a9;have hP:=(a10 P Cn).2;have hk:∀g∈Cz B M kv l,w'.heap[g]? =w.heap[g]? :=λg hg=>hs g (hlt g hg).2 λe=>hP (e▸hg);refine⟨M,kv,a1,(hk B (by simp[Cz])).trans a2,a3.same (hk M (by simp[Cz])),a4.same λg hg=>hk g (by simp[Cz,hg]),a5.same λg hg=>hk g ?_,a6,a7,a8,a9,λg hg=>⟨Bq (a10 g (by simp[hg])).1 hz,(a10 g (by simp[hg])).2⟩⟩;unfold Cz;simp only[Bk,Bl];exact .inr (.inr (.inr hg))
theorem Sa.more {O P:Nat} {F:List Nat} {w:Aj} {k:Lk} {N:Nat} {v:LkV} (h:Sa O F w k N v):Sa O (P::F) w k N v:=λw' hf=>h w' ⟨hf.1,λg hg=>hf.2 g (List.mem_cons_of_mem _ hg)⟩
theorem oO (O B zn:Nat) (F:List Nat) (k:Lk) (v:LkV) (l1 l2:List SmB) (x:SmB) (w:Aj) (hk:kA k zn) (hm:Sa O F w k zn v) (h:Dn O B F (v.fix k zn) w (l1++x::l2)) (h0:0<zn) (hps:∀p∈x.s.ps,p.1<zn) (hls:∀p∈x.s.ls,p.2.1<zn)
  (hx:x.s.ps.length≤1000000∧x.s.ls.length≤1000000∧x.s.es.length≤1000000):
  Al Tryz.prog 123 #[.pointer (Af ⟨B,0,Ae⟩),x.ptr] w (wE O B F (v.fix k zn) l1 l2 x w):=by
 have HM:=Ah hm;have HB:=Ah h;have HH:=Ah (show 0<k.hs.length by rw[hk.hs];exact h0);have HPS:=Ah (show∀p∈x.s.ps,p.1<k.hs.length by rw[hk.hs];exact hps);have HLS:=Ah (show∀p∈x.s.ls,p.2.1<k.hs.length by rw[hk.hs];exact hls);have HX:=Ah hx;have HNS:=Ah hk.hs;have H:=((Bx.start w).new #[.pointer (Af ⟨B,0,Ae⟩)] 232 rfl).new #[Aa Ab 0,Aa Ab 0,Aa Ac 0,Aa Ab 0,Aa Ab 0,Aa Ac 0,Ad Ae 0 0,Ad Ae 0 0,Ad Ae 0 0] 173 (N:=w.heap.size+1) Cn;unfold SmB.ptr;clear hm h hk h0 hps hls hx;go_enter Tryz.func123,Tryz.ntmps123;go_upto_region 1 with fail;obtain⟨N,hN⟩:=ez w.heap.size;rw[←hN]at H⊢;have HNN:=Ah hN;clear hN;obtain⟨P,hP⟩:=ey (N+1);rw[hP]at H⊢;obtain⟨W0,hW0⟩:=ez ((w.alloc (.cells #[.pointer (Af ⟨B,0,Ae⟩)] 232)).alloc (.cells #[Aa Ab 0,Aa Ab 0,Aa Ac 0,Aa Ab 0,Aa Ab 0,Aa Ac 0,Ad Ae 0 0,Ad Ae 0 0,Ad Ae 0 0] 173));rw[←hW0]at H⊢;clear hW0;have hNx:∀g∈x.blks,g<w.heap.size:=λg hg=>((HB.out.sms.1 x Cn).lt g hg).2;have hNw:=H.lo 0 _ _ _ rfl;have hPw:=H.lo 1 _ _ _ rfl;have HM2:=Ah ((HM.out.frm (HB.out.frm H.below)).more (P:=P))
 have HG:Hid (∀(W1 W':Aj) (y:SmB) (o:Option Nat),Dn O B (P::F) (v.fix k zn) W1 (l1++y::l2)→y.blks=x.blks→Frm O (P::F) W0 W1→(W1.heap[N]? =Af (.cells #[.pointer (Af ⟨B,0,Ae⟩)] 232 (0,0))∧W1.heap[P]? =Af (.cells #[Aa Ab 0,Aa Ab 0,Aa Ac 0,Aa Ab 0,Aa Ab 0,Aa Ac 0,Ad Ae 0 0,Ad Ae 0 0,Ad Ae 0 0] 173 (0,0)))→
   (∀g,o=Af g→g∈x.blks)→W1.grownBy W' o→jZ N B k.hs W'∧(W'.heap[N]? =Af (.cells #[.pointer (Af ⟨B,0,Ae⟩)] 232 (0,0))∧W'.heap[P]? =Af (.cells #[Aa Ab 0,Aa Ab 0,Aa Ac 0,Aa Ab 0,Aa Ab 0,Aa Ac 0,Ad Ae 0 0,Ad Ae 0 0,Ad Ae 0 0] 173 (0,0)))):=Ah (by
  intro W1 W' y o hB hyb hF hh ho hg;obtain⟨hf,hbB⟩:=Ag8 hB (o:=o) (λg e=>by rw[hyb];exact ho g e) hg
  have hoN:∀q,w.heap.size≤q→Af q≠o:=λq hq e=>by
   have:=hNx q (ho q e.symm);omega
  have h1:=(hg.block N (Au.1 hh.1).1 (hoN N hNw)).trans hh.1;have h2:=(hg.block P (Au.1 hh.2).1 (hoN P hPw)).trans hh.2;refine⟨⟨gZ h1,v.hA,v.hc,?_,?_⟩,h1,h2⟩
  ·obtain⟨-,-,-,-,-,f5⟩:=Kk hB;rw[HNS.out];unfold World.cell? at f5⊢;rw[hbB];exact f5
  ·rw[HNS.out];exact(HM2.out W' (hF.trans hf)).2.2.2.2.1)
 have hh0:=Ah (⟨H.blk 0 _ _ _ rfl,H.blk 1 _ _ _ rfl⟩:W0.heap[N]? =_∧W0.heap[P]? =_);have HFW:=Ah (HB.out.frm H.below);have hF0:=Ah (Frm.refl O (P::F) W0);have hB0:=Ah (HB.out.more H.below hPw (H.lt 1 rfl));have hW0:=H.below.size;have HO0:Hid (∀g,g<w.heap.size→g∉x.blks→W0.heap[g]? =w.heap[g]?):=Ah λg hg _=>H.below.block g hg;have HWZ:=Ah hW0;obtain⟨A1,c1,hv1,ok1,hc1,hm1⟩:=Ja (hB0.out.sms.1 x Cn).2.2.1;obtain⟨A2,c2,hv2,ok2,hc2,hm2⟩:=Ja (hB0.out.sms.1 x Cn).2.2.2.1;obtain⟨A3,c3,hv3,ok3,hc3,hm3⟩:=Ja (hB0.out.sms.1 x Cn).2.2.2.2;have HV1:=Ah hv1;have HV2:=Ah hv2;have HV3:=Ah hv3;have HPW:=Ah hPw;clear hP hNw hPw H hv1 hv2 hv3;have hb9:=Na hB0.out;have hc6:W0.cell? ⟨x.p,6,Ae⟩=Af (Ad A1 x.s.ps.length c1):=by rw[By W0 x.p 6 _ _ (0,0) hb9,←HV1.out];rfl
 have ho1:=(hB0.out.sms.1 x Cn).2.2.1;rw[HV1.out]at ho1;have HS1:=Ah (oN N B k.hs HH.out x.s.ps HPS.out W0 ho1 HX.out.1 (λW' hg=>(HG.out W0 W' x _ hB0.out rfl hF0.out hh0.out (λg hg=>by rw[←HV1.out]at hg;unfold SmB.blks;simp[hg]) hg).1));obtain⟨n1,hn1⟩:=ey x.s.ps.length;have hq1:n1≤1000000:=by rw[←hn1];exact HX.out.1
 rw[hn1]at hc6 HS1 HV1 ok1 hc1;clear hb9 ho1;go_wp2_with fail;refine HS1.out.mono ?_;rintro ee w1 ⟨rfl,r1,hp1,ho1,hg1⟩;have hl1:r1.length=n1:=hp1.length_eq.trans hn1;obtain⟨hB1,hF1⟩:=Ay0 hB0.out (r:=r1) (by rw[HV1.out,hl1];exact ho1) (by rw[HV1.out];exact hg1);have hh1:=Ah (HG.out W0 w1 x _ hB0.out rfl hF0.out hh0.out (λg hg=>by rw[←HV1.out]at hg;unfold SmB.blks;simp[hg]) hg1).2;have hF1:=Ah (hF0.out.trans hF1);have HO1:Hid (∀g,g<w.heap.size→g∉x.blks→w1.heap[g]? =w.heap[g]?):=Ah λg hg hx=>(hg1.block g (Bq hg HWZ.out) (λe=>hx (by rw[←HV1.out]at e;unfold SmB.blks;simp[←e]))).trans (HO0.out g hg hx);have hB1:=Ah hB1;have HP1:=Ah hp1;have HL1:=Ah hl1;clear hc6 HS1 ho1 hg1 hp1 hl1 hn1 hB0 hF0 hh0 HPS;have hb9:=Na hB1.out;have hc7:w1.cell? ⟨x.p,7,Ae⟩=Af (Ad A2 x.s.ls.length c2):=by rw[By w1 x.p 7 _ _ (0,0) hb9,←HV2.out];rfl
 have ho1:=(hB1.out.sms.1 (⟨{x.s with ps:=r1},x.p,x.vp,x.vl,x.ve⟩:SmB) Cn).2.2.2.1;dsimp only at ho1;rw[HV2.out]at ho1;have HS1:=Ah (oK N B k.hs HH.out x.s.ls HLS.out w1 ho1 HX.out.2.1 (λW' hg=>(HG.out w1 W' _ _ hB1.out rfl hF1.out hh1.out (λg hg=>by rw[←HV2.out]at hg;unfold SmB.blks;simp[hg]) hg).1));obtain⟨n2,hn2⟩:=ey x.s.ls.length;have hq2:n2≤1000000:=by rw[←hn2];exact HX.out.2.1
 rw[hn2]at hc7 HS1 HV2 ok2 hc2;clear hb9 ho1;go_wp2_with fail;refine HS1.out.mono ?_;rintro ee w2 ⟨rfl,r2,hp2,ho1,hg1⟩;have hl2:r2.length=n2:=hp2.length_eq.trans hn2;obtain⟨hB2,hF2⟩:=Ax9 hB1.out (r:=r2) (by dsimp only;rw[HV2.out,hl2];exact ho1) (by dsimp only;rw[HV2.out];exact hg1);have hh2:=Ah (HG.out w1 w2 _ _ hB1.out rfl hF1.out hh1.out (λg hg=>by rw[←HV2.out]at hg;unfold SmB.blks;simp[hg]) hg1).2;have hF2:=Ah (hF1.out.trans hF2);have HO2:Hid (∀g,g<w.heap.size→g∉x.blks→w2.heap[g]? =w.heap[g]?):=Ah λg hg hx=>(hg1.block g (by have:=hF1.out.1.size;have:=HWZ.out;omega) (λe=>hx (by rw[←HV2.out]at e;unfold SmB.blks;simp[←e]))).trans (HO1.out g hg hx);have hB2:=Ah hB2;have HP2:=Ah hp2;have HL2:=Ah hl2;clear hc7 HS1 ho1 hg1 hp2 hl2 hn2 hB1 hF1 hh1 HLS;dsimp only at hB2;have hb9:=Na hB2.out;have hc8:w2.cell? ⟨x.p,8,Ae⟩=Af (Ad A3 x.s.es.length c3):=by rw[By w2 x.p 8 _ _ (0,0) hb9,←HV3.out];rfl
 have ho1:=(hB2.out.sms.1 (⟨{x.s with ps:=r1,ls:=r2},x.p,x.vp,x.vl,x.ve⟩:SmB) Cn).2.2.2.2;dsimp only at ho1;rw[HV3.out]at ho1;have HS1:=Ah (vB x.s.es w2 ho1 HX.out.2.2);obtain⟨n3,hn3⟩:=ey x.s.es.length;have hq3:n3≤1000000:=by rw[←hn3];exact HX.out.2.2
 rw[hn3]at hc8 HS1 HV3 ok3 hc3;clear hb9 ho1;go_wp2_with fail;refine HS1.out.mono ?_;rintro ee w3 ⟨rfl,r3,hp3,ho1,hg1⟩;have hl3:r3.length=n3:=hp3.length_eq.trans hn3;obtain⟨hB3,hF3⟩:=Ax8 hB2.out (r:=r3) (by dsimp only;rw[HV3.out,hl3];exact ho1) (by dsimp only;rw[HV3.out];exact hg1);have hh3:=Ah (HG.out w2 w3 _ _ hB2.out rfl hF2.out hh2.out (λg hg=>by rw[←HV3.out]at hg;unfold SmB.blks;simp[hg]) hg1).2;have hF3:=Ah (hF2.out.trans hF3);have HO3:Hid (∀g,g<w.heap.size→g∉x.blks→w3.heap[g]? =w.heap[g]?):=Ah λg hg hx=>(hg1.block g (by have:=hF2.out.1.size;have:=HWZ.out;omega) (λe=>hx (by rw[←HV3.out]at e;unfold SmB.blks;simp[←e]))).trans (HO2.out g hg hx);have hB3:=Ah hB3;dsimp only at hB3;have HP3:=Ah hp3;have HL3:=Ah hl3;clear hc8 HS1 ho1 hg1 hp3 hl3 hn3 hB2 hF2 hh2 HG HH HNS HM HM2 HX;have hb9:=Na hB3.out;have hok3:=hB3.out.sms.1 (⟨{x.s with ps:=r1,ls:=r2,es:=r3},x.p,x.vp,x.vl,x.ve⟩:SmB) Cn;obtain⟨-,-,o1,o2,o3⟩:=hok3;dsimp only at o1 o2 o3;rw[HV1.out,HL1.out]at o1;rw[HV2.out,HL2.out]at o2;rw[HV3.out,HL3.out]at o3;have HRD1:Hid (∀W',Below w3.heap.size w3 W'→Rd W' A1 2 n1 (Kv r1)):=Ah λW' h=>(Rd.of_own o1).below h;have HRD2:Hid (∀W',Below w3.heap.size w3 W'→Rd W' A2 3 n2 (Iu r2)):=Ah λW' h=>(Rd.of_own o2).below h;have HRD3:Hid (∀W',Below w3.heap.size w3 W'→Rd W' A3 1 n3 (Di r3)):=Ah λW' h=>(Rd.of_own o3).below h
 have HON1:Hid (∀u∈Kv r1,u.oneCell'=true):=Ah (by
  intro u hu;obtain⟨p,-,hp⟩:=List.mem_flatMap.1 hu;simp[Qy]at hp;rcases hp with rfl|rfl<;>rfl)
 have HON2:Hid (∀u∈Iu r2,u.oneCell'=true):=Ah (by
  intro u hu;obtain⟨p,-,hp⟩:=List.mem_flatMap.1 hu;simp[Qv]at hp;rcases hp with rfl|rfl|rfl<;>rfl)
 have HON3:Hid (∀u∈Di r3,u.oneCell'=true):=Ah (Sk r3);have hcc:=λj=>By w3 x.p j _ _ (0,0) hb9;obtain⟨⟨s0,s1,s2⟩,hsa⟩:=ey x.s.a;obtain⟨⟨t0,t1,t2⟩,hsb⟩:=ey x.s.b
 obtain⟨S,hSd⟩:∃S:Aj→Prop,S=λW'=>(W'.cell? ⟨x.p,0,Ae⟩=Af (Aa Ab s0)∧W'.cell? ⟨x.p,1,Ae⟩=Af (Aa Ab s1)∧W'.cell? ⟨x.p,2,Ae⟩=Af (Aa Ac s2))∧(W'.cell? ⟨x.p,3,Ae⟩=Af (Aa Ab t0)∧W'.cell? ⟨x.p,4,Ae⟩=Af (Aa Ab t1)∧W'.cell? ⟨x.p,5,Ae⟩=Af (Aa Ac t2))∧
  W'.cell? ⟨x.p,6,Ae⟩=Af (Ad A1 n1 c1)∧W'.cell? ⟨x.p,7,Ae⟩=Af (Ad A2 n2 c2)∧W'.cell? ⟨x.p,8,Ae⟩=Af (Ad A3 n3 c3):=⟨_,rfl⟩
 have HSO:Hid (∀W',S W'→(W'.cell? ⟨x.p,0,Ae⟩=Af (Aa Ab s0)∧W'.cell? ⟨x.p,1,Ae⟩=Af (Aa Ab s1)∧W'.cell? ⟨x.p,2,Ae⟩=Af (Aa Ac s2))∧(W'.cell? ⟨x.p,3,Ae⟩=Af (Aa Ab t0)∧W'.cell? ⟨x.p,4,Ae⟩=Af (Aa Ab t1)∧W'.cell? ⟨x.p,5,Ae⟩=Af (Aa Ac t2))∧
  W'.cell? ⟨x.p,6,Ae⟩=Af (Ad A1 n1 c1)∧W'.cell? ⟨x.p,7,Ae⟩=Af (Ad A2 n2 c2)∧W'.cell? ⟨x.p,8,Ae⟩=Af (Ad A3 n3 c3)):=Ah λW' h=>by subst hSd;exact h
 have HSA:Hid (∀W',Below w3.heap.size w3 W'→S W'):=Ah λW' h=>by
  subst hSd;refine⟨⟨Cj h ?_,Cj h ?_,Cj h ?_⟩,⟨Cj h ?_,Cj h ?_,Cj h ?_⟩,Cj h ?_,Cj h ?_,Cj h ?_⟩
  ·rw[hcc 0];simp[Sm.cells,hsa]
  ·rw[hcc 1];simp[Sm.cells,hsa]
  ·rw[hcc 2];simp[Sm.cells,hsa]
  ·rw[hcc 3];simp[Sm.cells,hsb]
  ·rw[hcc 4];simp[Sm.cells,hsb]
  ·rw[hcc 5];simp[Sm.cells,hsb]
  ·rw[hcc 6];simp[Sm.cells,HV1.out]
  ·rw[hcc 7];simp[Sm.cells,HV2.out]
  ·rw[hcc 8];simp[Sm.cells,HV3.out]
 have HSA1:=Ah hsa;have HSB1:=Ah hsb;clear hb9 hcc hsa hsb o1 o2 o3;go_upto_region 4 with fail;refine Ao (S:=S) Cm (HSA.out _ (Ag _ _).drew) (λhS=>?_);have hb:Below w3.heap.size w3 w3.drew:=(Ag _ _).drew;obtain⟨X0,hX0⟩:=ez w3.drew;rw[←hX0]at hb hS⊢;clear hX0;refine Ck 0 ?_;refine Ck 1 ?_;refine Ck 2 ?_;refine Ck 3 ?_;refine Ck 4 ?_;refine Ck 5 ?_;refine Ck 6 ?_;refine Ck 7 ?_;refine Ck 8 ?_;refine Ck 9 ?_;refine Ck 10 ?_;refine Ck 11 ?_;refine Ck 14 ?_;refine Ck 15 ?_;refine Ck 16 ?_;refine Ck 17 ?_;refine Ck 20 ?_;refine Ck 21 ?_;refine Ck 22 ?_;refine Ck 23 ?_;refine rdy 12 (λK hK=>?_);go_simp;refine(sH A1 n1 c1 (Kv r1) _ ok1 (HRD1.out _ hb) (HON1.out) hq1).mono ?_;rintro ee Y ⟨vv,rfl,hown,hbm⟩;obtain⟨a1,k1,rfl,hok1,hle1,hmx1⟩:=Ja hown;have hrow1:=En.of_own hown;have hsz:=hb.size;have hrow1:=hrow1.base hsz;have hb:=hb.trans (hbm.mono hb.size);refine hK.out _ _ (HSA.out _ hb) (λhS=>?_);clear hK K hbm hown hsz;refine rdy 13 (λK hK=>?_);go_simp;refine(xE _ _ _ _ hle1 hmx1).mono ?_;rintro ee Z ⟨rfl,hbm⟩;have hrow1:=hrow1.below hbm;have hok1:=hok1.clip;have hb:=hb.trans (hbm.mono hb.size);refine hK.out _ _ (HSA.out _ hb) (λhS=>?_);clear hK K hbm;obtain⟨X1,hX1⟩:=ez Z;rw[←hX1]at hb hS hrow1⊢;clear hX1;refine rdy 18 (λK hK=>?_);go_simp;refine(sG A2 n2 c2 (Iu r2) _ ok2 (HRD2.out _ hb) (HON2.out) hq2).mono ?_;rintro ee Y ⟨vv,rfl,hown,hbm⟩;obtain⟨a2,k2,rfl,hok2,hle2,hmx2⟩:=Ja hown;have hrow2:=En.of_own hown;have hsz:=hb.size;have hrow2:=hrow2.base hsz;have hb:=hb.trans (hbm.mono hb.size);have hrow1:=hrow1.below hbm;refine hK.out _ _ (HSA.out _ hb) (λhS=>?_);clear hK K hbm hown hsz;refine rdy 19 (λK hK=>?_);go_simp;refine(xD _ _ _ _ hle2 hmx2).mono ?_;rintro ee Z ⟨rfl,hbm⟩;have hrow1:=hrow1.below hbm;have hrow2:=hrow2.below hbm;have hok2:=hok2.clip;have hb:=hb.trans (hbm.mono hb.size)
 refine hK.out _ _ (HSA.out _ hb) (λhS=>?_);clear hK K hbm;obtain⟨X2,hX2⟩:=ez Z;rw[←hX2]at hb hS hrow1 hrow2⊢;clear hX2;refine rdy 24 (λK hK=>?_);go_simp;refine(Xe A3 n3 c3 (Di r3) _ ok3 (HRD3.out _ hb) (HON3.out) hq3).mono ?_;rintro ee Y ⟨vv,rfl,hown,hbm⟩;obtain⟨a3,k3,rfl,hok3,hle3,hmx3⟩:=Ja hown;have hrow3:=En.of_own hown;have hsz:=hb.size;have hrow3:=hrow3.base hsz;have hb:=hb.trans (hbm.mono hb.size);have hrow1:=hrow1.below hbm;have hrow2:=hrow2.below hbm;refine hK.out _ _ (HSA.out _ hb) (λhS=>?_);clear hK K hbm hown hsz;refine rdy 25 (λK hK=>?_);go_simp;refine(cN _ _ _ _ hle3 hmx3).mono ?_;rintro ee Z ⟨rfl,hbm⟩;have hrow1:=hrow1.below hbm;have hrow2:=hrow2.below hbm;have hrow3:=hrow3.below hbm;have hok3:=hok3.clip;have hb:=hb.trans (hbm.mono hb.size);refine hK.out _ _ (HSA.out _ hb) (λhS=>?_);clear hK K hbm;obtain⟨X3,hX3⟩:=ez Z;rw[←hX3]at hb hS hrow1 hrow2 hrow3⊢;clear hX3;refine Ck 26 ?_;have hP3:=kept hb hh3.out.2 (Au.1 hh3.out.2).1;have HP9:=Ah hP3;have hcP:=λj=>By X3 P j _ _ (0,0) hP3;have c0:=hcP 0;have c1':=hcP 1;have c2':=hcP 2;have c3':=hcP 3;have c4:=hcP 4;have c5:=hcP 5;have c6:=hcP 6;have c7:=hcP 7;have c8:=hcP 8;have hz:∀j,X3.frozen? ⟨P,j,Ae⟩=false:=λj=>by simp[World.frozen?,hP3]
 have z0:=hz 0;have z1:=hz 1;have z2:=hz 2;have z3:=hz 3;have z4:=hz 4;have z5:=hz 5;have z6:=hz 6;have z7:=hz 7;have z8:=hz 8;simp only[List.getElem?_toArray,List.getElem?_cons_zero,List.getElem?_cons_succ]at c0 c1' c2' c3' c4 c5 c6 c7 c8;clear hcP hz hP3
 have hne:x.p≠P:=λe=>by
  have:=hB3.out;obtain⟨M,kv,a1,a2,a3,a4,a5,a6,a7,a8,a9,a10⟩:=this;refine(a10 P Cn).2 ?_;unfold Cz;simp only[Bk,Bl,Bi,Bf];exact .inr (.inr (.inr (.inr (.inl (by unfold SmB.blks;simp[e])))))
 have HSH:Hid (∀W',W'.heap[x.p]? =X3.heap[x.p]? →S W'):=Ah λW' h=>by
  obtain⟨⟨b0,b1,b2⟩,⟨b3,b4,b5⟩,b6,b7,b8⟩:=HSO.out _ hS
  have hc:∀j u,X3.cell? ⟨x.p,j,Ae⟩=Af u→W'.cell? ⟨x.p,j,Ae⟩=Af u:=λj u hu=>by
   unfold World.cell? at hu⊢;rw[h];exact hu
  rw[hSd];exact⟨⟨hc _ _ b0,hc _ _ b1,hc _ _ b2⟩,⟨hc _ _ b3,hc _ _ b4,hc _ _ b5⟩,hc _ _ b6,hc _ _ b7,hc _ _ b8⟩
 have hoth:∀g,g<X3.heap.size→g≠P→(X3.setCells P 0 [Aa Ab s0,Aa Ab s1,Aa Ac s2,Aa Ab t0,Aa Ab t1,Aa Ac t2,Ad a1 n1 n1,Ad a2 n2 n2,Ad a3 n3 n3]).heap[g]? =X3.heap[g]? :=λg hg hgP=>World.heap_setCells_other X3 P 0 _ hg hgP
 have hxX:x.p<X3.heap.size:=by
  have h9:x.p<w3.heap.size:=(Au.1 (Na hB3.out)).1;have:=hb.size;omega
 have hSN:=HSH.out _ (hoth x.p hxX hne);have hall:=Ti HP9.out [Aa Ab s0,Aa Ab s1,Aa Ac s2,Aa Ab t0,Aa Ab t1,Aa Ac t2,Ad a1 n1 n1,Ad a2 n2 n2,Ad a3 n3 n3] rfl;have hszN:X3.heap.size≤(X3.setCells P 0 [Aa Ab s0,Aa Ab s1,Aa Ac s2,Aa Ab t0,Aa Ab t1,Aa Ac t2,Ad a1 n1 n1,Ad a2 n2 n2,Ad a3 n3 n3]).heap.size:=by simp[World.setCells]
 refine rdy 27 (λK hK=>?_);go_simp;refine hK.out _ _ hSN (λhS=>?_);clear hK K c0 c1' c2' c3' c4 c5 c6 c7 c8 z0 z1 z2 z3 z4 z5 z6 z7 z8;have hBX:=hB3.out.below hb;have hFX:=hF3.out.trans (hB3.out.frm hb);have hlt1:=hrow1.lt;have hlt2:=hrow2.lt;have hlt3:=hrow3.lt;have hP3l:=(Au.1 hh3.out.2).1;have hw03:=hFX.1.size;have hbX:=hb.size;have hF03:=hF3.out.1.size;obtain⟨W9,hW9⟩:=ey (X3.setCells P 0 [Aa Ab s0,Aa Ab s1,Aa Ac s2,Aa Ab t0,Aa Ab t1,Aa Ac t2,Ad a1 n1 n1,Ad a2 n2 n2,Ad a3 n3 n3]);rw[hW9]at hoth hall hszN;have hB9:=hBX.poke (w':=W9) hoth hszN;have hr1:=hrow1.same (w':=W9) λg hg=>hoth g (hlt1 g hg).2.1 (by have:=(hlt1 g hg).1;omega);have hr2:=hrow2.same (w':=W9) λg hg=>hoth g (hlt2 g hg).2.1 (by have:=(hlt2 g hg).1;omega);have hr3:=hrow3.same (w':=W9) λg hg=>hoth g (hlt3 g hg).2.1 (by have:=(hlt3 g hg).1;omega);have hFW:=HFW.out;have hPw:=HPW.out
 have hrg:W9.rangeAt P 0 [Aa Ab s0,Aa Ab s1,Aa Ac s2,Aa Ab t0,Aa Ab t1,Aa Ac t2,Ad a1 n1 n1,Ad a2 n2 n2,Ad a3 n3 n3]:=λj u hj=>by
  rw[Bt,By W9 P j _ _ (0,0) hall];simpa using hj
 have hval:(⟨x.s.a,x.s.b,r1,r2,r3⟩:Sm).val a1 a2 a3= .agg #[Aa Ab s0,Aa Ab s1,Aa Ac s2,Aa Ab t0,Aa Ab t1,Aa Ac t2,Ad a1 n1 n1,Ad a2 n2 n2,Ad a3 n3 n3]:=by
  unfold Sm.val Sm.cells;simp only[HSA1.out,HSB1.out,HL1.out,HL2.out,HL3.out]
 have HW0:=hw03
 have hrows:Jj W9 w.heap.size ⟨x.s.a,x.s.b,r1,r2,r3⟩ a1 a2 a3:=by
  unfold Jj;dsimp only;rw[HL1.out,HL2.out,HL3.out];exact⟨⟨hok1,hr1.base Ci⟩,⟨hok2,hr2.base Ci⟩,hok3,hr3.base Ci⟩
 have hbelow:Below O W0 W9:=by
  have hPO:O≤P:=by
   obtain⟨M,kv,a1,a2,a3,a4,a5,a6,a7,a8,a9,a10⟩:=HB.out;have:=(Au.1 a2).1;omega
  rw[←hW9];exact Jl hFX.1 hPO _ 0
 have hFrm:Frm O F w W9:=hFW.trans ⟨hbelow,λg hg=>by
  have hg3:=hFX.2 g (List.mem_cons_of_mem _ hg)
  have hgl:g<w.heap.size:=by
   obtain⟨M,kv,a1,a2,a3,a4,a5,a6,a7,a8,a9,a10⟩:=HB.out;exact(a10 g hg).1
  exact(hoth g Ci Ci).trans hg3⟩
 have hOnly:∀g,g<w.heap.size→g∉x.blks→W9.heap[g]? =w.heap[g]? :=λg hg hx=>(hoth g Ci Ci).trans ((hb.block g Ci).trans (HO3.out g hg hx));simp only[World.setCells,Bt,Nat.reduceAdd]at hW9;refine An Cm ?_ _;rw[hW9]
 have HFIN:Hid (wE O B F (v.fix k zn) l1 l2 x w (.returned (.agg #[Aa Ab s0,Aa Ab s1,Aa Ac s2,Aa Ab t0,Aa Ab t1,Aa Ac t2,Ad a1 n1 n1,Ad a2 n2 n2,Ad a3 n3 n3])) W9):=Ah
  ⟨⟨{x.s with ps:=r1,ls:=r2,es:=r3},x.p,x.vp,x.vl,x.ve⟩,a1,a2,a3,by rw[←hval],⟨rfl,rfl,HP1.out.symm,HP2.out.symm,HP3.out.symm⟩,rfl,rfl,hB9,hFrm,hrows,rfl,hOnly⟩
 have HRG:=Ah hrg;clear hrows hFrm hbelow hval hrg hB9 hr1 hr2 hr3 hBX hFX hFW hW9 hall hoth hS;go_wp2_with fail;exact Ai (Ht rfl rfl HRG.out Tryz.underlying173 rfl Cm) rfl HFIN.out
theorem Xo (n:Nat) (p:List (Nat×Nat)):(Si n p).length=n:=by
 have:∀(p:List (Nat×Nat)) (h:List Nat),(p.foldl (λh q=>h.set q.1 q.2) h).length=h.length:=by
  intro p
  induction p with
  |nil=>intro h;rfl
  |cons q p ih=>intro h;rw[List.foldl_cons,ih,List.length_set]
 unfold Si;rw[this,List.length_replicate]
theorem sP (n:Nat) (p:List (Nat×Nat)) (q:Nat×Nat):Si n (p++[q])=(Si n p).set q.1 q.2:=by
 unfold Si;rw[List.foldl_append];rfl
def hTo (l:List Stk) (i j:Nat):List (Nat×Nat):=Lb (l.take i)++(match l[i]? with|some x=>x.ls.zipIdx.take j|none=>[])
theorem Xp (l:List Stk) (i:Nat):hTo l i 0=Lb (l.take i):=by
 unfold hTo
 cases l[i]? <;>simp
theorem xZ (l:List Stk) (i j:Nat) (hi:i<l.length) (hj:j<l[i].ls.length):hTo l i (j+1)=hTo l i j++[(l[i].ls[j],j)]:=by
 unfold hTo;rw[Aw hi];dsimp only;rw[Bc (by simpa using hj),←Bj];simp
theorem xY (l:List Stk) (i:Nat) (hi:i<l.length):hTo l i l[i].ls.length=hTo l (i+1) 0:=by
 rw[Xp];unfold hTo;rw[Aw hi];dsimp only;have e:l[i].ls.zipIdx.take l[i].ls.length=l[i].ls.zipIdx:=Bg Cn;rw[e,Bc hi];unfold Lb;rw[Bi,Bf,List.flatMap_nil,List.append_nil]
theorem Ai3 (l:List Stk):hTo l l.length 0=Lb l:=by
 rw[Xp,List.take_length]
structure Ty (N j:Nat) (s:Sm):Prop where
 qa:s.a.q≤255
 qb:s.b.q≤255
 ps:∀p∈s.ps,p.1<N∧p.2<N
 ls:∀p∈s.ls,p.1≤1∧p.2.1<N∧p.2.2<N
 lp:s.ps.length≤j
 ll:s.ls.length≤j
 le:s.es.length≤j
theorem Ty.next {N j:Nat} {s:Sm} (h:Ty N j s):Ty N (j+1) s:=⟨h.qa,h.qb,h.ps,h.ls,Nat.le_succ_of_le h.lp,Nat.le_succ_of_le h.ll,Nat.le_succ_of_le h.le⟩
theorem At1 {k:Lk} {N j id e:Nat} {s:Sm} (hk:kA k N) (hid:id<N) (h:Ty N j s):Ty N (j+1) (k.add id e s):=by
 have hn:(nbI k.a k.b id e).2=0→(nbI k.a k.b id e).1.toNat<N:=λh0=>by
  have:=Yl hk.pat.sheet h0;have hn:=hk.n;unfold Cq at hn;omega
 unfold Lk.add
 split
 ·exact⟨h.qa,h.qb,h.ps,h.ls,Nat.le_succ_of_le h.lp,Nat.le_succ_of_le h.ll,by simp;exact h.le⟩
 ·rename_i h0;have h0:=Classical.not_not.1 h0;have hn:=hn h0
  split
  ·exact h.next
  ·dsimp only
   split
   ·refine⟨h.qa,h.qb,λp hp=>?_,h.ls,by simp;exact h.lp,Nat.le_succ_of_le h.ll,Nat.le_succ_of_le h.le⟩;rcases Bl.1 hp with hp|hp
    ·exact h.ps p hp
    ·obtain rfl:=List.mem_singleton.1 hp;by_cases hb:k.img id=s.b
     ·simp only[hb,if_true];rw[if_neg Ct];exact⟨hn,hid⟩
     ·simp only[hb,if_false,if_true];exact⟨hid,hn⟩
   ·refine⟨h.qa,h.qb,h.ps,λp hp=>?_,Nat.le_succ_of_le h.lp,by simp;exact h.ll,Nat.le_succ_of_le h.le⟩;rcases Bl.1 hp with hp|hp
    ·exact h.ls p hp
    ·obtain rfl:=List.mem_singleton.1 hp
     split
     ·exact⟨by dsimp only;split<;>omega,hid,hn⟩
     ·exact⟨by dsimp only;split<;>omega,hn,hid⟩
theorem jS {P Q:Sm→Prop} {a b:Cl} {f:Sm→Sm} (hf:∀s,P s→Q (f s)) (hQ:∀s,P s→Q s) (h0:P (Sm.none a b)):∀{l:List Sm},(∀s∈l,P s)→(∀s∈Ln a b f l,Q s)∧(Ln a b f l).length≤l.length+1
 |[],_=>⟨λs hs=>by obtain rfl:=List.mem_singleton.1 hs;exact hf _ h0,by simp[Ln]⟩
 |t::l,hl=>by
  unfold Ln
  split
  ·refine⟨λs hs=>?_,Cn⟩;rcases Bk.1 hs with rfl|hs
   ·exact hf _ (hl t Cn)
   ·exact hQ _ (hl s (by simp[hs]))
  ·obtain⟨h1,h2⟩:=jS hf hQ h0 (l:=l) λs hs=>hl s (by simp[hs]);refine⟨λs hs=>?_,by simp;exact h2⟩;rcases Bk.1 hs with rfl|hs
   ·exact hQ _ (hl s Cn)
   ·exact h1 s hs
theorem Aq4 {k:Lk} {N id:Nat} (hk:kA k N):(k.img id).q≤255:=by
 unfold Lk.img;rw[List.getD_eq_getElem?_getD];by_cases h:id<k.is.length
 ·rw[Aw h];have:=hk.cok _ (Ay h);unfold Cl.ok at this;have:=(Eu.1 this).2.2.2.2;show(k.is[id]).q≤255;omega
 ·rw[List.getElem?_eq_none Ci]
  decide
theorem qS (k:Lk) (id e:Nat):(k.other id e).q≤255:=by
 unfold Lk.other Kq
 split
 ·have:=qN (k.ms.getD id mv0) (Mq (Cp k.a id) e).1;omega
 ·decide
theorem Of {k:Lk} {N:Nat} (hk:kA k N):∀j,j≤3*N→(∀s∈k.seamsTo j,Ty N j s)∧(k.seamsTo j).length≤j
 |0,_=>⟨by simp[Lk.seamsTo],by simp[Lk.seamsTo]⟩
 |j+1,hj=>by
  obtain⟨h1,h2⟩:=Of hk j Ci;have hid:j/3<N:=Ci
  have hkq:(k.key (j/3) (j%3)).1.q≤255∧(k.key (j/3) (j%3)).2.q≤255:=by
   unfold Lk.key
   split
   ·exact⟨qS _ _ _,Aq4 hk⟩
   ·exact⟨Aq4 hk,qS _ _ _⟩
  have:=jS (a:=(k.key (j/3) (j%3)).1) (b:=(k.key (j/3) (j%3)).2) (λs hs=>At1 (e:=j%3) hk hid hs) (λs hs=>hs.next) ⟨hkq.1,hkq.2,by simp[Sm.none],by simp[Sm.none],by simp[Sm.none],by simp[Sm.none],by simp[Sm.none]⟩ h1;exact⟨this.1,Br this.2 Ci⟩
theorem Sz (k:Nat) (hk:k≤1024) (W:Aj):(Instr.makeSlice 46 (Aa Ab k) (Aa Ab k)).run Tryz.prog W= .ok (Ad (Af ⟨W.heap.size,0,Ae⟩) k k) (W.alloc (.cells (Di (Ba k 0)).toArray 3)):=by
 obtain⟨i,hi,hz,hs,hb⟩:=info_parts Ss;have h:=run_make (P:=Tryz.prog) W 46 3 i _ Tryz.underlying46 hi hz .i64 .i64 k k Ci Ci (by rw[hb];omega) Ci;rw[h];simp only[Int.toNat_natCast,hs,Nat.mul_one]
 have e:madeCells (Value.int .i64 0).cells k=(Di (Ba k 0)).toArray:=by
  apply Array.ext';refine(toList_madeCells_one (Aa Ab 0) k).trans ?_;simp[Di]
 rw[e]
def smC (x:Sm×(Option Addr×Option Addr×Option Addr)):List Ak:=(x.1.cells (Ad x.2.1 x.1.ps.length x.1.ps.length) (Ad x.2.2.1 x.1.ls.length x.1.ls.length) (Ad x.2.2.2 x.1.es.length x.1.es.length)).toList
theorem Lm (x:Sm×(Option Addr×Option Addr×Option Addr)):(smC x).length=9:=rfl
def Gr (w:Aj) (O:Nat) (A:Option Addr) (l:List Sm):Prop:=∃z:List (Sm×(Option Addr×Option Addr×Option Addr)),z.map (·.1)=l∧En w O 173 9 A z.length (z.flatMap smC)∧∀x∈z,Jj w O x.1 x.2.1 x.2.2.1 x.2.2.2
def wA (er:Int) (ss:List Sm) (w:Aj) (e:Ending) (w':Aj):Prop:=
 Below w.heap.size w w'∧((er≠0∧e= .returned (.tuple #[Ad Ae 0 0,Aa Ab er]))∨(er=0∧∃A r,e= .returned (.tuple #[Ad A r.length r.length,Aa Ab 0])∧wF ss r∧Gr w' w.heap.size A r))
theorem Bx.join {w w1 w2:Aj} {l:List (Nat×Array Ak×TypeId)} {g:Nat} {cs:Array Ak} {t:TypeId} (h:Bx w l w1) (hb:Below w1.heap.size w1 w2) (hge:w1.heap.size≤g) (hg:w2.heap[g]? =Af (Obj.cells cs t (0,0))):Bx w (l++[(g,cs,t)]) w2:=by
 have h2:=h.call hb
 have hk:∀(i g':Nat) (ds:Array Ak) (u:TypeId),(l++[(g,cs,t)])[i]? =Af (g',ds,u)→(i<l.length∧l[i]? =Af (g',ds,u))∨(i=l.length∧g'=g∧ds=cs∧u=t):=by
  intro i g' ds u hi;by_cases hl:i<l.length
  ·rw[List.getElem?_append_left hl]at hi;exact .inl ⟨hl,hi⟩
  ·have hi':i<(l++[(g,cs,t)]).length:=(Ax.1 hi).1;simp at hi';have:i=l.length:=Ci;subst this;rw[List.getElem?_append_right (Am _),Nat.sub_self]at hi;simp at hi;exact .inr ⟨rfl,hi.1.symm,hi.2.1.symm,hi.2.2.symm⟩
 refine⟨h2.below,?_,?_,?_⟩
 ·intro i g' ds u hi;rcases hk i g' ds u hi with⟨_,h1⟩|⟨_,rfl,rfl,rfl⟩
  ·exact h2.blk i g' ds u h1
  ·exact hg
 ·intro i g' ds u hi;rcases hk i g' ds u hi with⟨_,h1⟩|⟨_,rfl,rfl,rfl⟩
  ·exact h2.lo i g' ds u h1
  ·exact Br h.below.size hge
 ·intro i j g' ds u es v hi hj;rcases hk i g' ds u hi with⟨_,h1⟩|⟨h1,rfl,_,_⟩
  ·rcases hk j g' es v hj with⟨_,h2⟩|⟨_,rfl,_,_⟩
   ·exact h.inj i j g' ds u es v h1 h2
   ·exact absurd (h.lt i h1) Ci
  ·rcases hk j _ es v hj with⟨_,h2⟩|⟨h2,_,_,_⟩
   ·exact absurd (h.lt j h2) Ci
   ·omega
def osL (a b:Int) (pA:Option Addr) (pn pc:Nat) (rt:Nat) (rx ry:Int) (N P Hb B G1 G2 M cnt:Nat) (ms:List Mv) (is:List Cl) (hh:List Nat):List (Nat×Array Ak×TypeId):=
 [(N,#[Aa Ab a,Aa Ab b,Ad pA pn pc],28),(P,#[Aa Ac rt,Aa Ab rx,Aa Ab ry],30),(Hb,(Di hh).toArray,3),
  (B,#[Aa Ab a,Aa Ab b,Ad pA pn pc,Ad (Af ⟨G1,0,Ae⟩) cnt cnt,Ad (Af ⟨G2,0,Ae⟩) cnt cnt,Ad (Af ⟨Hb,0,Ae⟩) cnt cnt,.map (Af M),Ad Ae 0 0],236),(G1,(Iq ms).toArray,30),(G2,(Is is).toArray,87)]
theorem qC (h:List Nat) (i v:Nat):(Di h).toArray.setIfInBounds i (Aa Ab (v:Int))=(Di (h.set i v)).toArray:=by
 simp[Di,List.map_set]
theorem Oc {w:Aj} {g n sz:Nat} {t:TypeId} {xs:List Ak} (h:w.heap[g]? =Af (Obj.cells xs.toArray t (0,0))) (hl:xs.length=n*sz):Rd w (Af ⟨g,0,Ae⟩) sz n xs:=by
 refine⟨hl,λ_=>⟨g,0,rfl,(Au.1 h).1,λj u hu=>?_⟩⟩;rw[Bt,By w g j _ t (0,0) h,List.getElem?_toArray];exact hu
def osV (pA:Option Addr) (pn pc Hb G1 G2 cnt:Nat):LkV:=⟨pA,pn,pc,Af ⟨G1,0,Ae⟩,cnt,Af ⟨G2,0,Ae⟩,cnt,Af ⟨Hb,0,Ae⟩,cnt⟩
theorem zQ {a b:Int} {pA:Option Addr} {pn pc rt N P Hb B G1 G2 M cnt:Nat} {rx ry:Int} {ms:List Mv} {is:List Cl} {hh:List Nat} {cr:List Cr} {w wr:Aj} (hB:Bx w (osL a b pA pn pc rt rx ry N P Hb B G1 G2 M cnt ms is hh) wr) (hM:Fq pkK wr M []) (hMw:w.heap.size≤M)
  (hml:ms.length=cnt) (hil:is.length=cnt) (hhl:hh.length=cnt) (hmm:∀w',Below w.heap.size w w'→pn=cr.length∧Rd w' pA 3 pn (crs cr)∧Qf w'∧Tn w'):
  Dn w.heap.size B [G1,G2,Hb] ((osV pA pn pc Hb G1 G2 cnt).fix ⟨a,b,cr,ms,is,hh⟩ cnt) wr []∧Sa w.heap.size [G1,G2,Hb] wr ⟨a,b,cr,ms,is,hh⟩ cnt (osV pA pn pc Hb G1 G2 cnt):=by
 have hBb:=hB.blk 3 _ _ _ rfl;have hHb:=hB.blk 2 _ _ _ rfl;have hG1:=hB.blk 4 _ _ _ rfl;have hG2:=hB.blk 5 _ _ _ rfl
 have hMne:∀(g:Nat) (c:Array Ak) (t:TypeId),wr.heap[g]? =Af (Obj.cells c t (0,0))→g≠M:=λg c t hg e=>by
  obtain⟨es,clock,hm,-⟩:=hM;rw[e,hm]at hg
  cases hg
 have n1:G1≠B:=λe=>by
  subst e;have:=hB.inj 3 4 _ _ _ _ _ rfl rfl;omega
 have n2:G2≠B:=λe=>by
  subst e;have:=hB.inj 3 5 _ _ _ _ _ rfl rfl;omega
 have n3:Hb≠B:=λe=>by
  subst e;have:=hB.inj 3 2 _ _ _ _ _ rfl rfl;omega
 refine⟨⟨M,Kg,rfl,hBb,hM,⟨[],.refl _,rfl,.inl ⟨rfl,rfl⟩⟩,⟨Cn,Cn⟩,Cn,?_,hB.lo 3 _ _ _ rfl,hMw,?_⟩,λw' hf=>?_⟩
 ·unfold Cz Kg;simp[Value.ownBlock];exact hMne B _ _ hBb
 ·intro g hg;have hq:g=G1∨g=G2∨g=Hb:=by simpa using hg
  unfold Cz Kg;rcases hq with rfl|rfl|rfl
  ·exact⟨hB.lt 4 rfl,by simp[Value.ownBlock];exact⟨n1,hMne _ _ _ hG1⟩⟩
  ·exact⟨hB.lt 5 rfl,by simp[Value.ownBlock];exact⟨n2,hMne _ _ _ hG2⟩⟩
  ·exact⟨hB.lt 2 rfl,by simp[Value.ownBlock];exact⟨n3,hMne _ _ _ hHb⟩⟩
 ·obtain⟨q1,q2,q3,q4⟩:=hmm w' (hB.below.trans hf.1);exact⟨q1,q2,Oc ((hf.2 G1 Cn).trans hG1) (by rw[Pa,hml]),Oc ((hf.2 G2 Cn).trans hG2) (by rw[Jn,hil]),Oc ((hf.2 Hb Cn).trans hHb) (by simp[Di,hhl]),q3,q4⟩
theorem Ba6 {a b:Int} {cnt:Nat} {ms:List Mv} {is:List Cl} {hh:List Nat} {cr:List Cr} (hc:Cq a b=cnt) (hml:ms.length=cnt) (hil:is.length=cnt) (hhl:hh.length=cnt) (hmok:∀m∈ms,m.ok=true) (hiok:∀c∈is,c.ok=true) (hp:Gx a b cr):kA ⟨a,b,cr,ms,is,hh⟩ cnt:=
 ⟨hc.symm,hml,hil,hhl,hmok,hiok,hp⟩
theorem wS {O B:Nat} {F:List Nat} {fix:List Ak} {w:Aj} {l:List SmB} (h:Dn O B F fix w l) (hq:∀x∈l,x.s.a.q≤255∧x.s.b.q≤255) (hl:l.length≤1000000):
  ∃A c,w.cell? ⟨B,7,Ae⟩=Af (Ad A l.length c)∧
   Al Tryz.prog 121 #[Ad A l.length c,.func (.func 122) #[] #[]] w (λe w'=>e= .returned (.tuple #[])∧Dn O B F fix w' l∧Frm O F w w'):=by
 obtain⟨M,kv,a1,a2,a3,⟨ks,hkp,a4⟩,a5,a6,a7,a8,a9,a10⟩:=h;have hlt:=Ud a2 a3 ⟨ks,hkp,a4⟩ a5 a8 a9;have hkl:ks.length=l.length:=by rw[hkp.length_eq,Bo]
 have a4':=a4;rw[hkl]at a4';obtain⟨A,c,hv,-,-⟩:=Dv a4';subst hv;obtain⟨-,m7,-,-,-⟩:=Hu a1 a2
 have hks:∀p∈ks,p.1.q≤255∧p.2.q≤255:=λp hp=>by
  obtain⟨x,hx,rfl⟩:=List.mem_map.1 (hkp.mem_iff.1 hp);exact hq x hx
 have hvv:=eD ks hks;obtain⟨l',hl'⟩:∃z:List PkE,(ks.attach.map λx=>(⟨x.1,hks x.1 x.2⟩:PkE))=z:=⟨_,rfl⟩;rw[hl']at hvv;have e:∀z:List PkE,z.flatMap pkV=(z.map (·.1)).flatMap pkC:=λz=>Zk pkC z;refine⟨A,c,m7,(oL l' w (by rw[e,hvv];exact a4') hl).mono ?_⟩;rintro en w' ⟨rfl,r,hp,-,ho,hg⟩;have hnd:=a7;unfold Cz at hnd;simp only[List.nodup_cons,Bp,Bk,Bl,Option.mem_toList,not_or]at hnd;obtain⟨⟨b1,b2,b3⟩,⟨m1,m2⟩,k1,k2,k3⟩:=hnd;have hrk:(r.map (·.1)).Perm ks:=hvv▸hp.map _;have hrl:(r.map (·.1)).length=l.length:=hrk.length_eq.trans hkl;have hBl:=(Au.1 a2).1;refine⟨rfl,⟨M,_,a1,(hg.block B hBl (Ne.symm b2)).trans a2,a3.same (hg.block M a3.lt (Ne.symm m1)),⟨r.map (·.1),hrk.trans hkp,?_⟩,a5.same λg hg'=>hg.block g (a5.lt g hg').2 (λe=>k3 g e.symm g hg' rfl),a6,a7,a8,a9,λg hgF=>⟨Bq (a10 g hgF).1 hg.size,(a10 g hgF).2⟩⟩,?_,?_⟩
 ·rw[hrl,←e];exact ho
 ·exact(Ag O w).grown hg Ci (λk hk=>(a4.lt k hk).1)
 ·intro g hgF;refine hg.block g (a10 g hgF).1 λe=>(a10 g hgF).2 ?_;unfold Cz;simp only[Bk,Bl,Option.mem_toList];exact .inr (.inr (.inl e.symm))
abbrev SmZ:=Sm×(Option Addr×Option Addr×Option Addr)
def Oq:SmZ:=(Sm.none cl0 cl0,(Ae,Ae,Ae))
theorem Av1:(Tryz.prog.info? 173).map (λi=>(i.zero,i.size,i.bytes))=Af (Af (.agg #[Aa Ab 0,Aa Ab 0,Aa Ac 0,Aa Ab 0,Aa Ab 0,Aa Ac 0,Ad Ae 0 0,Ad Ae 0 0,Ad Ae 0 0]),9,120):=Cm
theorem Al1 (k:Nat):madeCells #[Aa Ab 0,Aa Ab 0,Aa Ac 0,Aa Ab 0,Aa Ab 0,Aa Ac 0,Ad Ae 0 0,Ad Ae 0 0,Ad Ae 0 0] (k*9)=((Ba k Oq).flatMap smC).toArray:=by
 have hlen:((Ba k Oq).flatMap smC).length=k*9:=by rw[Fv smC 9 Lm,List.length_replicate]
 apply Array.ext';apply List.ext_getElem?;intro j;by_cases hj:j<k*9
 ·obtain⟨i,f,hf,rfl⟩:∃i f,f<9∧j=i*9+f:=⟨j/9,j%9,Ci,Ci⟩;have hi:i<k:=Ci;have h1:((Ba k Oq).flatMap smC)[i*9+f]? =(smC ((Ba k Oq)[i]'(by simpa using hi)))[f]? :=Dz smC 9 Lm _ i f (by simpa using hi) hf;rw[h1];have h3:f=0∨f=1∨f=2∨f=3∨f=4∨f=5∨f=6∨f=7∨f=8:=Ci;have hm:(i*9+f)%9=f:=Ci;simp[madeCells,hj,hm];rcases h3 with rfl|rfl|rfl|rfl|rfl|rfl|rfl|rfl|rfl<;>rfl
 ·rw[List.getElem?_eq_none (by simp[madeCells];omega),List.getElem?_eq_none (by rw[hlen];omega)]
theorem zB (k:Nat) (hk:k≤100000) (W:Aj):(Instr.makeSlice 115 (Aa Ab k) (Aa Ab k)).run Tryz.prog W= .ok (Ad (Af ⟨W.heap.size,0,Ae⟩) k k) (W.alloc (.cells ((Ba k Oq).flatMap smC).toArray 173)):=by
 obtain⟨i,hi,hz,hs,hb⟩:=info_parts Av1;have h:=run_make (P:=Tryz.prog) W 115 173 i _ Tryz.underlying115 hi hz .i64 .i64 k k Ci Ci (by rw[hb];omega) Ci;rw[h];simp only[Int.toNat_natCast,hs];have e:(Value.agg #[Aa Ab 0,Aa Ab 0,Aa Ac 0,Aa Ab 0,Aa Ab 0,Aa Ac 0,Ad Ae 0 0,Ad Ae 0 0,Ad Ae 0 0]).cells= #[Aa Ab 0,Aa Ab 0,Aa Ac 0,Aa Ab 0,Aa Ab 0,Aa Ac 0,Ad Ae 0 0,Ad Ae 0 0,Ad Ae 0 0]:=by rfl
 rw[e,Al1]
theorem iC {W:Aj} {GO n i:Nat} {zs:List SmZ} (x:SmZ) (h:W.heap[GO]? =Af (Obj.cells ((zs++Ba (n-i) Oq).flatMap smC).toArray 173 (0,0))) (hz:zs.length=i) (hi:i<n):
  (∀f,f<9→∃u,W.cell? ⟨GO,i*9+f,Ae⟩=Af u)∧(∀j,W.frozen? ⟨GO,j,Ae⟩=false)∧
   (W.setCells GO (i*9) (smC x)).heap[GO]? =Af (Obj.cells ((zs++[x]++Ba (n-(i+1)) Oq).flatMap smC).toArray 173 (0,0)):=by
 have hlen:∀l:List SmZ,(l.flatMap smC).length=l.length*9:=λl=>Fv smC 9 Lm l
 have hrep:Ba (n-i) Oq=Oq::Ba (n-(i+1)) Oq:=by
  rw[←List.replicate_succ]
  congr 1
  omega
 refine⟨λf hf=>?_,λj=>by simp[World.frozen?,h],?_⟩
 ·have hb:i*9+f<((zs++Ba (n-i) Oq).flatMap smC).length:=by
   rw[hlen,Bh,List.length_replicate,hz];omega
  exact⟨_,by rw[By W GO (i*9+f) _ _ (0,0) h,List.getElem?_toArray,Aw hb]⟩
 ·rw[Lg (smC x) (i*9) W _ h (by
   rw[Lm];simp only[List.size_toArray,hlen,Bh,List.length_replicate,hz];omega)]
  congr 2
  apply Array.ext';have h9:(zs.flatMap smC).length=i*9:=by rw[hlen,hz]
  rw[hrep];simp only[Bi,Bf,List.flatMap_nil,List.append_nil];rw[Lm,List.take_append_of_le_length Ci,Bg Ci]
  congr 1
  rw[show i*9+9=(zs.flatMap smC).length+(smC Oq).length by rw[h9,Lm]];rw[List.drop_append,List.drop_append];simp
structure Bd2 (x y:SmB):Prop where
 p:y.p=x.p
 key:y.key=x.key
 blks:y.blks=x.blks
 s:SmP x.s y.s
structure aD (O B GO n:Nat) (F:List Nat) (fix:List Ak) (l0:List SmB) (ks:List (Cl×Cl)) (WL wr:Aj) (i:Nat) (zz:List (SmB×SmB)) (zs:List SmZ):Prop where
 len:zs.length=i
 fst:zz.map (·.1)=l0
 rel:∀q∈zz,Bd2 q.1 q.2
 bld:Dn O B (GO::F) fix wr (zz.map (·.2))
 same:∀g,g<WL.heap.size→g∉l0.flatMap SmB.blks→g≠GO→wr.heap[g]? =WL.heap[g]?
 size:WL.heap.size≤wr.heap.size
 frm:Below O WL wr
 out:wr.heap[GO]? =Af (Obj.cells ((zs++Ba (n-i) Oq).flatMap smC).toArray 173 (0,0))
 rows:∀x∈zs,Jj wr WL.heap.size x.1 x.2.1 x.2.2.1 x.2.2.2
 spec:∀(j:Nat) (k:Cl×Cl) (x:SmZ),ks[j]? =Af k→zs[j]? =Af x→SmP (aU k (l0.map (·.s))) x.1
theorem Jj.same {w w':Aj} {O:Nat} {t:Sm} {A1 A2 A3:Option Addr} (h:Jj w O t A1 A2 A3) (hb:∀g,O≤g→g<w.heap.size→w'.heap[g]? =w.heap[g]?):Jj w' O t A1 A2 A3:=by
 obtain⟨⟨h1,h2⟩,⟨h3,h4⟩,h5,h6⟩:=h;exact⟨⟨h1,h2.same λg hg=>hb g (h2.lt g hg).1 (h2.lt g hg).2.1⟩,⟨h3,h4.same λg hg=>hb g (h4.lt g hg).1 (h4.lt g hg).2.1⟩,h5,h6.same λg hg=>hb g (h6.lt g hg).1 (h6.lt g hg).2.1⟩
theorem Jj.base {w:Aj} {O O':Nat} {t:Sm} {A1 A2 A3:Option Addr} (h:Jj w O t A1 A2 A3) (hO:O'≤O):Jj w O' t A1 A2 A3:=⟨⟨h.1.1,h.1.2.base hO⟩,⟨h.2.1.1,h.2.1.2.base hO⟩,h.2.2.1,h.2.2.2.base hO⟩
theorem Am9 {O B GO n i:Nat} {F:List Nat} {fix:List Ak} {l0:List SmB} {ks:List (Cl×Cl)} {WL wr:Aj} {zz:List (SmB×SmB)} {zs:List SmZ} (h:aD O B GO n F fix l0 ks WL wr i zz zs) (hi:i<n) (hks:ks.Perm (l0.map SmB.key)) (hn:ks.length=n) (hnd:(l0.map SmB.key).Nodup)
  (hGO:GO<WL.heap.size) (hOG:O≤GO) (hlt:∀g∈l0.flatMap SmB.blks,g<WL.heap.size∧g≠GO):
  ∃(k:Cl×Cl) (x0 x:SmB) (b1 b2:List SmB),ks[i]? =Af k∧Ji k (Js l0)=Af x.ptr∧x0∈l0∧SmP x0.s x.s∧zz.map (·.2)=b1++x::b2∧
   ∀(wr1 w2:Aj) (y:SmB) (A1 A2 A3:Option Addr),Below wr.heap.size wr wr1→SmP x.s y.s→y.p=x.p→y.key=x.key→y.blks=x.blks→Dn O B (GO::F) fix w2 (b1++y::b2)→Frm O (GO::F) wr1 w2→Jj w2 wr1.heap.size y.s A1 A2 A3→
    (∀g,g<wr1.heap.size→g∉x.blks→w2.heap[g]? =wr1.heap[g]?)→
    ∃zz',aD O B GO n F fix l0 ks WL (w2.setCells GO (i*9) (smC (y.s,A1,A2,A3))) (i+1) zz' (zs++[(y.s,A1,A2,A3)]):=by
 have hik:i<ks.length:=Ci;obtain⟨k,hk⟩:=ey (ks[i]);have hkm:k∈l0.map SmB.key:=hks.mem_iff.1 (hk▸Ay hik)
 obtain⟨m1,x0,m2,hl0,hx0,hget⟩:∃m1 x0 m2,l0=m1++x0::m2∧x0.key=k∧Ji k (Js l0)=Af x0.ptr:=by
  rcases lG k l0 with⟨m1,x0,m2,h1,h2,h3,-⟩|⟨hno,-⟩
  ·exact⟨m1,x0,m2,h1,h2,h3⟩
  ·exact absurd hkm hno
 have hf:=h.fst;rw[hl0]at hf;obtain⟨z1,z2,rfl,hz1,hz2⟩:=List.map_eq_append_iff.1 hf;obtain⟨q,z3,rfl,hq,hz3⟩:=List.map_eq_cons_iff.1 hz2;have hr:=h.rel q Cn;rw[hq]at hr;have hx0m:x0∈l0:=by rw[hl0];simp
 refine⟨k,x0,q.2,z1.map (·.2),z3.map (·.2),by rw[Aw hik,hk],by rw[hget];unfold SmB.ptr;rw[hr.p],hx0m,hr.s,Cn,?_⟩;intro wr1 w2 y A1 A2 A3 hb hys hyp hyk hyb hB2 hF2 hrw honly
 have hxb:∀g∈q.2.blks,g<WL.heap.size∧g≠GO:=λg hg=>by
  rw[hr.blks]at hg;exact hlt g (List.mem_flatMap.2 ⟨x0,hx0m,hg⟩)
 have hGx:GO∉q.2.blks:=λhg=>(hxb GO hg).2 rfl;have hszb:=hb.size;have hsz:=h.size;have hsz2:=hF2.1.size;obtain⟨u1,u2,u3⟩:=iC (W:=w2) (y.s,A1,A2,A3) ((honly GO Ci hGx).trans ((hb.block GO Ci).trans h.out)) h.len hi;have hoth:∀g,g<w2.heap.size→g≠GO→(w2.setCells GO (i*9) (smC (y.s,A1,A2,A3))).heap[g]? =w2.heap[g]? :=λg hg hgo=>World.heap_setCells_other w2 GO (i*9) _ hg hgo;have hszN:w2.heap.size≤(w2.setCells GO (i*9) (smC (y.s,A1,A2,A3))).heap.size:=(Jl (Ag O w2) hOG (smC (y.s,A1,A2,A3)) (i*9)).size;refine⟨z1++(q.1,y)::z3,by simp[h.len],by rw[hl0];simp[hz1,hq,hz3],λr hr'=>?_,?_,λg hg hgb hgo=>?_,Ci,?_,u3,λx hx=>?_,λj kk x hj hx=>?_⟩
 ·rcases Bl.1 hr' with hr'|hr'
  ·exact h.rel r (by simp[hr'])
  ·rcases Bk.1 hr' with rfl|hr'
   ·rw[hq];exact⟨hyp.trans hr.p,hyk.trans hr.key,hyb.trans hr.blks,hr.s.trans hys⟩
   ·exact h.rel r (by simp[hr'])
 ·have hmap:(z1++(q.1,y)::z3).map (·.2)=z1.map (·.2)++y::z3.map (·.2):=Cn;rw[hmap];obtain⟨M,kv,a1,a2,a3,a4,a5,a6,a7,a8,a9,a10⟩:=hB2;have hlt2:=Ud a2 a3 a4 a5 a8 a9;have hP:=(a10 GO Cn).2;have hkk:∀g∈Cz B M kv (z1.map (·.2)++y::z3.map (·.2)),(w2.setCells GO (i*9) (smC (y.s,A1,A2,A3))).heap[g]? =w2.heap[g]? :=λg hg=>hoth g (hlt2 g hg).2 λe=>hP (e▸hg);refine⟨M,kv,a1,(hkk B (by simp[Cz])).trans a2,a3.same (hkk M (by simp[Cz])),a4.same λg hg=>hkk g (by simp[Cz,hg]),a5.same λg hg=>hkk g ?_,a6,a7,a8,a9,λg hg=>⟨Bq (a10 g hg).1 hszN,(a10 g hg).2⟩⟩;unfold Cz;simp only[Bk,Bl];exact .inr (.inr (.inr hg))
 ·exact(hoth g Ci hgo).trans ((honly g Ci (λhx=>hgb (List.mem_flatMap.2 ⟨x0,hx0m,hr.blks▸hx⟩))).trans ((hb.block g Ci).trans (h.same g hg hgb hgo)))
 ·have hO:O≤WL.heap.size:=Ci;exact Jl ((h.frm.trans (hb.mono Ci)).trans hF2.1) hOG _ _
 ·have hst:∀g,WL.heap.size≤g→g<wr1.heap.size→(w2.setCells GO (i*9) (smC (y.s,A1,A2,A3))).heap[g]? =wr1.heap[g]? :=λg hg hg1=>(hoth g Ci Ci).trans (honly g hg1 (λhx=>by have:=(hxb g hx).1;omega));rcases Bl.1 hx with hx|hx
  ·refine(h.rows x hx).same λg hg hg1=>?_;exact(hst g hg Ci).trans (hb.block g hg1)
  ·obtain rfl:=List.mem_singleton.1 hx;exact(hrw.same λg hg hg1=>hoth g hg1 Ci).base Ci
 ·rcases Nat.lt_trichotomy j i with hji|rfl|hji
  ·rw[List.getElem?_append_left (by rw[h.len];exact hji)]at hx;exact h.spec j kk x hj hx
  ·have hx':(y.s,A1,A2,A3)=x:=by
    rw[List.getElem?_append_right (by rw[h.len];exact Am _),h.len,Nat.sub_self]at hx;simpa using hx
   subst hx'
   have hkk:k=kk:=by
    rw[Aw hik,hk]at hj;simpa using hj
   subst hkk
   have hn2:((l0.map (·.s)).map λs=>(s.a,s.b)).Nodup:=by
    rw[List.map_map];exact hnd
   have:=Sy hn2 (List.mem_map.2 ⟨x0,hx0m,rfl⟩);have e:(x0.s.a,x0.s.b)=k:=hx0;rw[e]at this;rw[this];exact hr.s.trans hys
  ·rw[List.getElem?_eq_none (by simp[h.len];omega)]at hx
   cases hx
theorem Aw3 {O B GO n:Nat} {F:List Nat} {fix:List Ak} {l0:List SmB} {ks:List (Cl×Cl)} {WL wr:Aj} {zz:List (SmB×SmB)} {zs:List SmZ} (h:aD O B GO n F fix l0 ks WL wr n zz zs) (hks:ks.Perm (l0.map SmB.key)) (hn:ks.length=n) (hnd:(l0.map SmB.key).Nodup) {O':Nat} (hO1:O'≤GO) (hO2:O'≤WL.heap.size):
  wF (l0.map (·.s)) (zs.map (·.1))∧Gr wr O' (Af ⟨GO,0,Ae⟩) (zs.map (·.1)):=by
 have hnd2:((l0.map (·.s)).map λs=>(s.a,s.b)).Nodup:=by
  rw[List.map_map];exact hnd
 have hll:(ks.map λk=>aU k (l0.map (·.s))).length=(zs.map (·.1)).length:=by simp[h.len,hn]
 refine⟨⟨(ks.map λk=>aU k (l0.map (·.s))).zip (zs.map (·.1)),?_,?_,?_⟩,zs,rfl,?_,?_⟩
 ·rw[List.map_fst_zip Ci];have e:=tO hnd2;have e2:(l0.map (·.s)).map (λs=>(s.a,s.b))=l0.map SmB.key:=by rw[List.map_map];rfl
  rw[e2]at e
  conv=>lhs;rw[←e]
  exact(hks.map _).symm
 ·rw[List.map_snd_zip Ci]
 ·intro p hp;obtain⟨j,hj,rfl⟩:=Be.1 hp;have hj1:j<ks.length:=by simp at hj;omega
  have hj2:j<zs.length:=by simp at hj;omega
  have:=h.spec j ks[j] zs[j] (Aw hj1) (Aw hj2);simpa using this
 ·have ho:=h.out;rw[Nat.sub_self,List.replicate_zero,List.append_nil]at ho;have hfl:=Fv smC 9 Lm zs;exact⟨hfl,.inr ⟨GO,_,rfl,hO1,ho,by simp[hfl],by rw[←hfl];exact List.take_length⟩⟩
 ·intro x hx;exact(h.rows x hx).base hO2
end Go.Proofs.YthpcfeifmdbhnaaGreatDoor
