import Derived.Test.YthpcfeifmdbhnaaGreatDoorQOfd
import Derived.Test.YthpcfeifmdbhnaaGreatDoorQSog
import Derived.Test.YthpcfeifmdbhnaaGreatDoorQSid
import Derived.WalkMore
open Array renaming getElem?_eq_some_iff→Au
open Go renaming Calls→Al,Value→Ak,World→Aj,bodyPost_ret→Ai,cell_of_row→By,heap_alloc_new→Bz,wpAnyH_done→An,wpAnyH_ready→Ap,wp_region_held_drew→Ao
open Go.AllReadyH renaming cons→Aq,nil→Ar
open Go.IntKind renaming i64→Ab,u8→Ac
open Go.IntWalk renaming i64_in→Ca
open Go.Lib renaming hid→Ah
open Go.RowKit.Below renaming refl→Ag
open Go.Value renaming int→Aa,slice→Ad
open List renaming getElem?_eq_getElem→Aw,getElem?_eq_some_iff→Ax,getElem_cons_succ→Cd,getElem_cons_zero→Cc,getElem_mem→Ay,getElem_toArray→Ce,length_map→Bo,mem_append→Bl,mem_cons→Bk,mem_iff_getElem→Be,nodup_append→Bp,replicate→Ba,setIfInBounds_toArray→Ch,set_cons_succ→Cg,set_cons_zero→Cf
open Nat renaming le_refl→Am,le_trans→Br
open Option renaming none→Ae,some→Af
set_option maxHeartbeats 16000000
set_option maxRecDepth 100000
namespace Go.Proofs.YthpcfeifmdbhnaaGreatDoor
open Go.RowKit
theorem zS {O B GO n:Nat} {F:List Nat} {fix:List Ak} {l0:List SmB} {ks:List (Cl×Cl)} {WL:Aj} (hB:Dn O B (GO::F) fix WL l0) (hout:WL.heap[GO]? =Af (Obj.cells ((Ba n Oq).flatMap smC).toArray 173 (0,0))):aD O B GO n F fix l0 ks WL WL 0 (l0.map λx=>(x,x)) [] where
 len:=rfl
 fst:=by rw[List.map_map];exact List.map_id l0
 rel q hq:=by
  obtain⟨x,-,rfl⟩:=List.mem_map.1 hq;exact⟨rfl,rfl,rfl,SmP.refl _⟩
 bld:=by
  rw[List.map_map];have e:l0.map ((λq:SmB×SmB=>q.2)∘λx=>(x,x))=l0:=List.map_id l0;rw[e];exact hB
 same _ _ _ _:=rfl
 size:=Am _
 frm:=Ag _ _
 out:=hout
 rows x hx:=by simp at hx
 spec j k x _ hx:=by simp at hx
theorem Bb6 {w:Aj} {A:Option Addr} {l:List (Cl×Cl)} {n:Nat} (h:Rd w A 6 n (l.flatMap pkC)) (i:Nat) (hi:i<l.length):
  ∃b o,A=Af ⟨b,o,Ae⟩∧b<w.heap.size∧w.cell? ⟨b,o+i*6,Ae⟩=Af (Aa Ab l[i].1.x)∧w.cell? ⟨b,o+i*6+1,Ae⟩=Af (Aa Ab l[i].1.y)∧w.cell? ⟨b,o+i*6+2,Ae⟩=Af (Aa Ac l[i].1.q)∧
   w.cell? ⟨b,o+i*6+3,Ae⟩=Af (Aa Ab l[i].2.x)∧w.cell? ⟨b,o+i*6+4,Ae⟩=Af (Aa Ab l[i].2.y)∧w.cell? ⟨b,o+i*6+5,Ae⟩=Af (Aa Ac l[i].2.q):=by
 have hl:=h.1;rw[Fv pkC 6 (λ_=>rfl)]at hl;obtain⟨b,o,e,hb,hc⟩:=h.2 Ci;have hat:∀f,f<6→(l.flatMap pkC)[i*6+f]? =(pkC l[i])[f]? :=λf hf=>Dz pkC 6 (λ_=>rfl) _ i f hi hf;exact⟨b,o,e,hb,hc (i*6+0) _ ((hat 0 Ci).trans rfl),hc (i*6+1) _ ((hat 1 Ci).trans rfl),hc (i*6+2) _ ((hat 2 Ci).trans rfl),hc (i*6+3) _ ((hat 3 Ci).trans rfl),hc (i*6+4) _ ((hat 4 Ci).trans rfl),hc (i*6+5) _ ((hat 5 Ci).trans rfl)⟩
theorem jC (a b:Int) (pA:Option Addr) (cr:List Cr) (pn pc:Nat) (root:Mv) (A:Option Addr) (l:List Stk) (n cc:Nat) (w:Aj) (hp:Gx a b cr) (hpn:pn=cr.length) (hpr:Rd w pA 3 pn (crs cr)) (hpl:pn≤1000000) (ht:root.t≤255)
  (hn:n=l.length) (h:Dh w A l) (hl:n≤100000) (hls:∀x∈l,x.ls.length≤100000) (hqs:∀x∈l,x.c.q≤255) (hQ:Qf w) (hT:Tn w):
  Al Tryz.prog 69 #[.agg #[Aa Ab a,Aa Ab b,Ad pA pn pc],.agg #[Aa Ac root.t,Aa Ab root.x,Aa Ab root.y],Ad A n cc] w (wA (Jv a b cr root l) (Yd a b cr root l).seams w):=by
 have HST:=Ah (λ(w':Aj) (hb:Below w.heap.size w w')=>aA a b pA cr pn pc root A l n cc w' hp hpn (hpr.below hb) hpl ht hn (h.below hb) hl hls hqs (hQ.below hb) (hT.below hb));have HPL:=Ah (λ(w':Aj) (hb:Below w.heap.size w w')=>bF a b pA cr pn pc root w' hp hpn (hpr.below hb) hpl ht (hQ.below hb) (hT.below hb));have HIM:=Ah (λ(w':Aj) (hb:Below w.heap.size w w')=>Pz a b pA cr pn pc root w' hp hpn (hpr.below hb) hpl ht (hQ.below hb) (hT.below hb));have HCN:=Ah (λ(w':Aj)=>Pt a b w' hp.sheet);have HSK:=Ah (λ(w':Aj) (hb:Below w.heap.size w w')=>h.below hb);have HMM:=Ah (λ(w':Aj) (hb:Below w.heap.size w w')=>(⟨hpn,hpr.below hb,hQ.below hb,hT.below hb⟩:pn=cr.length∧Rd w' pA 3 pn (crs cr)∧Qf w'∧Tn w'));have HP:=Ah hp;have HN:=Ah hn;have HLS:=Ah hls;have hcnt:=Nc hp.sheet
 have hc0:0<Cq a b:=by
  obtain⟨m1,-⟩:=Ho hp.sheet;have e0:4*a*b=4*(a*b):=Int.mul_assoc _ _ _;unfold Cq;omega
 obtain⟨cnt,hcn⟩:=ey (Cq a b);rw[hcn]at hcnt HCN hc0;have HCT:=Ah hcn;obtain⟨E,hE⟩:=ey (Jv a b cr root l);rw[hE]at HST⊢;have HE:=Ah hE;obtain⟨rt,rx,ry⟩:=root;dsimp only at HST HPL HIM ht⊢;have H:=((Bx.start w).new #[Aa Ab a,Aa Ab b,Ad pA pn pc] 28 rfl).new #[Aa Ac rt,Aa Ab rx,Aa Ab ry] 30 (N:=w.heap.size+1) Cn;clear hp hpn hpr hpl ht hn h hls hqs hQ hT hcn hE;go_enter Tryz.func69,Tryz.ntmps69;go_upto_region 1 with fail;obtain⟨N,hN⟩:=ez w.heap.size;rw[←hN]at H⊢;have HNN:=Ah hN;clear hN;obtain⟨P,hP⟩:=ey (N+1);rw[hP]at H⊢;obtain⟨W0,hW0⟩:=ez ((w.alloc (.cells #[Aa Ab a,Aa Ab b,Ad pA pn pc] 28)).alloc (.cells #[Aa Ac rt,Aa Ab rx,Aa Ab ry] 30));rw[←hW0]at H⊢;clear hW0;clear hP;obtain⟨⟨a0,a1,a2⟩,-⟩:=Cv (H.blk 0 _ _ _ rfl);obtain⟨⟨b0,b1,b2⟩,-⟩:=Cv (H.blk 1 _ _ _ rfl);go_wp2_with fail;refine(HST.out _ H.below).mono ?_;rintro ee w1 ⟨rfl,hb⟩;have H1:=H.call hb;clear a0 a1 a2 b0 b1 b2 hb H HST;by_cases hE0:E=0
 ·subst hE0;go_upto_region 4 with fail;have HWS:=Ah H1.below.size;go_cut [9] (λs9 wx=>∃Hb M B,s9= .pointer (Af ⟨B,0,Ae⟩)∧Hid (Bx w [(N,#[Aa Ab a,Aa Ab b,Ad pA pn pc],28),(P,#[Aa Ac rt,Aa Ab rx,Aa Ab ry],30),(Hb,(Di (Ba cnt 0)).toArray,3),(B,#[Aa Ab a,Aa Ab b,Ad pA pn pc,Ad Ae 0 0,Ad Ae 0 0,Ad (Af ⟨Hb,0,Ae⟩) cnt cnt,.map (Af M),Ad Ae 0 0],236)] wx∧Fq pkK wx M []∧w.heap.size≤M))
  case first=>
   obtain⟨⟨a0,a1,a2⟩,-⟩:=Cv (H1.blk 0 _ _ _ rfl);obtain⟨S,hSd⟩:∃S:Aj→Prop,S=λW'=>W'.cell? ⟨N,0,Ae⟩=Af (Aa Ab a)∧W'.cell? ⟨N,1,Ae⟩=Af (Aa Ab b)∧W'.cell? ⟨N,2,Ae⟩=Af (Ad pA pn pc):=⟨_,rfl⟩;have HSO:Hid (∀W',S W'→W'.cell? ⟨N,0,Ae⟩=Af (Aa Ab a)∧W'.cell? ⟨N,1,Ae⟩=Af (Aa Ab b)∧W'.cell? ⟨N,2,Ae⟩=Af (Ad pA pn pc)):=Ah λW' h=>by subst hSd;exact h
   have HSA:Hid (∀W',Below w1.heap.size w1 W'→S W'):=Ah λW' h=>by
    subst hSd;exact⟨Cj h a0,Cj h a1,Cj h a2⟩
   clear a0 a1 a2 hSd;refine Ao (S:=S) Cm (HSA.out _ (Ag _ _).drew) (λhS=>?_);have hb:Below w1.heap.size w1 w1.drew:=(Ag _ _).drew;have H:=H1.drew;obtain⟨X0,hX0⟩:=ez w1.drew;rw[←hX0]at hb hS H⊢;clear hX0;clear H1;refine Ck 0 ?_;refine Ck 1 ?_;refine Ck 2 ?_;refine Ap (rs:=[3,5]) Cm Cn (Aq rfl (λK hK=>?_) (Aq rfl (λK hK=>?_) Ar))
   ·go_simp;refine(HCN.out _).mono ?_;rintro ee X1 ⟨rfl,hbm⟩;have hb:=hb.trans (hbm.mono hb.size);have H:=H.call hbm;refine hK.out _ _ (HSA.out _ hb) (λhS=>?_);clear hK K hbm;refine Ap (rs:=[4,5]) Cm Cn (Aq rfl (λK hK=>?_) (Aq rfl (λK hK=>?_) Ar))
    ·obtain⟨Hb,hHb⟩:=ey X1.heap.size;have hmk:=Sz cnt hcnt X1;have H:=H.new (Di (Ba cnt 0)).toArray 3 hHb;have hbq:=(Ag X1.heap.size X1).alloc (Am _) (.cells (Di (Ba cnt 0)).toArray 3);have hb:=hb.trans (hbq.mono hb.size);rw[hHb]at hmk;go_simp;refine hK.out _ _ (HSA.out _ hb) (λhS=>?_);clear hK K hHb hmk hbq;obtain⟨X2,hX2⟩:=ez (X1.alloc (.cells (Di (Ba cnt 0)).toArray 3));rw[←hX2]at H hb hS⊢;clear hX2;refine rdy 5 (λK hK=>?_);obtain⟨M,hMd⟩:=ey X2.heap.size;have hmm:(Instr.makeMap 233 Ae).run Tryz.prog X2= .ok (.map (Af X2.heap.size)) (X2.alloc (.map #[] 0)):=by first|rfl|simp[Instr.makeMap]
     have hM:=Qb pkK X2;have H:=H.other (.map #[] 0);have hbq:=(Ag X2.heap.size X2).alloc (Am _) (.map #[] 0);have hMl:w1.heap.size≤X2.heap.size:=hb.size;have hb:=hb.trans (hbq.mono hb.size);rw[hMd]at hmm hM hMl;go_simp;refine hK.out _ _ (HSA.out _ hb) (λhS=>?_);clear hK K hMd hmm hbq;obtain⟨X3,hX3⟩:=ez (X2.alloc (.map #[] 0));rw[←hX3]at H hb hS hM⊢;clear hX3;refine Ck 6 ?_;obtain⟨B,hB⟩:=ey X3.heap.size;have hM:=hM.below ((Ag X3.heap.size X3).alloc (Am _) (.cells #[Aa Ab a,Aa Ab b,Ad pA pn pc,Ad Ae 0 0,Ad Ae 0 0,Ad (Af ⟨Hb,0,Ae⟩) cnt cnt,.map (Af M),Ad Ae 0 0] 236)) hM.lt;have H:=H.new #[Aa Ab a,Aa Ab b,Ad pA pn pc,Ad Ae 0 0,Ad Ae 0 0,Ad (Af ⟨Hb,0,Ae⟩) cnt cnt,.map (Af M),Ad Ae 0 0] 236 hB;have hb:=hb.alloc hb.size (.cells #[Aa Ab a,Aa Ab b,Ad pA pn pc,Ad Ae 0 0,Ad Ae 0 0,Ad (Af ⟨Hb,0,Ae⟩) cnt cnt,.map (Af M),Ad Ae 0 0] 236);refine rdy 7 (λK hK=>?_);go_simp;refine hK.out _ _ (HSA.out _ hb) (λhS=>?_);clear hK K hB;refine Ck 8 ?_;refine An Cm ?_ _;go_wp2;go_meet;exact⟨Hb,M,B,rfl,Ah ⟨H,hM,Br HWS.out hMl⟩⟩
    ·obtain⟨M,hMd⟩:=ey X1.heap.size;have hmm:(Instr.makeMap 233 Ae).run Tryz.prog X1= .ok (.map (Af X1.heap.size)) (X1.alloc (.map #[] 0)):=by first|rfl|simp[Instr.makeMap]
     have hM:=Qb pkK X1;have H:=H.other (.map #[] 0);have hbq:=(Ag X1.heap.size X1).alloc (Am _) (.map #[] 0);have hMl:w1.heap.size≤X1.heap.size:=hb.size;have hb:=hb.trans (hbq.mono hb.size);rw[hMd]at hmm hM hMl;go_simp;refine hK.out _ _ (HSA.out _ hb) (λhS=>?_);clear hK K hMd hmm hbq;obtain⟨X2,hX2⟩:=ez (X1.alloc (.map #[] 0));rw[←hX2]at H hb hS hM⊢;clear hX2;refine rdy 4 (λK hK=>?_);obtain⟨Hb,hHb⟩:=ey X2.heap.size;have hmk:=Sz cnt hcnt X2;have H:=H.new (Di (Ba cnt 0)).toArray 3 hHb;have hbq:=(Ag X2.heap.size X2).alloc (Am _) (.cells (Di (Ba cnt 0)).toArray 3);have hb:=hb.trans (hbq.mono hb.size);have hM:=hM.below hbq hM.lt;rw[hHb]at hmk;go_simp;refine hK.out _ _ (HSA.out _ hb) (λhS=>?_);clear hK K hHb hmk hbq;obtain⟨X3,hX3⟩:=ez (X2.alloc (.cells (Di (Ba cnt 0)).toArray 3));rw[←hX3]at H hb hS hM⊢;clear hX3;refine Ck 6 ?_;obtain⟨B,hB⟩:=ey X3.heap.size;have hM:=hM.below ((Ag X3.heap.size X3).alloc (Am _) (.cells #[Aa Ab a,Aa Ab b,Ad pA pn pc,Ad Ae 0 0,Ad Ae 0 0,Ad (Af ⟨Hb,0,Ae⟩) cnt cnt,.map (Af M),Ad Ae 0 0] 236)) hM.lt;have H:=H.new #[Aa Ab a,Aa Ab b,Ad pA pn pc,Ad Ae 0 0,Ad Ae 0 0,Ad (Af ⟨Hb,0,Ae⟩) cnt cnt,.map (Af M),Ad Ae 0 0] 236 hB;have hb:=hb.alloc hb.size (.cells #[Aa Ab a,Aa Ab b,Ad pA pn pc,Ad Ae 0 0,Ad Ae 0 0,Ad (Af ⟨Hb,0,Ae⟩) cnt cnt,.map (Af M),Ad Ae 0 0] 236);refine rdy 7 (λK hK=>?_);go_simp;refine hK.out _ _ (HSA.out _ hb) (λhS=>?_);clear hK K hB;refine Ck 8 ?_;refine An Cm ?_ _;go_wp2;go_meet;exact⟨Hb,M,B,rfl,Ah ⟨H,hM,Br HWS.out hMl⟩⟩
   ·obtain⟨M,hMd⟩:=ey X0.heap.size;have hmm:(Instr.makeMap 233 Ae).run Tryz.prog X0= .ok (.map (Af X0.heap.size)) (X0.alloc (.map #[] 0)):=by first|rfl|simp[Instr.makeMap]
    have hM:=Qb pkK X0;have H:=H.other (.map #[] 0);have hbq:=(Ag X0.heap.size X0).alloc (Am _) (.map #[] 0);have hMl:w1.heap.size≤X0.heap.size:=hb.size;have hb:=hb.trans (hbq.mono hb.size);rw[hMd]at hmm hM hMl;go_simp;refine hK.out _ _ (HSA.out _ hb) (λhS=>?_);clear hK K hMd hmm hbq;obtain⟨X1,hX1⟩:=ez (X0.alloc (.map #[] 0));rw[←hX1]at H hb hS hM⊢;clear hX1;refine rdy 3 (λK hK=>?_);go_simp;refine(HCN.out _).mono ?_;rintro ee X2 ⟨rfl,hbm⟩;have hb:=hb.trans (hbm.mono hb.size);have H:=H.call hbm;have hM:=hM.below hbm hM.lt;refine hK.out _ _ (HSA.out _ hb) (λhS=>?_);clear hK K hbm;refine rdy 4 (λK hK=>?_);obtain⟨Hb,hHb⟩:=ey X2.heap.size;have hmk:=Sz cnt hcnt X2;have H:=H.new (Di (Ba cnt 0)).toArray 3 hHb;have hbq:=(Ag X2.heap.size X2).alloc (Am _) (.cells (Di (Ba cnt 0)).toArray 3);have hb:=hb.trans (hbq.mono hb.size);have hM:=hM.below hbq hM.lt;rw[hHb]at hmk;go_simp;refine hK.out _ _ (HSA.out _ hb) (λhS=>?_);clear hK K hHb hmk hbq;obtain⟨X3,hX3⟩:=ez (X2.alloc (.cells (Di (Ba cnt 0)).toArray 3));rw[←hX3]at H hb hS hM⊢;clear hX3;refine Ck 6 ?_;obtain⟨B,hB⟩:=ey X3.heap.size;have hM:=hM.below ((Ag X3.heap.size X3).alloc (Am _) (.cells #[Aa Ab a,Aa Ab b,Ad pA pn pc,Ad Ae 0 0,Ad Ae 0 0,Ad (Af ⟨Hb,0,Ae⟩) cnt cnt,.map (Af M),Ad Ae 0 0] 236)) hM.lt;have H:=H.new #[Aa Ab a,Aa Ab b,Ad pA pn pc,Ad Ae 0 0,Ad Ae 0 0,Ad (Af ⟨Hb,0,Ae⟩) cnt cnt,.map (Af M),Ad Ae 0 0] 236 hB;have hb:=hb.alloc hb.size (.cells #[Aa Ab a,Aa Ab b,Ad pA pn pc,Ad Ae 0 0,Ad Ae 0 0,Ad (Af ⟨Hb,0,Ae⟩) cnt cnt,.map (Af M),Ad Ae 0 0] 236);refine rdy 7 (λK hK=>?_);go_simp;refine hK.out _ _ (HSA.out _ hb) (λhS=>?_);clear hK K hB;refine Ck 8 ?_;refine An Cm ?_ _;go_wp2;go_meet
    exact⟨Hb,M,B,rfl,Ah ⟨H,hM,Br HWS.out hMl⟩⟩
  case rest=>
   obtain⟨Hb,M,B,rfl,HS⟩:=hcut;obtain⟨H,hM,hMw⟩:=HS.out;have HMW:=Ah hMw;have HE0:=HE.out
   obtain⟨hbf,hcs⟩:(Df a b cr ⟨rt,rx,ry⟩).2=0∧chkS cnt l=0:=by
    unfold Jv at HE0;rw[HCT.out]at HE0
    split at HE0
    ·contradiction
    ·rename_i g1
     split at HE0
     ·contradiction
     ·rename_i g2;exact⟨Classical.not_not.1 g1,Classical.not_not.1 g2⟩
   obtain⟨hml,hil,hmok,hiok⟩:=Jc hbf;obtain⟨⟨⟨ms,is⟩,er⟩,hbo⟩:∃z,Df a b cr ⟨rt,rx,ry⟩=z:=⟨_,rfl⟩;rw[hbo]at HPL HIM hbf hml hil hmok hiok;dsimp only at HPL HIM hbf hml hil hmok hiok;subst hbf;rw[HCT.out]at hml hil;rw[hml]at HPL;rw[hil]at HIM;have HBO:=Ah hbo;have HML:=Ah hml;have HIL:=Ah hil;have HMO:=Ah hmok;have HIO:=Ah hiok;have HCS:=Ah hcs;clear hMw HE0 hbo hml hil hmok hiok hcs HS;obtain⟨⟨a0,a1,a2⟩,-⟩:=Cv (H.blk 0 _ _ _ rfl);obtain⟨⟨b0,b1,b2⟩,-⟩:=Cv (H.blk 1 _ _ _ rfl);go_wp2_with fail;refine(HPL.out _ H.below).mono ?_;rintro ee w2 ⟨hb,⟨h0,-⟩|⟨-,G1,rfl,hge,hG1⟩⟩
   ·exact absurd rfl h0
   have H2:=H.join hb hge hG1;have hM2:=hM.below hb hM.lt;clear a0 a1 a2 b0 b1 b2 hb hge hG1 H hM;have hB2:=H2.blk 3 _ _ _ rfl;have c3:w2.cell? ⟨B,3,Ae⟩=Af (Ad Ae 0 0):=(By w2 B 3 _ _ (0,0) hB2).trans rfl;have z3:w2.frozen? ⟨B,3,Ae⟩=false:=by simp[World.frozen?,hB2]
   obtain⟨⟨a0,a1,a2⟩,-⟩:=Cv (H2.blk 0 _ _ _ rfl);obtain⟨⟨b0,b1,b2⟩,-⟩:=Cv (H2.blk 1 _ _ _ rfl)
   have HBM:Hid (M≠B):=Ah λe=>by
    obtain⟨es,clock,hm,-⟩:=hM2;rw[e,hB2]at hm
    cases hm
   have H3:=H2.set 3 3 rfl (Ad (Af ⟨G1,0,Ae⟩) cnt cnt);have hM3:=hM2.same (w':=w2.setCell ⟨B,3,Ae⟩ (Ad (Af ⟨G1,0,Ae⟩) cnt cnt)) (Below.heap_setCell w2 ⟨B,3,Ae⟩ _ M (by show M≠B;exact HBM.out));dsimp only[Cf,Cg,List.nil_append,List.cons_append,Ch]at H3;have H2':=Ah H2;clear hB2 H2 hM2;go_upto_region 6 with fail;obtain⟨w3,hw3⟩:=ez (w2.setCell ⟨B,3,Ae⟩ (Ad (Af ⟨G1,0,Ae⟩) cnt cnt));rw[←hw3]at H3 hM3⊢;clear hw3;clear c3 z3 a0 a1 a2 b0 b1 b2 H2';obtain⟨⟨a0,a1,a2⟩,-⟩:=Cv (H3.blk 0 _ _ _ rfl);obtain⟨⟨b0,b1,b2⟩,-⟩:=Cv (H3.blk 1 _ _ _ rfl);go_wp2_with fail;refine(HIM.out _ H3.below).mono ?_;rintro ee w4 ⟨hb,⟨h0,-⟩|⟨-,G2,rfl,hge,hG2⟩⟩
   ·exact absurd rfl h0
   have H4:=H3.join hb hge hG2;have hM4:=hM3.below hb hM3.lt;clear a0 a1 a2 b0 b1 b2 hb hge hG2 H3 hM3;have hB2:=H4.blk 3 _ _ _ rfl;have c3:w4.cell? ⟨B,4,Ae⟩=Af (Ad Ae 0 0):=(By w4 B 4 _ _ (0,0) hB2).trans rfl;have z3:w4.frozen? ⟨B,4,Ae⟩=false:=by simp[World.frozen?,hB2]
   have H5:=H4.set 3 4 rfl (Ad (Af ⟨G2,0,Ae⟩) cnt cnt);have hM5:=hM4.same (w':=w4.setCell ⟨B,4,Ae⟩ (Ad (Af ⟨G2,0,Ae⟩) cnt cnt)) (Below.heap_setCell w4 ⟨B,4,Ae⟩ _ M (by show M≠B;exact HBM.out));dsimp only[Cf,Cg,List.nil_append,List.cons_append,Ch]at H5;clear hB2 H4 hM4;go_upto_region 7 with fail;obtain⟨w5,hw5⟩:=ez (w4.setCell ⟨B,4,Ae⟩ (Ad (Af ⟨G2,0,Ae⟩) cnt cnt));rw[←hw5]at H5 hM5⊢;clear hw5;clear c3 z3
   have H6:Hid (Bx w (osL a b pA pn pc rt rx ry N P Hb B G1 G2 M cnt ms is (Si cnt (hTo l 0 0))) w5):=Ah (by
    rw[Xp];exact H5)
   have hM6:=Ah hM5;clear H5 hM5 HPL HIM HCN HWS;go_wp2
   go_loopw [54] (λs54 wr=>∃k:Nat,k≤n∧s54= Aa Ab k∧Hid (Bx w (osL a b pA pn pc rt rx ry N P Hb B G1 G2 M cnt ms is (Si cnt (hTo l k 0))) wr)∧Hid (Fq pkK wr M [])) (λs54 _=>n-(intOf s54).toNat)
   case atStart=>exact⟨0,Ci,rfl,H6,hM6⟩
   case round=>
    obtain⟨k,hk,rfl,HH,HMP⟩:=hrel;clear H6 hM6;by_cases hlt:k<n
    ·have hkl:k<l.length:=by have:=HN.out;omega
     obtain⟨bb,o,A',c',hAA,hbl,⟨d0,d1,d2,d3⟩,hA',hle,hcm,hrd⟩:=(HSK.out w (Ag _ _)).get k hkl;have d0:=Cj HH.out.below d0;have d1:=Cj HH.out.below d1;have d2:=Cj HH.out.below d2;have d3:=Cj HH.out.below d3
     have hids:∀id∈l[k].ls,id<cnt:=λid hid=>by
      have:=(Gj HCS.out).1 k hkl;unfold Ft at this;rw[Aw hkl]at this;simp only[Bool.or_eq_false_iff]at this;have h2:=List.any_eq_false.1 this.2 id hid;simpa using h2
     have hlk:=HLS.out l[k] (Ay _);have hnx:=xY l k hkl
     have hst:∀j id,l[k].ls[j]? =Af id→hTo l k (j+1)=hTo l k j++[(id,j)]:=λj id hj=>by
      obtain⟨h1,rfl⟩:=Ax.1 hj;exact xZ l k j hkl h1
     obtain⟨⟨⟨x0,x1,x2⟩,ids⟩,hx⟩:∃z,l[k]=z:=⟨_,rfl⟩;simp only[hx]at d0 d1 d2 d3 hids hlk hnx hst hrd hA' hle;obtain⟨m,hm⟩:=ey ids.length;rw[hm]at d3 hlk hnx hrd hA' hle;have HRD:=Ah (λ(w':Aj) (hb:Below w.heap.size w w')=>hrd.below hb);have HID:=Ah hids;have HNX:=Ah hnx;have HSTP:=Ah hst;have HMD:=Ah hm;have q0:(k:Int)<(n:Int):=Ci;obtain⟨C,hC⟩:=ey wr.heap.size;have H7:=HH.out.new #[Aa Ab x0,Aa Ab x1,Aa Ac x2,Ad A' m c'] 89 hC;have hM7:=HMP.out.below ((Ag wr.heap.size wr).alloc (Am _) (.cells #[Aa Ab x0,Aa Ab x1,Aa Ac x2,Ad A' m c'] 89)) HMP.out.lt;have hbq:=(Ag wr.heap.size wr).alloc (Am _) (.cells #[Aa Ab x0,Aa Ab x1,Aa Ac x2,Ad A' m c'] 89);subst hAA;clear hids hnx hst hrd hA' hle hx hm;go_upto_region 10 with fail;obtain⟨w7,hw7⟩:=ez (wr.alloc (.cells #[Aa Ab x0,Aa Ab x1,Aa Ac x2,Ad A' m c'] 89));rw[←hw7]at H7 hM7 hbq⊢;clear hw7;have HBQ:=Ah hbq;clear d0 d1 d2 d3 hbq hC;obtain⟨⟨e0,e1,e2,e3⟩,-⟩:=Ez (H7.blk 6 _ _ _ rfl);have H7:=Ah (H7.upto 6);have hM7:=Ah hM7;have hM70:=hM7;go_wp2_with fail;obtain⟨WY,rfl⟩:=ez wr
     go_loopw [61] (λs61 wr=>∃j:Nat,j≤m∧s61= Aa Ab j∧Hid (Bx w (osL a b pA pn pc rt rx ry N P Hb B G1 G2 M cnt ms is (Si cnt (hTo l k j))) wr)∧Hid (Fq pkK wr M [])) (λs61 _=>m-(intOf s61).toNat)
     case atStart=>exact⟨0,Ci,rfl,H7,hM70⟩
     case round=>
      obtain⟨j,hj,rfl,HH2,HMP2⟩:=hrel;clear H7 hM7 hM70 HH HMP;by_cases hlt2:j<m
      ·have hji:j<ids.length:=by have:=HMD.out;omega
       obtain⟨rb,ro,hrA,hrl,r0⟩:=Mi (HRD.out _ HH2.out.below) j hji;obtain⟨id,hid⟩:=ey (ids[j]);have hidc:id<cnt:=HID.out id (hid▸Ay hji);have hst:=HSTP.out j id (by rw[Aw hji,hid]);rw[hid]at r0;have q1:(j:Int)<(m:Int):=Ci;have q2:(id:Int)<(cnt:Int):=Ci;have hBB:=HH2.out.blk 3 _ _ _ rfl;have f5:wr.cell? ⟨B,5,Ae⟩=Af (Ad (Af ⟨Hb,0,Ae⟩) cnt cnt):=(By wr B 5 _ _ (0,0) hBB).trans rfl;have hHB:=HH2.out.blk 2 _ _ _ rfl;have hhl:=Xo cnt (hTo l k j);obtain⟨hv,hhv⟩:∃z,(Si cnt (hTo l k j))[id]? =Af z:=⟨_,Aw Ci⟩
       have c0:wr.cell? ⟨Hb,id,Ae⟩=Af (Aa Ab (hv:Int)):=by
        rw[By wr Hb id _ _ (0,0) hHB,List.getElem?_toArray];unfold Di;rw[List.getElem?_map,hhv];rfl
       have z0:wr.frozen? ⟨Hb,id,Ae⟩=false:=by simp[World.frozen?,hHB]
       have H8:=HH2.out.set 2 id rfl (Aa Ab (j:Int));rw[qC,←sP cnt (hTo l k j) (id,j),←hst]at H8
       have hMH:M≠Hb:=λe=>by
        obtain⟨es,clock,hm,-⟩:=HMP2.out;rw[e,hHB]at hm
        cases hm
       have H8:=Ah H8;have hM8:=Ah (HMP2.out.same (w':=wr.setCell ⟨Hb,id,Ae⟩ (Aa Ab (j:Int))) (Below.heap_setCell wr ⟨Hb,id,Ae⟩ _ M (by show M≠Hb;exact hMH)));subst hrA;clear hBB hHB hhv hst hhl hid hidc;go_wp2;exact⟨⟨j+1,Ci,by go_num,H8,hM8⟩,by simp[intOf];omega⟩
      ·obtain rfl:j=m:=Ci;have q1:¬(j:Int)<(j:Int):=Ci;have H8:Hid (Bx w (osL a b pA pn pc rt rx ry N P Hb B G1 G2 M cnt ms is (Si cnt (hTo l (k+1) 0))) wr):=Ah (by rw[←HNX.out];exact HH2.out);go_wp2;exact⟨⟨k+1,Ci,by go_num,H8,HMP2⟩,by simp[intOf];omega⟩
    ·obtain rfl:k=n:=Ci;have q0:¬(k:Int)<(k:Int):=Ci;obtain⟨K,hK⟩:∃z:Lk,Yd a b cr ⟨rt,rx,ry⟩ l=z:=⟨_,rfl⟩;rw[hK];have hhl:=Xo cnt (Lb l)
     have hKe:K=⟨a,b,cr,ms,is,Si cnt (Lb l)⟩:=by
      rw[←hK];unfold Yd;rw[HBO.out,HCT.out]
     have hh0:hTo l k 0=Lb l:=by
      have:=Ai3 l;rw[←HN.out]at this;exact this
     rw[hh0]at HH;obtain⟨hbl,hlm⟩:=zQ HH.out HMP.out HMW.out HML.out HIL.out hhl HMM.out;have hin:=Ba6 (b:=b) HCT.out HML.out HIL.out hhl HMO.out HIO.out HP.out;rw[←hKe]at hbl hlm hin;obtain⟨V,hV⟩:=ey (osV pA pn pc Hb G1 G2 cnt);rw[hV]at hbl hlm;have HBL:=Ah hbl;have HLM:=Ah hlm;have HIN:=Ah hin;have hbw:=HH.out.below;have HBW:=Ah hbw;have HHA:=Ah (show V.hA=Af ⟨Hb,0,Ae⟩∧V.hc=cnt by rw[←hV];exact⟨rfl,rfl⟩);have HKK:=Ah hK;clear hK hKe hh0 hhl hbl hlm hin hV hbw HH HMP HBO HML HIL HMO HIO HP HMM HSK HCS HN HLS HMW HCT HE;obtain⟨-,-,-,-,-,f5⟩:=Kk HBL.out;rw[HHA.out.1,HHA.out.2]at f5;obtain⟨WZ,rfl⟩:=ez wr;go_wp2_with fail;clear f5
     go_loopw [80] (λs80 wr=>∃i:Nat,i≤cnt∧s80= Aa Ab i∧Hid (∃lB:List SmB,lB.map (·.s)=K.seamsTo (3*i)∧Dn w.heap.size B [G1,G2,Hb] (V.fix K cnt) wr lB∧Frm w.heap.size [G1,G2,Hb] WZ wr)) (λs80 _=>cnt-(intOf s80).toNat)
     case atStart=>exact⟨0,Ci,rfl,Ah ⟨[],rfl,HBL.out,Frm.refl _ _ _⟩⟩
     case round=>
      obtain⟨i,hi,rfl,HS⟩:=hrel;by_cases hlt2:i<cnt
      ·have q1:(i:Int)<(cnt:Int):=Ci;go_wp2_with fail;obtain⟨WX,rfl⟩:=ez wr
       go_loopw [83] (λs83 wr=>∃e:Nat,e≤3∧s83= Aa Ac e∧Hid (∃lB:List SmB,lB.map (·.s)=K.seamsTo (3*i+e)∧Dn w.heap.size B [G1,G2,Hb] (V.fix K cnt) wr lB∧Frm w.heap.size [G1,G2,Hb] WZ wr)) (λs83 _=>3-(intOf s83).toNat)
       case atStart=>exact⟨0,Ci,rfl,HS⟩
       case round=>
        obtain⟨e,he,rfl,HS2⟩:=hrel;clear HS;by_cases hlt3:e<3
        ·have q2:(e:Int)<3:=Ci;obtain⟨lB,hs1,hB1,hF1⟩:=HS2.out;have hsk:=Of HIN.out (3*i+e) Ci;rw[←hs1]at hsk;have hlen:lB.length≤3*i+e:=by simpa using hsk.2
         have HMT:=Ah (zC w.heap.size B cnt i e [G1,G2,Hb] K V lB wr HIN.out hlt2 Ci (HLM.out.frm hF1) hB1 Ci (λx hx=>by
          have:=hsk.1 x.s (List.mem_map.2 ⟨x,hx,rfl⟩);exact⟨by have:=this.lp;omega,by have:=this.ll;omega,by have:=this.le;omega⟩))
         rw[hs1]at HMT
         have hstep:K.meet i e (K.seamsTo (3*i+e))=K.seamsTo (3*i+(e+1)):=by
          show _=K.meet ((3*i+e)/3) ((3*i+e)%3) (K.seamsTo (3*i+e));rw[show(3*i+e)/3=i by omega,show(3*i+e)%3=e by omega]
         rw[hstep]at HMT;have HF1:=Ah hF1;clear hs1 hB1 hF1 hsk hlen hstep HS2;go_wp2_with fail;refine HMT.out.mono ?_;rintro ee w9 ⟨rfl,l2,hs2,hB2,hF2⟩;have HS3:Hid (∃lB:List SmB,lB.map (·.s)=K.seamsTo (3*i+(e+1))∧Dn w.heap.size B [G1,G2,Hb] (V.fix K cnt) w9 lB∧Frm w.heap.size [G1,G2,Hb] WZ w9):=Ah ⟨l2,hs2,hB2,HF1.out.trans hF2⟩;clear hs2 hB2 hF2 HF1 HMT;go_wp2;exact⟨⟨e+1,Ci,by go_num,HS3⟩,by simp[intOf];omega⟩
        ·obtain rfl:e=3:=Ci;have HS3:Hid (∃lB:List SmB,lB.map (·.s)=K.seamsTo (3*(i+1))∧Dn w.heap.size B [G1,G2,Hb] (V.fix K cnt) wr lB∧Frm w.heap.size [G1,G2,Hb] WZ wr):=Ah HS2.out;go_wp2;exact⟨⟨i+1,Ci,by go_num,HS3⟩,by simp[intOf];omega⟩
      ·obtain rfl:i=cnt:=Ci;have q1:¬(i:Int)<(i:Int):=Ci;obtain⟨l0,hs0,hB0,hF0⟩:=HS.out;have hsk:=Of HIN.out (3*i) (Am _);rw[←hs0]at hsk;have hok:∀x∈l0,Ty i (3*i) x.s:=λx hx=>hsk.1 x.s (List.mem_map.2 ⟨x,hx,rfl⟩);have hlen:l0.length≤3*i:=by simpa using hsk.2
       have hse:K.seams=l0.map (·.s):=by
        unfold Lk.seams;rw[←HIN.out.n];exact hs0.symm
       have HSE:=Ah hse;obtain⟨A7,c7,k7,hsort⟩:=wS hB0 (λx hx=>⟨(hok x hx).qa,(hok x hx).qb⟩) Ci;have HSO:=Ah hsort;have HOK:=Ah hok;have HLN:=Ah hlen;have HF0:=Ah hF0;obtain⟨m,hm⟩:=ey l0.length;rw[hm]at k7 HSO;have HMM:=Ah hm;have hm5:m≤100000:=Ci;clear hsk hs0 hB0 hF0 hsort hok hlen hse HS hm;go_wp2_with fail;refine HSO.out.mono ?_;rintro ee w8 ⟨rfl,hB8,hF8⟩;clear k7 HSO;have HB8:=Ah hB8;have HF8:=Ah (HF0.out.trans hF8);obtain⟨M8,kv,a1,a2,a3,⟨ks,hkp,a4⟩,a5,a6,a7,a8,a9,a10⟩:=hB8;have hkl:ks.length=m:=by rw[hkp.length_eq,Bo];exact HMM.out
       rw[hkl]at a4;obtain⟨A8,c8,hv,-,-⟩:=Dv a4;subst hv;obtain⟨k6,k7,-,-,-⟩:=Hu a1 a2;have hmk:=zB m hm5 w8;obtain⟨GO,hGO⟩:=ey w8.heap.size;have hbq:=(Ag w8.heap.size w8).alloc (Am _) (.cells ((Ba m Oq).flatMap smC).toArray 173);have hBL:=Ah (HB8.out.more (P:=GO) hbq Ci (by simp;omega));have hkL:=Dj a4 (Am _) hbq;have hM8:=a3.below hbq a3.lt;have hltB:∀g∈l0.flatMap SmB.blks,g<w8.heap.size:=λg hg=>(a5.lt g hg).2
       have hkb:∀g,Value.ownBlock (Ad A8 m c8)=Af g→g<w8.heap.size∧g∉l0.flatMap SmB.blks:=λg hg=>⟨(a4.lt g hg).2,λhx=>by
        unfold Cz at a7;simp only[List.nodup_cons,Bp,Option.mem_toList]at a7;exact a7.2.2.2.2 g hg g hx rfl⟩
       have hMb:M8<w8.heap.size∧M8∉l0.flatMap SmB.blks:=⟨a3.lt,λhx=>by
        unfold Cz at a7;simp only[List.nodup_cons,Bl,not_or]at a7;exact a7.2.1.2 hx⟩
       have hBb:B<w8.heap.size∧B∉l0.flatMap SmB.blks:=⟨(Au.1 a2).1,λhx=>by
        unfold Cz at a7;simp only[List.nodup_cons,Bl,Bk,not_or]at a7;exact a7.1.2.2 hx⟩
       have k6L:=Cj hbq k6;have k7L:=Cj hbq k7;have hout:=Bz w8 (.cells ((Ba m Oq).flatMap smC).toArray 173);have hbOL:Below w.heap.size WZ (w8.alloc (.cells ((Ba m Oq).flatMap smC).toArray 173)):=HF8.out.1.trans (hbq.mono (by have:=HBW.out.size;have:=HF8.out.1.size;omega));have hLML:=HLM.out.frm (HF8.out.trans (⟨hbq.mono (by have:=HBW.out.size;have:=HF8.out.1.size;omega),λg hg=>hbq.block g (a10 g hg).1⟩:Frm w.heap.size [G1,G2,Hb] w8 _));have hOG:w.heap.size≤GO:=by have:=HBW.out.size;have:=HF8.out.1.size;omega
       rw[hGO]at hmk hout;rw[hGO]at hltB hkb hMb hBb;go_upto_region 27 with fail
       try rw[hGO]
       obtain⟨WL,hWL⟩:=ez (w8.alloc (.cells ((Ba m Oq).flatMap smC).toArray 173));rw[←hWL]at hBL hkL hM8 k6L k7L hout hbOL hLML⊢;clear hWL;have hnd:=hBL.out.keys;have hst:=zS (n:=m) (ks:=ks) hBL.out hout;have hGOl:GO<WL.heap.size:=(Au.1 hout).1
       have hF3:∀g∈[G1,G2,Hb],g<WL.heap.size∧g∉l0.flatMap SmB.blks∧g≠GO:=λg hg=>by
        have h1:=(a10 g hg).1;refine⟨Ci,λhx=>(a10 g hg).2 ?_,Ci⟩;unfold Cz;simp only[Bk,Bl];exact .inr (.inr (.inr hx))
       have HKS:=Ah hkp;have HKL:=Ah hkl;have HND:=Ah hnd;have HGO:=Ah hGOl;have HOG:=Ah hOG;have HF3:=Ah hF3
       have HLTB:Hid (∀g∈l0.flatMap SmB.blks,g<WL.heap.size∧g≠GO):=Ah λg hg=>by
        have:=hltB g hg;exact⟨Ci,Ci⟩
       have HKB:Hid (∀g,Value.ownBlock (Ad A8 m c8)=Af g→g<WL.heap.size∧g∉l0.flatMap SmB.blks∧g≠GO):=Ah λg hg=>by
        obtain⟨h1,h2⟩:=hkb g hg;exact⟨Ci,h2,Ci⟩
       have HMB:Hid (M8<WL.heap.size∧M8∉l0.flatMap SmB.blks∧M8≠GO):=Ah ⟨Ci,hMb.2,Ci⟩;have HBB:Hid (B<WL.heap.size∧B∉l0.flatMap SmB.blks∧B≠GO):=Ah ⟨Ci,hBb.2,Ci⟩;have HKR:=Ah hkL;have HM8:=Ah hM8;have HK6:=Ah k6L;have HBO:=Ah hbOL;have HLL:=Ah hLML;have hrel0:Hid (∃zz zs,aD w.heap.size B GO m [G1,G2,Hb] (V.fix K i) l0 ks WL WL 0 zz zs):=Ah ⟨_,_,hst⟩;clear hst a1 a2 a3 a4 a5 a6 a7 a8 a9 a10 hkp hkl k6 k7 hmk hGO hbq hBL hkL hM8 hltB hkb hMb hBb k6L hout hbOL hLML hOG hnd hGOl hF3 HB8 HF8 HF0 HLM HBL;go_wp2_with fail;clear k7L
       go_loopw [108] (λs108 wr=>∃j:Nat,j≤m∧s108= Aa Ab j∧Hid (∃zz zs,aD w.heap.size B GO m [G1,G2,Hb] (V.fix K i) l0 ks WL wr j zz zs)) (λs108 _=>m-(intOf s108).toNat)
       case atStart=>exact⟨0,Ci,rfl,hrel0⟩
       case round=>
        obtain⟨j,hj,rfl,HV⟩:=hrel;clear hrel0;by_cases hlt2:j<m
        ·have q1:(j:Int)<(m:Int):=Ci;obtain⟨zz,zs,hv⟩:=HV.out;obtain⟨k9,x0,x,b1,b2,hk9,hget,hx0,hsp,hzz,hnext⟩:=Am9 hv hlt2 HKS.out HKL.out HND.out HGO.out HOG.out HLTB.out;have HNX:=Ah hnext;have hkl2:j<ks.length:=by rw[HKL.out];exact hlt2
         have hkr:=Dr HKR.out (w':=wr) λg hg=>hv.same g (HKB.out g hg).1 (HKB.out g hg).2.1 (HKB.out g hg).2.2;obtain⟨kb,ko,hA8,hkbl,r0,r1,r2,r3,r4,r5⟩:=Bb6 (Rd.of_own hkr) j hkl2;have hkk:ks[j]=k9:=by rw[Aw hkl2]at hk9;simpa using hk9
         rw[hkk]at r0 r1 r2 r3 r4 r5;have hlk:=λW' (h:Fq pkK W' M8 (Js l0))=>Qa Wq Tryz.underlying233 (et:=242) (z:= .pointer Ae) (λw=>Cm) h k9 false;rw[hget]at hlk;simp only[Bool.false_eq_true,if_false,Option.getD_some]at hlk;obtain⟨⟨⟨u0,u1,u2⟩,v0,v1,v2⟩,hke⟩:∃z,k9=z:=⟨_,rfl⟩;rw[hke]at r0 r1 r2 r3 r4 r5 hlk;unfold pkK SmB.ptr at hlk;dsimp only at r0 r1 r2 r3 r4 r5 hlk;have HLK:=Ah hlk
         have hB6:wr.cell? ⟨B,6,Ae⟩=Af (.map (Af M8)):=by
          have h6:=HK6.out;unfold World.cell? at h6⊢;rw[hv.same B HBB.out.1 HBB.out.2.1 HBB.out.2.2];exact h6
         have hMw:=HM8.out.same (w':=wr) (hv.same M8 HMB.out.1 HMB.out.2.1 HMB.out.2.2);obtain⟨C,hC⟩:=ey wr.heap.size;have hbq:=(Ag wr.heap.size wr).alloc (Am _) (.cells #[Aa Ab u0,Aa Ab u1,Aa Ac u2,Aa Ab v0,Aa Ab v1,Aa Ac v2] 239);have hbC:=Bz wr (.cells #[Aa Ab u0,Aa Ab u1,Aa Ac u2,Aa Ab v0,Aa Ab v1,Aa Ac v2] 239);rw[hC]at hbC;have hB6':=Cj hbq hB6;have hMw':=hMw.below hbq hMw.lt;have hszW:=hv.size;have HVV:=Ah hv;have HZZ:=Ah hzz;have HSP:=Ah hsp;have HX0:=Ah hx0;clear hv hzz hsp hx0 hnext hkr hget hk9 hkk hke hkl2 hlk hB6 hMw hkbl HV;subst hA8;go_upto_region 30 with fail
         try rw[hC]
         obtain⟨W1,hW1⟩:=ez (wr.alloc (.cells #[Aa Ab u0,Aa Ab u1,Aa Ac u2,Aa Ab v0,Aa Ab v1,Aa Ac v2] 239));rw[←hW1]at hbq hbC hB6' hMw'⊢;clear hW1;clear r0 r1 r2 r3 r4 r5;obtain⟨⟨y0,y1,y2,y3,y4,y5⟩,-⟩:=Wa hbC;obtain⟨S,hSd⟩:∃S:Aj→Prop,S=λW'=>W'.cell? ⟨C,0,Ae⟩=Af (Aa Ab u0)∧W'.cell? ⟨C,1,Ae⟩=Af (Aa Ab u1)∧W'.cell? ⟨C,2,Ae⟩=Af (Aa Ac u2)∧W'.cell? ⟨C,3,Ae⟩=Af (Aa Ab v0)∧W'.cell? ⟨C,4,Ae⟩=Af (Aa Ab v1)∧W'.cell? ⟨C,5,Ae⟩=Af (Aa Ac v2):=⟨_,rfl⟩;have HSO:Hid (∀W',S W'→W'.cell? ⟨C,0,Ae⟩=Af (Aa Ab u0)∧W'.cell? ⟨C,1,Ae⟩=Af (Aa Ab u1)∧W'.cell? ⟨C,2,Ae⟩=Af (Aa Ac u2)∧W'.cell? ⟨C,3,Ae⟩=Af (Aa Ab v0)∧W'.cell? ⟨C,4,Ae⟩=Af (Aa Ab v1)∧W'.cell? ⟨C,5,Ae⟩=Af (Aa Ac v2)):=Ah λW' h=>by subst hSd;exact h
         have HSA:Hid (∀W',W'.heap[C]? =W1.heap[C]? →S W'):=Ah λW' h=>by
          have hc:∀f u,W1.cell? ⟨C,f,Ae⟩=Af u→W'.cell? ⟨C,f,Ae⟩=Af u:=λf u hu=>by
           unfold World.cell? at hu⊢;rw[h];exact hu
          subst hSd;exact⟨hc _ _ y0,hc _ _ y1,hc _ _ y2,hc _ _ y3,hc _ _ y4,hc _ _ y5⟩
         have hCl:C<W1.heap.size:=(Au.1 hbC).1;clear y0 y1 y2 y3 y4 y5 hSd hbC;have hbd:Below wr.heap.size wr W1.drew:=hbq.drew;have hv:=HVV.out
         have hFx:Frm w.heap.size [G1,G2,Hb] WL W1.drew:=⟨hv.frm.trans (hbd.mono (by have:=HOG.out;have:=HGO.out;omega)),λg hg=>by
          obtain⟨g1,g2,g3⟩:=HF3.out g hg;exact(hbd.block g Ci).trans (hv.same g g1 g2 g3)⟩
         have hBx:=hv.bld.below hbd;rw[HZZ.out]at hBx;have hokx:=HOK.out x0 HX0.out
         have HSRT:=Ah (oO w.heap.size B i (GO::[G1,G2,Hb]) K V b1 b2 x W1.drew HIN.out ((HLL.out.frm hFx).more) hBx hc0
          (λp hp=>(hokx.ps p (HSP.out.ps.mem_iff.2 hp)).1) (λp hp=>(hokx.ls p (HSP.out.ls.mem_iff.2 hp)).2.1)
          ⟨by have:=HSP.out.ps.length_eq;have:=hokx.lp;omega,by have:=HSP.out.ls.length_eq;have:=hokx.ll;omega,by have:=HSP.out.es.length_eq;have:=hokx.le;omega⟩)
         have hxlt:∀g∈x.blks,g<WL.heap.size∧g≠GO:=λg hg=>by
          have hgm:g∈(zz.map (·.2)).flatMap SmB.blks:=by rw[HZZ.out];simp[hg]
          obtain⟨q,hq,hgq⟩:=List.mem_flatMap.1 hgm;obtain⟨r,hr,rfl⟩:=List.mem_map.1 hq;have hrb:=(hv.rel r hr).blks;rw[hrb]at hgq;exact HLTB.out g (List.mem_flatMap.2 ⟨r.1,by rw[←hv.fst];exact List.mem_map.2 ⟨r,hr,rfl⟩,hgq⟩)
         have HXLT:=Ah hxlt;have hGOw:wr.heap[GO]? =_:=hv.out;have hzl:=hv.len;have HZL:=Ah hzl;have HGW:=Ah hGOw;have hk6:W1.drew.cell? ⟨B,6,Ae⟩=Af (.map (Af M8)):=hB6';have HMW:=Ah hMw';unfold SmB.ptr at HSRT;clear hv hFx hBx hokx hxlt hGOw hzl hB6' hMw' hbq;have HBD:=Ah hbd;clear hbd;refine Ao (S:=S) Cm (HSA.out _ rfl) (λhS=>?_);have hlk:=HLK.out W1.drew (HMW.out.same rfl);have hCD:C<W1.drew.heap.size:=hCl;have hCH:Hid (W1.drew.heap[C]? =W1.heap[C]?):=Ah rfl;obtain⟨X0,hX0⟩:=ez W1.drew;rw[←hX0]at hS hlk hk6 HSRT HBD hCD hCH⊢;clear hX0;refine Ck 0 ?_;refine Ck 1 ?_;refine Ck 2 ?_;refine Ck 3 ?_;refine Ck 4 ?_;refine Ck 5 ?_;refine Ck 7 ?_;refine rdy 6 (λK hK=>?_);go_simp;refine hK.out _ _ hS (λhS=>?_);clear hK K hk6;refine rdy 8 (λK hK=>?_);go_simp;refine hK.out _ _ hS (λhS=>?_);clear hK K hlk;refine rdy 9 (λK hK=>?_);go_simp;refine HSRT.out.mono ?_;rintro ee X1 ⟨y,A1,A2,A3,rfl,hys,hyp,hyk,hB2,hF2,hrw,hyb,honly⟩;have hCne:C≠GO:=by have:=HGO.out;omega
         have hCx:C∉x.blks:=λhg=>by have:=(HXLT.out C hg).1;omega
         have hC1:X1.heap[C]? =W1.heap[C]? :=(honly C hCD hCx).trans hCH.out;have hGOx:GO∉x.blks:=λhg=>(HXLT.out GO hg).2 rfl;have hszX:=HBD.out.size;have hGOX:X1.heap[GO]? =wr.heap[GO]? :=(honly GO (by have:=HGO.out;omega) hGOx).trans (HBD.out.block GO (by have:=HGO.out;omega));obtain⟨u8c,u8z,-⟩:=iC (y.s,A1,A2,A3) (hGOX.trans HGW.out) HZL.out hlt2;have HNXT:=HNX.out X0 X1 y A1 A2 A3 HBD.out hys hyp hyk hyb hB2 hF2 hrw honly;have hC2:(X1.setCells GO (j*9) (smC (y.s,A1,A2,A3))).heap[C]? =W1.heap[C]? :=(World.heap_setCells_other X1 GO (j*9) _ (by have:=hF2.1.size;omega) hCne).trans hC1;have HS2:=Ah (HSA.out _ hC2);refine hK.out _ _ (HSA.out _ hC1) (λhS=>?_);clear hK K;clear hys hyp hyk hB2 hF2 hrw hyb honly hC1 hC2 hGOX HSRT;obtain⟨w0c,e0⟩:=u8c 0 Ci;obtain⟨w1c,e1⟩:=u8c 1 Ci;obtain⟨w2c,e2⟩:=u8c 2 Ci;obtain⟨w3c,e3⟩:=u8c 3 Ci;obtain⟨w4c,e4⟩:=u8c 4 Ci;obtain⟨w5c,e5⟩:=u8c 5 Ci;obtain⟨w6c,e6⟩:=u8c 6 Ci;obtain⟨w7c,e7⟩:=u8c 7 Ci;obtain⟨w8c,e8⟩:=u8c 8 Ci;have z0:=u8z (j*9);have z1:=u8z (j*9+1);have z2:=u8z (j*9+2);have z3:=u8z (j*9+3);have z4:=u8z (j*9+4);have z5:=u8z (j*9+5);have z6:=u8z (j*9+6);have z7:=u8z (j*9+7);have z8:=u8z (j*9+8);simp only[Nat.add_zero]at e0;unfold smC at HS2 HNXT;unfold Sm.val Sm.cells;unfold Sm.cells at HS2 HNXT;obtain⟨⟨⟨s0,s1,s2⟩,⟨t0,t1,t2⟩,ps,ls,es⟩,hys⟩:∃z,y.s=z:=⟨_,rfl⟩;rw[hys]at HS2 HNXT⊢;obtain⟨np,hnp⟩:=ey ps.length;obtain⟨nl,hnl⟩:=ey ls.length;obtain⟨ne,hne⟩:=ey es.length;dsimp only at HS2 HNXT⊢;rw[hnp,hnl,hne]at HS2 HNXT⊢;have HNXT:=Ah HNXT;clear u8c u8z hys hnp hnl hne;refine Ck 10 ?_;refine rdy 11 (λK hK=>?_);go_simp;have hS3:=HS2.out;have HNX3:=HNXT.out;simp only[World.setCells,Nat.add_assoc,Nat.reduceAdd]at hS3 HNX3;refine hK.out _ _ hS3 (λhS=>?_);have HNX3:=Ah HNX3;clear hK K hS3 hS e0 e1 e2 e3 e4 e5 e6 e7 e8 z0 z1 z2 z3 z4 z5 z6 z7 z8 HNXT HS2;refine An Cm ?_ _;go_wp2_with fail;obtain⟨zz',hzn⟩:=HNX3.out
         exact⟨⟨j+1,Ci,by go_num,Ah ⟨zz',_,hzn⟩⟩,by simp[intOf];omega⟩
        ·obtain rfl:j=m:=Ci;have q1:¬(j:Int)<(j:Int):=Ci;obtain⟨zz,zs,hv⟩:=HV.out;obtain⟨h1,h2⟩:=Aw3 (O':=w.heap.size) hv HKS.out HKL.out HND.out HOG.out (by have:=HOG.out;have:=HGO.out;omega);rw[←HSE.out]at h1;have hzl:=hv.len
         have HFIN:Hid (wA 0 K.seams w (.returned (.tuple #[Ad (Af ⟨GO,0,Ae⟩) j j,Aa Ab 0])) wr):=Ah
          ⟨HBW.out.trans (HBO.out.trans hv.frm),.inr ⟨rfl,Af ⟨GO,0,Ae⟩,zs.map (·.1),by rw[Bo,hzl],h1,h2⟩⟩
         clear hv h1 h2 hzl HV;go_wp2_with fail;refine Ai (v:= .tuple #[Ad (Af ⟨GO,0,Ae⟩) j j,Aa Ab 0]) (by simp[results,Tryz.results69,go_sem]) rfl ?_;rw[HKK.out];exact HFIN.out
 ·have q1:(E != 0)=true:=by simpa using hE0
  go_wp2_with fail;refine Ai (v:= .tuple #[Ad Ae 0 0,Aa Ab E]) (by simp[results,Tryz.results69,go_sem]) rfl ?_;exact⟨H1.below,.inl ⟨hE0,rfl⟩⟩
theorem lY (F:FuncId) (hen:∀(args:Array Ak) (w:Aj),(callFunc F args).run Tryz.prog w= .ok (.enter F args) w) (caps:Array Ak) (p:Nat×Nat×Nat→Bool) (A:Option Addr) (l:List (Nat×Nat×Nat)) (n c:Nat) (w:Aj) (hn:n=l.length) (h:Rd w A 3 n (Iu l)) (hl:n≤1000000)
  (hf:∀(i:Nat×Nat×Nat) (w':Aj),i∈l→Below w.heap.size w w'→Al Tryz.prog F (#[.agg #[Aa Ac (i.1:Int),Aa Ab (i.2.1:Int),Aa Ab (i.2.2:Int)]]++caps) w' (Co (.bool (p i)) w')):
  Al Tryz.prog 172 #[Ad A n c,.func (.func F) #[] caps] w λe w'=>(∃r:Int,e= .returned (Aa Ab r)∧((l.any p)=decide (0≤r)))∧Below w.heap.size w w':=by
 have HRD:=Ah h;have HN:=Ah hn;have HFX:=Ah hf;clear h hn hf;go_enter Tryz.func172,Tryz.ntmps172;go_wp2
 go_loopw [5,8] (λ_ i wr=>∃k:Nat,k≤n∧i= Aa Ab k∧Below w.heap.size w wr∧Hid (∀j (hj:j<l.length),j<k→p l[j]=false)) (λ_ i _=>n-(intOf i).toNat)
 case atStart=>exact⟨0,Ci,rfl,Ag _ _,Ah λj _ hj=>absurd hj Ci⟩
 case round=>
  obtain⟨k,hk,rfl,hb,HK⟩:=hrel;by_cases hlt:k<n
  ·have hkl:k<l.length:=by have:=HN.out;omega
   obtain⟨bb,o,rfl,hbl,c0,c1,c2⟩:=dU (HRD.out.below hb) k hkl;have q1:(k:Int)<(n:Int):=Ci;have hmem:=Ay hkl;obtain⟨⟨r,r1,r2⟩,hr⟩:=ey (l[k]);have HRR:=Ah hr;rw[hr]at c0 c1 c2 hmem;dsimp only at c0 c1 c2;have hC:=HFX.out (r,r1,r2) wr hmem hb;obtain⟨ar,har⟩:=ey (#[Value.agg #[Aa Ac (r:Int),Aa Ab (r1:Int),Aa Ab (r2:Int)]]++caps);rw[har]at hC;have HC:=Ah hC;clear hr hmem hC;go_wp2_with fail;refine HC.out.mono ?_;rintro e w2 ⟨rfl,hb2⟩;have hb3:=hb.trans (hb2.mono hb.size)
   cases he:p (r,r1,r2)
   ·have HKN:=Ah (λj (hj:j<l.length) (h:j<k+1)=>show p l[j]=false by
     by_cases hjk:j=k
     ·subst hjk;rw[HRR.out];exact he
     ·exact HK.out j hj Ci)
    go_wp2;exact⟨⟨k+1,Ci,by go_num,hb3,HKN⟩,by simp[intOf];omega⟩
   ·have HA:Hid ((l.any p)=true):=Ah (by rw[List.any_eq_true];exact⟨l[k],Ay _,by rw[HRR.out];exact he⟩);go_wp2;go_ret;exact⟨⟨k,rfl,by rw[HA.out];simp⟩,hb3⟩
  ·have q1:¬(k:Int)<(n:Int):=Ci
   have HA:Hid ((l.any p)=false):=Ah (by
    rw[List.any_eq_false];intro x hx;obtain⟨j,hj,rfl⟩:=Be.1 hx;simpa using HK.out j hj (by have:=HN.out;omega))
   go_wp2;go_ret;exact⟨⟨-1,rfl,by rw[HA.out];rfl⟩,hb⟩
theorem kN (F:FuncId) (hen:∀(args:Array Ak) (w:Aj),(callFunc F args).run Tryz.prog w= .ok (.enter F args) w) (caps:Array Ak) (p:Nat×Nat×Nat→Bool) (A:Option Addr) (l:List (Nat×Nat×Nat)) (n c:Nat) (w:Aj) (hn:n=l.length) (h:Rd w A 3 n (Iu l)) (hl:n≤1000000)
  (hf:∀(i:Nat×Nat×Nat) (w':Aj),i∈l→Below w.heap.size w w'→Al Tryz.prog F (#[.agg #[Aa Ac (i.1:Int),Aa Ab (i.2.1:Int),Aa Ab (i.2.2:Int)]]++caps) w' (Co (.bool (p i)) w')):
  Al Tryz.prog 126 #[Ad A n c,.func (.func F) #[] caps] w (Co (.bool (l.any p)) w):=by
 have HC:=Ah (lY F hen caps p A l n c w hn h hl hf);obtain⟨R,hR⟩:=ey (l.any p);rw[hR]at HC⊢;clear hn h hR hl hf hen;go_enter Tryz.func126,Tryz.ntmps126;go_wp2_with fail;refine HC.out.mono ?_;rintro e w2 ⟨⟨r,rfl,hr⟩,hb⟩;go_wp2;go_ret;exact⟨by rw[hr];rfl,hb⟩
theorem jD (p:Nat×Nat×Nat) (w:Aj):Al Tryz.prog 127 #[.agg #[Aa Ac (p.1:Int),Aa Ab (p.2.1:Int),Aa Ab (p.2.2:Int)]] w (Co (.bool (decide (1<p.1))) w):=by
 obtain⟨p0,p1,p2⟩:=p;have H:=(Bx.start w).new #[Aa Ac (p0:Int),Aa Ab (p1:Int),Aa Ab (p2:Int)] 176 rfl;dsimp only;go_enter Tryz.func127,Tryz.ntmps127;go_upto_region 1 with fail;obtain⟨W,hW⟩:=ez (w.alloc (.cells #[Aa Ac (p0:Int),Aa Ab (p1:Int),Aa Ab (p2:Int)] 176));rw[←hW]at H⊢;clear hW;obtain⟨⟨a0,a1,a2⟩,-⟩:=Cv (H.blk 0 _ _ _ rfl);by_cases h:1<p0
 ·have h1:(1:Int)<(p0:Int):=Ci;rw[decide_eq_true h];go_wp2;go_ret;exact⟨by simp<;>omega,H.below⟩
 ·have h1:¬(1:Int)<(p0:Int):=Ci;rw[decide_eq_false h];go_wp2;go_ret;exact⟨by simp<;>omega,H.below⟩
theorem Wc {w:Aj} {g:Nat} {a0 a1 a2 a3 a4 a5 a6 a7 a8:Ak} {t:TypeId} (h:w.heap[g]? =Af (Obj.cells #[a0,a1,a2,a3,a4,a5,a6,a7,a8] t (0,0))):
  w.cell? ⟨g,0,Ae⟩=Af a0∧w.cell? ⟨g,1,Ae⟩=Af a1∧w.cell? ⟨g,2,Ae⟩=Af a2∧w.cell? ⟨g,3,Ae⟩=Af a3∧w.cell? ⟨g,4,Ae⟩=Af a4∧w.cell? ⟨g,5,Ae⟩=Af a5∧w.cell? ⟨g,6,Ae⟩=Af a6∧w.cell? ⟨g,7,Ae⟩=Af a7∧w.cell? ⟨g,8,Ae⟩=Af a8:=by
 simp[World.cell?,h]
theorem lV (x y:Int×Int):Jy x y=Jy y x:=by
 unfold Jy;rw[Bool.or_comm]
theorem lT (x:Int×Int):Jy x x=false:=by
 unfold Jy;simp
def cD (t:List Int) (l:List (Int×Int)) (i:Nat):Prop:=∀k (hk:k<l.length),k<i→(∀h∈t,¬(l[k].1<h∧h<l[k].2))∧∀j (hj:j<l.length),j<k→Jy l[k] l[j]=false
theorem kO {t:List Int} {l:List (Int×Int)} (h:cD t l l.length):Ih t l=false:=by
 unfold Ih;rw[List.any_eq_false];intro x hx;obtain⟨k,hk,rfl⟩:=Be.1 hx;rw[Bool.not_eq_true,Bool.or_eq_false_iff];refine⟨?_,?_⟩
 ·rw[List.any_eq_false];intro y hy hc;rw[Bool.and_eq_true,decide_eq_true_iff,decide_eq_true_iff]at hc;exact(h k hk hk).1 y hy hc
 ·rw[List.any_eq_false];intro y hy;obtain⟨j,hj,rfl⟩:=Be.1 hy;rw[Bool.not_eq_true];rcases Nat.lt_trichotomy j k with hjk|rfl|hjk
  ·exact(h k hk hk).2 j hj hjk
  ·exact lT _
  ·rw[lV];exact(h j hj hj).2 k hk hjk
theorem lC {t:List Int} {l:List (Int×Int)} {k i:Nat} (hk:k<l.length) (hi:i<t.length) (h:l[k].1<t[i]∧t[i]<l[k].2):Ih t l=true:=by
 unfold Ih;rw[List.any_eq_true];refine⟨_,Ay hk,?_⟩;rw[Bool.or_eq_true]
 left
 rw[List.any_eq_true];exact⟨_,Ay hi,by rw[Bool.and_eq_true,decide_eq_true_iff,decide_eq_true_iff];exact h⟩
theorem kZ {t:List Int} {l:List (Int×Int)} {k j:Nat} (hk:k<l.length) (hj:j<l.length) (h:Jy l[k] l[j]=true):Ih t l=true:=by
 unfold Ih;rw[List.any_eq_true];refine⟨_,Ay hk,?_⟩;rw[Bool.or_eq_true]
 right
 rw[List.any_eq_true];exact⟨_,Ay hj,h⟩
def Ra (t u:List Int) (i j:Nat):Prop:=∀a b (ha:a<t.length) (hb:b<t.length) (ha':a<u.length) (hb':b<u.length),b<a→(a<i∨(a=i∧b<j))→¬((t[a]<t[b]∧u[b]<u[a])∨(t[b]<t[a]∧u[a]<u[b]))
theorem uH {t u:List Int} (hl:t.length=u.length) (h:Ra t u t.length 0):La t u=false:=by
 unfold La;rw[List.any_eq_false];intro p hp;rw[Bool.not_eq_true,List.any_eq_false];intro q hq hc;rw[Bool.and_eq_true,decide_eq_true_iff,decide_eq_true_iff]at hc;obtain⟨a,ha,rfl⟩:=Be.1 hp;obtain⟨b,hb,rfl⟩:=Be.1 hq;simp only[List.length_zip]at ha hb;simp only[List.getElem_zip]at hc;rcases Nat.lt_trichotomy b a with hba|rfl|hba
 ·exact h a b Ci Ci Ci Ci hba (.inl Ci) (.inl ⟨hc.1,hc.2⟩)
 ·omega
 ·exact h b a Ci Ci Ci Ci hba (.inl Ci) (.inr ⟨hc.1,hc.2⟩)
theorem uI {t u:List Int} {a b:Nat} (ha:a<t.length) (hb:b<t.length) (ha':a<u.length) (hb':b<u.length) (h:(t[a]<t[b]∧u[b]<u[a])∨(t[b]<t[a]∧u[a]<u[b])):La t u=true:=by
 unfold La;rw[List.any_eq_true];rcases h with h|h
 ·refine⟨(t[a],u[a]),?_,?_⟩
  ·rw[Be];exact⟨a,by simp;omega,Cn⟩
  ·rw[List.any_eq_true];refine⟨(t[b],u[b]),?_,by simpa using h⟩;rw[Be];exact⟨b,by simp;omega,Cn⟩
 ·refine⟨(t[b],u[b]),?_,?_⟩
  ·rw[Be];exact⟨b,by simp;omega,Cn⟩
  ·rw[List.any_eq_true];refine⟨(t[a],u[a]),?_,by simpa using h⟩;rw[Be];exact⟨a,by simp;omega,Cn⟩
theorem Ah6 (a b c d:Int):(Dm a b*Dm c d<0↔((a<b∧d<c)∨(b<a∧c<d)))∧-1≤Dm a b*Dm c d∧Dm a b*Dm c d≤1:=by
 have e1:(Dm a b= -1∧a<b)∨(Dm a b=0∧a=b)∨(Dm a b=1∧b<a):=by
  unfold Dm;split
  ·exact .inl ⟨rfl,by assumption⟩
  ·split
   ·exact .inr (.inr ⟨rfl,by assumption⟩)
   ·exact .inr (.inl ⟨rfl,Ci⟩)
 have e2:(Dm c d= -1∧c<d)∨(Dm c d=0∧c=d)∨(Dm c d=1∧d<c):=by
  unfold Dm;split
  ·exact .inl ⟨rfl,by assumption⟩
  ·split
   ·exact .inr (.inr ⟨rfl,by assumption⟩)
   ·exact .inr (.inl ⟨rfl,Ci⟩)
 rcases e1 with⟨e1,h1⟩|⟨e1,h1⟩|⟨e1,h1⟩<;>rcases e2 with⟨e2,h2⟩|⟨e2,h2⟩|⟨e2,h2⟩<;>rw[e1,e2]<;>omega
def Af8 (i:Nat) (c2 R:Bool) (t0 t1:List Int) (W:Aj) (s6 s136:Ak) (wr:Aj):Prop:=∃(j:Nat) (cx:Bool),s136= Aa Ab j∧j≤i∧s6= .bool cx∧Hid (Below W.heap.size W wr)∧Hid ((cx=true→R=true)∧(cx=false→c2=false∧Ra t0 t1 i j))
def vY (b:Bool) (w:Aj) (e:Ending) (w':Aj):Prop:=∃r:Int,e= .returned (Aa Ab r)∧(decide (r≠0))=b∧Below w.heap.size w w'
def Kf (ls:List Stk) (s:Sm) (k:Nat):Bool:=(decide (1≤k)&&Ih (Dp (atF ls s.a) s 0) (Nj (atF ls s.a) s 0))||(decide (2≤k)&&Ih (Dp (atF ls s.b) s 1) (Nj (atF ls s.b) s 1))
def Pk (s:Sm) (k:Nat):Cl:=if k=0 then s.a else s.b
theorem fC (ls:List Stk) (s:Sm) (k:Nat) (hk:k<2):Kf ls s (k+1)=(Kf ls s k||Ih (Dp (atF ls (Pk s k)) s k) (Nj (atF ls (Pk s k)) s k)):=by
 have:k=0∨k=1:=Ci;rcases this with rfl|rfl
 ·simp[Kf,Pk]
 ·simp[Kf,Pk]
theorem Ag5 {l:List Stk} {B:Nat} (h:∀x∈l,x.ls.length≤B) (c:Cl):(atF l c).length≤B:=by
 unfold atF
 split
 ·rename_i x hx;exact h x (List.mem_of_find?_eq_some hx)
 ·simp
theorem fE {l:List Stk} {s:Sm} {k:Nat} (hk:k<2) (h:Jq (atF l (Pk s k)) s k=false):Fh l s=true:=by
 have:k=0∨k=1:=Ci;unfold Fh;rcases this with rfl|rfl
 ·have h:Jq (atF l s.a) s 0=false:=h;rw[h];simp
 ·have h:Jq (atF l s.b) s 1=false:=h;rw[h];simp
theorem fG {l:List Stk} {s:Sm} (h:(s.ls.any λx=>decide (1<x.1))=true):Fh l s=true:=by
 unfold Fh;rw[h];simp
theorem kY {l:List Stk} {s:Sm} (h0:Jq (atF l s.a) s 0=true) (h1:Jq (atF l s.b) s 1=true) (h:(s.ls.any λx=>decide (1<x.1))=false):
  Fh l s=(Kf l s 2||La (Dp (atF l s.a) s 0) (Dp (atF l s.b) s 1)):=by
 unfold Fh Kf;rw[h0,h1,h];simp
theorem fH (s:Sm) (pA lA eA:Option Addr) (np pc nl lc ne ecp:Nat) (A:Option Addr) (l:List Stk) (n cc:Nat) (w:Aj)
  (hn:n=l.length) (h:Dh w A l) (hl:n≤100000) (hls:∀x∈l,x.ls.length≤100000) (hnp:np=s.ps.length) (hp:Rd w pA 2 np (Kv s.ps)) (hpl:np≤1000000) (hnl:nl=s.ls.length) (hlo:Rd w lA 3 nl (Iu s.ls)) (hll:nl≤1000000):
  Al Tryz.prog 70 #[.agg (s.cells (Ad pA np pc) (Ad lA nl lc) (Ad eA ne ecp)),Ad A n cc] w (vY (Fh l s) w):=by
 have HAT:=Ah (λ(c:Cl) (w':Aj) (hb:Below w.heap.size w w')=>jM A l n cc c w' hn (h.below hb) hl hls);have HSPN:=Ah (λ(side:Nat) (hs:side≤1) (A':Option Addr) (ls:List Nat) (n c:Nat) (w':Aj) (hb:Below w.heap.size w w') (hn:n=ls.length) (hl:n≤1000000) (h:Rd w' A' 1 n (Di ls))=>vC s pA lA eA np pc nl lc ne ecp side A' ls n c w' hs hn hl h hnp (hp.below hb) hpl hnl (hlo.below hb) hll);have HCF:=Ah (λ(w':Aj) (hb:Below w.heap.size w w')=>kN 127 (λ_ _=>rfl) #[] (λp=>decide (1<p.1)) lA s.ls nl lc w' hnl (hlo.below hb) hll (λi w2 _ _=>jD i w2));obtain⟨R,hR⟩:=ey (Fh l s);rw[hR];have HR:=Ah hR;have HLS:=Ah hls;have HNP:=Ah hnp;unfold Sm.cells;have H:=(Bx.start w).new #[Aa Ab s.a.x,Aa Ab s.a.y,Aa Ac s.a.q,Aa Ab s.b.x,Aa Ab s.b.y,Aa Ac s.b.q,Ad pA np pc,Ad lA nl lc,Ad eA ne ecp] 173 rfl;unfold Sm.cells at HSPN;clear hR hn h hls hnp hp hnl hlo;obtain⟨⟨x1,y1,q1⟩,hca⟩:=ey s.a;obtain⟨⟨x2,y2,q2⟩,hcb⟩:=ey s.b;have HCA:=Ah hca;have HCB:=Ah hcb;rw[hca,hcb]at H HSPN⊢;dsimp only at H HSPN⊢;clear hca hcb;go_enter Tryz.func70,Tryz.ntmps70;go_upto_region 1 with fail;obtain⟨N,hN⟩:=ez w.heap.size;rw[←hN]at H⊢;have HNN:=Ah hN;clear hN;obtain⟨W,hW⟩:=ez (w.alloc (.cells #[Aa Ab x1,Aa Ab y1,Aa Ac q1,Aa Ab x2,Aa Ab y2,Aa Ac q2,Ad pA np pc,Ad lA nl lc,Ad eA ne ecp] 173));rw[←hW]at H⊢;clear hW;obtain⟨V,hV⟩:=ey W.heap.size;have H2:=H.new #[Ad Ae 0 0,Ad Ae 0 0] 243 hV;go_upto_region 2 with fail
 try rw[hV]
 obtain⟨W2,hW2⟩:=ez (W.alloc (.cells #[Ad Ae 0 0,Ad Ae 0 0] 243));rw[←hW2]at H2⊢;clear hW2;clear hV H;obtain⟨a0,a1,a2,a3,a4,a5,-⟩:=Wc (H2.blk 0 _ _ _ rfl);obtain⟨D,hD⟩:=ey W2.heap.size;have H3:=H2.new #[Aa Ab x1,Aa Ab y1,Aa Ac q1,Aa Ab x2,Aa Ab y2,Aa Ac q2] 87 hD;have hw3:D<(W2.alloc (.cells #[Aa Ab x1,Aa Ab y1,Aa Ac q1,Aa Ab x2,Aa Ab y2,Aa Ac q2] 87)).heap.size:=by simp;omega
 have hVD:V<D:=by rw[←hD];exact H2.lt 1 rfl
 have hND:N<D:=by rw[←hD];exact H2.lt 0 rfl
 go_upto_region 4 with fail
 try rw[hD]
 obtain⟨W3,hW3⟩:=ez (W2.alloc (.cells #[Aa Ab x1,Aa Ab y1,Aa Ac q1,Aa Ab x2,Aa Ab y2,Aa Ac q2] 87));rw[←hW3]at H3 hw3⊢;clear hW3;have hwD:w.heap.size≤D:=by have:=HNN.out;omega
 obtain⟨M,hM⟩:=ey (D+1)
 have HLM:Hid (∀(X:Array Ak),∀x∈[(N,X,173),(V,X,243),(D,X,87)],x.1<M):=Ah (by
  intro X x hx;simp only[Bk,List.not_mem_nil,or_false]at hx;rcases hx with rfl|rfl|rfl
  ·show N<M;omega
  ·show V<M;omega
  ·show D<M;omega)
 have HWM:Hid (w.heap.size≤M):=Ah Ci;have hMW:M≤W3.heap.size:=Ci;have HVM:Hid (V<M):=Ah Ci;obtain⟨t0,ht0⟩:=ey (Dp (atF l s.a) s 0);obtain⟨t1,ht1⟩:=ey (Dp (atF l s.b) s 1);have HT0:=Ah ht0;have HT1:=Ah ht1;have HH3:=Ah H3;clear hD hM H2 hw3 hVD hND hwD a0 a1 a2 a3 a4 a5 ht0 ht1 H3
 go_loopw [6,27] (λs6 s27 wr=>∃(k:Nat) (v0 v1:Ak),s27= Aa Ab k∧k≤2∧s6= .bool (Kf l s k)∧M≤wr.heap.size∧Hid (Bx w [(N,#[Aa Ab x1,Aa Ab y1,Aa Ac q1,Aa Ab x2,Aa Ab y2,Aa Ac q2,Ad pA np pc,Ad lA nl lc,Ad eA ne ecp],173),(V,#[v0,v1],243),(D,#[Aa Ab x1,Aa Ab y1,Aa Ac q1,Aa Ab x2,Aa Ab y2,Aa Ac q2],87)] wr)∧
  Hid ((1≤k→wr.ownsRow M 3 1 v0 t0.length (Hc t0))∧(2≤k→wr.ownsRow M 3 1 v1 t1.length (Hc t1)))∧Hid ((∀j,j<k→Jq (atF l (Pk s j)) s j=true)∧(1≤k→(s.ls.any λx=>decide (1<x.1))=false))) (λ_ s27 _=>2-(intOf s27).toNat)
 case atStart=>exact⟨0,_,_,rfl,Ci,rfl,hMW,HH3,Ah ⟨λh=>absurd h Ci,λh=>absurd h Ci⟩,Ah ⟨λj hj=>absurd hj Ci,λh=>absurd h Ci⟩⟩
 case round=>
  obtain⟨k,v0,v1,rfl,hk,rfl,hMw,HH,HO,HG⟩:=hrel;clear HH3 hMW;by_cases hlt:k<2
  ·have q0:(k:Int)<2:=Ci;obtain⟨⟨x,y,q⟩,hsc⟩:=ey (Pk s k)
   have hd:wr.cell? ⟨D,k*3,Ae⟩=Af (Aa Ab x)∧wr.cell? ⟨D,k*3+1,Ae⟩=Af (Aa Ab y)∧wr.cell? ⟨D,k*3+2,Ae⟩=Af (Aa Ac q):=by
    obtain⟨⟨e0,e1,e2,e3,e4,e5⟩,-⟩:=Wa (HH.out.blk 2 _ _ _ rfl);have:k=0∨k=1:=Ci;rcases this with rfl|rfl
    ·have:s.a=⟨x,y,q⟩:=hsc;rw[HCA.out]at this;injection this with r1 r2 r3;subst r1;subst r2;subst r3;exact⟨e0,e1,e2⟩
    ·have:s.b=⟨x,y,q⟩:=hsc;rw[HCB.out]at this;injection this with r1 r2 r3;subst r1;subst r2;subst r3;exact⟨e3,e4,e5⟩
   obtain⟨d0,d1,d2⟩:=hd;have HSC:=Ah hsc;obtain⟨C,hC⟩:=ey wr.heap.size;have H4:=HH.out.new #[Aa Ab x,Aa Ab y,Aa Ac q] 87 hC;have hM4:M≤(wr.alloc (.cells #[Aa Ab x,Aa Ab y,Aa Ac q] 87)).heap.size:=by simp;omega
   have ho4:(1≤k→(wr.alloc (.cells #[Aa Ab x,Aa Ab y,Aa Ac q] 87)).ownsRow M 3 1 v0 t0.length (Hc t0))∧(2≤k→(wr.alloc (.cells #[Aa Ab x,Aa Ab y,Aa Ac q] 87)).ownsRow M 3 1 v1 t1.length (Hc t1)):=⟨λh=>(HO.out.1 h).alloc _,λh=>(HO.out.2 h).alloc _⟩;clear hsc;go_upto_region 6 with fail
   try rw[hC]
   obtain⟨W4,hW4⟩:=ez (wr.alloc (.cells #[Aa Ab x,Aa Ab y,Aa Ac q] 87));rw[←hW4]at H4 hM4 ho4⊢;clear hW4;clear hC HH HO hMw d0 d1 d2;obtain⟨⟨c0,c1,c2⟩,-⟩:=Cv (H4.blk 3 _ _ _ rfl);have hat:=HAT.out ⟨x,y,q⟩ _ H4.below;dsimp only at hat;have HAT2:=Ah hat;clear hat
   go_step3
   go_wp2_with fail;refine HAT2.out.mono ?_;rintro e W5 ⟨A',rfl,hA',hrow,hb⟩;have hlen:(atF l ⟨x,y,q⟩).length≤1000000:=by have:=Ag5 HLS.out ⟨x,y,q⟩;omega
   have H5:=H4.call hb;have hM5:M≤W5.heap.size:=Br hM4 hb.size;have ho5:(1≤k→W5.ownsRow M 3 1 v0 t0.length (Hc t0))∧(2≤k→W5.ownsRow M 3 1 v1 t1.length (Hc t1)):=⟨λh=>Dj (ho4.1 h) (Am _) hb,λh=>Dj (ho4.2 h) (Am _) hb⟩;obtain⟨ids,hids⟩:=ey (atF l ⟨x,y,q⟩);have HIDS:=Ah hids;rw[hids]at hlen hrow hA'⊢;have HRD:=Ah hrow.rd;clear hb H4 hM4 ho4 c0 c1 c2 hrow hA' hids;obtain⟨a0,a1,a2,a3,a4,a5,a6,a7,a8⟩:=Wc (H5.blk 0 _ _ _ rfl);have hsp:=HSPN.out k Ci A' ids ids.length ids.length _ H5.below rfl hlen HRD.out;have HSP:=Ah hsp;have hku:IntKind.u8.wrap (k:Int)=(k:Int):=IntWalk.u8_in _ Ci;clear hsp HAT2;go_wp2_with fail;refine HSP.out.mono ?_;rintro e W6 ⟨LA,lc',TA,tc,nL,nT,rfl,hnL,hnT,hcc,hcm,hLo,hTo,hb⟩;have H6:=H5.call hb;have hM6:M≤W6.heap.size:=Br hM5 hb.size;have ho6:(1≤k→W6.ownsRow M 3 1 v0 t0.length (Hc t0))∧(2≤k→W6.ownsRow M 3 1 v1 t1.length (Hc t1)):=⟨λh=>Dj (ho5.1 h) (Am _) hb,λh=>Dj (ho5.2 h) (Am _) hb⟩;have hLo:=Iv hLo hM5;have hTo:=Iv hTo hM5;clear HSP hb H5 hM5 ho5 a0 a1 a2 a3 a4 a5 a6 a7 a8 HRD hlen hku;have HL6:=Ah (⟨hLo,hTo,hnL,hnT,hcc,hcm⟩:_∧_∧_∧_∧_∧_);clear hLo hTo hnL hnT hcc hcm;obtain⟨g,hg⟩:=ey (Jq ids s k);rw[hg];have h7:=By W6 N 7 _ _ (0,0) (H6.blk 0 _ _ _ rfl);simp only[List.getElem?_toArray,List.getElem?_cons_zero,List.getElem?_cons_succ]at h7
   cases g
   ·have HF:Hid (R=true):=Ah (by
     rw[←HR.out];refine fE hlt ?_;rw[HSC.out,HIDS.out];exact hg)
    clear hg;go_wp2_with fail
    try rw[Exit.noGoto_ret]
    go_ret;exact⟨1,rfl,by rw[HF.out];rfl,H6.below⟩
   ·have HGG:=Ah hg;obtain⟨v,hv⟩:=ey ((s.ls.any λp=>decide (1<p.1)));have hcf:=HCF.out W6 H6.below;rw[hv]at hcf;have HCF2:=Ah hcf;clear hg hcf;go_wp2_with fail;refine HCF2.out.mono ?_;rintro e W7 ⟨rfl,hb⟩;have H7:=H6.call hb;have hM7:M≤W7.heap.size:=Br hM6 hb.size;have ho7:(1≤k→W7.ownsRow M 3 1 v0 t0.length (Hc t0))∧(2≤k→W7.ownsRow M 3 1 v1 t1.length (Hc t1)):=⟨λh=>Dj (ho6.1 h) (Am _) hb,λh=>Dj (ho6.2 h) (Am _) hb⟩;have HL7:=Ah (⟨Dj HL6.out.1 (Am _) hb,Dj HL6.out.2.1 (Am _) hb,HL6.out.2.2⟩:_∧_∧_);clear HCF2 hb H6 hM6 ho6 h7 HL6
    cases v
    ·have HG1:Hid ((∀j,j<k+1→Jq (atF l (Pk s j)) s j=true)∧(1≤k+1→(s.ls.any λx=>decide (1<x.1))=false)):=Ah ⟨λj hj=>by
      by_cases e:j=k
      ·subst e;rw[HSC.out,HIDS.out];exact HGG.out
      ·exact HG.out.1 j Ci,λ_=>hv⟩
     have hcn:=fC l s k hlt;rw[HSC.out,HIDS.out]at hcn;have hTl:(Dp ids s k).length≤1000000:=by unfold Dp;rw[Bo];have:=HNP.out;omega
     obtain⟨tk,htk⟩:=ey (Dp ids s k);obtain⟨lk,hlk⟩:=ey (Nj ids s k);rw[htk,hlk]at hcn HL7;rw[htk]at hTl;obtain⟨c0,hc0⟩:=ey (Kf l s k);rw[hc0]at hcn⊢;have HCN:=Ah hcn
     obtain⟨u,hu⟩:∃u,W7.cell? ⟨V,k,Ae⟩=Af u:=by
      obtain⟨⟨r0,r1⟩,-⟩:=Cy (H7.blk 1 _ _ _ rfl);have:k=0∨k=1:=Ci;rcases this with rfl|rfl
      ·exact⟨_,r0⟩
      ·exact⟨_,r1⟩
     have hfz:=Ab2 (H7.blk 1 _ _ _ rfl) k;obtain⟨hLo,hTo,hnL,hnT,hcc,hcm⟩:=HL7.out;unfold maxLen at hcm;obtain⟨v0',hv0⟩:=ey ((if k=0 then Value.slice TA nT tc else v0));obtain⟨v1',hv1⟩:=ey ((if k=0 then v1 else Value.slice TA nT tc));have H8:=(H7.set 1 k rfl (Ad TA nT tc)).upto 3;have hM8:M≤(W7.setCell ⟨V,k,Ae⟩ (Ad TA nT tc)).heap.size:=by simpa using hM7
     have hLo8:=Ec hLo HVM.out k (Ad TA nT tc);have hTo8:=Ec hTo HVM.out k (Ad TA nT tc)
     have ho8:(1≤k+1→(W7.setCell ⟨V,k,Ae⟩ (Ad TA nT tc)).ownsRow M 3 1 v0' t0.length (Hc t0))∧(2≤k+1→(W7.setCell ⟨V,k,Ae⟩ (Ad TA nT tc)).ownsRow M 3 1 v1' t1.length (Hc t1)):=by
      have:k=0∨k=1:=Ci;rcases this with rfl|rfl
      ·refine⟨λ_=>?_,λh=>absurd h Ci⟩;have e:t0=tk:=by rw[←HT0.out,←htk,←HIDS.out,←HSC.out];rfl
       rw[←hv0,if_pos rfl,e,←hnT];exact hTo8
      ·refine⟨λ_=>?_,λ_=>?_⟩
       ·rw[←hv0,if_neg Ct];exact Ec (ho7.1 Ci) HVM.out 1 _
       ·have e:t1=tk:=by rw[←HT1.out,←htk,←HIDS.out,←HSC.out];rfl
        rw[←hv1,if_neg Ct,e,←hnT];exact hTo8
     have hB8:Bx w [(N,#[Aa Ab x1,Aa Ab y1,Aa Ac q1,Aa Ab x2,Aa Ab y2,Aa Ac q2,Ad pA np pc,Ad lA nl lc,Ad eA ne ecp],173),(V,#[v0',v1'],243),(D,#[Aa Ab x1,Aa Ab y1,Aa Ac q1,Aa Ab x2,Aa Ab y2,Aa Ac q2],87)] (W7.setCell ⟨V,k,Ae⟩ (Ad TA nT tc)):=by
      have e: #[v0,v1].setIfInBounds k (Value.slice TA nT tc)= #[v0',v1']:=by
       have:k=0∨k=1:=Ci;rcases this with rfl|rfl
       ·rw[←hv0,←hv1,if_pos rfl,if_pos rfl];rfl
       ·rw[←hv0,←hv1,if_neg Ct,if_neg Ct];rfl
      rw[e]at H8;exact H8
     clear hv H7 hM7 ho7 HL7 hLo hTo htk hlk hc0 hcn hv0 hv1 H8;subst hnL hnT;go_upto_region 11 with fail;obtain⟨W8,hW8⟩:=ez (W7.setCell ⟨V,k,Ae⟩ (Ad TA tk.length tc));rw[←hW8]at hM8 hLo8 hTo8 ho8 hB8⊢;clear hW8
     have HEND:=Ah (λ(wr:Aj) (hb:Below W8.heap.size W8 wr)=>(⟨Br hM8 hb.size,Ah (hB8.call hb),Ah ⟨λh=>Dj (ho8.1 h) (Am _) hb,λh=>Dj (ho8.2 h) (Am _) hb⟩⟩:
      M≤wr.heap.size∧Hid (Bx w [(N,#[Aa Ab x1,Aa Ab y1,Aa Ac q1,Aa Ab x2,Aa Ab y2,Aa Ac q2,Ad pA np pc,Ad lA nl lc,Ad eA ne ecp],173),(V,#[v0',v1'],243),(D,#[Aa Ab x1,Aa Ab y1,Aa Ac q1,Aa Ab x2,Aa Ab y2,Aa Ac q2],87)] wr)∧
      Hid ((1≤k+1→wr.ownsRow M 3 1 v0' t0.length (Hc t0))∧(2≤k+1→wr.ownsRow M 3 1 v1' t1.length (Hc t1)))))
     have HRL:=Ah (λ(wr:Aj) (hb:Below W8.heap.size W8 wr)=>(Rd.of_own hLo8).below hb);have HRT:=Ah (λ(wr:Aj) (hb:Below W8.heap.size W8 wr)=>(Rd.of_own hTo8).below hb);clear hu hfz hM8 hLo8 hTo8 ho8 hB8
     go_step3
     go_wp2
     go_loopw [6,56] (λs6 s56 wr=>∃i:Nat,s56= Aa Ab i∧i≤lk.length∧s6= .bool c0∧Hid (Below W8.heap.size W8 wr)∧Hid (cD tk lk i)) (λ_ s56 _=>lk.length-(intOf s56).toNat)
     case atStart=>exact⟨0,rfl,Ci,rfl,Ah (Ag _ _),Ah λk _ hk=>absurd hk Ci⟩
     case round=>
      obtain⟨i,rfl,hi,rfl,HB,HC⟩:=hrel;by_cases hil:i<lk.length
      ·have q1:(i:Int)<(lk.length:Int):=Ci;obtain⟨b,o,hA,hbl,d0,d1⟩:=qV (HRL.out _ HB.out) i hil;obtain⟨⟨a1,a2⟩,ha⟩:=ey (lk[i]);rw[ha]at d0 d1;dsimp only at d0 d1;have HA:=Ah ha;obtain⟨E,hE⟩:=ey wr.heap.size;have hbE:=HB.out.alloc HB.out.size (.cells #[Aa Ab a1,Aa Ab a2] 250);have hEb:=Bz wr (.cells #[Aa Ab a1,Aa Ab a2] 250);rw[hE]at hEb;subst hA;clear ha;go_upto_region 14 with fail
       try rw[hE]
       obtain⟨WE,hWE⟩:=ez (wr.alloc (.cells #[Aa Ab a1,Aa Ab a2] 250));rw[←hWE]at hbE hEb⊢;clear hWE;clear hE d0 d1 HB;have HBE:=Ah hbE;have HEB:=Ah hEb;obtain⟨⟨e0,e1⟩,-⟩:=Cy hEb;clear hbE hEb;go_wp2
       go_loopw [6,63] (λs6 s63 wr=>∃j:Nat,s63= Aa Ab j∧j≤tk.length∧s6= .bool c0∧Hid (WE=wr)∧Hid (∀h (hh:h<tk.length),h<j→¬(a1<tk[h]∧tk[h]<a2))) (λ_ s63 _=>tk.length-(intOf s63).toNat)
       case atStart=>exact⟨0,rfl,Ci,rfl,Ah rfl,Ah λh _ hh=>absurd hh Ci⟩
       case round=>
        obtain⟨j,rfl,hj,rfl,HWE,HT⟩:=hrel;obtain rfl:=HWE.out;clear HWE;by_cases hjt:j<tk.length
        ·have q2:(j:Int)<(tk.length:Int):=Ci;obtain⟨b2,o2,hA,hbl2,d0⟩:=Ys (HRT.out _ HBE.out) j hjt;have hcx:=lC (t:=tk) (l:=lk) hil hjt;rw[HA.out]at hcx;dsimp only at hcx
         have hst:=λ(hno:¬(a1<tk[j]∧tk[j]<a2)) (h:Nat) (hh:h<tk.length) (hlt:h<j+1)=>show¬(a1<tk[h]∧tk[h]<a2)by
          by_cases e:h=j
          ·subst e;exact hno
          ·exact HT.out h hh Ci
         have HST:=Ah hst;have HCX:=Ah hcx;obtain⟨h,hh⟩:=ey (tk[j]);rw[hh]at d0 HST HCX;subst hA;clear hst hcx hh;by_cases hc1:a1<h
         ·by_cases hc2:h<a2
          ·have hcn:Kf l s (k+1)=true:=by rw[HCN.out,HCX.out ⟨hc1,hc2⟩];simp
           obtain⟨f1,f2,f3⟩:=HEND.out _ HBE.out;have HC9:=Ah hcn;clear hcn HEND HRL HRT HST HCX HT;go_wp2_with fail
           apply_assumption
           go_wp2;exact⟨⟨k+1,v0',v1',by go_num,Ci,by rw[HC9.out],f1,f2,f3,HG1⟩,by simp[intOf];omega⟩
          ·have hkn:=Ah (HST.out (λhc=>hc2 hc.2));clear HST HCX;go_wp2;exact⟨⟨j+1,by go_num,Ci,rfl,Ah trivial,hkn⟩,by simp[intOf];omega⟩
         ·have hkn:=Ah (HST.out (λhc=>hc1 hc.1));clear HST HCX;go_wp2;exact⟨⟨j+1,by go_num,Ci,rfl,Ah trivial,hkn⟩,by simp[intOf];omega⟩
        ·have q2:¬(j:Int)<(tk.length:Int):=Ci
         have HTT:Hid (∀h∈tk,¬(a1<h∧h<a2)):=Ah λh hm=>by
          obtain⟨x,hx,rfl⟩:=Be.1 hm;exact HT.out x hx Ci
         have q3:(i:Int)≤(lc':Int):=Ci;have HB0:=Ah (Ag WE.heap.size WE);clear HT hj hjt;go_wp2
         go_loopw [6,82] (λs6 s82 wr=>∃j:Nat,s82= Aa Ab j∧j≤i∧s6= .bool c0∧Hid (Below WE.heap.size WE wr)∧Hid (∀h (hh:h<lk.length),h<j→Jy (a1,a2) lk[h]=false)) (λ_ s82 _=>i-(intOf s82).toNat)
         case atStart=>exact⟨0,rfl,Ci,rfl,HB0,Ah λh _ hh=>absurd hh Ci⟩
         case round=>
          obtain⟨j,rfl,hj,rfl,HB,HI⟩:=hrel;have hbw:=HBE.out.trans (HB.out.mono HBE.out.size);by_cases hji:j<i
          ·have q4:(j:Int)<(i:Int):=Ci;have hjl:j<lk.length:=Ci;obtain⟨b2,o2,hA2,hbl2,d0,d1⟩:=qV (HRL.out _ hbw) j hjl;obtain⟨rfl,rfl⟩:b=b2∧o=o2:=by simpa using hA2
           have hcx:=kZ (t:=tk) (l:=lk) hil hjl;rw[HA.out]at hcx
           have hst:=λ(hno:Jy (a1,a2) lk[j]=false) (h:Nat) (hh:h<lk.length) (hlt:h<j+1)=>show Jy (a1,a2) lk[h]=false by
            by_cases e:h=j
            ·subst e;exact hno
            ·exact HI.out h hh Ci
           have HST:=Ah hst;have HCX:=Ah hcx;obtain⟨⟨p1,p2⟩,hp⟩:=ey (lk[j]);rw[hp]at d0 d1 HST HCX;dsimp only at d0 d1;obtain⟨E2,hE2⟩:=ey wr.heap.size;have hbF:=hbw.alloc hbw.size (.cells #[Aa Ab p1,Aa Ab p2] 250);have hbG:=HB.out.alloc HB.out.size (.cells #[Aa Ab p1,Aa Ab p2] 250);have hFb:=Bz wr (.cells #[Aa Ab p1,Aa Ab p2] 250);have hEb:=kept (hbG) HEB.out (Au.1 HEB.out).1;rw[hE2]at hFb;clear hst hcx hp hA2;go_upto_region 23 with fail
           try rw[hE2]
           obtain⟨WF,hWF⟩:=ez (wr.alloc (.cells #[Aa Ab p1,Aa Ab p2] 250));rw[←hWF]at hbF hbG hFb hEb⊢;clear hWF;clear hE2 d0 d1 HB hbw;obtain⟨⟨f0,f1⟩,-⟩:=Cy hFb;obtain⟨⟨g0,g1⟩,-⟩:=Cy hEb;have HBF:=Ah hbF;have HBG:=Ah hbG;obtain⟨iv,hiv⟩:=ey (Jy (a1,a2) (p1,p2));have HIV:=Ah hiv;clear hbF hbG hFb hEb hiv e0 e1;go_cut [125]from 86 to 125 (λsb wx=>sb= .bool iv∧Hid (WF=wx))
           case first=>
            clear HST HCX HEND HRL HRT;go_wp2_with fail
            all_goals go_meet
            all_goals exact⟨by rw[←HIV.out];unfold Jy;first|(simp<;>omega)|(congr 1;rw[Bool.eq_iff_iff];simp;omega),Ah rfl⟩
           case rest=>
           obtain⟨rfl,hwf⟩:=hcut;obtain rfl:=hwf.out;clear hwf f0 f1 g0 g1
           cases iv
           ·have hkn:=Ah (HST.out HIV.out);clear HST HCX HIV;go_wp2;exact⟨⟨j+1,by go_num,Ci,rfl,HBG,hkn⟩,by simp[intOf];omega⟩
           ·have hcn:Kf l s (k+1)=true:=by rw[HCN.out,HCX.out HIV.out];simp
            obtain⟨f1,f2,f3⟩:=HEND.out _ HBF.out;have HC9:=Ah hcn;clear hcn HEND HRL HRT HST HCX HIV;go_wp2_with fail
            apply_assumption
            go_wp2;exact⟨⟨k+1,v0',v1',by go_num,Ci,by rw[HC9.out],f1,f2,f3,HG1⟩,by simp[intOf];omega⟩
          ·have q4:¬(j:Int)<(i:Int):=Ci;have HBW:=Ah hbw
           have HKN:Hid (cD tk lk (i+1)):=Ah λx hx hxi=>by
            by_cases e:x=i
            ·subst e;rw[HA.out];refine⟨HTT.out,λy hy hyx=>HI.out y hy Ci⟩
            ·exact HC.out x hx Ci
           clear hbw HB HI hj hji e0 e1;go_wp2;exact⟨⟨i+1,by go_num,Ci,rfl,HBW,HKN⟩,by simp[intOf];omega⟩
      ·have q1:¬(i:Int)<(lk.length:Int):=Ci
       have hcl:Ih tk lk=false:=kO (by
        have e:i=lk.length:=Ci;rw[←e];exact HC.out)
       have hcn:Kf l s (k+1)=c0:=by rw[HCN.out,hcl];simp
       obtain⟨e1,e2,e3⟩:=HEND.out _ HB.out;have HC9:=Ah hcn;clear hcl hcn HB HC HEND HRL HRT;go_wp2;exact⟨⟨k+1,v0',v1',by go_num,Ci,by rw[HC9.out],e1,e2,e3,HG1⟩,by simp[intOf];omega⟩
    ·have HF:Hid (R=true):=Ah (by rw[←HR.out];exact fG hv);clear hv;go_wp2_with fail
     try rw[Exit.noGoto_ret]
     go_ret;exact⟨1,rfl,by rw[HF.out];rfl,H7.below⟩
  ·obtain rfl:k=2:=Ci;obtain⟨WY,rfl⟩:=ez wr
   have HR2:Hid (R=(Kf l s 2||La t0 t1)):=Ah (by
    rw[←HR.out,←HT0.out,←HT1.out];exact kY (HG.out.1 0 Ci) (HG.out.1 1 Ci) (HG.out.2 Ci))
   have hl01:t0.length=t1.length:=by rw[←HT0.out,←HT1.out];unfold Dp;rw[Bo,Bo]
   have hlb:t0.length≤1000000:=by rw[←HT0.out];unfold Dp;rw[Bo];have:=HNP.out;omega
   obtain⟨c2,hc2⟩:=ey (Kf l s 2);rw[hc2]at HR2⊢;obtain⟨A0,d0,rfl,hA0,hd0⟩:=Dv (HO.out.1 Ci);obtain⟨A1,d1,rfl,hA1,hd1⟩:=Dv (HO.out.2 Ci);have HR0:=Ah (Rd.of_own (HO.out.1 Ci));have HR1:=Ah (Rd.of_own (HO.out.2 Ci));obtain⟨⟨f0,f1⟩,-⟩:=Cy (HH.out.blk 1 _ _ _ rfl);have HB0:=Ah (Ag WY.heap.size WY);clear hc2 hk hlt hMw HG hA0 hd0 hA1 hd1;go_wp2
   go_loopw [6,132] (λs6 s132 wr=>∃(i:Nat) (cx:Bool),s132= Aa Ab i∧i≤t0.length∧s6= .bool cx∧Hid (Below WY.heap.size WY wr)∧Hid ((cx=true→R=true)∧(cx=false→c2=false∧Ra t0 t1 i 0))) (λ_ s132 _=>t0.length-(intOf s132).toNat)
   case atStart=>exact⟨0,c2,rfl,Ci,rfl,HB0,Ah ⟨λh=>by rw[HR2.out,h];rfl,λh=>⟨h,λa b _ _ _ _ hba hh=>Ci⟩⟩⟩
   case round=>
    obtain⟨i,cx,rfl,hi,rfl,HB,HX⟩:=hrel;by_cases hil:i<t0.length
    ·have q1:(i:Int)<(t0.length:Int):=Ci;go_wp2
     go_loopw [6,136] (λs6 s136 wr=>Af8 i c2 R t0 t1 WY s6 s136 wr) (λ_ s136 _=>i-(intOf s136).toNat)
     case atStart=>exact⟨0,cx,rfl,Ci,rfl,HB,HX⟩
     case round=>
      obtain⟨j,cx,rfl,hj,rfl,HB,HX⟩:=hrel;by_cases hji:j<i
      ·have q2:(j:Int)<(i:Int):=Ci;have q3:(j:Int)<(t0.length:Int):=Ci;have q4:(j:Int)<(t1.length:Int):=Ci;have q5:(i:Int)<(t1.length:Int):=Ci;obtain⟨b0,o0,hA,hb0,x0⟩:=Ys (HR0.out.below HB.out) i hil;obtain⟨b0',o0',hA',-,x1⟩:=Ys (HR0.out.below HB.out) j Ci;obtain⟨rfl,rfl⟩:b0=b0'∧o0=o0':=by rw[hA]at hA';simpa using hA'
       obtain⟨b1,o1,hC,hb1,x2⟩:=Ys (HR1.out.below HB.out) i Ci;obtain⟨b1',o1',hC',-,x3⟩:=Ys (HR1.out.below HB.out) j Ci;obtain⟨rfl,rfl⟩:b1=b1'∧o1=o1':=by rw[hC]at hC';simpa using hC'
       have hps:=uI (t:=t0) (u:=t1) (a:=i) (b:=j) Ci Ci Ci Ci
       have hst:=λ(hc:cx=false) (hno:¬((t0[i]<t0[j]∧t1[j]<t1[i])∨(t0[j]<t0[i]∧t1[i]<t1[j])))=>show Ra t0 t1 i (j+1)by
        intro a b ha hb ha' hb' hba hh;by_cases e:a=i∧b=j
        ·obtain⟨rfl,rfl⟩:=e;exact hno
        ·exact(HX.out.2 hc).2 a b ha hb ha' hb' hba Ci
       have HPS:=Ah hps;have HST:=Ah hst;obtain⟨y0,hy0⟩:=ey (t0[i]);obtain⟨y1,hy1⟩:=ey (t0[j]);obtain⟨y2,hy2⟩:=ey (t1[i]);obtain⟨y3,hy3⟩:=ey (t1[j]);rw[hy0]at x0 HPS HST;rw[hy1]at x1 HPS HST;rw[hy2]at x2 HPS HST;rw[hy3]at x3 HPS HST;have f0':=Cj HB.out f0;have f1':=Cj HB.out f1;subst hA hC;obtain⟨S,hSd⟩:∃S:Aj→Prop,S=λW'=>(W'.cell? ⟨V,0,Ae⟩=Af (Ad (Af ⟨b0,o0,Ae⟩) t0.length d0)∧W'.cell? ⟨V,1,Ae⟩=Af (Ad (Af ⟨b1,o1,Ae⟩) t1.length d1))∧(W'.cell? ⟨b0,o0+i,Ae⟩=Af (Aa Ab y0)∧W'.cell? ⟨b0,o0+j,Ae⟩=Af (Aa Ab y1))∧W'.cell? ⟨b1,o1+i,Ae⟩=Af (Aa Ab y2)∧W'.cell? ⟨b1,o1+j,Ae⟩=Af (Aa Ab y3):=⟨_,rfl⟩;have HSO:Hid (∀W',S W'→(W'.cell? ⟨V,0,Ae⟩=Af (Ad (Af ⟨b0,o0,Ae⟩) t0.length d0)∧W'.cell? ⟨V,1,Ae⟩=Af (Ad (Af ⟨b1,o1,Ae⟩) t1.length d1))∧(W'.cell? ⟨b0,o0+i,Ae⟩=Af (Aa Ab y0)∧W'.cell? ⟨b0,o0+j,Ae⟩=Af (Aa Ab y1))∧W'.cell? ⟨b1,o1+i,Ae⟩=Af (Aa Ab y2)∧W'.cell? ⟨b1,o1+j,Ae⟩=Af (Aa Ab y3)):=Ah λW' h=>by subst hSd;exact h
       have HSA:Hid (∀W',Below wr.heap.size wr W'→S W'):=Ah λW' h=>by
        subst hSd;exact⟨⟨Cj h f0',Cj h f1'⟩,⟨Cj h x0,Cj h x1⟩,Cj h x2,Cj h x3⟩
       have HBZ:=Ah (λ(W':Aj) (h:Below wr.heap.size wr W')=>HB.out.trans (h.mono HB.out.size));clear hps hst hy0 hy1 hy2 hy3 x0 x1 x2 x3 f0' f1' hSd HB;obtain⟨hmul,hm1,hm2⟩:=Ah6 y0 y1 y2 y3;obtain⟨p,hp⟩:=ey (Dm y0 y1);obtain⟨q,hq⟩:=ey (Dm y2 y3);have HC1:=Ah (λ(w':Aj)=>Ig y0 y1 w');have HC2:=Ah (λ(w':Aj)=>Ig y2 y3 w');rw[hp,hq]at hmul hm1 hm2;rw[hp]at HC1;rw[hq]at HC2;have tm:Ab.wrap (p*q)=p*q:=Ca _ Ci;obtain⟨m,hm⟩:=ey (p*q);rw[hm]at hmul tm;have tm2:Ab.wrap (p*q)=m:=by rw[hm];exact tm
       have HMUL:=Ah hmul;clear hp hq hmul hm1 hm2 tm hm;go_upto_region 34 with fail;refine Ao (S:=S) Cm (HSA.out _ (Ag _ _).drew) (λhS=>?_);have hb:Below wr.heap.size wr wr.drew:=(Ag _ _).drew;obtain⟨X0,hX0⟩:=ez wr.drew;rw[←hX0]at hb hS⊢;clear hX0;refine Ck 0 ?_;refine Ck 1 ?_;refine Ck 2 ?_;refine Ck 3 ?_;refine Ck 4 ?_;refine Ck 5 ?_;refine Ck 6 ?_;refine Ck 7 ?_;refine Ck 8 ?_;refine Ck 9 ?_;refine Ck 11 ?_;refine Ck 12 ?_;refine Ck 13 ?_;refine Ck 14 ?_;refine Ck 15 ?_;refine Ck 16 ?_;refine Ck 17 ?_;refine Ck 18 ?_;refine Ck 19 ?_;refine Ck 20 ?_;refine rdy 10 (λK hK=>?_);go_simp;refine(HC1.out _).mono ?_;rintro e X1 ⟨rfl,hbm⟩;have hb:=hb.trans (hbm.mono hb.size);refine hK.out _ _ (HSA.out _ hb) (λhS=>?_);clear hK K hbm;refine rdy 21 (λK hK=>?_);go_simp;refine(HC2.out _).mono ?_;rintro e X2 ⟨rfl,hbm⟩;have hb:=hb.trans (hbm.mono hb.size);refine hK.out _ _ (HSA.out _ hb) (λhS=>?_);clear hK K hbm;have HBX:=HBZ.out _ hb;by_cases hlt:m<0
       ·have HX2:Hid ((true=true→R=true)∧(true=false→c2=false∧Ra t0 t1 i (j+1))):=Ah ⟨λ_=>by rw[HR2.out,HPS.out (HMUL.out.1 hlt)];simp,λh=>by cases h⟩;have HBX:=Ah HBX;refine Ck 22 ?_;refine Ck 23 ?_;refine An Cm ?_ _;clear HX HST HPS HMUL hS HSO HSA HBZ;go_wp2;exact⟨⟨_,_,_,⟨j+1,true,by go_num,Ci,rfl,HBX,Ah ⟨λ_=>HX2.out.1 trivial,λh=>by cases h⟩⟩,rfl,rfl,rfl⟩,by simp[intOf];omega⟩
       ·have HX2:Hid ((cx=true→R=true)∧(cx=false→c2=false∧Ra t0 t1 i (j+1))):=Ah ⟨HX.out.1,λhc=>⟨(HX.out.2 hc).1,HST.out hc λh=>hlt (HMUL.out.2 h)⟩⟩;have HBX:=Ah HBX;refine Ck 22 ?_;refine Ck 23 ?_;refine An Cm ?_ _;clear HX HST HPS HMUL hS HSO HSA HBZ;go_wp2;exact⟨⟨_,_,_,⟨j+1,cx,by go_num,Ci,rfl,HBX,HX2⟩,rfl,rfl,rfl⟩,by simp[intOf];omega⟩
      ·have q2:¬(j:Int)<(i:Int):=Ci;have HX2:Hid ((cx=true→R=true)∧(cx=false→c2=false∧Ra t0 t1 (i+1) 0)):=Ah ⟨HX.out.1,λhc=>⟨(HX.out.2 hc).1,λa b ha hb ha' hb' hba hh=>(HX.out.2 hc).2 a b ha hb ha' hb' hba Ci⟩⟩;clear HX;go_wp2;exact⟨⟨i+1,cx,by go_num,Ci,rfl,HB,HX2⟩,by simp[intOf];omega⟩
    ·have hit:i=t0.length:=Ci;have q1:¬(i:Int)<(t0.length:Int):=Ci;have hbl:=HH.out.below.trans (HB.out.mono HH.out.below.size)
     cases cx
     ·have HF:Hid (R=false):=Ah (by
       obtain⟨e1,e2⟩:=HX.out.2 rfl;rw[hit]at e2;rw[HR2.out,e1,uH hl01 e2];rfl)
      clear HX HB;go_wp2;go_ret;exact⟨0,rfl,by rw[HF.out];rfl,hbl⟩
     ·have HF:=Ah (HX.out.1 rfl);clear HX HB;go_wp2;go_ret;exact⟨12,rfl,by rw[HF.out];rfl,hbl⟩
theorem qU {w:Aj} {A:Option Addr} {l:List Bool} {n:Nat} (h:Rd w A 1 n (De l)) (i:Nat) (hi:i<l.length):
  ∃b o,A=Af ⟨b,o,Ae⟩∧b<w.heap.size∧w.cell? ⟨b,o+i,Ae⟩=Af (.bool l[i]):=by
 have hl:=h.1;have hbl:(De l).length=l.length:=by simp[De]
 rw[hbl]at hl;obtain⟨b,o,e,hb,hc⟩:=h.2 Ci;exact⟨b,o,e,hb,hc i _ (by simp[De,hi])⟩
def Sx (a b:Int) (pc:Ak) (root:Mv) (sv uv mv:Ak):Array Ak:=#[Aa Ab a,Aa Ab b,pc,Aa Ac root.t,Aa Ab root.x,Aa Ab root.y,sv,uv,mv]
def gJ (x:Nat×Nat×Nat):Ak:= .agg #[Aa Ac (x.1:Int),Aa Ab (x.2.1:Int),Aa Ab (x.2.2:Int)]
theorem yS (a b:Int) (pc:Ak) (root:Mv) (sv mv:Ak) (U:Option Addr) (up:List Bool) (nu cu:Nat) (x:Nat×Nat×Nat) (w:Aj) (hn:nu=up.length) (h:Rd w U 1 nu (De up)) (hx:x.2.2<nu):
  Al Tryz.prog 72 #[.agg (Sx a b pc root sv (Ad U nu cu) mv),gJ x] w (Co (Aa Ac (aT up x)) w):=by
 obtain⟨rt,rx,ry⟩:=root;obtain⟨x0,x1,x2⟩:=x;dsimp only at hx;have H:=((Bx.start w).new #[Aa Ab a,Aa Ab b,pc,Aa Ac rt,Aa Ab rx,Aa Ab ry,sv,Ad U nu cu,mv] 117 rfl).new #[Aa Ac x0,Aa Ab x1,Aa Ab x2] 176 (N:=w.heap.size+1) Cn;obtain⟨b0,o0,rfl,hbl,u0⟩:=qU (h.below H.below) x2 Ci
 have e:aT up (x0,x1,x2)=if up[x2]'(by omega)then 1 else 2:=by
  unfold aT;simp[List.getD,show x2<up.length by omega]
 rw[e];have q1:(x2:Int)<(nu:Int):=Ci;obtain⟨v,hv⟩:=ey (up[x2]'(by omega));rw[hv]at u0⊢;unfold Sx gJ;dsimp only;clear h hn hx e hv;go_enter Tryz.func72,Tryz.ntmps72;go_upto_region 1 with fail;obtain⟨W,hW⟩:=ez ((w.alloc (.cells #[Aa Ab a,Aa Ab b,pc,Aa Ac rt,Aa Ab rx,Aa Ab ry,sv,Ad (Af ⟨b0,o0,Ae⟩) nu cu,mv] 117)).alloc (.cells #[Aa Ac x0,Aa Ab x1,Aa Ab x2] 176));rw[←hW]at H u0⊢;clear hW;obtain⟨N,hN⟩:=ez w.heap.size;rw[←hN]at H⊢;have HNN:=Ah hN;clear hN;obtain⟨P,hP⟩:=ey (N+1);rw[hP]at H⊢;clear hP;obtain⟨-,-,-,-,-,-,-,c7,-⟩:=Wc (H.blk 0 _ _ _ rfl);obtain⟨⟨-,-,d2⟩,-⟩:=Cv (H.blk 1 _ _ _ rfl)
 cases v
 ·go_wp2;go_ret;exact⟨rfl,H.below⟩
 ·go_wp2;go_ret;exact⟨rfl,H.below⟩
end Go.Proofs.YthpcfeifmdbhnaaGreatDoor
