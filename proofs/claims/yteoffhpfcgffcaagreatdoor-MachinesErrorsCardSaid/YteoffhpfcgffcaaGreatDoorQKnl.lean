import Derived.Test.YteoffhpfcgffcaaGreatDoorQOfd
import Derived.Test.YteoffhpfcgffcaaGreatDoorQSog
import Derived.Test.YteoffhpfcgffcaaGreatDoorQSid
import Derived.WalkMore
open Array renaming getElem?_eq_some_iff→Aq
open Go renaming Calls→Ai,Value→Ah,World→Ag,bodyPost_ret→Af,cell_of_row→Bs,heap_alloc_new→Bt,wpAnyH_done→Ak,wpAnyH_ready→Am,wp_region_held_drew→Al
open Go.AllReadyH renaming cons→An,nil→Ao
open Go.IntKind renaming i64→Ab,u8→Ac
open Go.IntWalk renaming i64_in→Bu
open Go.Lib renaming hid→Ae
open Go.Value renaming int→Aa,slice→Ad
open List renaming getElem?_eq_getElem→Ar,getElem?_eq_some_iff→As,getElem_cons_succ→Bz,getElem_cons_zero→By,getElem_mem→Au,getElem_toArray→Ca,length_map→Bk,mem_append→Bi,mem_cons→Bh,mem_iff_getElem→Ay,nodup_append→Bl,replicate→Aw,setIfInBounds_toArray→Cd,set_cons_succ→Cc,set_cons_zero→Cb
open Nat renaming le_refl→Aj,le_trans→Bo
set_option maxHeartbeats 16000000
set_option maxRecDepth 100000
namespace Go.Proofs.YteoffhpfcgffcaaGreatDoor
open Go.RowKit
theorem sD {O B GO n:Nat} {F:List Nat} {fix:List Ah} {l0:List SmB} {ks:List (Cl×Cl)} {WL:Ag} (hB:Df O B (GO::F) fix WL l0) (hout:WL.heap[GO]? =some (Obj.cells ((Aw n Mo).flatMap smC).toArray 149 (0,0))):Vz O B GO n F fix l0 ks WL WL 0 (l0.map fun x=>(x,x)) [] where
 len:=rfl
 fst:=by rw[List.map_map];exact List.map_id l0
 rel q hq:=by
  obtain⟨x,-,rfl⟩:=List.mem_map.1 hq;exact⟨rfl,rfl,rfl,SmP.refl _⟩
 bld:=by
  rw[List.map_map];have e:l0.map ((fun q:SmB×SmB=>q.2)∘fun x=>(x,x))=l0:=List.map_id l0;rw[e];exact hB
 same _ _ _ _:=rfl
 size:=Aj _
 frm:=Below.refl _ _
 out:=hout
 rows x hx:=by simp at hx
 spec j k x _ hx:=by simp at hx
theorem Ai5 {w:Ag} {A:Option Addr} {l:List (Cl×Cl)} {n:Nat} (h:Rd w A 6 n (l.flatMap pkC)) (i:Nat) (hi:i<l.length):
  ∃b o,A=some ⟨b,o,none⟩∧b<w.heap.size∧w.cell? ⟨b,o+i*6,none⟩=some (Aa Ab l[i].1.x)∧w.cell? ⟨b,o+i*6+1,none⟩=some (Aa Ab l[i].1.y)∧w.cell? ⟨b,o+i*6+2,none⟩=some (Aa Ac l[i].1.q)∧
   w.cell? ⟨b,o+i*6+3,none⟩=some (Aa Ab l[i].2.x)∧w.cell? ⟨b,o+i*6+4,none⟩=some (Aa Ab l[i].2.y)∧w.cell? ⟨b,o+i*6+5,none⟩=some (Aa Ac l[i].2.q):=by
 have hl:=h.1;rw[Dl pkC 6 (fun _=>rfl)]at hl;obtain⟨b,o,e,hb,hc⟩:=h.2 (by omega);have hat:∀f,f<6→(l.flatMap pkC)[i*6+f]? =(pkC l[i])[f]? :=fun f hf=>Dc pkC 6 (fun _=>rfl) _ i f hi hf;exact⟨b,o,e,hb,hc (i*6+0) _ ((hat 0 (by omega)).trans rfl),hc (i*6+1) _ ((hat 1 (by omega)).trans rfl),hc (i*6+2) _ ((hat 2 (by omega)).trans rfl),hc (i*6+3) _ ((hat 3 (by omega)).trans rfl),hc (i*6+4) _ ((hat 4 (by omega)).trans rfl),hc (i*6+5) _ ((hat 5 (by omega)).trans rfl)⟩
theorem bS (a b:Int) (pA:Option Addr) (cr:List Cr) (pn pc:Nat) (root:Mv) (A:Option Addr) (l:List Stk) (n cc:Nat) (w:Ag) (hp:Fy a b cr) (hpn:pn=cr.length) (hpr:Rd w pA 3 pn (crs cr)) (hpl:pn≤1000000) (ht:root.t≤255)
  (hn:n=l.length) (h:Cs w A l) (hl:n≤100000) (hls:∀x∈l,x.ls.length≤100000) (hqs:∀x∈l,x.c.q≤255) (hQ:Qf w) (hT:Tn w):
  Ai Tryz.prog 59 #[.agg #[Aa Ab a,Aa Ab b,Ad pA pn pc],.agg #[Aa Ac root.t,Aa Ab root.x,Aa Ab root.y],Ad A n cc] w (oF (Kp a b cr root l) (Vp a b cr root l).seams w):=by
 have HST:=Ae (fun(w':Ag) (hb:Below w.heap.size w w')=>Vw a b pA cr pn pc root A l n cc w' hp hpn (hpr.below hb) hpl ht hn (h.below hb) hl hls hqs (hQ.below hb) (hT.below hb));have HPL:=Ae (fun(w':Ag) (hb:Below w.heap.size w w')=>mO a b pA cr pn pc root w' hp hpn (hpr.below hb) hpl ht (hQ.below hb) (hT.below hb));have HIM:=Ae (fun(w':Ag) (hb:Below w.heap.size w w')=>Lo a b pA cr pn pc root w' hp hpn (hpr.below hb) hpl ht (hQ.below hb) (hT.below hb));have HCN:=Ae (fun(w':Ag)=>Ns a b w' hp.sheet);have HSK:=Ae (fun(w':Ag) (hb:Below w.heap.size w w')=>h.below hb);have HMM:=Ae (fun(w':Ag) (hb:Below w.heap.size w w')=>(⟨hpn,hpr.below hb,hQ.below hb,hT.below hb⟩:pn=cr.length∧Rd w' pA 3 pn (crs cr)∧Qf w'∧Tn w'));have HP:=Ae hp;have HN:=Ae hn;have HLS:=Ae hls;have hcnt:=Ib hp.sheet
 have hc0:0<Cq a b:=by
  obtain⟨m1,-⟩:=Me hp.sheet;have e0:4*a*b=4*(a*b):=Int.mul_assoc _ _ _;unfold Cq;omega
 obtain⟨cnt,hcn⟩:=ey (Cq a b);rw[hcn]at hcnt HCN hc0;have HCT:=Ae hcn;obtain⟨E,hE⟩:=ey (Kp a b cr root l);rw[hE]at HST⊢;have HE:=Ae hE;obtain⟨rt,rx,ry⟩:=root;dsimp only at HST HPL HIM ht⊢;have H:=((Bx.start w).new #[Aa Ab a,Aa Ab b,Ad pA pn pc] 38 rfl).new #[Aa Ac rt,Aa Ab rx,Aa Ab ry] 40 (N:=w.heap.size+1) (by simp);clear hp hpn hpr hpl ht hn h hls hqs hQ hT hcn hE;go_enter Tryz.func59,Tryz.ntmps59;go_upto_region 1 with fail;obtain⟨N,hN⟩:=ez w.heap.size;rw[←hN]at H⊢;have HNN:=Ae hN;clear hN;obtain⟨P,hP⟩:=ey (N+1);rw[hP]at H⊢;obtain⟨W0,hW0⟩:=ez ((w.alloc (.cells #[Aa Ab a,Aa Ab b,Ad pA pn pc] 38)).alloc (.cells #[Aa Ac rt,Aa Ab rx,Aa Ab ry] 40));rw[←hW0]at H⊢;clear hW0;clear hP;obtain⟨⟨a0,a1,a2⟩,-⟩:=Ci (H.blk 0 _ _ _ rfl);obtain⟨⟨b0,b1,b2⟩,-⟩:=Ci (H.blk 1 _ _ _ rfl);go_wp2_with fail;refine(HST.out _ H.below).mono ?_;rintro ee w1 ⟨rfl,hb⟩;have H1:=H.call hb;clear a0 a1 a2 b0 b1 b2 hb H HST;by_cases hE0:E=0
 ·subst hE0;go_upto_region 4 with fail;have HWS:=Ae H1.below.size;go_cut [9] (fun s9 wx=>∃Hb M B,s9= .pointer (some ⟨B,0,none⟩)∧Hid (Bx w [(N,#[Aa Ab a,Aa Ab b,Ad pA pn pc],38),(P,#[Aa Ac rt,Aa Ab rx,Aa Ab ry],40),(Hb,(Cz (Aw cnt 0)).toArray,3),(B,#[Aa Ab a,Aa Ab b,Ad pA pn pc,Ad none 0 0,Ad none 0 0,Ad (some ⟨Hb,0,none⟩) cnt cnt,.map (some M),Ad none 0 0],218)] wx∧Fa pkK wx M []∧w.heap.size≤M))
  case first=>
   obtain⟨⟨a0,a1,a2⟩,-⟩:=Ci (H1.blk 0 _ _ _ rfl);obtain⟨S,hSd⟩:∃S:Ag→Prop,S=fun W'=>W'.cell? ⟨N,0,none⟩=some (Aa Ab a)∧W'.cell? ⟨N,1,none⟩=some (Aa Ab b)∧W'.cell? ⟨N,2,none⟩=some (Ad pA pn pc):=⟨_,rfl⟩;have HSO:Hid (∀W',S W'→W'.cell? ⟨N,0,none⟩=some (Aa Ab a)∧W'.cell? ⟨N,1,none⟩=some (Aa Ab b)∧W'.cell? ⟨N,2,none⟩=some (Ad pA pn pc)):=Ae fun W' h=>by subst hSd;exact h
   have HSA:Hid (∀W',Below w1.heap.size w1 W'→S W'):=Ae fun W' h=>by
    subst hSd;exact⟨Ce h a0,Ce h a1,Ce h a2⟩
   clear a0 a1 a2 hSd;refine Al (S:=S) (by kernel_rfl) (HSA.out _ (Below.refl _ _).drew) (fun hS=>?_);have hb:Below w1.heap.size w1 w1.drew:=(Below.refl _ _).drew;have H:=H1.drew;obtain⟨X0,hX0⟩:=ez w1.drew;rw[←hX0]at hb hS H⊢;clear hX0;clear H1;refine Cf 0 ?_;refine Cf 1 ?_;refine Cf 2 ?_;refine Am (rs:=[3,5]) (by kernel_rfl) (by simp) (An rfl (fun K hK=>?_) (An rfl (fun K hK=>?_) Ao))
   ·go_simp;refine(HCN.out _).mono ?_;rintro ee X1 ⟨rfl,hbm⟩;have hb:=hb.trans (hbm.mono hb.size);have H:=H.call hbm;refine hK.out _ _ (HSA.out _ hb) (fun hS=>?_);clear hK K hbm;refine Am (rs:=[4,5]) (by kernel_rfl) (by simp) (An rfl (fun K hK=>?_) (An rfl (fun K hK=>?_) Ao))
    ·obtain⟨Hb,hHb⟩:=ey X1.heap.size;have hmk:=Mz cnt hcnt X1;have H:=H.new (Cz (Aw cnt 0)).toArray 3 hHb;have hbq:=(Below.refl X1.heap.size X1).alloc (Aj _) (.cells (Cz (Aw cnt 0)).toArray 3);have hb:=hb.trans (hbq.mono hb.size);rw[hHb]at hmk;go_simp;refine hK.out _ _ (HSA.out _ hb) (fun hS=>?_);clear hK K hHb hmk hbq;obtain⟨X2,hX2⟩:=ez (X1.alloc (.cells (Cz (Aw cnt 0)).toArray 3));rw[←hX2]at H hb hS⊢;clear hX2;refine rdy 5 (fun K hK=>?_);obtain⟨M,hMd⟩:=ey X2.heap.size;have hmm:(Instr.makeMap 215 none).run Tryz.prog X2= .ok (.map (some X2.heap.size)) (X2.alloc (.map #[] 0)):=by first|rfl|simp[Instr.makeMap]
     have hM:=Nx pkK X2;have H:=H.other (.map #[] 0);have hbq:=(Below.refl X2.heap.size X2).alloc (Aj _) (.map #[] 0);have hMl:w1.heap.size≤X2.heap.size:=hb.size;have hb:=hb.trans (hbq.mono hb.size);rw[hMd]at hmm hM hMl;go_simp;refine hK.out _ _ (HSA.out _ hb) (fun hS=>?_);clear hK K hMd hmm hbq;obtain⟨X3,hX3⟩:=ez (X2.alloc (.map #[] 0));rw[←hX3]at H hb hS hM⊢;clear hX3;refine Cf 6 ?_;obtain⟨B,hB⟩:=ey X3.heap.size;have hM:=hM.below ((Below.refl X3.heap.size X3).alloc (Aj _) (.cells #[Aa Ab a,Aa Ab b,Ad pA pn pc,Ad none 0 0,Ad none 0 0,Ad (some ⟨Hb,0,none⟩) cnt cnt,.map (some M),Ad none 0 0] 218)) hM.lt;have H:=H.new #[Aa Ab a,Aa Ab b,Ad pA pn pc,Ad none 0 0,Ad none 0 0,Ad (some ⟨Hb,0,none⟩) cnt cnt,.map (some M),Ad none 0 0] 218 hB;have hb:=hb.alloc hb.size (.cells #[Aa Ab a,Aa Ab b,Ad pA pn pc,Ad none 0 0,Ad none 0 0,Ad (some ⟨Hb,0,none⟩) cnt cnt,.map (some M),Ad none 0 0] 218);refine rdy 7 (fun K hK=>?_);go_simp;refine hK.out _ _ (HSA.out _ hb) (fun hS=>?_);clear hK K hB;refine Cf 8 ?_;refine Ak (by kernel_rfl) ?_ _;go_wp2_with fail;go_meet;exact⟨Hb,M,B,rfl,Ae ⟨H,hM,Bo HWS.out hMl⟩⟩
    ·obtain⟨M,hMd⟩:=ey X1.heap.size;have hmm:(Instr.makeMap 215 none).run Tryz.prog X1= .ok (.map (some X1.heap.size)) (X1.alloc (.map #[] 0)):=by first|rfl|simp[Instr.makeMap]
     have hM:=Nx pkK X1;have H:=H.other (.map #[] 0);have hbq:=(Below.refl X1.heap.size X1).alloc (Aj _) (.map #[] 0);have hMl:w1.heap.size≤X1.heap.size:=hb.size;have hb:=hb.trans (hbq.mono hb.size);rw[hMd]at hmm hM hMl;go_simp;refine hK.out _ _ (HSA.out _ hb) (fun hS=>?_);clear hK K hMd hmm hbq;obtain⟨X2,hX2⟩:=ez (X1.alloc (.map #[] 0));rw[←hX2]at H hb hS hM⊢;clear hX2;refine rdy 4 (fun K hK=>?_);obtain⟨Hb,hHb⟩:=ey X2.heap.size;have hmk:=Mz cnt hcnt X2;have H:=H.new (Cz (Aw cnt 0)).toArray 3 hHb;have hbq:=(Below.refl X2.heap.size X2).alloc (Aj _) (.cells (Cz (Aw cnt 0)).toArray 3);have hb:=hb.trans (hbq.mono hb.size);have hM:=hM.below hbq hM.lt;rw[hHb]at hmk;go_simp;refine hK.out _ _ (HSA.out _ hb) (fun hS=>?_);clear hK K hHb hmk hbq;obtain⟨X3,hX3⟩:=ez (X2.alloc (.cells (Cz (Aw cnt 0)).toArray 3));rw[←hX3]at H hb hS hM⊢;clear hX3;refine Cf 6 ?_;obtain⟨B,hB⟩:=ey X3.heap.size;have hM:=hM.below ((Below.refl X3.heap.size X3).alloc (Aj _) (.cells #[Aa Ab a,Aa Ab b,Ad pA pn pc,Ad none 0 0,Ad none 0 0,Ad (some ⟨Hb,0,none⟩) cnt cnt,.map (some M),Ad none 0 0] 218)) hM.lt;have H:=H.new #[Aa Ab a,Aa Ab b,Ad pA pn pc,Ad none 0 0,Ad none 0 0,Ad (some ⟨Hb,0,none⟩) cnt cnt,.map (some M),Ad none 0 0] 218 hB;have hb:=hb.alloc hb.size (.cells #[Aa Ab a,Aa Ab b,Ad pA pn pc,Ad none 0 0,Ad none 0 0,Ad (some ⟨Hb,0,none⟩) cnt cnt,.map (some M),Ad none 0 0] 218);refine rdy 7 (fun K hK=>?_);go_simp;refine hK.out _ _ (HSA.out _ hb) (fun hS=>?_);clear hK K hB;refine Cf 8 ?_;refine Ak (by kernel_rfl) ?_ _;go_wp2_with fail;go_meet;exact⟨Hb,M,B,rfl,Ae ⟨H,hM,Bo HWS.out hMl⟩⟩
   ·obtain⟨M,hMd⟩:=ey X0.heap.size;have hmm:(Instr.makeMap 215 none).run Tryz.prog X0= .ok (.map (some X0.heap.size)) (X0.alloc (.map #[] 0)):=by first|rfl|simp[Instr.makeMap]
    have hM:=Nx pkK X0;have H:=H.other (.map #[] 0);have hbq:=(Below.refl X0.heap.size X0).alloc (Aj _) (.map #[] 0);have hMl:w1.heap.size≤X0.heap.size:=hb.size;have hb:=hb.trans (hbq.mono hb.size);rw[hMd]at hmm hM hMl;go_simp;refine hK.out _ _ (HSA.out _ hb) (fun hS=>?_);clear hK K hMd hmm hbq;obtain⟨X1,hX1⟩:=ez (X0.alloc (.map #[] 0));rw[←hX1]at H hb hS hM⊢;clear hX1;refine rdy 3 (fun K hK=>?_);go_simp;refine(HCN.out _).mono ?_;rintro ee X2 ⟨rfl,hbm⟩;have hb:=hb.trans (hbm.mono hb.size);have H:=H.call hbm;have hM:=hM.below hbm hM.lt;refine hK.out _ _ (HSA.out _ hb) (fun hS=>?_);clear hK K hbm;refine rdy 4 (fun K hK=>?_);obtain⟨Hb,hHb⟩:=ey X2.heap.size;have hmk:=Mz cnt hcnt X2;have H:=H.new (Cz (Aw cnt 0)).toArray 3 hHb;have hbq:=(Below.refl X2.heap.size X2).alloc (Aj _) (.cells (Cz (Aw cnt 0)).toArray 3);have hb:=hb.trans (hbq.mono hb.size);have hM:=hM.below hbq hM.lt;rw[hHb]at hmk;go_simp;refine hK.out _ _ (HSA.out _ hb) (fun hS=>?_);clear hK K hHb hmk hbq;obtain⟨X3,hX3⟩:=ez (X2.alloc (.cells (Cz (Aw cnt 0)).toArray 3));rw[←hX3]at H hb hS hM⊢;clear hX3;refine Cf 6 ?_;obtain⟨B,hB⟩:=ey X3.heap.size;have hM:=hM.below ((Below.refl X3.heap.size X3).alloc (Aj _) (.cells #[Aa Ab a,Aa Ab b,Ad pA pn pc,Ad none 0 0,Ad none 0 0,Ad (some ⟨Hb,0,none⟩) cnt cnt,.map (some M),Ad none 0 0] 218)) hM.lt;have H:=H.new #[Aa Ab a,Aa Ab b,Ad pA pn pc,Ad none 0 0,Ad none 0 0,Ad (some ⟨Hb,0,none⟩) cnt cnt,.map (some M),Ad none 0 0] 218 hB;have hb:=hb.alloc hb.size (.cells #[Aa Ab a,Aa Ab b,Ad pA pn pc,Ad none 0 0,Ad none 0 0,Ad (some ⟨Hb,0,none⟩) cnt cnt,.map (some M),Ad none 0 0] 218);refine rdy 7 (fun K hK=>?_);go_simp;refine hK.out _ _ (HSA.out _ hb) (fun hS=>?_);clear hK K hB;refine Cf 8 ?_;refine Ak (by kernel_rfl) ?_ _;go_wp2_with fail;go_meet
    exact⟨Hb,M,B,rfl,Ae ⟨H,hM,Bo HWS.out hMl⟩⟩
  case rest=>
   obtain⟨Hb,M,B,rfl,HS⟩:=hcut;obtain⟨H,hM,hMw⟩:=HS.out;have HMW:=Ae hMw;have HE0:=HE.out
   obtain⟨hbf,hcs⟩:(Dd a b cr ⟨rt,rx,ry⟩).2=0∧chkS cnt l=0:=by
    unfold Kp at HE0;rw[HCT.out]at HE0
    split at HE0
    ·contradiction
    ·rename_i g1
     split at HE0
     ·contradiction
     ·rename_i g2;exact⟨Classical.not_not.1 g1,Classical.not_not.1 g2⟩
   obtain⟨hml,hil,hmok,hiok⟩:=Gq hbf;obtain⟨⟨⟨ms,is⟩,er⟩,hbo⟩:∃z,Dd a b cr ⟨rt,rx,ry⟩=z:=⟨_,rfl⟩;rw[hbo]at HPL HIM hbf hml hil hmok hiok;dsimp only at HPL HIM hbf hml hil hmok hiok;subst hbf;rw[HCT.out]at hml hil;rw[hml]at HPL;rw[hil]at HIM;have HBO:=Ae hbo;have HML:=Ae hml;have HIL:=Ae hil;have HMO:=Ae hmok;have HIO:=Ae hiok;have HCS:=Ae hcs;clear hMw HE0 hbo hml hil hmok hiok hcs HS;obtain⟨⟨a0,a1,a2⟩,-⟩:=Ci (H.blk 0 _ _ _ rfl);obtain⟨⟨b0,b1,b2⟩,-⟩:=Ci (H.blk 1 _ _ _ rfl);go_wp2_with fail;refine(HPL.out _ H.below).mono ?_;rintro ee w2 ⟨hb,⟨h0,-⟩|⟨-,G1,rfl,hge,hG1⟩⟩
   ·exact absurd rfl h0
   have H2:=H.join hb hge hG1;have hM2:=hM.below hb hM.lt;clear a0 a1 a2 b0 b1 b2 hb hge hG1 H hM;have hB2:=H2.blk 3 _ _ _ rfl;have c3:w2.cell? ⟨B,3,none⟩=some (Ad none 0 0):=(Bs w2 B 3 _ _ (0,0) hB2).trans rfl;have z3:w2.frozen? ⟨B,3,none⟩=false:=by simp[World.frozen?,hB2]
   obtain⟨⟨a0,a1,a2⟩,-⟩:=Ci (H2.blk 0 _ _ _ rfl);obtain⟨⟨b0,b1,b2⟩,-⟩:=Ci (H2.blk 1 _ _ _ rfl)
   have HBM:Hid (M≠B):=Ae fun e=>by
    obtain⟨es,clock,hm,-⟩:=hM2;rw[e,hB2]at hm
    cases hm
   have H3:=H2.set 3 3 rfl (Ad (some ⟨G1,0,none⟩) cnt cnt);have hM3:=hM2.same (w':=w2.setCell ⟨B,3,none⟩ (Ad (some ⟨G1,0,none⟩) cnt cnt)) (Below.heap_setCell w2 ⟨B,3,none⟩ _ M (by show M≠B;exact HBM.out));dsimp only[Cb,Cc,List.nil_append,List.cons_append,Cd]at H3;have H2':=Ae H2;clear hB2 H2 hM2;go_upto_region 6 with fail;obtain⟨w3,hw3⟩:=ez (w2.setCell ⟨B,3,none⟩ (Ad (some ⟨G1,0,none⟩) cnt cnt));rw[←hw3]at H3 hM3⊢;clear hw3;clear c3 z3 a0 a1 a2 b0 b1 b2 H2';obtain⟨⟨a0,a1,a2⟩,-⟩:=Ci (H3.blk 0 _ _ _ rfl);obtain⟨⟨b0,b1,b2⟩,-⟩:=Ci (H3.blk 1 _ _ _ rfl);go_wp2_with fail;refine(HIM.out _ H3.below).mono ?_;rintro ee w4 ⟨hb,⟨h0,-⟩|⟨-,G2,rfl,hge,hG2⟩⟩
   ·exact absurd rfl h0
   have H4:=H3.join hb hge hG2;have hM4:=hM3.below hb hM3.lt;clear a0 a1 a2 b0 b1 b2 hb hge hG2 H3 hM3;have hB2:=H4.blk 3 _ _ _ rfl;have c3:w4.cell? ⟨B,4,none⟩=some (Ad none 0 0):=(Bs w4 B 4 _ _ (0,0) hB2).trans rfl;have z3:w4.frozen? ⟨B,4,none⟩=false:=by simp[World.frozen?,hB2]
   have H5:=H4.set 3 4 rfl (Ad (some ⟨G2,0,none⟩) cnt cnt);have hM5:=hM4.same (w':=w4.setCell ⟨B,4,none⟩ (Ad (some ⟨G2,0,none⟩) cnt cnt)) (Below.heap_setCell w4 ⟨B,4,none⟩ _ M (by show M≠B;exact HBM.out));dsimp only[Cb,Cc,List.nil_append,List.cons_append,Cd]at H5;clear hB2 H4 hM4;go_upto_region 7 with fail;obtain⟨w5,hw5⟩:=ez (w4.setCell ⟨B,4,none⟩ (Ad (some ⟨G2,0,none⟩) cnt cnt));rw[←hw5]at H5 hM5⊢;clear hw5;clear c3 z3
   have H6:Hid (Bx w (osL a b pA pn pc rt rx ry N P Hb B G1 G2 M cnt ms is (Sv cnt (hTo l 0 0))) w5):=Ae (by
    rw[Uc];exact H5)
   have hM6:=Ae hM5;clear H5 hM5 HPL HIM HCN HWS;go_wp2_with fail
   go_loopw [54] (fun s54 wr=>∃k:Nat,k≤n∧s54= Aa Ab k∧Hid (Bx w (osL a b pA pn pc rt rx ry N P Hb B G1 G2 M cnt ms is (Sv cnt (hTo l k 0))) wr)∧Hid (Fa pkK wr M [])) (fun s54 _=>n-(intOf s54).toNat)
   case atStart=>exact⟨0,by omega,rfl,H6,hM6⟩
   case round=>
    obtain⟨k,hk,rfl,HH,HMP⟩:=hrel;clear H6 hM6;by_cases hlt:k<n
    ·have hkl:k<l.length:=by have:=HN.out;omega
     obtain⟨bb,o,A',c',hAA,hbl,⟨d0,d1,d2,d3⟩,hA',hle,hcm,hrd⟩:=(HSK.out w (Below.refl _ _)).get k hkl;have d0:=Ce HH.out.below d0;have d1:=Ce HH.out.below d1;have d2:=Ce HH.out.below d2;have d3:=Ce HH.out.below d3
     have hids:∀id∈l[k].ls,id<cnt:=fun id hid=>by
      have:=(Mt HCS.out).1 k hkl;unfold Fh at this;rw[Ar hkl]at this;simp only[Bool.or_eq_false_iff]at this;have h2:=List.any_eq_false.1 this.2 id hid;simpa using h2
     have hlk:=HLS.out l[k] (Au _);have hnx:=qG l k hkl
     have hst:∀j id,l[k].ls[j]? =some id→hTo l k (j+1)=hTo l k j++[(id,j)]:=fun j id hj=>by
      obtain⟨h1,rfl⟩:=As.1 hj;exact qH l k j hkl h1
     obtain⟨⟨⟨x0,x1,x2⟩,ids⟩,hx⟩:∃z,l[k]=z:=⟨_,rfl⟩;simp only[hx]at d0 d1 d2 d3 hids hlk hnx hst hrd hA' hle;obtain⟨m,hm⟩:=ey ids.length;rw[hm]at d3 hlk hnx hrd hA' hle;have HRD:=Ae (fun(w':Ag) (hb:Below w.heap.size w w')=>hrd.below hb);have HID:=Ae hids;have HNX:=Ae hnx;have HSTP:=Ae hst;have HMD:=Ae hm;have q0:(k:Int)<(n:Int):=by omega
     obtain⟨C,hC⟩:=ey wr.heap.size;have H7:=HH.out.new #[Aa Ab x0,Aa Ab x1,Aa Ac x2,Ad A' m c'] 125 hC;have hM7:=HMP.out.below ((Below.refl wr.heap.size wr).alloc (Aj _) (.cells #[Aa Ab x0,Aa Ab x1,Aa Ac x2,Ad A' m c'] 125)) HMP.out.lt;have hbq:=(Below.refl wr.heap.size wr).alloc (Aj _) (.cells #[Aa Ab x0,Aa Ab x1,Aa Ac x2,Ad A' m c'] 125);subst hAA;clear hids hnx hst hrd hA' hle hx hm;go_upto_region 10 with fail;obtain⟨w7,hw7⟩:=ez (wr.alloc (.cells #[Aa Ab x0,Aa Ab x1,Aa Ac x2,Ad A' m c'] 125));rw[←hw7]at H7 hM7 hbq⊢;clear hw7;have HBQ:=Ae hbq;clear d0 d1 d2 d3 hbq hC;obtain⟨⟨e0,e1,e2,e3⟩,-⟩:=Co (H7.blk 6 _ _ _ rfl);have H7:=Ae (H7.upto 6);have hM7:=Ae hM7;have hM70:=hM7;go_wp2_with fail;obtain⟨WY,rfl⟩:=ez wr
     go_loopw [61] (fun s61 wr=>∃j:Nat,j≤m∧s61= Aa Ab j∧Hid (Bx w (osL a b pA pn pc rt rx ry N P Hb B G1 G2 M cnt ms is (Sv cnt (hTo l k j))) wr)∧Hid (Fa pkK wr M [])) (fun s61 _=>m-(intOf s61).toNat)
     case atStart=>exact⟨0,by omega,rfl,H7,hM70⟩
     case round=>
      obtain⟨j,hj,rfl,HH2,HMP2⟩:=hrel;clear H7 hM7 hM70 HH HMP;by_cases hlt2:j<m
      ·have hji:j<ids.length:=by have:=HMD.out;omega
       obtain⟨rb,ro,hrA,hrl,r0⟩:=Km (HRD.out _ HH2.out.below) j hji;obtain⟨id,hid⟩:=ey (ids[j]);have hidc:id<cnt:=HID.out id (hid▸Au hji);have hst:=HSTP.out j id (by rw[Ar hji,hid]);rw[hid]at r0;have q1:(j:Int)<(m:Int):=by omega
       have q2:(id:Int)<(cnt:Int):=by omega
       have hBB:=HH2.out.blk 3 _ _ _ rfl;have f5:wr.cell? ⟨B,5,none⟩=some (Ad (some ⟨Hb,0,none⟩) cnt cnt):=(Bs wr B 5 _ _ (0,0) hBB).trans rfl;have hHB:=HH2.out.blk 2 _ _ _ rfl;have hhl:=Ua cnt (hTo l k j);obtain⟨hv,hhv⟩:∃z,(Sv cnt (hTo l k j))[id]? =some z:=⟨_,Ar (by omega)⟩
       have c0:wr.cell? ⟨Hb,id,none⟩=some (Aa Ab (hv:Int)):=by
        rw[Bs wr Hb id _ _ (0,0) hHB,List.getElem?_toArray];unfold Cz;rw[List.getElem?_map,hhv];rfl
       have z0:wr.frozen? ⟨Hb,id,none⟩=false:=by simp[World.frozen?,hHB]
       have H8:=HH2.out.set 2 id rfl (Aa Ab (j:Int));rw[iU,←kU cnt (hTo l k j) (id,j),←hst]at H8
       have hMH:M≠Hb:=fun e=>by
        obtain⟨es,clock,hm,-⟩:=HMP2.out;rw[e,hHB]at hm
        cases hm
       have H8:=Ae H8;have hM8:=Ae (HMP2.out.same (w':=wr.setCell ⟨Hb,id,none⟩ (Aa Ab (j:Int))) (Below.heap_setCell wr ⟨Hb,id,none⟩ _ M (by show M≠Hb;exact hMH)));subst hrA;clear hBB hHB hhv hst hhl hid hidc;go_wp2_with fail;exact⟨⟨j+1,by omega,by go_num,H8,hM8⟩,by simp[intOf];omega⟩
      ·obtain rfl:j=m:=by omega
       have q1:¬(j:Int)<(j:Int):=by omega
       have H8:Hid (Bx w (osL a b pA pn pc rt rx ry N P Hb B G1 G2 M cnt ms is (Sv cnt (hTo l (k+1) 0))) wr):=Ae (by rw[←HNX.out];exact HH2.out);go_wp2_with fail;exact⟨⟨k+1,by omega,by go_num,H8,HMP2⟩,by simp[intOf];omega⟩
    ·obtain rfl:k=n:=by omega
     have q0:¬(k:Int)<(k:Int):=by omega
     obtain⟨K,hK⟩:∃z:Lk,Vp a b cr ⟨rt,rx,ry⟩ l=z:=⟨_,rfl⟩;rw[hK];have hhl:=Ua cnt (Mu l)
     have hKe:K=⟨a,b,cr,ms,is,Sv cnt (Mu l)⟩:=by
      rw[←hK];unfold Vp;rw[HBO.out,HCT.out]
     have hh0:hTo l k 0=Mu l:=by
      have:=vZ l;rw[←HN.out]at this;exact this
     rw[hh0]at HH;obtain⟨hbl,hlm⟩:=rZ HH.out HMP.out HMW.out HML.out HIL.out hhl HMM.out;have hin:=Ah2 (b:=b) HCT.out HML.out HIL.out hhl HMO.out HIO.out HP.out;rw[←hKe]at hbl hlm hin;obtain⟨V,hV⟩:=ey (osV pA pn pc Hb G1 G2 cnt);rw[hV]at hbl hlm;have HBL:=Ae hbl;have HLM:=Ae hlm;have HIN:=Ae hin;have hbw:=HH.out.below;have HBW:=Ae hbw;have HHA:=Ae (show V.hA=some ⟨Hb,0,none⟩∧V.hc=cnt by rw[←hV];exact⟨rfl,rfl⟩);have HKK:=Ae hK;clear hK hKe hh0 hhl hbl hlm hin hV hbw HH HMP HBO HML HIL HMO HIO HP HMM HSK HCS HN HLS HMW HCT HE;obtain⟨-,-,-,-,-,f5⟩:=Iw HBL.out;rw[HHA.out.1,HHA.out.2]at f5;obtain⟨WZ,rfl⟩:=ez wr;go_wp2_with fail;clear f5
     go_loopw [80] (fun s80 wr=>∃i:Nat,i≤cnt∧s80= Aa Ab i∧Hid (∃lB:List SmB,lB.map (·.s)=K.seamsTo (3*i)∧Df w.heap.size B [G1,G2,Hb] (V.fix K cnt) wr lB∧Frm w.heap.size [G1,G2,Hb] WZ wr)) (fun s80 _=>cnt-(intOf s80).toNat)
     case atStart=>exact⟨0,by omega,rfl,Ae ⟨[],rfl,HBL.out,Frm.refl _ _ _⟩⟩
     case round=>
      obtain⟨i,hi,rfl,HS⟩:=hrel;by_cases hlt2:i<cnt
      ·have q1:(i:Int)<(cnt:Int):=by omega
       go_wp2_with fail;obtain⟨WX,rfl⟩:=ez wr
       go_loopw [83] (fun s83 wr=>∃e:Nat,e≤3∧s83= Aa Ac e∧Hid (∃lB:List SmB,lB.map (·.s)=K.seamsTo (3*i+e)∧Df w.heap.size B [G1,G2,Hb] (V.fix K cnt) wr lB∧Frm w.heap.size [G1,G2,Hb] WZ wr)) (fun s83 _=>3-(intOf s83).toNat)
       case atStart=>exact⟨0,by omega,rfl,HS⟩
       case round=>
        obtain⟨e,he,rfl,HS2⟩:=hrel;clear HS;by_cases hlt3:e<3
        ·have q2:(e:Int)<3:=by omega
         obtain⟨lB,hs1,hB1,hF1⟩:=HS2.out;have hsk:=Mi HIN.out (3*i+e) (by omega);rw[←hs1]at hsk;have hlen:lB.length≤3*i+e:=by simpa using hsk.2
         have HMT:=Ae (rP w.heap.size B cnt i e [G1,G2,Hb] K V lB wr HIN.out hlt2 (by omega) (HLM.out.frm hF1) hB1 (by omega) (fun x hx=>by
          have:=hsk.1 x.s (List.mem_map.2 ⟨x,hx,rfl⟩);exact⟨by have:=this.lp;omega,by have:=this.ll;omega,by have:=this.le;omega⟩))
         rw[hs1]at HMT
         have hstep:K.meet i e (K.seamsTo (3*i+e))=K.seamsTo (3*i+(e+1)):=by
          show _=K.meet ((3*i+e)/3) ((3*i+e)%3) (K.seamsTo (3*i+e));rw[show(3*i+e)/3=i by omega,show(3*i+e)%3=e by omega]
         rw[hstep]at HMT;have HF1:=Ae hF1;clear hs1 hB1 hF1 hsk hlen hstep HS2;go_wp2_with fail;refine HMT.out.mono ?_;rintro ee w9 ⟨rfl,l2,hs2,hB2,hF2⟩;have HS3:Hid (∃lB:List SmB,lB.map (·.s)=K.seamsTo (3*i+(e+1))∧Df w.heap.size B [G1,G2,Hb] (V.fix K cnt) w9 lB∧Frm w.heap.size [G1,G2,Hb] WZ w9):=Ae ⟨l2,hs2,hB2,HF1.out.trans hF2⟩;clear hs2 hB2 hF2 HF1 HMT;go_wp2_with fail;exact⟨⟨e+1,by omega,by go_num,HS3⟩,by simp[intOf];omega⟩
        ·obtain rfl:e=3:=by omega
         have HS3:Hid (∃lB:List SmB,lB.map (·.s)=K.seamsTo (3*(i+1))∧Df w.heap.size B [G1,G2,Hb] (V.fix K cnt) wr lB∧Frm w.heap.size [G1,G2,Hb] WZ wr):=Ae HS2.out;go_wp2_with fail;exact⟨⟨i+1,by omega,by go_num,HS3⟩,by simp[intOf];omega⟩
      ·obtain rfl:i=cnt:=by omega
       have q1:¬(i:Int)<(i:Int):=by omega
       obtain⟨l0,hs0,hB0,hF0⟩:=HS.out;have hsk:=Mi HIN.out (3*i) (Aj _);rw[←hs0]at hsk;have hok:∀x∈l0,Rg i (3*i) x.s:=fun x hx=>hsk.1 x.s (List.mem_map.2 ⟨x,hx,rfl⟩);have hlen:l0.length≤3*i:=by simpa using hsk.2
       have hse:K.seams=l0.map (·.s):=by
        unfold Lk.seams;rw[←HIN.out.n];exact hs0.symm
       have HSE:=Ae hse;obtain⟨A7,c7,k7,hsort⟩:=oU hB0 (fun x hx=>⟨(hok x hx).qa,(hok x hx).qb⟩) (by omega);have HSO:=Ae hsort;have HOK:=Ae hok;have HLN:=Ae hlen;have HF0:=Ae hF0;obtain⟨m,hm⟩:=ey l0.length;rw[hm]at k7 HSO;have HMM:=Ae hm;have hm5:m≤100000:=by omega
       clear hsk hs0 hB0 hF0 hsort hok hlen hse HS hm;go_wp2_with fail;refine HSO.out.mono ?_;rintro ee w8 ⟨rfl,hB8,hF8⟩;clear k7 HSO;have HB8:=Ae hB8;have HF8:=Ae (HF0.out.trans hF8);obtain⟨M8,kv,a1,a2,a3,⟨ks,hkp,a4⟩,a5,a6,a7,a8,a9,a10⟩:=hB8;have hkl:ks.length=m:=by rw[hkp.length_eq,Bk];exact HMM.out
       rw[hkl]at a4;obtain⟨A8,c8,hv,-,-⟩:=Dy a4;subst hv;obtain⟨k6,k7,-,-,-⟩:=Ge a1 a2;have hmk:=rN m hm5 w8;obtain⟨GO,hGO⟩:=ey w8.heap.size;have hbq:=(Below.refl w8.heap.size w8).alloc (Aj _) (.cells ((Aw m Mo).flatMap smC).toArray 149);have hBL:=Ae (HB8.out.more (P:=GO) hbq (by omega) (by simp;omega));have hkL:=Ck a4 (Aj _) hbq;have hM8:=a3.below hbq a3.lt;have hltB:∀g∈l0.flatMap SmB.blks,g<w8.heap.size:=fun g hg=>(a5.lt g hg).2
       have hkb:∀g,Value.ownBlock (Ad A8 m c8)=some g→g<w8.heap.size∧g∉l0.flatMap SmB.blks:=fun g hg=>⟨(a4.lt g hg).2,fun hx=>by
        unfold Ct at a7;simp only[List.nodup_cons,Bl,Option.mem_toList]at a7;exact a7.2.2.2.2 g hg g hx rfl⟩
       have hMb:M8<w8.heap.size∧M8∉l0.flatMap SmB.blks:=⟨a3.lt,fun hx=>by
        unfold Ct at a7;simp only[List.nodup_cons,Bi,not_or]at a7;exact a7.2.1.2 hx⟩
       have hBb:B<w8.heap.size∧B∉l0.flatMap SmB.blks:=⟨(Aq.1 a2).1,fun hx=>by
        unfold Ct at a7;simp only[List.nodup_cons,Bi,Bh,not_or]at a7;exact a7.1.2.2 hx⟩
       have k6L:=Ce hbq k6;have k7L:=Ce hbq k7;have hout:=Bt w8 (.cells ((Aw m Mo).flatMap smC).toArray 149);have hbOL:Below w.heap.size WZ (w8.alloc (.cells ((Aw m Mo).flatMap smC).toArray 149)):=HF8.out.1.trans (hbq.mono (by have:=HBW.out.size;have:=HF8.out.1.size;omega));have hLML:=HLM.out.frm (HF8.out.trans (⟨hbq.mono (by have:=HBW.out.size;have:=HF8.out.1.size;omega),fun g hg=>hbq.block g (a10 g hg).1⟩:Frm w.heap.size [G1,G2,Hb] w8 _));have hOG:w.heap.size≤GO:=by have:=HBW.out.size;have:=HF8.out.1.size;omega
       rw[hGO]at hmk hout;rw[hGO]at hltB hkb hMb hBb;go_upto_region 27 with fail
       try rw[hGO]
       obtain⟨WL,hWL⟩:=ez (w8.alloc (.cells ((Aw m Mo).flatMap smC).toArray 149));rw[←hWL]at hBL hkL hM8 k6L k7L hout hbOL hLML⊢;clear hWL;have hnd:=hBL.out.keys;have hst:=sD (n:=m) (ks:=ks) hBL.out hout;have hGOl:GO<WL.heap.size:=(Aq.1 hout).1
       have hF3:∀g∈[G1,G2,Hb],g<WL.heap.size∧g∉l0.flatMap SmB.blks∧g≠GO:=fun g hg=>by
        have h1:=(a10 g hg).1;refine⟨by omega,fun hx=>(a10 g hg).2 ?_,by omega⟩;unfold Ct;simp only[Bh,Bi];exact .inr (.inr (.inr hx))
       have HKS:=Ae hkp;have HKL:=Ae hkl;have HND:=Ae hnd;have HGO:=Ae hGOl;have HOG:=Ae hOG;have HF3:=Ae hF3
       have HLTB:Hid (∀g∈l0.flatMap SmB.blks,g<WL.heap.size∧g≠GO):=Ae fun g hg=>by
        have:=hltB g hg;exact⟨by omega,by omega⟩
       have HKB:Hid (∀g,Value.ownBlock (Ad A8 m c8)=some g→g<WL.heap.size∧g∉l0.flatMap SmB.blks∧g≠GO):=Ae fun g hg=>by
        obtain⟨h1,h2⟩:=hkb g hg;exact⟨by omega,h2,by omega⟩
       have HMB:Hid (M8<WL.heap.size∧M8∉l0.flatMap SmB.blks∧M8≠GO):=Ae ⟨by omega,hMb.2,by omega⟩;have HBB:Hid (B<WL.heap.size∧B∉l0.flatMap SmB.blks∧B≠GO):=Ae ⟨by omega,hBb.2,by omega⟩;have HKR:=Ae hkL;have HM8:=Ae hM8;have HK6:=Ae k6L;have HBO:=Ae hbOL;have HLL:=Ae hLML;have hrel0:Hid (∃zz zs,Vz w.heap.size B GO m [G1,G2,Hb] (V.fix K i) l0 ks WL WL 0 zz zs):=Ae ⟨_,_,hst⟩;clear hst a1 a2 a3 a4 a5 a6 a7 a8 a9 a10 hkp hkl k6 k7 hmk hGO hbq hBL hkL hM8 hltB hkb hMb hBb k6L hout hbOL hLML hOG hnd hGOl hF3 HB8 HF8 HF0 HLM HBL;go_wp2_with fail;clear k7L
       go_loopw [108] (fun s108 wr=>∃j:Nat,j≤m∧s108= Aa Ab j∧Hid (∃zz zs,Vz w.heap.size B GO m [G1,G2,Hb] (V.fix K i) l0 ks WL wr j zz zs)) (fun s108 _=>m-(intOf s108).toNat)
       case atStart=>exact⟨0,by omega,rfl,hrel0⟩
       case round=>
        obtain⟨j,hj,rfl,HV⟩:=hrel;clear hrel0;by_cases hlt2:j<m
        ·have q1:(j:Int)<(m:Int):=by omega
         obtain⟨zz,zs,hv⟩:=HV.out;obtain⟨k9,x0,x,b1,b2,hk9,hget,hx0,hsp,hzz,hnext⟩:=xN hv hlt2 HKS.out HKL.out HND.out HGO.out HOG.out HLTB.out;have HNX:=Ae hnext;have hkl2:j<ks.length:=by rw[HKL.out];exact hlt2
         have hkr:=Dj HKR.out (w':=wr) fun g hg=>hv.same g (HKB.out g hg).1 (HKB.out g hg).2.1 (HKB.out g hg).2.2;obtain⟨kb,ko,hA8,hkbl,r0,r1,r2,r3,r4,r5⟩:=Ai5 (Rd.of_own hkr) j hkl2;have hkk:ks[j]=k9:=by rw[Ar hkl2]at hk9;simpa using hk9
         rw[hkk]at r0 r1 r2 r3 r4 r5;have hlk:=fun W' (h:Fa pkK W' M8 (Hk l0))=>Nv Td Tryz.underlying215 (et:=226) (z:= .pointer none) (fun w=>by kernel_rfl) h k9 false;rw[hget]at hlk;simp only[Bool.false_eq_true,if_false,Option.getD_some]at hlk;obtain⟨⟨⟨u0,u1,u2⟩,v0,v1,v2⟩,hke⟩:∃z,k9=z:=⟨_,rfl⟩;rw[hke]at r0 r1 r2 r3 r4 r5 hlk;unfold pkK SmB.ptr at hlk;dsimp only at r0 r1 r2 r3 r4 r5 hlk;have HLK:=Ae hlk
         have hB6:wr.cell? ⟨B,6,none⟩=some (.map (some M8)):=by
          have h6:=HK6.out;unfold World.cell? at h6⊢;rw[hv.same B HBB.out.1 HBB.out.2.1 HBB.out.2.2];exact h6
         have hMw:=HM8.out.same (w':=wr) (hv.same M8 HMB.out.1 HMB.out.2.1 HMB.out.2.2);obtain⟨C,hC⟩:=ey wr.heap.size;have hbq:=(Below.refl wr.heap.size wr).alloc (Aj _) (.cells #[Aa Ab u0,Aa Ab u1,Aa Ac u2,Aa Ab v0,Aa Ab v1,Aa Ac v2] 223);have hbC:=Bt wr (.cells #[Aa Ab u0,Aa Ab u1,Aa Ac u2,Aa Ab v0,Aa Ab v1,Aa Ac v2] 223);rw[hC]at hbC;have hB6':=Ce hbq hB6;have hMw':=hMw.below hbq hMw.lt;have hszW:=hv.size;have HVV:=Ae hv;have HZZ:=Ae hzz;have HSP:=Ae hsp;have HX0:=Ae hx0;clear hv hzz hsp hx0 hnext hkr hget hk9 hkk hke hkl2 hlk hB6 hMw hkbl HV;subst hA8;go_upto_region 30 with fail
         try rw[hC]
         obtain⟨W1,hW1⟩:=ez (wr.alloc (.cells #[Aa Ab u0,Aa Ab u1,Aa Ac u2,Aa Ab v0,Aa Ab v1,Aa Ac v2] 223));rw[←hW1]at hbq hbC hB6' hMw'⊢;clear hW1;clear r0 r1 r2 r3 r4 r5;obtain⟨⟨y0,y1,y2,y3,y4,y5⟩,-⟩:=Sq hbC;obtain⟨S,hSd⟩:∃S:Ag→Prop,S=fun W'=>W'.cell? ⟨C,0,none⟩=some (Aa Ab u0)∧W'.cell? ⟨C,1,none⟩=some (Aa Ab u1)∧W'.cell? ⟨C,2,none⟩=some (Aa Ac u2)∧W'.cell? ⟨C,3,none⟩=some (Aa Ab v0)∧W'.cell? ⟨C,4,none⟩=some (Aa Ab v1)∧W'.cell? ⟨C,5,none⟩=some (Aa Ac v2):=⟨_,rfl⟩;have HSO:Hid (∀W',S W'→W'.cell? ⟨C,0,none⟩=some (Aa Ab u0)∧W'.cell? ⟨C,1,none⟩=some (Aa Ab u1)∧W'.cell? ⟨C,2,none⟩=some (Aa Ac u2)∧W'.cell? ⟨C,3,none⟩=some (Aa Ab v0)∧W'.cell? ⟨C,4,none⟩=some (Aa Ab v1)∧W'.cell? ⟨C,5,none⟩=some (Aa Ac v2)):=Ae fun W' h=>by subst hSd;exact h
         have HSA:Hid (∀W',W'.heap[C]? =W1.heap[C]? →S W'):=Ae fun W' h=>by
          have hc:∀f u,W1.cell? ⟨C,f,none⟩=some u→W'.cell? ⟨C,f,none⟩=some u:=fun f u hu=>by
           unfold World.cell? at hu⊢;rw[h];exact hu
          subst hSd;exact⟨hc _ _ y0,hc _ _ y1,hc _ _ y2,hc _ _ y3,hc _ _ y4,hc _ _ y5⟩
         have hCl:C<W1.heap.size:=(Aq.1 hbC).1;clear y0 y1 y2 y3 y4 y5 hSd hbC;have hbd:Below wr.heap.size wr W1.drew:=hbq.drew;have hv:=HVV.out
         have hFx:Frm w.heap.size [G1,G2,Hb] WL W1.drew:=⟨hv.frm.trans (hbd.mono (by have:=HOG.out;have:=HGO.out;omega)),fun g hg=>by
          obtain⟨g1,g2,g3⟩:=HF3.out g hg;exact(hbd.block g (by omega)).trans (hv.same g g1 g2 g3)⟩
         have hBx:=hv.bld.below hbd;rw[HZZ.out]at hBx;have hokx:=HOK.out x0 HX0.out
         have HSRT:=Ae (gK w.heap.size B i (GO::[G1,G2,Hb]) K V b1 b2 x W1.drew HIN.out ((HLL.out.frm hFx).more) hBx hc0
          (fun p hp=>(hokx.ps p (HSP.out.ps.mem_iff.2 hp)).1) (fun p hp=>(hokx.ls p (HSP.out.ls.mem_iff.2 hp)).2.1)
          ⟨by have:=HSP.out.ps.length_eq;have:=hokx.lp;omega,by have:=HSP.out.ls.length_eq;have:=hokx.ll;omega,by have:=HSP.out.es.length_eq;have:=hokx.le;omega⟩)
         have hxlt:∀g∈x.blks,g<WL.heap.size∧g≠GO:=fun g hg=>by
          have hgm:g∈(zz.map (·.2)).flatMap SmB.blks:=by rw[HZZ.out];simp[hg]
          obtain⟨q,hq,hgq⟩:=List.mem_flatMap.1 hgm;obtain⟨r,hr,rfl⟩:=List.mem_map.1 hq;have hrb:=(hv.rel r hr).blks;rw[hrb]at hgq;exact HLTB.out g (List.mem_flatMap.2 ⟨r.1,by rw[←hv.fst];exact List.mem_map.2 ⟨r,hr,rfl⟩,hgq⟩)
         have HXLT:=Ae hxlt;have hGOw:wr.heap[GO]? =_:=hv.out;have hzl:=hv.len;have HZL:=Ae hzl;have HGW:=Ae hGOw;have hk6:W1.drew.cell? ⟨B,6,none⟩=some (.map (some M8)):=hB6';have HMW:=Ae hMw';unfold SmB.ptr at HSRT;clear hv hFx hBx hokx hxlt hGOw hzl hB6' hMw' hbq;have HBD:=Ae hbd;clear hbd;refine Al (S:=S) (by kernel_rfl) (HSA.out _ rfl) (fun hS=>?_);have hlk:=HLK.out W1.drew (HMW.out.same rfl);have hCD:C<W1.drew.heap.size:=hCl;have hCH:Hid (W1.drew.heap[C]? =W1.heap[C]?):=Ae rfl;obtain⟨X0,hX0⟩:=ez W1.drew;rw[←hX0]at hS hlk hk6 HSRT HBD hCD hCH⊢;clear hX0;refine Cf 0 ?_;refine Cf 1 ?_;refine Cf 2 ?_;refine Cf 3 ?_;refine Cf 4 ?_;refine Cf 5 ?_;refine Cf 7 ?_;refine rdy 6 (fun K hK=>?_);go_simp;refine hK.out _ _ hS (fun hS=>?_);clear hK K hk6;refine rdy 8 (fun K hK=>?_);go_simp;refine hK.out _ _ hS (fun hS=>?_);clear hK K hlk;refine rdy 9 (fun K hK=>?_);go_simp;refine HSRT.out.mono ?_;rintro ee X1 ⟨y,A1,A2,A3,rfl,hys,hyp,hyk,hB2,hF2,hrw,hyb,honly⟩;have hCne:C≠GO:=by have:=HGO.out;omega
         have hCx:C∉x.blks:=fun hg=>by have:=(HXLT.out C hg).1;omega
         have hC1:X1.heap[C]? =W1.heap[C]? :=(honly C hCD hCx).trans hCH.out;have hGOx:GO∉x.blks:=fun hg=>(HXLT.out GO hg).2 rfl;have hszX:=HBD.out.size;have hGOX:X1.heap[GO]? =wr.heap[GO]? :=(honly GO (by have:=HGO.out;omega) hGOx).trans (HBD.out.block GO (by have:=HGO.out;omega));obtain⟨u8c,u8z,-⟩:=aU (y.s,A1,A2,A3) (hGOX.trans HGW.out) HZL.out hlt2;have HNXT:=HNX.out X0 X1 y A1 A2 A3 HBD.out hys hyp hyk hyb hB2 hF2 hrw honly;have hC2:(X1.setCells GO (j*9) (smC (y.s,A1,A2,A3))).heap[C]? =W1.heap[C]? :=(World.heap_setCells_other X1 GO (j*9) _ (by have:=hF2.1.size;omega) hCne).trans hC1;have HS2:=Ae (HSA.out _ hC2);refine hK.out _ _ (HSA.out _ hC1) (fun hS=>?_);clear hK K;clear hys hyp hyk hB2 hF2 hrw hyb honly hC1 hC2 hGOX HSRT;obtain⟨w0c,e0⟩:=u8c 0 (by omega);obtain⟨w1c,e1⟩:=u8c 1 (by omega);obtain⟨w2c,e2⟩:=u8c 2 (by omega);obtain⟨w3c,e3⟩:=u8c 3 (by omega);obtain⟨w4c,e4⟩:=u8c 4 (by omega);obtain⟨w5c,e5⟩:=u8c 5 (by omega);obtain⟨w6c,e6⟩:=u8c 6 (by omega);obtain⟨w7c,e7⟩:=u8c 7 (by omega);obtain⟨w8c,e8⟩:=u8c 8 (by omega);have z0:=u8z (j*9);have z1:=u8z (j*9+1);have z2:=u8z (j*9+2);have z3:=u8z (j*9+3);have z4:=u8z (j*9+4);have z5:=u8z (j*9+5);have z6:=u8z (j*9+6);have z7:=u8z (j*9+7);have z8:=u8z (j*9+8);simp only[Nat.add_zero]at e0;unfold smC at HS2 HNXT;unfold Sm.val Sm.cells;unfold Sm.cells at HS2 HNXT;obtain⟨⟨⟨s0,s1,s2⟩,⟨t0,t1,t2⟩,ps,ls,es⟩,hys⟩:∃z,y.s=z:=⟨_,rfl⟩;rw[hys]at HS2 HNXT⊢;obtain⟨np,hnp⟩:=ey ps.length;obtain⟨nl,hnl⟩:=ey ls.length;obtain⟨ne,hne⟩:=ey es.length;dsimp only at HS2 HNXT⊢;rw[hnp,hnl,hne]at HS2 HNXT⊢;have HNXT:=Ae HNXT;clear u8c u8z hys hnp hnl hne;refine Cf 10 ?_;refine rdy 11 (fun K hK=>?_);go_simp;have hS3:=HS2.out;have HNX3:=HNXT.out;simp only[World.setCells,Nat.add_assoc,Nat.reduceAdd]at hS3 HNX3;refine hK.out _ _ hS3 (fun hS=>?_);have HNX3:=Ae HNX3;clear hK K hS3 hS e0 e1 e2 e3 e4 e5 e6 e7 e8 z0 z1 z2 z3 z4 z5 z6 z7 z8 HNXT HS2;refine Ak (by kernel_rfl) ?_ _;go_wp2_with fail
         obtain⟨zz',hzn⟩:=HNX3.out;exact⟨⟨j+1,by omega,by go_num,Ae ⟨zz',_,hzn⟩⟩,by simp[intOf];omega⟩
        ·obtain rfl:j=m:=by omega
         have q1:¬(j:Int)<(j:Int):=by omega
         obtain⟨zz,zs,hv⟩:=HV.out;obtain⟨h1,h2⟩:=Ab7 (O':=w.heap.size) hv HKS.out HKL.out HND.out HOG.out (by have:=HOG.out;have:=HGO.out;omega);rw[←HSE.out]at h1;have hzl:=hv.len
         have HFIN:Hid (oF 0 K.seams w (.returned (.tuple #[Ad (some ⟨GO,0,none⟩) j j,Aa Ab 0])) wr):=Ae
          ⟨HBW.out.trans (HBO.out.trans hv.frm),.inr ⟨rfl,some ⟨GO,0,none⟩,zs.map (·.1),by rw[Bk,hzl],h1,h2⟩⟩
         clear hv h1 h2 hzl HV;go_wp2_with fail;refine Af (v:= .tuple #[Ad (some ⟨GO,0,none⟩) j j,Aa Ab 0]) (by simp[results,Tryz.results59,go_sem]) rfl ?_;rw[HKK.out];exact HFIN.out
 ·have q1:(E != 0)=true:=by simpa using hE0
  go_wp2_with fail;refine Af (v:= .tuple #[Ad none 0 0,Aa Ab E]) (by simp[results,Tryz.results59,go_sem]) rfl ?_;exact⟨H1.below,.inl ⟨hE0,rfl⟩⟩
theorem eL (F:FuncId) (hen:∀(args:Array Ah) (w:Ag),(callFunc F args).run Tryz.prog w= .ok (.enter F args) w) (caps:Array Ah) (p:Nat×Nat×Nat→Bool) (A:Option Addr) (l:List (Nat×Nat×Nat)) (n c:Nat) (w:Ag) (hn:n=l.length) (h:Rd w A 3 n (Gy l)) (hl:n≤1000000)
  (hf:∀(i:Nat×Nat×Nat) (w':Ag),i∈l→Below w.heap.size w w'→Ai Tryz.prog F (#[.agg #[Aa Ac (i.1:Int),Aa Ab (i.2.1:Int),Aa Ab (i.2.2:Int)]]++caps) w' (Cg (.bool (p i)) w')):
  Ai Tryz.prog 186 #[Ad A n c,.func (.func F) #[] caps] w fun e w'=>(∃r:Int,e= .returned (Aa Ab r)∧((l.any p)=decide (0≤r)))∧Below w.heap.size w w':=by
 have HRD:=Ae h;have HN:=Ae hn;have HFX:=Ae hf;clear h hn hf;go_enter Tryz.func186,Tryz.ntmps186;go_wp2_with fail
 go_loopw [5,8] (fun _ i wr=>∃k:Nat,k≤n∧i= Aa Ab k∧Below w.heap.size w wr∧Hid (∀j (hj:j<l.length),j<k→p l[j]=false)) (fun _ i _=>n-(intOf i).toNat)
 case atStart=>exact⟨0,by omega,rfl,Below.refl _ _,Ae fun j _ hj=>absurd hj (by omega)⟩
 case round=>
  obtain⟨k,hk,rfl,hb,HK⟩:=hrel;by_cases hlt:k<n
  ·have hkl:k<l.length:=by have:=HN.out;omega
   obtain⟨bb,o,rfl,hbl,c0,c1,c2⟩:=Yl (HRD.out.below hb) k hkl;have q1:(k:Int)<(n:Int):=by omega
   have hmem:=Au hkl;obtain⟨⟨r,r1,r2⟩,hr⟩:=ey (l[k]);have HRR:=Ae hr;rw[hr]at c0 c1 c2 hmem;dsimp only at c0 c1 c2;have hC:=HFX.out (r,r1,r2) wr hmem hb;obtain⟨ar,har⟩:=ey (#[Value.agg #[Aa Ac (r:Int),Aa Ab (r1:Int),Aa Ab (r2:Int)]]++caps);rw[har]at hC;have HC:=Ae hC;clear hr hmem hC;go_wp2_with fail;refine HC.out.mono ?_;rintro e w2 ⟨rfl,hb2⟩;have hb3:=hb.trans (hb2.mono hb.size)
   cases he:p (r,r1,r2)
   ·have HKN:=Ae (fun j (hj:j<l.length) (h:j<k+1)=>show p l[j]=false by
     by_cases hjk:j=k
     ·subst hjk;rw[HRR.out];exact he
     ·exact HK.out j hj (by omega))
    go_wp2_with fail;exact⟨⟨k+1,by omega,by go_num,hb3,HKN⟩,by simp[intOf];omega⟩
   ·have HA:Hid ((l.any p)=true):=Ae (by rw[List.any_eq_true];exact⟨l[k],Au _,by rw[HRR.out];exact he⟩);go_wp2_with fail;go_ret;exact⟨⟨k,rfl,by rw[HA.out];simp⟩,hb3⟩
  ·have q1:¬(k:Int)<(n:Int):=by omega
   have HA:Hid ((l.any p)=false):=Ae (by
    rw[List.any_eq_false];intro x hx;obtain⟨j,hj,rfl⟩:=Ay.1 hx;simpa using HK.out j hj (by have:=HN.out;omega))
   go_wp2_with fail;go_ret;exact⟨⟨-1,rfl,by rw[HA.out];rfl⟩,hb⟩
theorem dK (F:FuncId) (hen:∀(args:Array Ah) (w:Ag),(callFunc F args).run Tryz.prog w= .ok (.enter F args) w) (caps:Array Ah) (p:Nat×Nat×Nat→Bool) (A:Option Addr) (l:List (Nat×Nat×Nat)) (n c:Nat) (w:Ag) (hn:n=l.length) (h:Rd w A 3 n (Gy l)) (hl:n≤1000000)
  (hf:∀(i:Nat×Nat×Nat) (w':Ag),i∈l→Below w.heap.size w w'→Ai Tryz.prog F (#[.agg #[Aa Ac (i.1:Int),Aa Ab (i.2.1:Int),Aa Ab (i.2.2:Int)]]++caps) w' (Cg (.bool (p i)) w')):
  Ai Tryz.prog 117 #[Ad A n c,.func (.func F) #[] caps] w (Cg (.bool (l.any p)) w):=by
 have HC:=Ae (eL F hen caps p A l n c w hn h hl hf);obtain⟨R,hR⟩:=ey (l.any p);rw[hR]at HC⊢;clear hn h hR hl hf hen;go_enter Tryz.func117,Tryz.ntmps117;go_wp2_with fail;refine HC.out.mono ?_;rintro e w2 ⟨⟨r,rfl,hr⟩,hb⟩;go_wp2_with fail;go_ret;exact⟨by rw[hr];rfl,hb⟩
theorem bT (p:Nat×Nat×Nat) (w:Ag):Ai Tryz.prog 118 #[.agg #[Aa Ac (p.1:Int),Aa Ab (p.2.1:Int),Aa Ab (p.2.2:Int)]] w (Cg (.bool (decide (1<p.1))) w):=by
 obtain⟨p0,p1,p2⟩:=p;have H:=(Bx.start w).new #[Aa Ac (p0:Int),Aa Ab (p1:Int),Aa Ab (p2:Int)] 152 rfl;dsimp only;go_enter Tryz.func118,Tryz.ntmps118;go_upto_region 1 with fail;obtain⟨W,hW⟩:=ez (w.alloc (.cells #[Aa Ac (p0:Int),Aa Ab (p1:Int),Aa Ab (p2:Int)] 152));rw[←hW]at H⊢;clear hW;obtain⟨⟨a0,a1,a2⟩,-⟩:=Ci (H.blk 0 _ _ _ rfl);by_cases h:1<p0
 ·have h1:(1:Int)<(p0:Int):=by omega
  rw[decide_eq_true h];go_wp2_with fail;go_ret;exact⟨by simp<;>omega,H.below⟩
 ·have h1:¬(1:Int)<(p0:Int):=by omega
  rw[decide_eq_false h];go_wp2_with fail;go_ret;exact⟨by simp<;>omega,H.below⟩
theorem Ss {w:Ag} {g:Nat} {a0 a1 a2 a3 a4 a5 a6 a7 a8:Ah} {t:TypeId} (h:w.heap[g]? =some (Obj.cells #[a0,a1,a2,a3,a4,a5,a6,a7,a8] t (0,0))):
  w.cell? ⟨g,0,none⟩=some a0∧w.cell? ⟨g,1,none⟩=some a1∧w.cell? ⟨g,2,none⟩=some a2∧w.cell? ⟨g,3,none⟩=some a3∧w.cell? ⟨g,4,none⟩=some a4∧w.cell? ⟨g,5,none⟩=some a5∧w.cell? ⟨g,6,none⟩=some a6∧w.cell? ⟨g,7,none⟩=some a7∧w.cell? ⟨g,8,none⟩=some a8:=by
 simp[World.cell?,h]
theorem eH (x y:Int×Int):Lq x y=Lq y x:=by
 unfold Lq;rw[Bool.or_comm]
theorem eG (x:Int×Int):Lq x x=false:=by
 unfold Lq;simp
def Xg (t:List Int) (l:List (Int×Int)) (i:Nat):Prop:=∀k (hk:k<l.length),k<i→(∀h∈t,¬(l[k].1<h∧h<l[k].2))∧∀j (hj:j<l.length),j<k→Lq l[k] l[j]=false
theorem dM {t:List Int} {l:List (Int×Int)} (h:Xg t l l.length):Hj t l=false:=by
 unfold Hj;rw[List.any_eq_false];intro x hx;obtain⟨k,hk,rfl⟩:=Ay.1 hx;rw[Bool.not_eq_true,Bool.or_eq_false_iff];refine⟨?_,?_⟩
 ·rw[List.any_eq_false];intro y hy hc;rw[Bool.and_eq_true,decide_eq_true_iff,decide_eq_true_iff]at hc;exact(h k hk hk).1 y hy hc
 ·rw[List.any_eq_false];intro y hy;obtain⟨j,hj,rfl⟩:=Ay.1 hy;rw[Bool.not_eq_true];rcases Nat.lt_trichotomy j k with hjk|rfl|hjk
  ·exact(h k hk hk).2 j hj hjk
  ·exact eG _
  ·rw[eH];exact(h j hj hj).2 k hk hjk
theorem dV {t:List Int} {l:List (Int×Int)} {k i:Nat} (hk:k<l.length) (hi:i<t.length) (h:l[k].1<t[i]∧t[i]<l[k].2):Hj t l=true:=by
 unfold Hj;rw[List.any_eq_true];refine⟨_,Au hk,?_⟩;rw[Bool.or_eq_true]
 left
 rw[List.any_eq_true];exact⟨_,Au hi,by rw[Bool.and_eq_true,decide_eq_true_iff,decide_eq_true_iff];exact h⟩
theorem dU {t:List Int} {l:List (Int×Int)} {k j:Nat} (hk:k<l.length) (hj:j<l.length) (h:Lq l[k] l[j]=true):Hj t l=true:=by
 unfold Hj;rw[List.any_eq_true];refine⟨_,Au hk,?_⟩;rw[Bool.or_eq_true]
 right
 rw[List.any_eq_true];exact⟨_,Au hj,h⟩
def Oy (t u:List Int) (i j:Nat):Prop:=∀a b (ha:a<t.length) (hb:b<t.length) (ha':a<u.length) (hb':b<u.length),b<a→(a<i∨(a=i∧b<j))→¬((t[a]<t[b]∧u[b]<u[a])∨(t[b]<t[a]∧u[a]<u[b]))
theorem mF {t u:List Int} (hl:t.length=u.length) (h:Oy t u t.length 0):Lc t u=false:=by
 unfold Lc;rw[List.any_eq_false];intro p hp;rw[Bool.not_eq_true,List.any_eq_false];intro q hq hc;rw[Bool.and_eq_true,decide_eq_true_iff,decide_eq_true_iff]at hc;obtain⟨a,ha,rfl⟩:=Ay.1 hp;obtain⟨b,hb,rfl⟩:=Ay.1 hq;simp only[List.length_zip]at ha hb;simp only[List.getElem_zip]at hc;rcases Nat.lt_trichotomy b a with hba|rfl|hba
 ·exact h a b (by omega) (by omega) (by omega) (by omega) hba (.inl (by omega)) (.inl ⟨hc.1,hc.2⟩)
 ·omega
 ·exact h b a (by omega) (by omega) (by omega) (by omega) hba (.inl (by omega)) (.inr ⟨hc.1,hc.2⟩)
theorem mG {t u:List Int} {a b:Nat} (ha:a<t.length) (hb:b<t.length) (ha':a<u.length) (hb':b<u.length) (h:(t[a]<t[b]∧u[b]<u[a])∨(t[b]<t[a]∧u[a]<u[b])):Lc t u=true:=by
 unfold Lc;rw[List.any_eq_true];rcases h with h|h
 ·refine⟨(t[a],u[a]),?_,?_⟩
  ·rw[Ay];exact⟨a,by simp;omega,by simp⟩
  ·rw[List.any_eq_true];refine⟨(t[b],u[b]),?_,by simpa using h⟩;rw[Ay];exact⟨b,by simp;omega,by simp⟩
 ·refine⟨(t[b],u[b]),?_,?_⟩
  ·rw[Ay];exact⟨b,by simp;omega,by simp⟩
  ·rw[List.any_eq_true];refine⟨(t[a],u[a]),?_,by simpa using h⟩;rw[Ay];exact⟨a,by simp;omega,by simp⟩
theorem vT (a b c d:Int):(Cy a b*Cy c d<0↔((a<b∧d<c)∨(b<a∧c<d)))∧-1≤Cy a b*Cy c d∧Cy a b*Cy c d≤1:=by
 have e1:(Cy a b= -1∧a<b)∨(Cy a b=0∧a=b)∨(Cy a b=1∧b<a):=by
  unfold Cy;split
  ·exact .inl ⟨rfl,by assumption⟩
  ·split
   ·exact .inr (.inr ⟨rfl,by assumption⟩)
   ·exact .inr (.inl ⟨rfl,by omega⟩)
 have e2:(Cy c d= -1∧c<d)∨(Cy c d=0∧c=d)∨(Cy c d=1∧d<c):=by
  unfold Cy;split
  ·exact .inl ⟨rfl,by assumption⟩
  ·split
   ·exact .inr (.inr ⟨rfl,by assumption⟩)
   ·exact .inr (.inl ⟨rfl,by omega⟩)
 rcases e1 with⟨e1,h1⟩|⟨e1,h1⟩|⟨e1,h1⟩<;>rcases e2 with⟨e2,h2⟩|⟨e2,h2⟩|⟨e2,h2⟩<;>rw[e1,e2]<;>omega
def uT (i:Nat) (c2 R:Bool) (t0 t1:List Int) (W:Ag) (s6 s136:Ah) (wr:Ag):Prop:=∃(j:Nat) (cx:Bool),s136= Aa Ab j∧j≤i∧s6= .bool cx∧Hid (Below W.heap.size W wr)∧Hid ((cx=true→R=true)∧(cx=false→c2=false∧Oy t0 t1 i j))
def oA (b:Bool) (w:Ag) (e:Ending) (w':Ag):Prop:=∃r:Int,e= .returned (Aa Ab r)∧(decide (r≠0))=b∧Below w.heap.size w w'
def Ik (ls:List Stk) (s:Sm) (k:Nat):Bool:=(decide (1≤k)&&Hj (Dq (atF ls s.a) s 0) (My (atF ls s.a) s 0))||(decide (2≤k)&&Hj (Dq (atF ls s.b) s 1) (My (atF ls s.b) s 1))
def Ng (s:Sm) (k:Nat):Cl:=if k=0 then s.a else s.b
theorem Zk (ls:List Stk) (s:Sm) (k:Nat) (hk:k<2):Ik ls s (k+1)=(Ik ls s k||Hj (Dq (atF ls (Ng s k)) s k) (My (atF ls (Ng s k)) s k)):=by
 have:k=0∨k=1:=by omega
 rcases this with rfl|rfl
 ·simp[Ik,Ng]
 ·simp[Ik,Ng]
theorem uZ {l:List Stk} {B:Nat} (h:∀x∈l,x.ls.length≤B) (c:Cl):(atF l c).length≤B:=by
 unfold atF
 split
 ·rename_i x hx;exact h x (List.mem_of_find?_eq_some hx)
 ·simp
theorem Zm {l:List Stk} {s:Sm} {k:Nat} (hk:k<2) (h:Jd (atF l (Ng s k)) s k=false):Fk l s=true:=by
 have:k=0∨k=1:=by omega
 unfold Fk;rcases this with rfl|rfl
 ·have h:Jd (atF l s.a) s 0=false:=h;rw[h];simp
 ·have h:Jd (atF l s.b) s 1=false:=h;rw[h];simp
theorem Zo {l:List Stk} {s:Sm} (h:(s.ls.any fun x=>decide (1<x.1))=true):Fk l s=true:=by
 unfold Fk;rw[h];simp
theorem dS {l:List Stk} {s:Sm} (h0:Jd (atF l s.a) s 0=true) (h1:Jd (atF l s.b) s 1=true) (h:(s.ls.any fun x=>decide (1<x.1))=false):
  Fk l s=(Ik l s 2||Lc (Dq (atF l s.a) s 0) (Dq (atF l s.b) s 1)):=by
 unfold Fk Ik;rw[h0,h1,h];simp
theorem Zp (s:Sm) (pA lA eA:Option Addr) (np pc nl lc ne ecp:Nat) (A:Option Addr) (l:List Stk) (n cc:Nat) (w:Ag)
  (hn:n=l.length) (h:Cs w A l) (hl:n≤100000) (hls:∀x∈l,x.ls.length≤100000) (hnp:np=s.ps.length) (hp:Rd w pA 2 np (Jg s.ps)) (hpl:np≤1000000) (hnl:nl=s.ls.length) (hlo:Rd w lA 3 nl (Gy s.ls)) (hll:nl≤1000000):
  Ai Tryz.prog 60 #[.agg (s.cells (Ad pA np pc) (Ad lA nl lc) (Ad eA ne ecp)),Ad A n cc] w (oA (Fk l s) w):=by
 have HAT:=Ae (fun(c:Cl) (w':Ag) (hb:Below w.heap.size w w')=>bZ A l n cc c w' hn (h.below hb) hl hls);have HSPN:=Ae (fun(side:Nat) (hs:side≤1) (A':Option Addr) (ls:List Nat) (n c:Nat) (w':Ag) (hb:Below w.heap.size w w') (hn:n=ls.length) (hl:n≤1000000) (h:Rd w' A' 1 n (Cz ls))=>mY s pA lA eA np pc nl lc ne ecp side A' ls n c w' hs hn hl h hnp (hp.below hb) hpl hnl (hlo.below hb) hll);have HCF:=Ae (fun(w':Ag) (hb:Below w.heap.size w w')=>dK 118 (fun _ _=>rfl) #[] (fun p=>decide (1<p.1)) lA s.ls nl lc w' hnl (hlo.below hb) hll (fun i w2 _ _=>bT i w2));obtain⟨R,hR⟩:=ey (Fk l s);rw[hR];have HR:=Ae hR;have HLS:=Ae hls;have HNP:=Ae hnp;unfold Sm.cells;have H:=(Bx.start w).new #[Aa Ab s.a.x,Aa Ab s.a.y,Aa Ac s.a.q,Aa Ab s.b.x,Aa Ab s.b.y,Aa Ac s.b.q,Ad pA np pc,Ad lA nl lc,Ad eA ne ecp] 149 rfl;unfold Sm.cells at HSPN;clear hR hn h hls hnp hp hnl hlo;obtain⟨⟨x1,y1,q1⟩,hca⟩:=ey s.a;obtain⟨⟨x2,y2,q2⟩,hcb⟩:=ey s.b;have HCA:=Ae hca;have HCB:=Ae hcb;rw[hca,hcb]at H HSPN⊢;dsimp only at H HSPN⊢;clear hca hcb;go_enter Tryz.func60,Tryz.ntmps60;go_upto_region 1 with fail;obtain⟨N,hN⟩:=ez w.heap.size;rw[←hN]at H⊢;have HNN:=Ae hN;clear hN;obtain⟨W,hW⟩:=ez (w.alloc (.cells #[Aa Ab x1,Aa Ab y1,Aa Ac q1,Aa Ab x2,Aa Ab y2,Aa Ac q2,Ad pA np pc,Ad lA nl lc,Ad eA ne ecp] 149));rw[←hW]at H⊢;clear hW;obtain⟨V,hV⟩:=ey W.heap.size;have H2:=H.new #[Ad none 0 0,Ad none 0 0] 227 hV;go_upto_region 2 with fail
 try rw[hV]
 obtain⟨W2,hW2⟩:=ez (W.alloc (.cells #[Ad none 0 0,Ad none 0 0] 227));rw[←hW2]at H2⊢;clear hW2;clear hV H;obtain⟨a0,a1,a2,a3,a4,a5,-⟩:=Ss (H2.blk 0 _ _ _ rfl);obtain⟨D,hD⟩:=ey W2.heap.size;have H3:=H2.new #[Aa Ab x1,Aa Ab y1,Aa Ac q1,Aa Ab x2,Aa Ab y2,Aa Ac q2] 123 hD;have hw3:D<(W2.alloc (.cells #[Aa Ab x1,Aa Ab y1,Aa Ac q1,Aa Ab x2,Aa Ab y2,Aa Ac q2] 123)).heap.size:=by simp;omega
 have hVD:V<D:=by rw[←hD];exact H2.lt 1 rfl
 have hND:N<D:=by rw[←hD];exact H2.lt 0 rfl
 go_upto_region 4 with fail
 try rw[hD]
 obtain⟨W3,hW3⟩:=ez (W2.alloc (.cells #[Aa Ab x1,Aa Ab y1,Aa Ac q1,Aa Ab x2,Aa Ab y2,Aa Ac q2] 123));rw[←hW3]at H3 hw3⊢;clear hW3;have hwD:w.heap.size≤D:=by have:=HNN.out;omega
 obtain⟨M,hM⟩:=ey (D+1)
 have HLM:Hid (∀(X:Array Ah),∀x∈[(N,X,149),(V,X,227),(D,X,123)],x.1<M):=Ae (by
  intro X x hx;simp only[Bh,List.not_mem_nil,or_false]at hx;rcases hx with rfl|rfl|rfl
  ·show N<M;omega
  ·show V<M;omega
  ·show D<M;omega)
 have HWM:Hid (w.heap.size≤M):=Ae (by omega);have hMW:M≤W3.heap.size:=by omega
 have HVM:Hid (V<M):=Ae (by omega);obtain⟨t0,ht0⟩:=ey (Dq (atF l s.a) s 0);obtain⟨t1,ht1⟩:=ey (Dq (atF l s.b) s 1);have HT0:=Ae ht0;have HT1:=Ae ht1;have HH3:=Ae H3;clear hD hM H2 hw3 hVD hND hwD a0 a1 a2 a3 a4 a5 ht0 ht1 H3
 go_loopw [6,27] (fun s6 s27 wr=>∃(k:Nat) (v0 v1:Ah),s27= Aa Ab k∧k≤2∧s6= .bool (Ik l s k)∧M≤wr.heap.size∧Hid (Bx w [(N,#[Aa Ab x1,Aa Ab y1,Aa Ac q1,Aa Ab x2,Aa Ab y2,Aa Ac q2,Ad pA np pc,Ad lA nl lc,Ad eA ne ecp],149),(V,#[v0,v1],227),(D,#[Aa Ab x1,Aa Ab y1,Aa Ac q1,Aa Ab x2,Aa Ab y2,Aa Ac q2],123)] wr)∧
  Hid ((1≤k→wr.ownsRow M 3 1 v0 t0.length (Dp t0))∧(2≤k→wr.ownsRow M 3 1 v1 t1.length (Dp t1)))∧Hid ((∀j,j<k→Jd (atF l (Ng s j)) s j=true)∧(1≤k→(s.ls.any fun x=>decide (1<x.1))=false))) (fun _ s27 _=>2-(intOf s27).toNat)
 case atStart=>exact⟨0,_,_,rfl,by omega,rfl,hMW,HH3,Ae ⟨fun h=>absurd h (by omega),fun h=>absurd h (by omega)⟩,Ae ⟨fun j hj=>absurd hj (by omega),fun h=>absurd h (by omega)⟩⟩
 case round=>
  obtain⟨k,v0,v1,rfl,hk,rfl,hMw,HH,HO,HG⟩:=hrel;clear HH3 hMW;by_cases hlt:k<2
  ·have q0:(k:Int)<2:=by omega
   obtain⟨⟨x,y,q⟩,hsc⟩:=ey (Ng s k)
   have hd:wr.cell? ⟨D,k*3,none⟩=some (Aa Ab x)∧wr.cell? ⟨D,k*3+1,none⟩=some (Aa Ab y)∧wr.cell? ⟨D,k*3+2,none⟩=some (Aa Ac q):=by
    obtain⟨⟨e0,e1,e2,e3,e4,e5⟩,-⟩:=Sq (HH.out.blk 2 _ _ _ rfl);have:k=0∨k=1:=by omega
    rcases this with rfl|rfl
    ·have:s.a=⟨x,y,q⟩:=hsc;rw[HCA.out]at this;injection this with r1 r2 r3;subst r1;subst r2;subst r3;exact⟨e0,e1,e2⟩
    ·have:s.b=⟨x,y,q⟩:=hsc;rw[HCB.out]at this;injection this with r1 r2 r3;subst r1;subst r2;subst r3;exact⟨e3,e4,e5⟩
   obtain⟨d0,d1,d2⟩:=hd;have HSC:=Ae hsc;obtain⟨C,hC⟩:=ey wr.heap.size;have H4:=HH.out.new #[Aa Ab x,Aa Ab y,Aa Ac q] 123 hC;have hM4:M≤(wr.alloc (.cells #[Aa Ab x,Aa Ab y,Aa Ac q] 123)).heap.size:=by simp;omega
   have ho4:(1≤k→(wr.alloc (.cells #[Aa Ab x,Aa Ab y,Aa Ac q] 123)).ownsRow M 3 1 v0 t0.length (Dp t0))∧(2≤k→(wr.alloc (.cells #[Aa Ab x,Aa Ab y,Aa Ac q] 123)).ownsRow M 3 1 v1 t1.length (Dp t1)):=⟨fun h=>(HO.out.1 h).alloc _,fun h=>(HO.out.2 h).alloc _⟩;clear hsc;go_upto_region 6 with fail
   try rw[hC]
   obtain⟨W4,hW4⟩:=ez (wr.alloc (.cells #[Aa Ab x,Aa Ab y,Aa Ac q] 123));rw[←hW4]at H4 hM4 ho4⊢;clear hW4;clear hC HH HO hMw d0 d1 d2;obtain⟨⟨c0,c1,c2⟩,-⟩:=Ci (H4.blk 3 _ _ _ rfl);have hat:=HAT.out ⟨x,y,q⟩ _ H4.below;dsimp only at hat;have HAT2:=Ae hat;clear hat
   go_step3
   go_wp2_with fail;refine HAT2.out.mono ?_;rintro e W5 ⟨A',rfl,hA',hrow,hb⟩;have hlen:(atF l ⟨x,y,q⟩).length≤1000000:=by have:=uZ HLS.out ⟨x,y,q⟩;omega
   have H5:=H4.call hb;have hM5:M≤W5.heap.size:=Bo hM4 hb.size;have ho5:(1≤k→W5.ownsRow M 3 1 v0 t0.length (Dp t0))∧(2≤k→W5.ownsRow M 3 1 v1 t1.length (Dp t1)):=⟨fun h=>Ck (ho4.1 h) (Aj _) hb,fun h=>Ck (ho4.2 h) (Aj _) hb⟩;obtain⟨ids,hids⟩:=ey (atF l ⟨x,y,q⟩);have HIDS:=Ae hids;rw[hids]at hlen hrow hA'⊢;have HRD:=Ae hrow.rd;clear hb H4 hM4 ho4 c0 c1 c2 hrow hA' hids;obtain⟨a0,a1,a2,a3,a4,a5,a6,a7,a8⟩:=Ss (H5.blk 0 _ _ _ rfl);have hsp:=HSPN.out k (by omega) A' ids ids.length ids.length _ H5.below rfl hlen HRD.out;have HSP:=Ae hsp;have hku:IntKind.u8.wrap (k:Int)=(k:Int):=IntWalk.u8_in _ (by omega);clear hsp HAT2;go_wp2_with fail;refine HSP.out.mono ?_;rintro e W6 ⟨LA,lc',TA,tc,nL,nT,rfl,hnL,hnT,hcc,hcm,hLo,hTo,hb⟩;have H6:=H5.call hb;have hM6:M≤W6.heap.size:=Bo hM5 hb.size;have ho6:(1≤k→W6.ownsRow M 3 1 v0 t0.length (Dp t0))∧(2≤k→W6.ownsRow M 3 1 v1 t1.length (Dp t1)):=⟨fun h=>Ck (ho5.1 h) (Aj _) hb,fun h=>Ck (ho5.2 h) (Aj _) hb⟩;have hLo:=Dr hLo hM5;have hTo:=Dr hTo hM5;clear HSP hb H5 hM5 ho5 a0 a1 a2 a3 a4 a5 a6 a7 a8 HRD hlen hku;have HL6:=Ae (⟨hLo,hTo,hnL,hnT,hcc,hcm⟩:_∧_∧_∧_∧_∧_);clear hLo hTo hnL hnT hcc hcm;obtain⟨g,hg⟩:=ey (Jd ids s k);rw[hg];have h7:=Bs W6 N 7 _ _ (0,0) (H6.blk 0 _ _ _ rfl);simp only[List.getElem?_toArray,List.getElem?_cons_zero,List.getElem?_cons_succ]at h7
   cases g
   ·have HF:Hid (R=true):=Ae (by
     rw[←HR.out];refine Zm hlt ?_;rw[HSC.out,HIDS.out];exact hg)
    clear hg;go_wp2_with fail
    try rw[Exit.noGoto_ret]
    go_ret;exact⟨1,rfl,by rw[HF.out];rfl,H6.below⟩
   ·have HGG:=Ae hg;obtain⟨v,hv⟩:=ey ((s.ls.any fun p=>decide (1<p.1)));have hcf:=HCF.out W6 H6.below;rw[hv]at hcf;have HCF2:=Ae hcf;clear hg hcf;go_wp2_with fail;refine HCF2.out.mono ?_;rintro e W7 ⟨rfl,hb⟩;have H7:=H6.call hb;have hM7:M≤W7.heap.size:=Bo hM6 hb.size;have ho7:(1≤k→W7.ownsRow M 3 1 v0 t0.length (Dp t0))∧(2≤k→W7.ownsRow M 3 1 v1 t1.length (Dp t1)):=⟨fun h=>Ck (ho6.1 h) (Aj _) hb,fun h=>Ck (ho6.2 h) (Aj _) hb⟩;have HL7:=Ae (⟨Ck HL6.out.1 (Aj _) hb,Ck HL6.out.2.1 (Aj _) hb,HL6.out.2.2⟩:_∧_∧_);clear HCF2 hb H6 hM6 ho6 h7 HL6
    cases v
    ·have HG1:Hid ((∀j,j<k+1→Jd (atF l (Ng s j)) s j=true)∧(1≤k+1→(s.ls.any fun x=>decide (1<x.1))=false)):=Ae ⟨fun j hj=>by
      by_cases e:j=k
      ·subst e;rw[HSC.out,HIDS.out];exact HGG.out
      ·exact HG.out.1 j (by omega),fun _=>hv⟩
     have hcn:=Zk l s k hlt;rw[HSC.out,HIDS.out]at hcn;have hTl:(Dq ids s k).length≤1000000:=by unfold Dq;rw[Bk];have:=HNP.out;omega
     obtain⟨tk,htk⟩:=ey (Dq ids s k);obtain⟨lk,hlk⟩:=ey (My ids s k);rw[htk,hlk]at hcn HL7;rw[htk]at hTl;obtain⟨c0,hc0⟩:=ey (Ik l s k);rw[hc0]at hcn⊢;have HCN:=Ae hcn
     obtain⟨u,hu⟩:∃u,W7.cell? ⟨V,k,none⟩=some u:=by
      obtain⟨⟨r0,r1⟩,-⟩:=Cu (H7.blk 1 _ _ _ rfl);have:k=0∨k=1:=by omega
      rcases this with rfl|rfl
      ·exact⟨_,r0⟩
      ·exact⟨_,r1⟩
     have hfz:=sV (H7.blk 1 _ _ _ rfl) k;obtain⟨hLo,hTo,hnL,hnT,hcc,hcm⟩:=HL7.out;unfold maxLen at hcm;obtain⟨v0',hv0⟩:=ey ((if k=0 then Value.slice TA nT tc else v0));obtain⟨v1',hv1⟩:=ey ((if k=0 then v1 else Value.slice TA nT tc));have H8:=(H7.set 1 k rfl (Ad TA nT tc)).upto 3;have hM8:M≤(W7.setCell ⟨V,k,none⟩ (Ad TA nT tc)).heap.size:=by simpa using hM7
     have hLo8:=Cn hLo HVM.out k (Ad TA nT tc);have hTo8:=Cn hTo HVM.out k (Ad TA nT tc)
     have ho8:(1≤k+1→(W7.setCell ⟨V,k,none⟩ (Ad TA nT tc)).ownsRow M 3 1 v0' t0.length (Dp t0))∧(2≤k+1→(W7.setCell ⟨V,k,none⟩ (Ad TA nT tc)).ownsRow M 3 1 v1' t1.length (Dp t1)):=by
      have:k=0∨k=1:=by omega
      rcases this with rfl|rfl
      ·refine⟨fun _=>?_,fun h=>absurd h (by omega)⟩;have e:t0=tk:=by rw[←HT0.out,←htk,←HIDS.out,←HSC.out];rfl
       rw[←hv0,if_pos rfl,e,←hnT];exact hTo8
      ·refine⟨fun _=>?_,fun _=>?_⟩
       ·rw[←hv0,if_neg (by decide)];exact Cn (ho7.1 (by omega)) HVM.out 1 _
       ·have e:t1=tk:=by rw[←HT1.out,←htk,←HIDS.out,←HSC.out];rfl
        rw[←hv1,if_neg (by decide),e,←hnT];exact hTo8
     have hB8:Bx w [(N,#[Aa Ab x1,Aa Ab y1,Aa Ac q1,Aa Ab x2,Aa Ab y2,Aa Ac q2,Ad pA np pc,Ad lA nl lc,Ad eA ne ecp],149),(V,#[v0',v1'],227),(D,#[Aa Ab x1,Aa Ab y1,Aa Ac q1,Aa Ab x2,Aa Ab y2,Aa Ac q2],123)] (W7.setCell ⟨V,k,none⟩ (Ad TA nT tc)):=by
      have e: #[v0,v1].setIfInBounds k (Value.slice TA nT tc)= #[v0',v1']:=by
       have:k=0∨k=1:=by omega
       rcases this with rfl|rfl
       ·rw[←hv0,←hv1,if_pos rfl,if_pos rfl];rfl
       ·rw[←hv0,←hv1,if_neg (by decide),if_neg (by decide)];rfl
      rw[e]at H8;exact H8
     clear hv H7 hM7 ho7 HL7 hLo hTo htk hlk hc0 hcn hv0 hv1 H8;subst hnL hnT;go_upto_region 11 with fail;obtain⟨W8,hW8⟩:=ez (W7.setCell ⟨V,k,none⟩ (Ad TA tk.length tc));rw[←hW8]at hM8 hLo8 hTo8 ho8 hB8⊢;clear hW8
     have HEND:=Ae (fun(wr:Ag) (hb:Below W8.heap.size W8 wr)=>(⟨Bo hM8 hb.size,Ae (hB8.call hb),Ae ⟨fun h=>Ck (ho8.1 h) (Aj _) hb,fun h=>Ck (ho8.2 h) (Aj _) hb⟩⟩:
      M≤wr.heap.size∧Hid (Bx w [(N,#[Aa Ab x1,Aa Ab y1,Aa Ac q1,Aa Ab x2,Aa Ab y2,Aa Ac q2,Ad pA np pc,Ad lA nl lc,Ad eA ne ecp],149),(V,#[v0',v1'],227),(D,#[Aa Ab x1,Aa Ab y1,Aa Ac q1,Aa Ab x2,Aa Ab y2,Aa Ac q2],123)] wr)∧
      Hid ((1≤k+1→wr.ownsRow M 3 1 v0' t0.length (Dp t0))∧(2≤k+1→wr.ownsRow M 3 1 v1' t1.length (Dp t1)))))
     have HRL:=Ae (fun(wr:Ag) (hb:Below W8.heap.size W8 wr)=>(Rd.of_own hLo8).below hb);have HRT:=Ae (fun(wr:Ag) (hb:Below W8.heap.size W8 wr)=>(Rd.of_own hTo8).below hb);clear hu hfz hM8 hLo8 hTo8 ho8 hB8
     go_step3
     go_wp2_with fail
     go_loopw [6,56] (fun s6 s56 wr=>∃i:Nat,s56= Aa Ab i∧i≤lk.length∧s6= .bool c0∧Hid (Below W8.heap.size W8 wr)∧Hid (Xg tk lk i)) (fun _ s56 _=>lk.length-(intOf s56).toNat)
     case atStart=>exact⟨0,rfl,by omega,rfl,Ae (Below.refl _ _),Ae fun k _ hk=>absurd hk (by omega)⟩
     case round=>
      obtain⟨i,rfl,hi,rfl,HB,HC⟩:=hrel;by_cases hil:i<lk.length
      ·have q1:(i:Int)<(lk.length:Int):=by omega
       obtain⟨b,o,hA,hbl,d0,d1⟩:=jL (HRL.out _ HB.out) i hil;obtain⟨⟨a1,a2⟩,ha⟩:=ey (lk[i]);rw[ha]at d0 d1;dsimp only at d0 d1;have HA:=Ae ha;obtain⟨E,hE⟩:=ey wr.heap.size;have hbE:=HB.out.alloc HB.out.size (.cells #[Aa Ab a1,Aa Ab a2] 234);have hEb:=Bt wr (.cells #[Aa Ab a1,Aa Ab a2] 234);rw[hE]at hEb;subst hA;clear ha;go_upto_region 14 with fail
       try rw[hE]
       obtain⟨WE,hWE⟩:=ez (wr.alloc (.cells #[Aa Ab a1,Aa Ab a2] 234));rw[←hWE]at hbE hEb⊢;clear hWE;clear hE d0 d1 HB;have HBE:=Ae hbE;have HEB:=Ae hEb;obtain⟨⟨e0,e1⟩,-⟩:=Cu hEb;clear hbE hEb;go_wp2_with fail
       go_loopw [6,63] (fun s6 s63 wr=>∃j:Nat,s63= Aa Ab j∧j≤tk.length∧s6= .bool c0∧Hid (WE=wr)∧Hid (∀h (hh:h<tk.length),h<j→¬(a1<tk[h]∧tk[h]<a2))) (fun _ s63 _=>tk.length-(intOf s63).toNat)
       case atStart=>exact⟨0,rfl,by omega,rfl,Ae rfl,Ae fun h _ hh=>absurd hh (by omega)⟩
       case round=>
        obtain⟨j,rfl,hj,rfl,HWE,HT⟩:=hrel;obtain rfl:=HWE.out;clear HWE;by_cases hjt:j<tk.length
        ·have q2:(j:Int)<(tk.length:Int):=by omega
         obtain⟨b2,o2,hA,hbl2,d0⟩:=Us (HRT.out _ HBE.out) j hjt;have hcx:=dV (t:=tk) (l:=lk) hil hjt;rw[HA.out]at hcx;dsimp only at hcx
         have hst:=fun(hno:¬(a1<tk[j]∧tk[j]<a2)) (h:Nat) (hh:h<tk.length) (hlt:h<j+1)=>show¬(a1<tk[h]∧tk[h]<a2)by
          by_cases e:h=j
          ·subst e;exact hno
          ·exact HT.out h hh (by omega)
         have HST:=Ae hst;have HCX:=Ae hcx;obtain⟨h,hh⟩:=ey (tk[j]);rw[hh]at d0 HST HCX;subst hA;clear hst hcx hh;by_cases hc1:a1<h
         ·by_cases hc2:h<a2
          ·have hcn:Ik l s (k+1)=true:=by rw[HCN.out,HCX.out ⟨hc1,hc2⟩];simp
           obtain⟨f1,f2,f3⟩:=HEND.out _ HBE.out;have HC9:=Ae hcn;clear hcn HEND HRL HRT HST HCX HT;go_wp2_with fail
           apply_assumption
           go_wp2_with fail;exact⟨⟨k+1,v0',v1',by go_num,by omega,by rw[HC9.out],f1,f2,f3,HG1⟩,by simp[intOf];omega⟩
          ·have hkn:=Ae (HST.out (fun hc=>hc2 hc.2));clear HST HCX;go_wp2_with fail;exact⟨⟨j+1,by go_num,by omega,rfl,Ae trivial,hkn⟩,by simp[intOf];omega⟩
         ·have hkn:=Ae (HST.out (fun hc=>hc1 hc.1));clear HST HCX;go_wp2_with fail;exact⟨⟨j+1,by go_num,by omega,rfl,Ae trivial,hkn⟩,by simp[intOf];omega⟩
        ·have q2:¬(j:Int)<(tk.length:Int):=by omega
         have HTT:Hid (∀h∈tk,¬(a1<h∧h<a2)):=Ae fun h hm=>by
          obtain⟨x,hx,rfl⟩:=Ay.1 hm;exact HT.out x hx (by omega)
         have q3:(i:Int)≤(lc':Int):=by omega
         have HB0:=Ae (Below.refl WE.heap.size WE);clear HT hj hjt;go_wp2_with fail
         go_loopw [6,82] (fun s6 s82 wr=>∃j:Nat,s82= Aa Ab j∧j≤i∧s6= .bool c0∧Hid (Below WE.heap.size WE wr)∧Hid (∀h (hh:h<lk.length),h<j→Lq (a1,a2) lk[h]=false)) (fun _ s82 _=>i-(intOf s82).toNat)
         case atStart=>exact⟨0,rfl,by omega,rfl,HB0,Ae fun h _ hh=>absurd hh (by omega)⟩
         case round=>
          obtain⟨j,rfl,hj,rfl,HB,HI⟩:=hrel;have hbw:=HBE.out.trans (HB.out.mono HBE.out.size);by_cases hji:j<i
          ·have q4:(j:Int)<(i:Int):=by omega
           have hjl:j<lk.length:=by omega
           obtain⟨b2,o2,hA2,hbl2,d0,d1⟩:=jL (HRL.out _ hbw) j hjl;obtain⟨rfl,rfl⟩:b=b2∧o=o2:=by simpa using hA2
           have hcx:=dU (t:=tk) (l:=lk) hil hjl;rw[HA.out]at hcx
           have hst:=fun(hno:Lq (a1,a2) lk[j]=false) (h:Nat) (hh:h<lk.length) (hlt:h<j+1)=>show Lq (a1,a2) lk[h]=false by
            by_cases e:h=j
            ·subst e;exact hno
            ·exact HI.out h hh (by omega)
           have HST:=Ae hst;have HCX:=Ae hcx;obtain⟨⟨p1,p2⟩,hp⟩:=ey (lk[j]);rw[hp]at d0 d1 HST HCX;dsimp only at d0 d1;obtain⟨E2,hE2⟩:=ey wr.heap.size;have hbF:=hbw.alloc hbw.size (.cells #[Aa Ab p1,Aa Ab p2] 234);have hbG:=HB.out.alloc HB.out.size (.cells #[Aa Ab p1,Aa Ab p2] 234);have hFb:=Bt wr (.cells #[Aa Ab p1,Aa Ab p2] 234);have hEb:=kept (hbG) HEB.out (Aq.1 HEB.out).1;rw[hE2]at hFb;clear hst hcx hp hA2;go_upto_region 23 with fail
           try rw[hE2]
           obtain⟨WF,hWF⟩:=ez (wr.alloc (.cells #[Aa Ab p1,Aa Ab p2] 234));rw[←hWF]at hbF hbG hFb hEb⊢;clear hWF;clear hE2 d0 d1 HB hbw;obtain⟨⟨f0,f1⟩,-⟩:=Cu hFb;obtain⟨⟨g0,g1⟩,-⟩:=Cu hEb;have HBF:=Ae hbF;have HBG:=Ae hbG;obtain⟨iv,hiv⟩:=ey (Lq (a1,a2) (p1,p2));have HIV:=Ae hiv;clear hbF hbG hFb hEb hiv e0 e1;go_cut [125]from 86 to 125 (fun sb wx=>sb= .bool iv∧Hid (WF=wx))
           case first=>
            clear HST HCX HEND HRL HRT;go_wp2_with fail
            all_goals go_meet
            all_goals exact⟨by rw[←HIV.out];unfold Lq;first|(simp<;>omega)|(congr 1;rw[Bool.eq_iff_iff];simp;omega),Ae rfl⟩
           case rest=>
           obtain⟨rfl,hwf⟩:=hcut;obtain rfl:=hwf.out;clear hwf f0 f1 g0 g1
           cases iv
           ·have hkn:=Ae (HST.out HIV.out);clear HST HCX HIV;go_wp2_with fail;exact⟨⟨j+1,by go_num,by omega,rfl,HBG,hkn⟩,by simp[intOf];omega⟩
           ·have hcn:Ik l s (k+1)=true:=by rw[HCN.out,HCX.out HIV.out];simp
            obtain⟨f1,f2,f3⟩:=HEND.out _ HBF.out;have HC9:=Ae hcn;clear hcn HEND HRL HRT HST HCX HIV;go_wp2_with fail
            apply_assumption
            go_wp2_with fail;exact⟨⟨k+1,v0',v1',by go_num,by omega,by rw[HC9.out],f1,f2,f3,HG1⟩,by simp[intOf];omega⟩
          ·have q4:¬(j:Int)<(i:Int):=by omega
           have HBW:=Ae hbw
           have HKN:Hid (Xg tk lk (i+1)):=Ae fun x hx hxi=>by
            by_cases e:x=i
            ·subst e;rw[HA.out];refine⟨HTT.out,fun y hy hyx=>HI.out y hy (by omega)⟩
            ·exact HC.out x hx (by omega)
           clear hbw HB HI hj hji e0 e1;go_wp2_with fail;exact⟨⟨i+1,by go_num,by omega,rfl,HBW,HKN⟩,by simp[intOf];omega⟩
      ·have q1:¬(i:Int)<(lk.length:Int):=by omega
       have hcl:Hj tk lk=false:=dM (by
        have e:i=lk.length:=by omega
        rw[←e];exact HC.out)
       have hcn:Ik l s (k+1)=c0:=by rw[HCN.out,hcl];simp
       obtain⟨e1,e2,e3⟩:=HEND.out _ HB.out;have HC9:=Ae hcn;clear hcl hcn HB HC HEND HRL HRT;go_wp2_with fail;exact⟨⟨k+1,v0',v1',by go_num,by omega,by rw[HC9.out],e1,e2,e3,HG1⟩,by simp[intOf];omega⟩
    ·have HF:Hid (R=true):=Ae (by rw[←HR.out];exact Zo hv);clear hv;go_wp2_with fail
     try rw[Exit.noGoto_ret]
     go_ret;exact⟨1,rfl,by rw[HF.out];rfl,H7.below⟩
  ·obtain rfl:k=2:=by omega
   obtain⟨WY,rfl⟩:=ez wr
   have HR2:Hid (R=(Ik l s 2||Lc t0 t1)):=Ae (by
    rw[←HR.out,←HT0.out,←HT1.out];exact dS (HG.out.1 0 (by omega)) (HG.out.1 1 (by omega)) (HG.out.2 (by omega)))
   have hl01:t0.length=t1.length:=by rw[←HT0.out,←HT1.out];unfold Dq;rw[Bk,Bk]
   have hlb:t0.length≤1000000:=by rw[←HT0.out];unfold Dq;rw[Bk];have:=HNP.out;omega
   obtain⟨c2,hc2⟩:=ey (Ik l s 2);rw[hc2]at HR2⊢;obtain⟨A0,d0,rfl,hA0,hd0⟩:=Dy (HO.out.1 (by omega));obtain⟨A1,d1,rfl,hA1,hd1⟩:=Dy (HO.out.2 (by omega));have HR0:=Ae (Rd.of_own (HO.out.1 (by omega)));have HR1:=Ae (Rd.of_own (HO.out.2 (by omega)));obtain⟨⟨f0,f1⟩,-⟩:=Cu (HH.out.blk 1 _ _ _ rfl);have HB0:=Ae (Below.refl WY.heap.size WY);clear hc2 hk hlt hMw HG hA0 hd0 hA1 hd1;go_wp2_with fail
   go_loopw [6,132] (fun s6 s132 wr=>∃(i:Nat) (cx:Bool),s132= Aa Ab i∧i≤t0.length∧s6= .bool cx∧Hid (Below WY.heap.size WY wr)∧Hid ((cx=true→R=true)∧(cx=false→c2=false∧Oy t0 t1 i 0))) (fun _ s132 _=>t0.length-(intOf s132).toNat)
   case atStart=>exact⟨0,c2,rfl,by omega,rfl,HB0,Ae ⟨fun h=>by rw[HR2.out,h];rfl,fun h=>⟨h,fun a b _ _ _ _ hba hh=>by omega⟩⟩⟩
   case round=>
    obtain⟨i,cx,rfl,hi,rfl,HB,HX⟩:=hrel;by_cases hil:i<t0.length
    ·have q1:(i:Int)<(t0.length:Int):=by omega
     go_wp2_with fail
     go_loopw [6,136] (fun s6 s136 wr=>uT i c2 R t0 t1 WY s6 s136 wr) (fun _ s136 _=>i-(intOf s136).toNat)
     case atStart=>exact⟨0,cx,rfl,by omega,rfl,HB,HX⟩
     case round=>
      obtain⟨j,cx,rfl,hj,rfl,HB,HX⟩:=hrel;by_cases hji:j<i
      ·have q2:(j:Int)<(i:Int):=by omega
       have q3:(j:Int)<(t0.length:Int):=by omega
       have q4:(j:Int)<(t1.length:Int):=by omega
       have q5:(i:Int)<(t1.length:Int):=by omega
       obtain⟨b0,o0,hA,hb0,x0⟩:=Us (HR0.out.below HB.out) i hil;obtain⟨b0',o0',hA',-,x1⟩:=Us (HR0.out.below HB.out) j (by omega);obtain⟨rfl,rfl⟩:b0=b0'∧o0=o0':=by rw[hA]at hA';simpa using hA'
       obtain⟨b1,o1,hC,hb1,x2⟩:=Us (HR1.out.below HB.out) i (by omega);obtain⟨b1',o1',hC',-,x3⟩:=Us (HR1.out.below HB.out) j (by omega);obtain⟨rfl,rfl⟩:b1=b1'∧o1=o1':=by rw[hC]at hC';simpa using hC'
       have hps:=mG (t:=t0) (u:=t1) (a:=i) (b:=j) (by omega) (by omega) (by omega) (by omega)
       have hst:=fun(hc:cx=false) (hno:¬((t0[i]<t0[j]∧t1[j]<t1[i])∨(t0[j]<t0[i]∧t1[i]<t1[j])))=>show Oy t0 t1 i (j+1)by
        intro a b ha hb ha' hb' hba hh;by_cases e:a=i∧b=j
        ·obtain⟨rfl,rfl⟩:=e;exact hno
        ·exact(HX.out.2 hc).2 a b ha hb ha' hb' hba (by omega)
       have HPS:=Ae hps;have HST:=Ae hst;obtain⟨y0,hy0⟩:=ey (t0[i]);obtain⟨y1,hy1⟩:=ey (t0[j]);obtain⟨y2,hy2⟩:=ey (t1[i]);obtain⟨y3,hy3⟩:=ey (t1[j]);rw[hy0]at x0 HPS HST;rw[hy1]at x1 HPS HST;rw[hy2]at x2 HPS HST;rw[hy3]at x3 HPS HST;have f0':=Ce HB.out f0;have f1':=Ce HB.out f1;subst hA hC;obtain⟨S,hSd⟩:∃S:Ag→Prop,S=fun W'=>(W'.cell? ⟨V,0,none⟩=some (Ad (some ⟨b0,o0,none⟩) t0.length d0)∧W'.cell? ⟨V,1,none⟩=some (Ad (some ⟨b1,o1,none⟩) t1.length d1))∧(W'.cell? ⟨b0,o0+i,none⟩=some (Aa Ab y0)∧W'.cell? ⟨b0,o0+j,none⟩=some (Aa Ab y1))∧W'.cell? ⟨b1,o1+i,none⟩=some (Aa Ab y2)∧W'.cell? ⟨b1,o1+j,none⟩=some (Aa Ab y3):=⟨_,rfl⟩;have HSO:Hid (∀W',S W'→(W'.cell? ⟨V,0,none⟩=some (Ad (some ⟨b0,o0,none⟩) t0.length d0)∧W'.cell? ⟨V,1,none⟩=some (Ad (some ⟨b1,o1,none⟩) t1.length d1))∧(W'.cell? ⟨b0,o0+i,none⟩=some (Aa Ab y0)∧W'.cell? ⟨b0,o0+j,none⟩=some (Aa Ab y1))∧W'.cell? ⟨b1,o1+i,none⟩=some (Aa Ab y2)∧W'.cell? ⟨b1,o1+j,none⟩=some (Aa Ab y3)):=Ae fun W' h=>by subst hSd;exact h
       have HSA:Hid (∀W',Below wr.heap.size wr W'→S W'):=Ae fun W' h=>by
        subst hSd;exact⟨⟨Ce h f0',Ce h f1'⟩,⟨Ce h x0,Ce h x1⟩,Ce h x2,Ce h x3⟩
       have HBZ:=Ae (fun(W':Ag) (h:Below wr.heap.size wr W')=>HB.out.trans (h.mono HB.out.size));clear hps hst hy0 hy1 hy2 hy3 x0 x1 x2 x3 f0' f1' hSd HB;obtain⟨hmul,hm1,hm2⟩:=vT y0 y1 y2 y3;obtain⟨p,hp⟩:=ey (Cy y0 y1);obtain⟨q,hq⟩:=ey (Cy y2 y3);have HC1:=Ae (fun(w':Ag)=>Gn y0 y1 w');have HC2:=Ae (fun(w':Ag)=>Gn y2 y3 w');rw[hp,hq]at hmul hm1 hm2;rw[hp]at HC1;rw[hq]at HC2;have tm:IntKind.i64.wrap (p*q)=p*q:=Bu _ (by omega);obtain⟨m,hm⟩:=ey (p*q);rw[hm]at hmul tm;have tm2:IntKind.i64.wrap (p*q)=m:=by rw[hm];exact tm
       have HMUL:=Ae hmul;clear hp hq hmul hm1 hm2 tm hm;go_upto_region 34 with fail;refine Al (S:=S) (by kernel_rfl) (HSA.out _ (Below.refl _ _).drew) (fun hS=>?_);have hb:Below wr.heap.size wr wr.drew:=(Below.refl _ _).drew;obtain⟨X0,hX0⟩:=ez wr.drew;rw[←hX0]at hb hS⊢;clear hX0;refine Cf 0 ?_;refine Cf 1 ?_;refine Cf 2 ?_;refine Cf 3 ?_;refine Cf 4 ?_;refine Cf 5 ?_;refine Cf 6 ?_;refine Cf 7 ?_;refine Cf 8 ?_;refine Cf 9 ?_;refine Cf 11 ?_;refine Cf 12 ?_;refine Cf 13 ?_;refine Cf 14 ?_;refine Cf 15 ?_;refine Cf 16 ?_;refine Cf 17 ?_;refine Cf 18 ?_;refine Cf 19 ?_;refine Cf 20 ?_;refine rdy 10 (fun K hK=>?_);go_simp;refine(HC1.out _).mono ?_;rintro e X1 ⟨rfl,hbm⟩;have hb:=hb.trans (hbm.mono hb.size);refine hK.out _ _ (HSA.out _ hb) (fun hS=>?_);clear hK K hbm;refine rdy 21 (fun K hK=>?_);go_simp;refine(HC2.out _).mono ?_;rintro e X2 ⟨rfl,hbm⟩;have hb:=hb.trans (hbm.mono hb.size);refine hK.out _ _ (HSA.out _ hb) (fun hS=>?_);clear hK K hbm;have HBX:=HBZ.out _ hb;by_cases hlt:m<0
       ·have HX2:Hid ((true=true→R=true)∧(true=false→c2=false∧Oy t0 t1 i (j+1))):=Ae ⟨fun _=>by rw[HR2.out,HPS.out (HMUL.out.1 hlt)];simp,fun h=>by cases h⟩;have HBX:=Ae HBX;refine Cf 22 ?_;refine Cf 23 ?_;refine Ak (by kernel_rfl) ?_ _;clear HX HST HPS HMUL hS HSO HSA HBZ;go_wp2_with fail;exact⟨⟨_,_,_,⟨j+1,true,by go_num,by omega,rfl,HBX,Ae ⟨fun _=>HX2.out.1 trivial,fun h=>by cases h⟩⟩,rfl,rfl,rfl⟩,by simp[intOf];omega⟩
       ·have HX2:Hid ((cx=true→R=true)∧(cx=false→c2=false∧Oy t0 t1 i (j+1))):=Ae ⟨HX.out.1,fun hc=>⟨(HX.out.2 hc).1,HST.out hc fun h=>hlt (HMUL.out.2 h)⟩⟩;have HBX:=Ae HBX;refine Cf 22 ?_;refine Cf 23 ?_;refine Ak (by kernel_rfl) ?_ _;clear HX HST HPS HMUL hS HSO HSA HBZ;go_wp2_with fail;exact⟨⟨_,_,_,⟨j+1,cx,by go_num,by omega,rfl,HBX,HX2⟩,rfl,rfl,rfl⟩,by simp[intOf];omega⟩
      ·have q2:¬(j:Int)<(i:Int):=by omega
       have HX2:Hid ((cx=true→R=true)∧(cx=false→c2=false∧Oy t0 t1 (i+1) 0)):=Ae ⟨HX.out.1,fun hc=>⟨(HX.out.2 hc).1,fun a b ha hb ha' hb' hba hh=>(HX.out.2 hc).2 a b ha hb ha' hb' hba (by omega)⟩⟩;clear HX;go_wp2_with fail;exact⟨⟨i+1,cx,by go_num,by omega,rfl,HB,HX2⟩,by simp[intOf];omega⟩
    ·have hit:i=t0.length:=by omega
     have q1:¬(i:Int)<(t0.length:Int):=by omega
     have hbl:=HH.out.below.trans (HB.out.mono HH.out.below.size)
     cases cx
     ·have HF:Hid (R=false):=Ae (by
       obtain⟨e1,e2⟩:=HX.out.2 rfl;rw[hit]at e2;rw[HR2.out,e1,mF hl01 e2];rfl)
      clear HX HB;go_wp2_with fail;go_ret;exact⟨0,rfl,by rw[HF.out];rfl,hbl⟩
     ·have HF:=Ae (HX.out.1 rfl);clear HX HB;go_wp2_with fail;go_ret;exact⟨12,rfl,by rw[HF.out];rfl,hbl⟩
theorem jK {w:Ag} {A:Option Addr} {l:List Bool} {n:Nat} (h:Rd w A 1 n (Cx l)) (i:Nat) (hi:i<l.length):
  ∃b o,A=some ⟨b,o,none⟩∧b<w.heap.size∧w.cell? ⟨b,o+i,none⟩=some (.bool l[i]):=by
 have hl:=h.1;have hbl:(Cx l).length=l.length:=by simp[Cx]
 rw[hbl]at hl;obtain⟨b,o,e,hb,hc⟩:=h.2 (by omega);exact⟨b,o,e,hb,hc i _ (by simp[Cx,hi])⟩
def Qm (a b:Int) (pc:Ah) (root:Mv) (sv uv mv:Ah):Array Ah:=#[Aa Ab a,Aa Ab b,pc,Aa Ac root.t,Aa Ab root.x,Aa Ab root.y,sv,uv,mv]
def aL (x:Nat×Nat×Nat):Ah:= .agg #[Aa Ac (x.1:Int),Aa Ab (x.2.1:Int),Aa Ab (x.2.2:Int)]
theorem qU (a b:Int) (pc:Ah) (root:Mv) (sv mv:Ah) (U:Option Addr) (up:List Bool) (nu cu:Nat) (x:Nat×Nat×Nat) (w:Ag) (hn:nu=up.length) (h:Rd w U 1 nu (Cx up)) (hx:x.2.2<nu):
  Ai Tryz.prog 62 #[.agg (Qm a b pc root sv (Ad U nu cu) mv),aL x] w (Cg (Aa Ac (aD up x)) w):=by
 obtain⟨rt,rx,ry⟩:=root;obtain⟨x0,x1,x2⟩:=x;dsimp only at hx;have H:=((Bx.start w).new #[Aa Ab a,Aa Ab b,pc,Aa Ac rt,Aa Ab rx,Aa Ab ry,sv,Ad U nu cu,mv] 82 rfl).new #[Aa Ac x0,Aa Ab x1,Aa Ab x2] 152 (N:=w.heap.size+1) (by simp);obtain⟨b0,o0,rfl,hbl,u0⟩:=jK (h.below H.below) x2 (by omega)
 have e:aD up (x0,x1,x2)=if up[x2]'(by omega)then 1 else 2:=by
  unfold aD;simp[List.getD,show x2<up.length by omega]
 rw[e];have q1:(x2:Int)<(nu:Int):=by omega
 obtain⟨v,hv⟩:=ey (up[x2]'(by omega));rw[hv]at u0⊢;unfold Qm aL;dsimp only;clear h hn hx e hv;go_enter Tryz.func62,Tryz.ntmps62;go_upto_region 1 with fail;obtain⟨W,hW⟩:=ez ((w.alloc (.cells #[Aa Ab a,Aa Ab b,pc,Aa Ac rt,Aa Ab rx,Aa Ab ry,sv,Ad (some ⟨b0,o0,none⟩) nu cu,mv] 82)).alloc (.cells #[Aa Ac x0,Aa Ab x1,Aa Ab x2] 152));rw[←hW]at H u0⊢;clear hW;obtain⟨N,hN⟩:=ez w.heap.size;rw[←hN]at H⊢;have HNN:=Ae hN;clear hN;obtain⟨P,hP⟩:=ey (N+1);rw[hP]at H⊢;clear hP;obtain⟨-,-,-,-,-,-,-,c7,-⟩:=Ss (H.blk 0 _ _ _ rfl);obtain⟨⟨-,-,d2⟩,-⟩:=Ci (H.blk 1 _ _ _ rfl)
 cases v
 ·go_wp2_with fail;go_ret;exact⟨rfl,H.below⟩
 ·go_wp2_with fail;go_ret;exact⟨rfl,H.below⟩
end Go.Proofs.YteoffhpfcgffcaaGreatDoor
