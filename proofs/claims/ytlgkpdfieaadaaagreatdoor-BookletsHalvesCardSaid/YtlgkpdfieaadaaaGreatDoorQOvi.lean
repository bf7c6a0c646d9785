import Derived.Test.YtlgkpdfieaadaaaGreatDoorQOfd
import Derived.Test.YtlgkpdfieaadaaaGreatDoorQSog
import Derived.Test.YtlgkpdfieaadaaaGreatDoorQLkm
import Derived.WalkMore
set_option linter.all false
open Array renaming getElem?_eq_some_iff->Au
open Bool renaming and_eq_true->El,false_eq_true->Ej,not_eq_true->Eo,or_eq_false_iff->Cy
open Classical renaming not_not->Ek
open Go renaming Addr->Ci,Calls->Al,Value->Ak,World->Aj,bodyPost_ret->Ai,cell_of_row->By,heap_alloc_new->Bz,wpAnyH_done->An,wpAnyH_ready->Ap,wp_region_held_drew->Ao
open Go.AllReadyH renaming cons->Aq,nil->Ar
open Go.IntKind renaming i64->Ab,u8->Ac
open Go.Lib renaming hid->Ah
open Go.Obj renaming cells->Cn
open Go.Proofs.Tryz renaming prog->Do
open Go.RowKit.Below renaming heap_alloc->Eg,heap_setCell->Dp,refl->Ag
open Go.Value renaming int->Aa,slice->Ad
open Go.World renaming frozen?->Dz
open List renaming any_eq_false->Dt,any_eq_true->Ev,cons_append->Ep,flatMap_append->Bi,flatMap_cons->Bf,getElem?_eq_getElem->Aw,getElem?_toArray->Fu,getElem_cons_succ->Cd,getElem_cons_zero->Cc,getElem_mem->Ay,getElem_toArray->Ce,length_map->Bo,map_map->Fs,mem_append->Bl,mem_cons->Bk,mem_flatMap->Eb,mem_iff_getElem->Be,mem_map->Dq,nil_append->Et,nodup_append->Bp,nodup_cons->Eh,not_mem_nil->Du,replicate->Ba,setIfInBounds_toArray->Ch,set_cons_succ->Cg,set_cons_zero->Cf,take_of_length_le->Bg,take_succ_eq_append_getElem->Bc
open Nat renaming le_refl->Am,le_trans->Br,lt_of_lt_of_le->Bq,zero_add->Bt
open Option renaming none->Ae,some->Af
set_option maxHeartbeats 16000000
set_option maxRecDepth 100000
namespace Go.Proofs.YtlgkpdfieaadaaaGreatDoor
open Go.RowKit
theorem Av9 {O B GO n:Nat} {F:List Nat} {fix:List Ak} {l0:List SmB} {ks:List (Cl×Cl)} {WL:Aj} (hB:Ii O B (GO::F) fix WL l0) (ya:WL.heap[GO]? =Af (Cn ((Ba n Vr).flatMap smC).toArray 263 (0,0))):gV O B GO n F fix l0 ks WL WL 0 (l0.map λx=>(x,x)) [] where
 len:=rfl
 fst:=by rw[Fs];exact List.map_id l0
 rel q hq:=by
  obtain⟨x,-,rfl⟩:=Dq.1 hq;exact⟨rfl,rfl,rfl,SmP.refl _⟩
 bld:=by
  rw[Fs];have e:l0.map ((λq:SmB×SmB=>q.2)∘λx=>(x,x))=l0:=List.map_id l0;rw[e];exact hB
 same _ _ _ _:=rfl
 size:=Am _
 frm:=Ag _ _
 out:=ya
 rows x hx:=by simp at hx
 spec j k x _ hx:=by simp at hx
theorem Cb5 {w:Aj} {A:Option Ci} {l:List (Cl×Cl)} {n:Nat} (h:Rd w A 6 n (l.flatMap pkC)) (i:Nat) (hi:i<l.length):
  ∃b o,A=Af ⟨b,o,Ae⟩/\b<w.heap.size/\w.cell? ⟨b,o+i*6,Ae⟩=Af (Aa Ab l[i].1.x)/\w.cell? ⟨b,o+i*6+1,Ae⟩=Af (Aa Ab l[i].1.y)/\w.cell? ⟨b,o+i*6+2,Ae⟩=Af (Aa Ac l[i].1.q)/\
   w.cell? ⟨b,o+i*6+3,Ae⟩=Af (Aa Ab l[i].2.x)/\w.cell? ⟨b,o+i*6+4,Ae⟩=Af (Aa Ab l[i].2.y)/\w.cell? ⟨b,o+i*6+5,Ae⟩=Af (Aa Ac l[i].2.q):=by
 have hl:=h.1;rw[Ks pkC 6 (λ_=>rfl)]at hl;obtain⟨b,o,e,hb,hc⟩:=h.2 Gu;have bi:∀f,f<6->(l.flatMap pkC)[i*6+f]? =(pkC l[i])[f]? :=λf hf=>Iv pkC 6 (λ_=>rfl) _ i f hi hf;exact⟨b,o,e,hb,hc (i*6+0) _ ((bi 0 Gu).trans rfl),hc (i*6+1) _ ((bi 1 Gu).trans rfl),hc (i*6+2) _ ((bi 2 Gu).trans rfl),hc (i*6+3) _ ((bi 3 Gu).trans rfl),hc (i*6+4) _ ((bi 4 Gu).trans rfl),hc (i*6+5) _ ((bi 5 Gu).trans rfl)⟩
theorem qM (a b:Int) (pA:Option Ci) (cr:List Cr) (pn pc:Nat) (root:Mv) (A:Option Ci) (l:List Stk) (n cc:Nat) (w:Aj) (hp:Lq a b cr) (mc:pn=cr.length) (fp:Rd w pA 3 pn (crs cr)) (dw:pn<=1000000) (ht:root.t<=255)
  (hn:n=l.length) (h:Hz w A l) (hl:n<=100000) (ij:∀x∈l,x.ls.length<=100000) (vj:∀x∈l,x.c.q<=255) (hQ:Qf w) (hT:Tn w):
  Al Do 153 #[.agg #[a,b,Ad pA pn pc],.agg #[Aa Ac root.t,Aa Ab root.x,Aa Ab root.y],Ad A n cc] w (Am4 (Ow a b cr root l) (eV a b cr root l).seams w):=by
 have gw:=Ah (λ(w':Aj) (hb:Below w.heap.size w w')=>gQ a b pA cr pn pc root A l n cc w' hp mc (fp.below hb) dw ht hn (h.below hb) hl ij vj (hQ.below hb) (hT.below hb));have lm:=Ah (λ(w':Aj) (hb:Below w.heap.size w w')=>iV a b pA cr pn pc root w' hp mc (fp.below hb) dw ht (hQ.below hb) (hT.below hb));have ni:=Ah (λ(w':Aj) (hb:Below w.heap.size w w')=>We a b pA cr pn pc root w' hp mc (fp.below hb) dw ht (hQ.below hb) (hT.below hb));have CB:=Ah (λ(w':Aj)=>Wa a b w' hp.sheet);have UC:=Ah (λ(w':Aj) (hb:Below w.heap.size w w')=>h.below hb);have NT:=Ah (λ(w':Aj) (hb:Below w.heap.size w w')=>(⟨mc,fp.below hb,hQ.below hb,hT.below hb⟩:pn=cr.length/\Rd w' pA 3 pn (crs cr)/\Qf w'/\Tn w'));have HP:=Ah hp;have HN:=Ah hn;have uq:=Ah ij;have iz:=Sw hp.sheet
 have EY:0<Hg a b:=by
  obtain⟨m1,-⟩:=Mg hp.sheet;have e0:4*a*b=4*(a*b):=Int.mul_assoc _ _ _;unfold Hg;omega
 obtain⟨cnt,on⟩:=ey (Hg a b);rw[on]at iz CB EY;have IT:=Ah on;obtain⟨E,hE⟩:=ey (Ow a b cr root l);rw[hE]at gw⊢;have HE:=Ah hE;obtain⟨rt,rx,ry⟩:=root;dsimp only at gw lm ni ht⊢;have H:=((Bx.start w).new #[a,b,Ad pA pn pc] 28 rfl).new #[Aa Ac rt,rx,ry] 30 (N:=w.heap.size+1) Gx;clear hp mc fp dw ht hn h ij vj hQ hT on hE;go_enter Tryz.func153,Tryz.ntmps153;go_upto_region 1 with fail;obtain⟨N,hN⟩:=ez w.heap.size;rw[<-hN]at H⊢;have db:=Ah hN;clear hN;obtain⟨P,hP⟩:=ey (N+1);rw[hP]at H⊢;generalize (w.alloc _).alloc _=W0 at H⊢;clear hP;obtain⟨⟨a0,a1,a2⟩,-⟩:=He (H.b 0);obtain⟨⟨b0,b1,b2⟩,-⟩:=He (H.b 1);go_wp2_with fail;refine(gw.out _ H.below).mono ?_;rintro ee w1 ⟨rfl,hb⟩;have H1:=H.call hb;clear a0 a1 a2 b0 b1 b2 hb H gw;by_cases hE0:E=0
 ·subst hE0;go_upto_region 4 with fail;have HWS:=Ah H1.below.size;go_cut [9] (λs9 wx=>∃Hb M B,s9= .pointer (Af ⟨B,0,Ae⟩)/\Hid (Bx w [(N,#[a,b,Ad pA pn pc],28),(P,#[Aa Ac rt,rx,ry],30),(Hb,(If (Ba cnt 0)).toArray,3),(B,#[a,b,Ad pA pn pc,Ad Ae 0 0,Ad Ae 0 0,Ad (Af ⟨Hb,0,Ae⟩) cnt cnt,.map (Af M),Ad Ae 0 0],326)] wx/\Km pkK wx M []/\w.heap.size<=M))
  case first=>
   obtain⟨⟨a0,a1,a2⟩,-⟩:=He (H1.b 0);obtain⟨S,an,HSO⟩:=Og λW'=>W'.cell? ⟨N,0,Ae⟩=Af (Aa Ab a)/\W'.cell? ⟨N,1,Ae⟩=Af (Aa Ab b)/\W'.cell? ⟨N,2,Ae⟩=Af (Ad pA pn pc)
   have ae:Hid (∀W',Below w1.heap.size w1 W'->S W'):=Ah λW' h=>by
    subst an;exact⟨Gv h a0,Gv h a1,Gv h a2⟩
   clear a0 a1 a2 an;refine Ao (S:=S) Gw (ae.out _ (Ag _ _).drew) (λhS=>?_);have hb:Below w1.heap.size w1 w1.drew:=(Ag _ _).drew;have H:=H1.drew;generalize w1.drew=X0 at hb hS H⊢;clear H1;refine Oe 0 1 2 ?_;refine Ap (rs:=[3,5]) Gw Gx (Aq rfl (λK hK=>?_) (Aq rfl (λK hK=>?_) Ar))
   ·go_simp;refine(CB.out _).mono ?_;rintro ee X1 ⟨rfl,ac⟩;have hb:=hb.trans (ac.mono hb.size);have H:=H.call ac;refine hK.o (ae.out _ hb) (λhS=>?_);clear hK K ac;refine Ap (rs:=[4,5]) Gw Gx (Aq rfl (λK hK=>?_) (Aq rfl (λK hK=>?_) Ar));obtain⟨Hb,CX⟩:=ey X1.heap.size;have uf:=Zg cnt iz X1;have H:=H.new (If (Ba cnt 0)).toArray 3 CX;have cg:=(Ag X1.heap.size X1).alloc (Am _) (.cells (If (Ba cnt 0)).toArray 3);have hb:=hb.trans (cg.mono hb.size);rw[CX]at uf;go_simp;refine hK.o (ae.out _ hb) (λhS=>?_);clear hK K CX uf cg;generalize X1.alloc _=X2 at H hb hS⊢;refine rdy 5 (λK hK=>?_);obtain⟨M,UY⟩:=ey X2.heap.size;have qz:(Instr.makeMap 323 Ae).run Do X2= .ok (.map (Af X2.heap.size)) (X2.alloc (.map #[] 0)):=by first|rfl|simp[Instr.makeMap]
    have hM:=Wg pkK X2;have H:=H.other (.map #[] 0);have cg:=(Ag X2.heap.size X2).alloc (Am _) (.map #[] 0);have KS:w1.heap.size<=X2.heap.size:=hb.size;have hb:=hb.trans (cg.mono hb.size);rw[UY]at qz hM KS;go_simp;refine hK.o (ae.out _ hb) (λhS=>?_);clear hK K UY qz cg;rotate_left;obtain⟨M,UY⟩:=ey X1.heap.size;have qz:(Instr.makeMap 323 Ae).run Do X1= .ok (.map (Af X1.heap.size)) (X1.alloc (.map #[] 0)):=by first|rfl|simp[Instr.makeMap]
    have hM:=Wg pkK X1;have H:=H.other (.map #[] 0);have cg:=(Ag X1.heap.size X1).alloc (Am _) (.map #[] 0);have KS:w1.heap.size<=X1.heap.size:=hb.size;have hb:=hb.trans (cg.mono hb.size);rw[UY]at qz hM KS;go_simp;refine hK.o (ae.out _ hb) (λhS=>?_);clear hK K UY qz cg;generalize X1.alloc _=X2 at H hb hS hM⊢;refine rdy 4 (λK hK=>?_);obtain⟨Hb,CX⟩:=ey X2.heap.size;have uf:=Zg cnt iz X2;have H:=H.new (If (Ba cnt 0)).toArray 3 CX;have cg:=(Ag X2.heap.size X2).alloc (Am _) (.cells (If (Ba cnt 0)).toArray 3);have hb:=hb.trans (cg.mono hb.size);have hM:=hM.below cg hM.lt;rw[CX]at uf;go_simp;refine hK.o (ae.out _ hb) (λhS=>?_);clear hK K CX uf cg
    all_goals
     generalize X2.alloc _=X3 at H hb hS hM⊢;refine Kg 6 ?_;obtain⟨B,hB⟩:=ey X3.heap.size;have hM:=hM.below ((Ag X3.heap.size X3).alloc (Am _) (.cells #[a,b,Ad pA pn pc,Ad Ae 0 0,Ad Ae 0 0,Ad (Af ⟨Hb,0,Ae⟩) cnt cnt,.map (Af M),Ad Ae 0 0] 326)) hM.lt;have H:=H.new #[a,b,Ad pA pn pc,Ad Ae 0 0,Ad Ae 0 0,Ad (Af ⟨Hb,0,Ae⟩) cnt cnt,.map (Af M),Ad Ae 0 0] 326 hB;have hb:=hb.alloc hb.size (.cells #[a,b,Ad pA pn pc,Ad Ae 0 0,Ad Ae 0 0,Ad (Af ⟨Hb,0,Ae⟩) cnt cnt,.map (Af M),Ad Ae 0 0] 326);refine rdy 7 (λK hK=>?_);go_simp;refine hK.o (ae.out _ hb) (λhS=>?_);clear hK K hB;refine Kg 8 ?_;refine An Gw ?_ _;go_wp2;go_meet;exact⟨Hb,M,B,rfl,Ah ⟨H,hM,Br HWS.out KS⟩⟩
   ·obtain⟨M,UY⟩:=ey X0.heap.size;have qz:(Instr.makeMap 323 Ae).run Do X0= .ok (.map (Af X0.heap.size)) (X0.alloc (.map #[] 0)):=by first|rfl|simp[Instr.makeMap]
    have hM:=Wg pkK X0;have H:=H.other (.map #[] 0);have cg:=(Ag X0.heap.size X0).alloc (Am _) (.map #[] 0);have KS:w1.heap.size<=X0.heap.size:=hb.size;have hb:=hb.trans (cg.mono hb.size);rw[UY]at qz hM KS;go_simp;refine hK.o (ae.out _ hb) (λhS=>?_);clear hK K UY qz cg;generalize X0.alloc _=X1 at H hb hS hM⊢;refine rdy 3 (λK hK=>?_);go_simp;refine(CB.out _).mono ?_;rintro ee X2 ⟨rfl,ac⟩;have hb:=hb.trans (ac.mono hb.size);have H:=H.call ac;have hM:=hM.below ac hM.lt;refine hK.o (ae.out _ hb) (λhS=>?_);clear hK K ac;refine rdy 4 (λK hK=>?_);obtain⟨Hb,CX⟩:=ey X2.heap.size;have uf:=Zg cnt iz X2;have H:=H.new (If (Ba cnt 0)).toArray 3 CX;have cg:=(Ag X2.heap.size X2).alloc (Am _) (.cells (If (Ba cnt 0)).toArray 3);have hb:=hb.trans (cg.mono hb.size);have hM:=hM.below cg hM.lt;rw[CX]at uf;go_simp;refine hK.o (ae.out _ hb) (λhS=>?_);clear hK K CX uf cg;generalize X2.alloc _=X3 at H hb hS hM⊢;refine Kg 6 ?_;obtain⟨B,hB⟩:=ey X3.heap.size;have hM:=hM.below ((Ag X3.heap.size X3).alloc (Am _) (.cells #[a,b,Ad pA pn pc,Ad Ae 0 0,Ad Ae 0 0,Ad (Af ⟨Hb,0,Ae⟩) cnt cnt,.map (Af M),Ad Ae 0 0] 326)) hM.lt;have H:=H.new #[a,b,Ad pA pn pc,Ad Ae 0 0,Ad Ae 0 0,Ad (Af ⟨Hb,0,Ae⟩) cnt cnt,.map (Af M),Ad Ae 0 0] 326 hB;have hb:=hb.alloc hb.size (.cells #[a,b,Ad pA pn pc,Ad Ae 0 0,Ad Ae 0 0,Ad (Af ⟨Hb,0,Ae⟩) cnt cnt,.map (Af M),Ad Ae 0 0] 326);refine rdy 7 (λK hK=>?_);go_simp;refine hK.o (ae.out _ hb) (λhS=>?_);clear hK K hB;refine Kg 8 ?_;refine An Gw ?_ _;go_wp2;go_meet;exact⟨Hb,M,B,rfl,Ah ⟨H,hM,Br HWS.out KS⟩⟩
  obtain⟨Hb,M,B,rfl,HS⟩:=hcut;obtain⟨H,hM,jz⟩:=HS.out;have O5:=Ah jz;have Z3:=HE.out
  obtain⟨JL,DH⟩:(Ia a b cr ⟨rt,rx,ry⟩).2=0/\chkS cnt l=0:=by
   unfold Ow at Z3;rw[IT.out]at Z3
   split at Z3
   ·contradiction
   ·rename_i g1
    split at Z3
    ·contradiction
    ·rename_i g2;exact⟨Ek.1 g1,Ek.1 g2⟩
  obtain⟨ig,bv,vg,jb⟩:=Ny JL;obtain⟨⟨⟨ms,is⟩,er⟩,EX⟩:∃z,Ia a b cr ⟨rt,rx,ry⟩=z:=⟨_,rfl⟩;rw[EX]at lm ni JL ig bv vg jb;dsimp only at lm ni JL ig bv vg jb;subst JL;rw[IT.out]at ig bv;rw[ig]at lm;rw[bv]at ni;have M6:=Ah EX;have AK:=Ah ig;have wq:=Ah bv;have CH:=Ah vg;have Z9:=Ah jb;have HCS:=Ah DH;clear jz Z3 EX ig bv vg jb DH HS;obtain⟨⟨a0,a1,a2⟩,-⟩:=He (H.b 0);obtain⟨⟨b0,b1,b2⟩,-⟩:=He (H.b 1);go_wp2_with fail;refine(lm.out _ H.below).mono ?_;rintro ee w2 ⟨hb,⟨h0,-⟩|⟨-,G1,rfl,ju,H'⟩⟩
  ·exact absurd rfl h0
  have H2:=H.join hb ju H';have yi:=hM.below hb hM.lt;clear a0 a1 a2 b0 b1 b2 hb ju H' H hM;have dl:=H2.b 3;have c3:w2.cell? ⟨B,3,Ae⟩=Af (Ad Ae 0 0):=(By w2 B 3 _ _ (0,0) dl).trans rfl;have z3:w2.frozen? ⟨B,3,Ae⟩=false:=by simp[Dz,dl]
  obtain⟨⟨a0,a1,a2⟩,-⟩:=He (H2.b 0);obtain⟨⟨b0,b1,b2⟩,-⟩:=He (H2.b 1)
  have HBM:Hid (M≠B):=Ah λe=>by
   obtain⟨es,clock,hm,-⟩:=yi;rw[e,dl]at hm
   cases hm
  have H3:=H2.set 3 3 rfl (Ad (Af ⟨G1,0,Ae⟩) cnt cnt);have kg:=yi.same (w':=w2.setCell ⟨B,3,Ae⟩ (Ad (Af ⟨G1,0,Ae⟩) cnt cnt)) (Dp w2 ⟨B,3,Ae⟩ _ M (by show M≠B;exact HBM.out));dsimp only[Cf,Cg,Et,Ep,Ch]at H3;have PH:=Ah H2;clear dl H2 yi;go_upto_region 6 with fail;generalize w2.setCell _ _=w3 at H3 kg⊢;clear c3 z3 a0 a1 a2 b0 b1 b2 PH;obtain⟨⟨a0,a1,a2⟩,-⟩:=He (H3.b 0);obtain⟨⟨b0,b1,b2⟩,-⟩:=He (H3.b 1);go_wp2_with fail;refine(ni.out _ H3.below).mono ?_;rintro ee w4 ⟨hb,⟨h0,-⟩|⟨-,G2,rfl,ju,KQ⟩⟩
  ·exact absurd rfl h0
  have H4:=H3.join hb ju KQ;have rp:=kg.below hb kg.lt;clear a0 a1 a2 b0 b1 b2 hb ju KQ H3 kg;have dl:=H4.b 3;have c3:w4.cell? ⟨B,4,Ae⟩=Af (Ad Ae 0 0):=(By w4 B 4 _ _ (0,0) dl).trans rfl;have z3:w4.frozen? ⟨B,4,Ae⟩=false:=by simp[Dz,dl]
  have H5:=H4.set 3 4 rfl (Ad (Af ⟨G2,0,Ae⟩) cnt cnt);have qi:=rp.same (w':=w4.setCell ⟨B,4,Ae⟩ (Ad (Af ⟨G2,0,Ae⟩) cnt cnt)) (Dp w4 ⟨B,4,Ae⟩ _ M (by show M≠B;exact HBM.out));dsimp only[Cf,Cg,Et,Ep,Ch]at H5;clear dl H4 rp;go_upto_region 7 with fail;generalize w4.setCell _ _=w5 at H5 qi⊢;clear c3 z3
  have H6:Hid (Bx w (osL a b pA pn pc rt rx ry N P Hb B G1 G2 M cnt ms is (Yv cnt (hTo l 0 0))) w5):=Ah (by
   rw[eC];exact H5)
  have ru:=Ah qi;clear H5 qi lm ni CB HWS;go_wp2
  go_loopw [54] (λNK wr=>∃k:Nat,k<=n/\NK= Aa Ab k/\Hid (Bx w (osL a b pA pn pc rt rx ry N P Hb B G1 G2 M cnt ms is (Yv cnt (hTo l k 0))) wr)/\Hid (Km pkK wr M [])) (λNK _=>n-(intOf NK).toNat)
  case atStart=>exact⟨0,Gu,rfl,H6,ru⟩
  obtain⟨k,hk,rfl,HH,AN⟩:=hrel;clear H6 ru;by_cases ad:k<n
  ·have bc:k<l.length:=oHx HN.out;obtain⟨bb,o,A',c',QI,cj,⟨d0,d1,d2,d3⟩,dq,hle,ia,be⟩:=(UC.out w (Ag _ _)).get k bc;have d0:=Gv HH.out.below d0;have d1:=Gv HH.out.below d1;have d2:=Gv HH.out.below d2;have d3:=Gv HH.out.below d3
   have ja:∀id∈l[k].ls,id<cnt:=λid hid=>by
    have:=(Ki HCS.out).1 k bc;unfold Ko at this;rw[Aw bc]at this;simp only[Cy]at this;have h2:=Dt.1 this.2 id hid;simpa using h2
   have dy:=uq.out l[k] (Ay _);have fg:=Ar2 l k bc
   have br:∀j id,l[k].ls[j]? =Af id->hTo l k (j+1)=hTo l k j++[(id,j)]:=λj id hj=>by
    obtain⟨h1,rfl⟩:=List.getElem?_eq_some_iff.1 hj;exact Ar3 l k j bc h1
   obtain⟨⟨⟨x0,x1,x2⟩,ids⟩,hx⟩:∃z,l[k]=z:=⟨_,rfl⟩;simp only[hx]at d0 d1 d2 d3 ja dy fg br be dq hle;obtain⟨m,hm⟩:=ey ids.length;rw[hm]at d3 dy fg be dq hle;have dr:=Ah (λ(w':Aj) (hb:Below w.heap.size w w')=>be.below hb);have PN:=Ah ja;have oh:=Ah fg;have HSTP:=Ah br;have fi:=Ah hm;have q0:(k:Int)<(n:Int):=Gu;obtain⟨C,hC⟩:=ey wr.heap.size;have H7:=HH.out.new #[x0,x1,Aa Ac x2,Ad A' m c'] 92 hC;have BG:=AN.out.below ((Ag wr.heap.size wr).alloc (Am _) (.cells #[x0,x1,Aa Ac x2,Ad A' m c'] 92)) AN.out.lt;have cg:=(Ag wr.heap.size wr).alloc (Am _) (.cells #[x0,x1,Aa Ac x2,Ad A' m c'] 92);subst QI;clear ja fg br be dq hle hx hm;go_upto_region 10 with fail;generalize wr.alloc _=w7 at H7 BG cg⊢;have N0:=Ah cg;clear d0 d1 d2 d3 cg hC;obtain⟨⟨e0,e1,e2,e3⟩,-⟩:=Jm (H7.b 6);have H7:=Ah (H7.upto 6);have BG:=Ah BG;have hM70:=BG;go_wp2_with fail;obtain⟨WY,rfl⟩:=ez wr
   go_loopw [61] (λNL wr=>∃j:Nat,j<=m/\NL= Aa Ab j/\Hid (Bx w (osL a b pA pn pc rt rx ry N P Hb B G1 G2 M cnt ms is (Yv cnt (hTo l k j))) wr)/\Hid (Km pkK wr M [])) (λNL _=>m-(intOf NL).toNat)
   case atStart=>exact⟨0,Gu,rfl,H7,hM70⟩
   obtain⟨j,hj,rfl,uo,XS⟩:=hrel;clear H7 BG hM70 HH AN;by_cases gp:j<m
   ·have BO:j<ids.length:=oHx fi.out;obtain⟨rb,ro,hrA,na,r0⟩:=Rp (dr.out _ uo.out.below) j BO;obtain⟨id,hid⟩:=ey (ids[j]);have LT:id<cnt:=PN.out id (hid▸Ay BO);have br:=HSTP.out j id (by rw[Aw BO,hid]);rw[hid]at r0;have q1:(j:Int)<(m:Int):=Gu;have q2:(id:Int)<(cnt:Int):=Gu;have BD:=uo.out.b 3;have f5:wr.cell? ⟨B,5,Ae⟩=Af (Ad (Af ⟨Hb,0,Ae⟩) cnt cnt):=(By wr B 5 _ _ (0,0) BD).trans rfl;have hHB:=uo.out.b 2;have RM:=dZ cnt (hTo l k j);obtain⟨hv,hhv⟩:∃z,(Yv cnt (hTo l k j))[id]? =Af z:=⟨_,Aw Gu⟩
    have c0:wr.cell? ⟨Hb,id,Ae⟩=Af (Aa Ab (hv:Int)):=by
     rw[By wr Hb id _ _ (0,0) hHB,Fu];unfold If;rw[List.getElem?_map,hhv];rfl
    have z0:wr.frozen? ⟨Hb,id,Ae⟩=false:=by simp[Dz,hHB]
    have H8:=uo.out.set 2 id rfl (Aa Ab (j:Int));rw[xZ,<-Ac4 cnt (hTo l k j) (id,j),<-br]at H8
    have hMH:M≠Hb:=λe=>by
     obtain⟨es,clock,hm,-⟩:=XS.out;rw[e,hHB]at hm
     cases hm
    have H8:=Ah H8;have ES:=Ah (XS.out.same (w':=wr.setCell ⟨Hb,id,Ae⟩ (Aa Ab (j:Int))) (Dp wr ⟨Hb,id,Ae⟩ _ M (by show M≠Hb;exact hMH)));subst hrA;clear BD hHB hhv br RM hid LT;go_wp2;exact⟨⟨j+1,Gu,by go_num,H8,ES⟩,by simp[intOf];omega⟩
   ·obtain rfl:j=m:=Gu;have q1:¬(j:Int)<(j:Int):=Gu;have H8:Hid (Bx w (osL a b pA pn pc rt rx ry N P Hb B G1 G2 M cnt ms is (Yv cnt (hTo l (k+1) 0))) wr):=Ah (by rw[<-oh.out];exact uo.out);go_wp2;exact⟨⟨k+1,Gu,by go_num,H8,XS⟩,by simp[intOf];omega⟩
  ·obtain rfl:k=n:=Gu;have q0:¬(k:Int)<(k:Int):=Gu;obtain⟨K,hK⟩:∃z:Lk,eV a b cr ⟨rt,rx,ry⟩ l=z:=⟨_,rfl⟩;rw[hK];have RM:=dZ cnt (Qh l)
   have hKe:K=⟨a,b,cr,ms,is,Yv cnt (Qh l)⟩:=by
    rw[<-hK];unfold eV;rw[M6.out,IT.out]
   have U0:hTo l k 0=Qh l:=by
    have:=Bh0 l;rw[<-HN.out]at this;exact this
   rw[U0]at HH;obtain⟨cj,FG⟩:=Av8 HH.out AN.out O5.out AK.out wq.out RM NT.out;have jm:=Ca5 (b:=b) IT.out AK.out wq.out RM CH.out Z9.out HP.out;rw[<-hKe]at cj FG jm;obtain⟨V,hV⟩:=ey (osV pA pn pc Hb G1 G2 cnt);rw[hV]at cj FG;have Y7:=Ah cj;have jp:=Ah FG;have yu:=Ah jm;have de:=HH.out.below;have un:=Ah de;have HHA:=Ah (show V.hA=Af ⟨Hb,0,Ae⟩/\V.hc=cnt by rw[<-hV];exact⟨rfl,rfl⟩);have vo:=Ah hK;clear hK hKe U0 RM cj FG jm hV de HH AN M6 AK wq CH Z9 HP NT UC HCS HN uq O5 IT HE;obtain⟨-,-,-,-,-,f5⟩:=Pn Y7.out;rw[HHA.out.1,HHA.out.2]at f5;obtain⟨WZ,rfl⟩:=ez wr;go_wp2_with fail;clear f5
   go_loopw [80] (λs80 wr=>∃i:Nat,i<=cnt/\s80= Aa Ab i/\Hid (∃lB:List SmB,lB.map (·.s)=K.seamsTo (3*i)/\Ii w.heap.size B [G1,G2,Hb] (V.fix K cnt) wr lB/\Frm w.heap.size [G1,G2,Hb] WZ wr)) (λs80 _=>cnt-(intOf s80).toNat)
   case atStart=>exact⟨0,Gu,rfl,Ah ⟨[],rfl,Y7.out,Frm.refl _ _ _⟩⟩
   obtain⟨i,hi,rfl,HS⟩:=hrel;by_cases gp:i<cnt
   ·have q1:(i:Int)<(cnt:Int):=Gu;go_wp2_with fail;obtain⟨WX,rfl⟩:=ez wr
    go_loopw [83] (λs83 wr=>∃e:Nat,e<=3/\s83= Aa Ac e/\Hid (∃lB:List SmB,lB.map (·.s)=K.seamsTo (3*i+e)/\Ii w.heap.size B [G1,G2,Hb] (V.fix K cnt) wr lB/\Frm w.heap.size [G1,G2,Hb] WZ wr)) (λs83 _=>3-(intOf s83).toNat)
    case atStart=>exact⟨0,Gu,rfl,HS⟩
    obtain⟨e,he,rfl,pa⟩:=hrel;clear HS;by_cases LZ:e<3
    ·have q2:(e:Int)<3:=Gu;obtain⟨lB,ft,it,KP⟩:=pa.out;have IK:=Uk yu.out (3*i+e) Gu;rw[<-ft]at IK;have hlen:lB.length<=3*i+e:=by simpa using IK.2
     have O4:=Ah (Au6 w.heap.size B cnt i e [G1,G2,Hb] K V lB wr yu.out gp Gu (jp.out.frm KP) it Gu (λx hx=>by
      have:=IK.1 x.s (Dq.2 ⟨x,hx,rfl⟩);exact⟨by have:=this.lp;omega,by have:=this.ll;omega,by have:=this.le;omega⟩))
     rw[ft]at O4
     have AA:K.meet i e (K.seamsTo (3*i+e))=K.seamsTo (3*i+(e+1)):=by
      show _=K.meet ((3*i+e)/3) ((3*i+e)%3) (K.seamsTo (3*i+e));rw[show(3*i+e)/3=i by omega,show(3*i+e)%3=e by omega]
     rw[AA]at O4;have HF1:=Ah KP;clear ft it KP IK hlen AA pa;go_wp2_with fail;refine O4.out.mono ?_;rintro ee w9 ⟨rfl,l2,je,dl,BF⟩;have B_:Hid (∃lB:List SmB,lB.map (·.s)=K.seamsTo (3*i+(e+1))/\Ii w.heap.size B [G1,G2,Hb] (V.fix K cnt) w9 lB/\Frm w.heap.size [G1,G2,Hb] WZ w9):=Ah ⟨l2,je,dl,HF1.out.trans BF⟩;clear je dl BF HF1 O4;go_wp2;exact⟨⟨e+1,Gu,by go_num,B_⟩,by simp[intOf];omega⟩
    ·obtain rfl:e=3:=Gu;have B_:Hid (∃lB:List SmB,lB.map (·.s)=K.seamsTo (3*(i+1))/\Ii w.heap.size B [G1,G2,Hb] (V.fix K cnt) wr lB/\Frm w.heap.size [G1,G2,Hb] WZ wr):=Ah pa.out;go_wp2;exact⟨⟨i+1,Gu,by go_num,B_⟩,by simp[intOf];omega⟩
   ·obtain rfl:i=cnt:=Gu;have q1:¬(i:Int)<(i:Int):=Gu;obtain⟨l0,uk,EP,ZC⟩:=HS.out;have IK:=Uk yu.out (3*i) (Am _);rw[<-uk]at IK;have el:∀x∈l0,aD i (3*i) x.s:=λx hx=>IK.1 x.s (Dq.2 ⟨x,hx,rfl⟩);have hlen:l0.length<=3*i:=by simpa using IK.2
    have hse:K.seams=l0.map (·.s):=by
     unfold Lk.seams;rw[<-yu.out.n];exact uk.symm
    have AZ:=Ah hse;obtain⟨A7,c7,k7,FR⟩:=An9 EP (λx hx=>⟨(el x hx).qa,(el x hx).qb⟩) Gu;have HSO:=Ah FR;have KD:=Ah el;have AJ:=Ah hlen;have HF0:=Ah ZC;obtain⟨m,hm⟩:=ey l0.length;rw[hm]at k7 HSO;have NT:=Ah hm;have hm5:m<=100000:=Gu;clear IK uk EP ZC FR el hlen hse HS hm;go_wp2_with fail;refine HSO.out.mono ?_;rintro ee w8 ⟨rfl,Q0,hF8⟩;clear k7 HSO;have vm:=Ah Q0;have wm:=Ah (HF0.out.trans hF8);obtain⟨M8,kv,a1,a2,a3,⟨ks,lu,a4⟩,a5,a6,a7,a8,a9,qd⟩:=Q0;have bc:ks.length=m:=by rw[lu.length_eq,Bo];exact NT.out
    rw[bc]at a4;obtain⟨A8,c8,hv,-,-⟩:=Hw a4;subst hv;obtain⟨k6,k7,-,-,-⟩:=Mn a1 a2;have uf:=Au5 m hm5 w8;obtain⟨GO,pj⟩:=ey w8.heap.size;have cg:=(Ag w8.heap.size w8).alloc (Am _) (.cells ((Ba m Vr).flatMap smC).toArray 263);have UR:=Ah (vm.out.more (P:=GO) cg Gu Hu);have U6:=Hx a4 (Am _) cg;have ES:=a3.below cg a3.lt;have D8:∀g∈l0.flatMap SmB.blks,g<w8.heap.size:=λg hg=>(a5.lt g hg).2
    have xv:∀g,Value.ownBlock (Ad A8 m c8)=Af g->g<w8.heap.size/\g∉l0.flatMap SmB.blks:=λg hg=>⟨(a4.lt g hg).2,λhx=>by
     unfold Hs at a7;simp only[Eh,Bp,Option.mem_toList]at a7;exact a7.2.2.2.2 g hg g hx rfl⟩
    have UX:M8<w8.heap.size/\M8∉l0.flatMap SmB.blks:=⟨a3.lt,λhx=>by
     unfold Hs at a7;simp only[Eh,Bl,not_or]at a7;exact a7.2.1.2 hx⟩
    have Q6:B<w8.heap.size/\B∉l0.flatMap SmB.blks:=⟨(Au.1 a2).1,λhx=>by
     unfold Hs at a7;simp only[Eh,Bl,Bk,not_or]at a7;exact a7.1.2.2 hx⟩
    have k6L:=Gv cg k6;have k7L:=Gv cg k7;have ya:=Bz w8 (.cells ((Ba m Vr).flatMap smC).toArray 263);have j4:Below w.heap.size WZ (w8.alloc (.cells ((Ba m Vr).flatMap smC).toArray 263)):=wm.out.1.trans (cg.mono (by have:=un.out.size;have:=wm.out.1.size;omega));have ZJ:=jp.out.frm (wm.out.trans (⟨cg.mono (by have:=un.out.size;have:=wm.out.1.size;omega),λg hg=>cg.block g (qd g hg).1⟩:Frm w.heap.size [G1,G2,Hb] w8 _));have hOG:w.heap.size<=GO:=by have:=un.out.size;have:=wm.out.1.size;omega
    rw[pj]at uf ya;rw[pj]at D8 xv UX Q6;go_upto_region 27 with fail
    try rw[pj]
    generalize w8.alloc _=WL at UR U6 ES k6L k7L ya j4 ZJ⊢;have bj:=UR.out.keys;have br:=Av9 (n:=m) (ks:=ks) UR.out ya;have L':GO<WL.heap.size:=(Au.1 ya).1
    have ZE:∀g∈[G1,G2,Hb],g<WL.heap.size/\g∉l0.flatMap SmB.blks/\g≠GO:=λg hg=>by
     have h1:=(qd g hg).1;refine⟨Gu,λhx=>(qd g hg).2 ?_,Gu⟩;unfold Hs;simp only[Bk,Bl];exact .inr (.inr (.inr hx))
    have HKS:=Ah lu;have HKL:=Ah bc;have IX:=Ah bj;have TP:=Ah L';have HOG:=Ah hOG;have HF3:=Ah ZE
    have h_:Hid (∀g∈l0.flatMap SmB.blks,g<WL.heap.size/\g≠GO):=Ah λg hg=>by
     have:=D8 g hg;exact⟨Gu,Gu⟩
    have e_:Hid (∀g,Value.ownBlock (Ad A8 m c8)=Af g->g<WL.heap.size/\g∉l0.flatMap SmB.blks/\g≠GO):=Ah λg hg=>by
     obtain⟨h1,h2⟩:=xv g hg;exact⟨Gu,h2,Gu⟩
    have HMB:Hid (M8<WL.heap.size/\M8∉l0.flatMap SmB.blks/\M8≠GO):=Ah ⟨Gu,UX.2,Gu⟩;have qp:Hid (B<WL.heap.size/\B∉l0.flatMap SmB.blks/\B≠GO):=Ah ⟨Gu,Q6.2,Gu⟩;have HKR:=Ah U6;have HM8:=Ah ES;have HK6:=Ah k6L;have M6:=Ah j4;have f_:=Ah ZJ;have WA:Hid (∃zz zs,gV w.heap.size B GO m [G1,G2,Hb] (V.fix K i) l0 ks WL WL 0 zz zs):=Ah ⟨_,_,br⟩;clear br a1 a2 a3 a4 a5 a6 a7 a8 a9 qd lu bc k6 k7 uf pj cg UR U6 ES D8 xv UX Q6 k6L ya j4 ZJ hOG bj L' ZE vm wm HF0 jp Y7;go_wp2_with fail;clear k7L
    go_loopw [108] (λL5 wr=>∃j:Nat,j<=m/\L5= Aa Ab j/\Hid (∃zz zs,gV w.heap.size B GO m [G1,G2,Hb] (V.fix K i) l0 ks WL wr j zz zs)) (λL5 _=>m-(intOf L5).toNat)
    case atStart=>exact⟨0,Gu,rfl,WA⟩
    obtain⟨j,hj,rfl,HV⟩:=hrel;clear WA;by_cases gp:j<m
    ·have q1:(j:Int)<(m:Int):=Gu;obtain⟨zz,zs,hv⟩:=HV.out;obtain⟨k9,x0,x,b1,b2,vd,GV,NE,MZ,hzz,VU⟩:=Bl7 hv gp HKS.out HKL.out IX.out TP.out HOG.out h_.out;have oh:=Ah VU;have C8:j<ks.length:=by rw[HKL.out];exact gp
     have D0:=Il HKR.out (w':=wr) λg hg=>hv.same g (e_.out g hg).1 (e_.out g hg).2.1 (e_.out g hg).2.2;obtain⟨kb,ko,hA8,hkbl,r0,r1,r2,r3,r4,r5⟩:=Cb5 (Rd.of_own D0) j C8;have jn:ks[j]=k9:=by rw[Aw C8]at vd;simpa using vd
     rw[jn]at r0 r1 r2 r3 r4 r5;have dy:=λW' (h:Km pkK W' M8 (Ou l0))=>Wf dF Tryz.underlying323 (et:=332) (z:= .pointer Ae) (λw=>Gw) h k9 false;rw[GV]at dy;simp only[Ej,if_false,Option.getD_some]at dy;obtain⟨⟨⟨u0,u1,u2⟩,v0,v1,v2⟩,hke⟩:∃z,k9=z:=⟨_,rfl⟩;rw[hke]at r0 r1 r2 r3 r4 r5 dy;unfold pkK SmB.ptr at dy;dsimp only at r0 r1 r2 r3 r4 r5 dy;have O0:=Ah dy
     have hB6:wr.cell? ⟨B,6,Ae⟩=Af (.map (Af M8)):=by
      have h6:=HK6.out;unfold World.cell? at h6⊢;rw[hv.same B qp.out.1 qp.out.2.1 qp.out.2.2];exact h6
     have jz:=HM8.out.same (w':=wr) (hv.same M8 HMB.out.1 HMB.out.2.1 HMB.out.2.2);obtain⟨C,hC⟩:=ey wr.heap.size;have cg:=(Ag wr.heap.size wr).alloc (Am _) (.cells #[u0,u1,Aa Ac u2,v0,v1,Aa Ac v2] 329);have DF:=Bz wr (.cells #[u0,u1,Aa Ac u2,v0,v1,Aa Ac v2] 329);rw[hC]at DF;have YZ:=Gv cg hB6;have ZM:=jz.below cg jz.lt;have hszW:=hv.size;have HVV:=Ah hv;have UL:=Ah hzz;have tz:=Ah MZ;have HX0:=Ah NE;clear hv hzz MZ NE VU D0 GV vd jn hke C8 dy hB6 jz hkbl HV;subst hA8;go_upto_region 30 with fail
     try rw[hC]
     generalize wr.alloc _=W1 at cg DF YZ ZM⊢;clear r0 r1 r2 r3 r4 r5;obtain⟨⟨y0,y1,y2,y3,y4,y5⟩,-⟩:=cU DF;obtain⟨S,an,HSO⟩:=Og λW'=>W'.cell? ⟨C,0,Ae⟩=Af (Aa Ab u0)/\W'.cell? ⟨C,1,Ae⟩=Af (Aa Ab u1)/\W'.cell? ⟨C,2,Ae⟩=Af (Aa Ac u2)/\W'.cell? ⟨C,3,Ae⟩=Af (Aa Ab v0)/\W'.cell? ⟨C,4,Ae⟩=Af (Aa Ab v1)/\W'.cell? ⟨C,5,Ae⟩=Af (Aa Ac v2)
     have ae:Hid (∀W',W'.heap[C]? =W1.heap[C]? ->S W'):=Ah λW' h=>by
      have hc:∀f u,W1.cell? ⟨C,f,Ae⟩=Af u->W'.cell? ⟨C,f,Ae⟩=Af u:=λf u hu=>by
       unfold World.cell? at hu⊢;rw[h];exact hu
      subst an;exact⟨hc _ _ y0,hc _ _ y1,hc _ _ y2,hc _ _ y3,hc _ _ y4,hc _ _ y5⟩
     have hCl:C<W1.heap.size:=(Au.1 DF).1;clear y0 y1 y2 y3 y4 y5 an DF;have dm:Below wr.heap.size wr W1.drew:=cg.drew;have hv:=HVV.out
     have hFx:Frm w.heap.size [G1,G2,Hb] WL W1.drew:=⟨hv.frm.trans (dm.mono (by have:=HOG.out;have:=TP.out;omega)),λg hg=>by
      obtain⟨g1,g2,g3⟩:=HF3.out g hg;exact(dm.block g Gu).trans (hv.same g g1 g2 g3)⟩
     have BE:=hv.bld.below dm;rw[UL.out]at BE;have IG:=KD.out x0 HX0.out
     have pd:=Ah (wH w.heap.size B i (GO::[G1,G2,Hb]) K V b1 b2 x W1.drew yu.out ((f_.out.frm hFx).more) BE EY
      (λp hp=>(IG.ps p (tz.out.ps.mem_iff.2 hp)).1) (λp hp=>(IG.ls p (tz.out.ls.mem_iff.2 hp)).2.1)
      ⟨by have:=tz.out.ps.length_eq;have:=IG.lp;omega,by have:=tz.out.ls.length_eq;have:=IG.ll;omega,by have:=tz.out.es.length_eq;have:=IG.le;omega⟩)
     have hxlt:∀g∈x.blks,g<WL.heap.size/\g≠GO:=λg hg=>by
      have hgm:g∈(zz.map (·.2)).flatMap SmB.blks:=by rw[UL.out];simp[hg]
      obtain⟨q,hq,hgq⟩:=Eb.1 hgm;obtain⟨r,hr,rfl⟩:=Dq.1 hq;have JQ:=(hv.rel r hr).blks;rw[JQ]at hgq;exact h_.out g (Eb.2 ⟨r.1,by rw[<-hv.fst];exact Dq.2 ⟨r,hr,rfl⟩,hgq⟩)
     have L_:=Ah hxlt;have M':wr.heap[GO]? =_:=hv.out;have kc:=hv.len;have EO:=Ah kc;have XN:=Ah M';have hk6:W1.drew.cell? ⟨B,6,Ae⟩=Af (.map (Af M8)):=YZ;have O5:=Ah ZM;unfold SmB.ptr at pd;clear hv hFx BE IG hxlt M' kc YZ ZM cg;have dx:=Ah dm;clear dm;refine Ao (S:=S) Gw (ae.out _ rfl) (λhS=>?_);have dy:=O0.out W1.drew (O5.out.same rfl);have hCD:C<W1.drew.heap.size:=hCl;have hCH:Hid (W1.drew.heap[C]? =W1.heap[C]?):=Ah rfl;generalize W1.drew=X0 at hS dy hk6 pd dx hCD hCH⊢;refine Hh 0 1 2 3 ?_;refine Oe 4 5 7 ?_;refine rdy 6 (λK hK=>?_);go_simp;refine hK.o hS (λhS=>?_);clear hK K hk6;refine rdy 8 (λK hK=>?_);go_simp;refine hK.o hS (λhS=>?_);clear hK K dy;refine rdy 9 (λK hK=>?_);go_simp;refine pd.out.mono ?_;rintro ee X1 ⟨y,A1,A2,A3,rfl,WO,hyp,IM,dl,BF,zy,AD,qm⟩;have hCne:C≠GO:=oHx TP.out;have hCx:C∉x.blks:=λhg=>by have:=(L_.out C hg).1;omega
     have Q8:X1.heap[C]? =W1.heap[C]? :=(qm C hCD hCx).trans hCH.out;have hGOx:GO∉x.blks:=λhg=>(L_.out GO hg).2 rfl;have hszX:=dx.out.size;have J':X1.heap[GO]? =wr.heap[GO]? :=(qm GO (oHx TP.out) hGOx).trans (dx.out.block GO (oHx TP.out));obtain⟨PE,PF,-⟩:=pS (y.s,A1,A2,A3) (J'.trans XN.out) EO.out gp;have ws:=oh.out X0 X1 y A1 A2 A3 dx.out WO hyp IM AD dl BF zy qm;have z':(X1.setCells GO (j*9) (smC (y.s,A1,A2,A3))).heap[C]? =W1.heap[C]? :=(World.heap_setCells_other X1 GO (j*9) _ (oHx BF.1.size) hCne).trans Q8;have pa:=Ah (ae.out _ z');refine hK.o (ae.out _ Q8) (λhS=>?_);clear hK K;clear WO hyp IM dl BF zy AD qm Q8 z' J' pd;obtain⟨w0c,e0⟩:=PE 0 Gu;obtain⟨w1c,e1⟩:=PE 1 Gu;obtain⟨w2c,e2⟩:=PE 2 Gu;obtain⟨w3c,e3⟩:=PE 3 Gu;obtain⟨w4c,e4⟩:=PE 4 Gu;obtain⟨w5c,e5⟩:=PE 5 Gu;obtain⟨w6c,e6⟩:=PE 6 Gu;obtain⟨w7c,e7⟩:=PE 7 Gu;obtain⟨w8c,e8⟩:=PE 8 Gu;have z0:=PF (j*9);have z1:=PF (j*9+1);have z2:=PF (j*9+2);have z3:=PF (j*9+3);have z4:=PF (j*9+4);have z5:=PF (j*9+5);have z6:=PF (j*9+6);have z7:=PF (j*9+7);have z8:=PF (j*9+8);simp only[Nat.add_zero]at e0;unfold smC at pa ws;unfold Sm.val Sm.cells;unfold Sm.cells at pa ws;obtain⟨⟨⟨s0,s1,s2⟩,⟨t0,t1,t2⟩,ps,ls,es⟩,WO⟩:∃z,y.s=z:=⟨_,rfl⟩;rw[WO]at pa ws⊢;obtain⟨np,ob⟩:=ey ps.length;obtain⟨nl,jv⟩:=ey ls.length;obtain⟨ne,hne⟩:=ey es.length;dsimp only at pa ws⊢;rw[ob,jv,hne]at pa ws⊢;have ws:=Ah ws;clear PE PF WO ob jv hne;refine Kg 10 ?_;refine rdy 11 (λK hK=>?_);go_simp;have hS3:=pa.out;have PW:=ws.out;simp only[World.setCells,Nat.add_assoc,Nat.reduceAdd]at hS3 PW;refine hK.o hS3 (λhS=>?_);have PW:=Ah PW;clear hK K hS3 hS e0 e1 e2 e3 e4 e5 e6 e7 e8 z0 z1 z2 z3 z4 z5 z6 z7 z8 ws pa;refine An Gw ?_ _;go_wp2_with fail;obtain⟨zz',hzn⟩:=PW.out;exact⟨⟨j+1,Gu,by go_num,Ah ⟨zz',_,hzn⟩⟩,by simp[intOf];omega⟩
    ·obtain rfl:j=m:=Gu;have q1:¬(j:Int)<(j:Int):=Gu;obtain⟨zz,zs,hv⟩:=HV.out;obtain⟨h1,h2⟩:=Bv8 (O':=w.heap.size) hv HKS.out HKL.out IX.out HOG.out (by have:=HOG.out;have:=TP.out;omega);rw[<-AZ.out]at h1;have kc:=hv.len
     have aw:Hid (Am4 0 K.seams w (.returned (.tuple #[Ad (Af ⟨GO,0,Ae⟩) j j,Aa Ab 0])) wr):=Ah
      ⟨un.out.trans (M6.out.trans hv.frm),.inr ⟨rfl,Af ⟨GO,0,Ae⟩,zs.map (·.1),by rw[Bo,kc],h1,h2⟩⟩
     clear hv h1 h2 kc HV;go_wp2_with fail;refine Ai (v:= .tuple #[Ad (Af ⟨GO,0,Ae⟩) j j,Aa Ab 0]) (by simp[results,Tryz.results153,go_sem]) rfl ?_;rw[vo.out];exact aw.out
 ·have q1:(E != 0)=true:=by simpa using hE0
  go_wp2_with fail;refine Ai (v:= .tuple #[Ad Ae 0 0,E]) (by simp[results,Tryz.results153,go_sem]) rfl ?_;exact⟨H1.below,.inl ⟨hE0,rfl⟩⟩
theorem tO (F:FuncId) (qj:∀(args:Array Ak) (w:Aj),(callFunc F args).run Do w= .ok (.enter F args) w) (dd:Array Ak) (p:Nat×Nat×Nat->Bool) (A:Option Ci) (l:List (Nat×Nat×Nat)) (n c:Nat) (w:Aj) (hn:n=l.length) (h:Rd w A 3 n (Nn l)) (hl:n<=1000000)
  (hf:∀(i:Nat×Nat×Nat) (w':Aj),i∈l->Below w.heap.size w w'->Al Do F (#[.agg #[Aa Ac (i.1:Int),Aa Ab (i.2.1:Int),Aa Ab (i.2.2:Int)]]++dd) w' (Gy (.bool (p i)) w')):
  Al Do 258 #[Ad A n c,.func (.func F) #[] dd] w λe w'=>(∃r:Int,e= .returned (Aa Ab r)/\((l.any p)=decide (0<=r)))/\Below w.heap.size w w':=by
 have dr:=Ah h;have HN:=Ah hn;have CE:=Ah hf;clear h hn hf;go_enter Tryz.func258,Tryz.ntmps258;go_wp2
 go_loopw [5,8] (λ_ i wr=>∃k:Nat,k<=n/\i= Aa Ab k/\Below w.heap.size w wr/\Hid (∀j (hj:j<l.length),j<k->p l[j]=false)) (λ_ i _=>n-(intOf i).toNat)
 case atStart=>exact⟨0,Gu,rfl,Ag _ _,Ah λj _ hj=>absurd hj Gu⟩
 obtain⟨k,hk,rfl,hb,HK⟩:=hrel;by_cases ad:k<n
 ·have bc:k<l.length:=oHx HN.out;obtain⟨bb,o,rfl,cj,c0,c1,c2⟩:=lQ (dr.out.below hb) k bc;have q1:(k:Int)<(n:Int):=Gu;have bp:=Ay bc;obtain⟨⟨r,r1,r2⟩,hr⟩:=ey (l[k]);have jq:=Ah hr;rw[hr]at c0 c1 c2 bp;dsimp only at c0 c1 c2;have hC:=CE.out (r,r1,r2) wr bp hb;obtain⟨ar,zc⟩:=ey (#[Value.agg #[Aa Ac (r:Int),(r1:Int),(r2:Int)]]++dd);rw[zc]at hC;have HC:=Ah hC;clear hr bp hC;go_wp2_with fail;refine HC.out.mono ?_;rintro e w2 ⟨rfl,aj⟩;have bm:=hb.trans (aj.mono hb.size)
  cases he:p (r,r1,r2)
  ·have jf:=Ah (λj (hj:j<l.length) (h:j<k+1)=>show p l[j]=false by
    by_cases kj:j=k
    ·subst kj;rw[jq.out];exact he
    ·exact HK.out j hj Gu)
   go_wp2;exact⟨⟨k+1,Gu,by go_num,bm,jf⟩,by simp[intOf];omega⟩
  ·have HA:Hid ((l.any p)=true):=Ah (by rw[Ev];exact⟨l[k],Ay _,by rw[jq.out];exact he⟩);go_wp2;go_ret;exact⟨⟨k,rfl,by rw[HA.out];simp⟩,bm⟩
 ·have q1:¬(k:Int)<(n:Int):=Gu
  have HA:Hid ((l.any p)=false):=Ah (by
   rw[Dt];intro x hx;obtain⟨j,hj,rfl⟩:=Be.1 hx;simpa using HK.out j hj (oHx HN.out))
  go_wp2;go_ret;exact⟨⟨-1,rfl,by rw[HA.out];rfl⟩,hb⟩
theorem sF (F:FuncId) (qj:∀(args:Array Ak) (w:Aj),(callFunc F args).run Do w= .ok (.enter F args) w) (dd:Array Ak) (p:Nat×Nat×Nat->Bool) (A:Option Ci) (l:List (Nat×Nat×Nat)) (n c:Nat) (w:Aj) (hn:n=l.length) (h:Rd w A 3 n (Nn l)) (hl:n<=1000000)
  (hf:∀(i:Nat×Nat×Nat) (w':Aj),i∈l->Below w.heap.size w w'->Al Do F (#[.agg #[Aa Ac (i.1:Int),Aa Ab (i.2.1:Int),Aa Ab (i.2.2:Int)]]++dd) w' (Gy (.bool (p i)) w')):
  Al Do 209 #[Ad A n c,.func (.func F) #[] dd] w (Gy (.bool (l.any p)) w):=by
 have HC:=Ah (tO F qj dd p A l n c w hn h hl hf);generalize l.any p=R at HC⊢;clear hn h hl hf qj;go_enter Tryz.func209,Tryz.ntmps209;go_wp2_with fail;refine HC.out.mono ?_;rintro e w2 ⟨⟨r,rfl,hr⟩,hb⟩;go_wp2;go_ret;exact⟨by rw[hr];rfl,hb⟩
theorem qN (p:Nat×Nat×Nat) (w:Aj):Al Do 210 #[.agg #[Aa Ac (p.1:Int),Aa Ab (p.2.1:Int),Aa Ab (p.2.2:Int)]] w (Gy (.bool (decide (1<p.1))) w):=by
 obtain⟨p0,p1,p2⟩:=p;have H:=(Bx.start w).new #[Aa Ac (p0:Int),(p1:Int),(p2:Int)] 266 rfl;dsimp only;go_enter Tryz.func210,Tryz.ntmps210;go_upto_region 1 with fail;generalize w.alloc _=W at H⊢;obtain⟨⟨a0,a1,a2⟩,-⟩:=He (H.b 0);by_cases h:1<p0
 ·have h1:(1:Int)<(p0:Int):=Gu;rw[Lb h];go_wp2;go_ret;exact⟨by simp<;>omega,H.below⟩
 ·have h1:¬(1:Int)<(p0:Int):=Gu;rw[Ly h];go_wp2;go_ret;exact⟨by simp<;>omega,H.below⟩
theorem cV {w:Aj} {g:Nat} {a0 a1 a2 a3 a4 a5 a6 a7 a8:Ak} {t:TypeId} (h:w.heap[g]? =Af (Cn #[a0,a1,a2,a3,a4,a5,a6,a7,a8] t (0,0))):
  w.cell? ⟨g,0,Ae⟩=Af a0/\w.cell? ⟨g,1,Ae⟩=Af a1/\w.cell? ⟨g,2,Ae⟩=Af a2/\w.cell? ⟨g,3,Ae⟩=Af a3/\w.cell? ⟨g,4,Ae⟩=Af a4/\w.cell? ⟨g,5,Ae⟩=Af a5/\w.cell? ⟨g,6,Ae⟩=Af a6/\w.cell? ⟨g,7,Ae⟩=Af a7/\w.cell? ⟨g,8,Ae⟩=Af a8:=by
 simp[World.cell?,h]
theorem tL (x y:Int×Int):Oy x y=Oy y x:=by
 unfold Oy;rw[Bool.or_comm]
theorem tK (x:Int×Int):Oy x x=false:=by
 unfold Oy;simp
def jM (t:List Int) (l:List (Int×Int)) (i:Nat):Prop:=∀k (hk:k<l.length),k<i->(∀h∈t,¬(l[k].1<h/\h<l[k].2))/\∀j (hj:j<l.length),j<k->Oy l[k] l[j]=false
theorem sG {t:List Int} {l:List (Int×Int)} (h:jM t l l.length):Mz t l=false:=by
 unfold Mz;rw[Dt];intro x hx;obtain⟨k,hk,rfl⟩:=Be.1 hx;rw[Eo,Cy];refine⟨?_,?_⟩
 ·rw[Dt];intro y hy hc;rw[El,decide_eq_true_iff,decide_eq_true_iff]at hc;exact(h k hk hk).1 y hy hc
 ·rw[Dt];intro y hy;obtain⟨j,hj,rfl⟩:=Be.1 hy;rw[Eo];rcases Nat.lt_trichotomy j k with kj|rfl|kj
  ·exact(h k hk hk).2 j hj kj
  ·exact tK _
  ·rw[tL];exact(h j hj hj).2 k hk kj
theorem sR {t:List Int} {l:List (Int×Int)} {k i:Nat} (hk:k<l.length) (hi:i<t.length) (h:l[k].1<t[i]/\t[i]<l[k].2):Mz t l=true:=by
 unfold Mz;rw[Ev];refine⟨_,Ay hk,?_⟩;rw[Bool.or_eq_true]
 left
 rw[Ev];exact⟨_,Ay hi,by rw[El,decide_eq_true_iff,decide_eq_true_iff];exact h⟩
theorem sQ {t:List Int} {l:List (Int×Int)} {k j:Nat} (hk:k<l.length) (hj:j<l.length) (h:Oy l[k] l[j]=true):Mz t l=true:=by
 unfold Mz;rw[Ev];refine⟨_,Ay hk,?_⟩;rw[Bool.or_eq_true]
 right
 rw[Ev];exact⟨_,Ay hj,h⟩
def Xn (t u:List Int) (i j:Nat):Prop:=∀a b (ha:a<t.length) (hb:b<t.length) (ha':a<u.length) (hb':b<u.length),b<a->(a<i∨(a=i/\b<j))->¬((t[a]<t[b]/\u[b]<u[a])∨(t[b]<t[a]/\u[a]<u[b]))
theorem Ah2 {t u:List Int} (hl:t.length=u.length) (h:Xn t u t.length 0):Qe t u=false:=by
 unfold Qe;rw[Dt];intro p hp;rw[Eo,Dt];intro q hq hc;rw[El,decide_eq_true_iff,decide_eq_true_iff]at hc;obtain⟨a,ha,rfl⟩:=Be.1 hp;obtain⟨b,hb,rfl⟩:=Be.1 hq;simp only[List.length_zip]at ha hb;simp only[List.getElem_zip]at hc;rcases Nat.lt_trichotomy b a with EW|rfl|EW
 ·exact h a b Gu Gu Gu Gu EW (.inl Gu) (.inl ⟨hc.1,hc.2⟩)
 ·omega
 ·exact h b a Gu Gu Gu Gu EW (.inl Gu) (.inr ⟨hc.1,hc.2⟩)
theorem Ah3 {t u:List Int} {a b:Nat} (ha:a<t.length) (hb:b<t.length) (ha':a<u.length) (hb':b<u.length) (h:(t[a]<t[b]/\u[b]<u[a])∨(t[b]<t[a]/\u[a]<u[b])):Qe t u=true:=by
 unfold Qe;rw[Ev];rcases h with h|h
 ·refine⟨(t[a],u[a]),?_,?_⟩
  ·rw[Be];exact⟨a,Hu,Gx⟩
  ·rw[Ev];refine⟨(t[b],u[b]),?_,by simpa using h⟩;rw[Be];exact⟨b,Hu,Gx⟩
 ·refine⟨(t[b],u[b]),?_,?_⟩
  ·rw[Be];exact⟨b,Hu,Gx⟩
  ·rw[Ev];refine⟨(t[a],u[a]),?_,by simpa using h⟩;rw[Be];exact⟨a,Hu,Gx⟩
theorem Bf5 (a b c d:Int):(Ih a b*Ih c d<0↔((a<b/\d<c)∨(b<a/\c<d)))/\-1<=Ih a b*Ih c d/\Ih a b*Ih c d<=1:=by
 have e1:(Ih a b= -1/\a<b)∨(Ih a b=0/\a=b)∨(Ih a b=1/\b<a):=by
  unfold Ih;split
  ·exact .inl ⟨rfl,by assumption⟩
  ·split
   ·exact .inr (.inr ⟨rfl,by assumption⟩)
   ·exact .inr (.inl ⟨rfl,Gu⟩)
 have e2:(Ih c d= -1/\c<d)∨(Ih c d=0/\c=d)∨(Ih c d=1/\d<c):=by
  unfold Ih;split
  ·exact .inl ⟨rfl,by assumption⟩
  ·split
   ·exact .inr (.inr ⟨rfl,by assumption⟩)
   ·exact .inr (.inl ⟨rfl,Gu⟩)
 rcases e1 with⟨e1,h1⟩|⟨e1,h1⟩|⟨e1,h1⟩<;>rcases e2 with⟨e2,h2⟩|⟨e2,h2⟩|⟨e2,h2⟩<;>rw[e1,e2]<;>omega
def Bd3 (i:Nat) (c2 R:Bool) (t0 t1:List Int) (W:Aj) (s6 s136:Ak) (wr:Aj):Prop:=∃(j:Nat) (cx:Bool),s136= Aa Ab j/\j<=i/\s6= .bool cx/\Hid (Below W.heap.size W wr)/\Hid ((cx=true->R=true)/\(cx=false->c2=false/\Xn t0 t1 i j))
def Am1 (b:Bool) (w:Aj) (e:Ending) (w':Aj):Prop:=∃r:Int,e= .returned (Aa Ab r)/\(decide (r≠0))=b/\Below w.heap.size w w'
def Pf (ls:List Stk) (s:Sm) (k:Nat):Bool:=(decide (1<=k)&&Mz (Ik (atF ls s.a) s 0) (Te (atF ls s.a) s 0))||(decide (2<=k)&&Mz (Ik (atF ls s.b) s 1) (Te (atF ls s.b) s 1))
def Vq (s:Sm) (k:Nat):Cl:=if k=0 then s.a else s.b
theorem mZ (ls:List Stk) (s:Sm) (k:Nat) (hk:k<2):Pf ls s (k+1)=(Pf ls s k||Mz (Ik (atF ls (Vq s k)) s k) (Te (atF ls (Vq s k)) s k)):=by
 have:k=0∨k=1:=Gu;rcases this with rfl|rfl
 ·simp[Pf,Vq]
 ·simp[Pf,Vq]
theorem Bd9 {l:List Stk} {B:Nat} (h:∀x∈l,x.ls.length<=B) (c:Cl):(atF l c).length<=B:=by
 unfold atF
 split
 ·rename_i x hx;exact h x (List.mem_of_find?_eq_some hx)
 ·simp
theorem nB {l:List Stk} {s:Sm} {k:Nat} (hk:k<2) (h:Oq (atF l (Vq s k)) s k=false):Ke l s=true:=by
 have:k=0∨k=1:=Gu;unfold Ke;rcases this with rfl|rfl
 ·have h:Oq (atF l s.a) s 0=false:=h;rw[h];simp
 ·have h:Oq (atF l s.b) s 1=false:=h;rw[h];simp
theorem nE {l:List Stk} {s:Sm} (h:(s.ls.any λx=>decide (1<x.1))=true):Ke l s=true:=by
 unfold Ke;rw[h];simp
theorem sP {l:List Stk} {s:Sm} (h0:Oq (atF l s.a) s 0=true) (h1:Oq (atF l s.b) s 1=true) (h:(s.ls.any λx=>decide (1<x.1))=false):
  Ke l s=(Pf l s 2||Qe (Ik (atF l s.a) s 0) (Ik (atF l s.b) s 1)):=by
 unfold Ke Pf;rw[h0,h1,h];simp
theorem nF (s:Sm) (pA lA eA:Option Ci) (np pc nl lc ne yy:Nat) (A:Option Ci) (l:List Stk) (n cc:Nat) (w:Aj)
  (hn:n=l.length) (h:Hz w A l) (hl:n<=100000) (ij:∀x∈l,x.ls.length<=100000) (ob:np=s.ps.length) (hp:Rd w pA 2 np (Qa s.ps)) (dw:np<=1000000) (jv:nl=s.ls.length) (gz:Rd w lA 3 nl (Nn s.ls)) (D6:nl<=1000000):
  Al Do 154 #[.agg (s.cells (Ad pA np pc) (Ad lA nl lc) (Ad eA ne yy)),Ad A n cc] w (Am1 (Ke l s) w):=by
 have EE:=Ah (λ(c:Cl) (w':Aj) (hb:Below w.heap.size w w')=>qU A l n cc c w' hn (h.below hb) hl ij);have QF:=Ah (λ(side:Nat) (hs:side<=1) (A':Option Ci) (ls:List Nat) (n c:Nat) (w':Aj) (hb:Below w.heap.size w w') (hn:n=ls.length) (hl:n<=1000000) (h:Rd w' A' 1 n (If ls))=>Aj7 s pA lA eA np pc nl lc ne yy side A' ls n c w' hs hn hl h ob (hp.below hb) dw jv (gz.below hb) D6);have IS:=Ah (λ(w':Aj) (hb:Below w.heap.size w w')=>sF 210 (λ_ _=>rfl) #[] (λp=>decide (1<p.1)) lA s.ls nl lc w' jv (gz.below hb) D6 (λi w2 _ _=>qN i w2));obtain⟨R,hR⟩:=ey (Ke l s);rw[hR];have HR:=Ah hR;have uq:=Ah ij;have NU:=Ah ob;unfold Sm.cells;have H:=(Bx.start w).new #[Aa Ab s.a.x,Aa Ab s.a.y,Aa Ac s.a.q,Aa Ab s.b.x,Aa Ab s.b.y,Aa Ac s.b.q,Ad pA np pc,Ad lA nl lc,Ad eA ne yy] 263 rfl;unfold Sm.cells at QF;clear hR hn h ij ob hp jv gz;obtain⟨⟨x1,y1,q1⟩,T2⟩:=ey s.a;obtain⟨⟨x2,y2,q2⟩,JM⟩:=ey s.b;have HCA:=Ah T2;have HCB:=Ah JM;rw[T2,JM]at H QF⊢;dsimp only at H QF⊢;clear T2 JM;go_enter Tryz.func154,Tryz.ntmps154;go_upto_region 1 with fail;obtain⟨N,hN⟩:=ez w.heap.size;rw[<-hN]at H⊢;have db:=Ah hN;clear hN;generalize w.alloc _=W at H⊢;obtain⟨V,hV⟩:=ey W.heap.size;have H2:=H.new #[Ad Ae 0 0,Ad Ae 0 0] 333 hV;go_upto_region 2 with fail
 try rw[hV]
 generalize W.alloc _=W2 at H2⊢;clear hV H;obtain⟨a0,a1,a2,a3,a4,a5,-⟩:=cV (H2.b 0);obtain⟨D,hD⟩:=ey W2.heap.size;have H3:=H2.new #[x1,y1,Aa Ac q1,x2,y2,Aa Ac q2] 90 hD;have hw3:D<(W2.alloc (.cells #[x1,y1,Aa Ac q1,x2,y2,Aa Ac q2] 90)).heap.size:=Hu;have hVD:V<D:=by rw[<-hD];exact H2.lt 1 rfl
 have hND:N<D:=by rw[<-hD];exact H2.lt 0 rfl
 go_upto_region 4 with fail
 try rw[hD]
 generalize W2.alloc _=W3 at H3 hw3⊢;have hwD:w.heap.size<=D:=oHx db.out;obtain⟨M,hM⟩:=ey (D+1)
 have jp:Hid (∀(X:Array Ak),∀x∈[(N,X,263),(V,X,333),(D,X,90)],x.1<M):=Ah (by
  intro X x hx;simp only[Bk,Du,or_false]at hx;rcases hx with rfl|rfl|rfl
  ·show N<M;omega
  ·show V<M;omega
  ·show D<M;omega)
 have sq:Hid (w.heap.size<=M):=Ah Gu;have QP:M<=W3.heap.size:=Gu;have HVM:Hid (V<M):=Ah Gu;obtain⟨t0,ht0⟩:=ey (Ik (atF l s.a) s 0);obtain⟨t1,ht1⟩:=ey (Ik (atF l s.b) s 1);have HT0:=Ah ht0;have UD:=Ah ht1;have NQ:=Ah H3;clear hD hM H2 hw3 hVD hND hwD a0 a1 a2 a3 a4 a5 ht0 ht1 H3
 go_loopw [6,27] (λs6 M0 wr=>∃(k:Nat) (v0 v1:Ak),M0= Aa Ab k/\k<=2/\s6= .bool (Pf l s k)/\M<=wr.heap.size/\Hid (Bx w [(N,#[x1,y1,Aa Ac q1,x2,y2,Aa Ac q2,Ad pA np pc,Ad lA nl lc,Ad eA ne yy],263),(V,#[v0,v1],333),(D,#[x1,y1,Aa Ac q1,x2,y2,Aa Ac q2],90)] wr)/\
  Hid ((1<=k->wr.ownsRow M 3 1 v0 t0.length (Lu t0))/\(2<=k->wr.ownsRow M 3 1 v1 t1.length (Lu t1)))/\Hid ((∀j,j<k->Oq (atF l (Vq s j)) s j=true)/\(1<=k->(s.ls.any λx=>decide (1<x.1))=false))) (λ_ M0 _=>2-(intOf M0).toNat)
 case atStart=>exact⟨0,_,_,rfl,Gu,rfl,QP,NQ,Ah ⟨λh=>absurd h Gu,λh=>absurd h Gu⟩,Ah ⟨λj hj=>absurd hj Gu,λh=>absurd h Gu⟩⟩
 obtain⟨k,v0,v1,rfl,hk,rfl,jz,HH,HO,HG⟩:=hrel;clear NQ QP;by_cases ad:k<2
 ·have q0:(k:Int)<2:=Gu;obtain⟨⟨x,y,q⟩,V4⟩:=ey (Vq s k)
  have hd:wr.cell? ⟨D,k*3,Ae⟩=Af (Aa Ab x)/\wr.cell? ⟨D,k*3+1,Ae⟩=Af (Aa Ab y)/\wr.cell? ⟨D,k*3+2,Ae⟩=Af (Aa Ac q):=by
   obtain⟨⟨e0,e1,e2,e3,e4,e5⟩,-⟩:=cU (HH.out.b 2);have:k=0∨k=1:=Gu;rcases this with rfl|rfl
   ·have:s.a=⟨x,y,q⟩:=V4;rw[HCA.out]at this;injection this with r1 r2 r3;subst r1;subst r2;subst r3;exact⟨e0,e1,e2⟩
   ·have:s.b=⟨x,y,q⟩:=V4;rw[HCB.out]at this;injection this with r1 r2 r3;subst r1;subst r2;subst r3;exact⟨e3,e4,e5⟩
  obtain⟨d0,d1,d2⟩:=hd;have C_:=Ah V4;obtain⟨C,hC⟩:=ey wr.heap.size;have H4:=HH.out.new #[x,y,Aa Ac q] 90 hC;have rp:M<=(wr.alloc (.cells #[x,y,Aa Ac q] 90)).heap.size:=Hu;have IE:(1<=k->(wr.alloc (.cells #[x,y,Aa Ac q] 90)).ownsRow M 3 1 v0 t0.length (Lu t0))/\(2<=k->(wr.alloc (.cells #[x,y,Aa Ac q] 90)).ownsRow M 3 1 v1 t1.length (Lu t1)):=⟨λh=>(HO.out.1 h).alloc _,λh=>(HO.out.2 h).alloc _⟩;clear V4;go_upto_region 6 with fail
  try rw[hC]
  generalize wr.alloc _=W4 at H4 rp IE⊢;clear hC HH HO jz d0 d1 d2;obtain⟨⟨c0,c1,c2⟩,-⟩:=He (H4.b 3);have bi:=EE.out ⟨x,y,q⟩ _ H4.below;dsimp only at bi;have PI:=Ah bi;clear bi
  go_step3
  go_wp2_with fail;refine PI.out.mono ?_;rintro e W5 ⟨A',rfl,dq,ag,hb⟩;have hlen:(atF l ⟨x,y,q⟩).length<=1000000:=oHx (Bd9 uq.out ⟨x,y,q⟩);have H5:=H4.call hb;have qi:M<=W5.heap.size:=Br rp hb.size;have JP:(1<=k->W5.ownsRow M 3 1 v0 t0.length (Lu t0))/\(2<=k->W5.ownsRow M 3 1 v1 t1.length (Lu t1)):=⟨λh=>Hx (IE.1 h) (Am _) hb,λh=>Hx (IE.2 h) (Am _) hb⟩;obtain⟨ids,ja⟩:=ey (atF l ⟨x,y,q⟩);have CF:=Ah ja;rw[ja]at hlen ag dq⊢;have dr:=Ah ag.rd;clear hb H4 rp IE c0 c1 c2 ag dq ja;obtain⟨a0,a1,a2,a3,a4,a5,a6,a7,a8⟩:=cV (H5.b 0);have MZ:=QF.out k Gu A' ids ids.length ids.length _ H5.below rfl hlen dr.out;have tz:=Ah MZ;have hku:IntKind.u8.wrap (k:Int)=(k:Int):=IntWalk.u8_in _ Gu;clear MZ PI;go_wp2_with fail;refine tz.out.mono ?_;rintro e W6 ⟨LA,lc',TA,tc,nL,nT,rfl,hnL,U9,fy,ia,ZK,hTo,hb⟩;have H6:=H5.call hb;have ru:M<=W6.heap.size:=Br qi hb.size;have vz:(1<=k->W6.ownsRow M 3 1 v0 t0.length (Lu t0))/\(2<=k->W6.ownsRow M 3 1 v1 t1.length (Lu t1)):=⟨λh=>Hx (JP.1 h) (Am _) hb,λh=>Hx (JP.2 h) (Am _) hb⟩;have ZK:=Np ZK qi;have hTo:=Np hTo qi;clear tz hb H5 qi JP a0 a1 a2 a3 a4 a5 a6 a7 a8 dr hlen hku;have HL6:=Ah (⟨ZK,hTo,hnL,U9,fy,ia⟩:_/\_/\_/\_/\_/\_);clear ZK hTo hnL U9 fy ia;obtain⟨g,hg⟩:=ey (Oq ids s k);rw[hg];have h7:=By W6 N 7 _ _ (0,0) (H6.b 0);simp only[Fu,List.getElem?_cons_zero,List.getElem?_cons_succ]at h7
  cases g
  ·have HF:Hid (R=true):=Ah (by
    rw[<-HR.out];refine nB ad ?_;rw[C_.out,CF.out];exact hg)
   clear hg;go_wp2_with fail
   try rw[Exit.noGoto_ret]
   go_ret;exact⟨1,rfl,by rw[HF.out];rfl,H6.below⟩
  ·have HGG:=Ah hg;obtain⟨v,hv⟩:=ey ((s.ls.any λp=>decide (1<p.1)));have hcf:=IS.out W6 H6.below;rw[hv]at hcf;have Z0:=Ah hcf;clear hg hcf;go_wp2_with fail;refine Z0.out.mono ?_;rintro e W7 ⟨rfl,hb⟩;have H7:=H6.call hb;have BG:M<=W7.heap.size:=Br ru hb.size;have E9:(1<=k->W7.ownsRow M 3 1 v0 t0.length (Lu t0))/\(2<=k->W7.ownsRow M 3 1 v1 t1.length (Lu t1)):=⟨λh=>Hx (vz.1 h) (Am _) hb,λh=>Hx (vz.2 h) (Am _) hb⟩;have HL7:=Ah (⟨Hx HL6.out.1 (Am _) hb,Hx HL6.out.2.1 (Am _) hb,HL6.out.2.2⟩:_/\_/\_);clear Z0 hb H6 ru vz h7 HL6
   cases v
   ·have PM:Hid ((∀j,j<k+1->Oq (atF l (Vq s j)) s j=true)/\(1<=k+1->(s.ls.any λx=>decide (1<x.1))=false)):=Ah ⟨λj hj=>by
     by_cases e:j=k
     ·subst e;rw[C_.out,CF.out];exact HGG.out
     ·exact HG.out.1 j Gu,λ_=>hv⟩
    have on:=mZ l s k ad;rw[C_.out,CF.out]at on;have QV:(Ik ids s k).length<=1000000:=by unfold Ik;rw[Bo];have:=NU.out;omega
    obtain⟨tk,ra⟩:=ey (Ik ids s k);obtain⟨lk,dy⟩:=ey (Te ids s k);rw[ra,dy]at on HL7;rw[ra]at QV;obtain⟨c0,EY⟩:=ey (Pf l s k);rw[EY]at on⊢;have CB:=Ah on
    obtain⟨u,hu⟩:∃u,W7.cell? ⟨V,k,Ae⟩=Af u:=by
     obtain⟨⟨r0,r1⟩,-⟩:=Hn (H7.b 1);have:k=0∨k=1:=Gu;rcases this with rfl|rfl
     ·exact⟨_,r0⟩
     ·exact⟨_,r1⟩
    have RI:=Ay7 (H7.b 1) k;obtain⟨ZK,hTo,hnL,U9,fy,ia⟩:=HL7.out;unfold maxLen at ia;obtain⟨WU,fk⟩:=ey ((if k=0 then Value.slice TA nT tc else v0));obtain⟨WV,km⟩:=ey ((if k=0 then v1 else Value.slice TA nT tc));have H8:=(H7.set 1 k rfl (Ad TA nT tc)).upto 3;have ES:M<=(W7.setCell ⟨V,k,Ae⟩ (Ad TA nT tc)).heap.size:=by simpa using BG
    have ZL:=Ja ZK HVM.out k (Ad TA nT tc);have KX:=Ja hTo HVM.out k (Ad TA nT tc)
    have ho8:(1<=k+1->(W7.setCell ⟨V,k,Ae⟩ (Ad TA nT tc)).ownsRow M 3 1 WU t0.length (Lu t0))/\(2<=k+1->(W7.setCell ⟨V,k,Ae⟩ (Ad TA nT tc)).ownsRow M 3 1 WV t1.length (Lu t1)):=by
     have:k=0∨k=1:=Gu;rcases this with rfl|rfl
     ·refine⟨λ_=>?_,λh=>absurd h Gu⟩;have e:t0=tk:=by rw[<-HT0.out,<-ra,<-CF.out,<-C_.out];rfl
      rw[<-fk,Hd rfl,e,<-U9];exact KX
     ·refine⟨λ_=>?_,λ_=>?_⟩
      ·rw[<-fk,Gz Ha];exact Ja (E9.1 Gu) HVM.out 1 _
      ·have e:t1=tk:=by rw[<-UD.out,<-ra,<-CF.out,<-C_.out];rfl
       rw[<-km,Gz Ha,e,<-U9];exact KX
    have Q0:Bx w [(N,#[x1,y1,Aa Ac q1,x2,y2,Aa Ac q2,Ad pA np pc,Ad lA nl lc,Ad eA ne yy],263),(V,#[WU,WV],333),(D,#[x1,y1,Aa Ac q1,x2,y2,Aa Ac q2],90)] (W7.setCell ⟨V,k,Ae⟩ (Ad TA nT tc)):=by
     have e: #[v0,v1].setIfInBounds k (Value.slice TA nT tc)= #[WU,WV]:=by
      have:k=0∨k=1:=Gu;rcases this with rfl|rfl
      ·rw[<-fk,<-km,Hd rfl,Hd rfl];rfl
      ·rw[<-fk,<-km,Gz Ha,Gz Ha];rfl
     rw[e]at H8;exact H8
    clear hv H7 BG E9 HL7 ZK hTo ra dy EY on fk km H8;subst hnL U9;go_upto_region 11 with fail;generalize W7.setCell _ _=W8 at ES ZL KX ho8 Q0⊢
    have CC:=Ah (λ(wr:Aj) (hb:Below W8.heap.size W8 wr)=>(⟨Br ES hb.size,Ah (Q0.call hb),Ah ⟨λh=>Hx (ho8.1 h) (Am _) hb,λh=>Hx (ho8.2 h) (Am _) hb⟩⟩:
     M<=wr.heap.size/\Hid (Bx w [(N,#[x1,y1,Aa Ac q1,x2,y2,Aa Ac q2,Ad pA np pc,Ad lA nl lc,Ad eA ne yy],263),(V,#[WU,WV],333),(D,#[x1,y1,Aa Ac q1,x2,y2,Aa Ac q2],90)] wr)/\
     Hid ((1<=k+1->wr.ownsRow M 3 1 WU t0.length (Lu t0))/\(2<=k+1->wr.ownsRow M 3 1 WV t1.length (Lu t1)))))
    have AY:=Ah (λ(wr:Aj) (hb:Below W8.heap.size W8 wr)=>(Rd.of_own ZL).below hb);have YB:=Ah (λ(wr:Aj) (hb:Below W8.heap.size W8 wr)=>(Rd.of_own KX).below hb);clear hu RI ES ZL KX ho8 Q0
    go_step3
    go_wp2
    go_loopw [6,56] (λs6 s56 wr=>∃i:Nat,s56= Aa Ab i/\i<=lk.length/\s6= .bool c0/\Hid (Below W8.heap.size W8 wr)/\Hid (jM tk lk i)) (λ_ s56 _=>lk.length-(intOf s56).toNat)
    case atStart=>exact⟨0,rfl,Gu,rfl,Ah (Ag _ _),Ah λk _ hk=>absurd hk Gu⟩
    obtain⟨i,rfl,hi,rfl,HB,HC⟩:=hrel;by_cases bv:i<lk.length
    ·have q1:(i:Int)<(lk.length:Int):=Gu;obtain⟨b,o,hA,cj,d0,d1⟩:=yZ (AY.out _ HB.out) i bv;obtain⟨⟨a1,a2⟩,ha⟩:=ey (lk[i]);rw[ha]at d0 d1;dsimp only at d0 d1;have HA:=Ah ha;obtain⟨E,hE⟩:=ey wr.heap.size;have hbE:=HB.out.alloc HB.out.size (.cells #[a1,a2] 56);have QN:=Bz wr (.cells #[a1,a2] 56);rw[hE]at QN;subst hA;clear ha;go_upto_region 14 with fail
     try rw[hE]
     generalize wr.alloc _=WE at hbE QN⊢;clear hE d0 d1 HB;have AG:=Ah hbE;have HEB:=Ah QN;obtain⟨⟨e0,e1⟩,-⟩:=Hn QN;clear hbE QN;go_wp2
     go_loopw [6,63] (λs6 s63 wr=>∃j:Nat,s63= Aa Ab j/\j<=tk.length/\s6= .bool c0/\Hid (WE=wr)/\Hid (∀h (hh:h<tk.length),h<j->¬(a1<tk[h]/\tk[h]<a2))) (λ_ s63 _=>tk.length-(intOf s63).toNat)
     case atStart=>exact⟨0,rfl,Gu,rfl,Ah rfl,Ah λh _ hh=>absurd hh Gu⟩
     obtain⟨j,rfl,hj,rfl,HWE,HT⟩:=hrel;obtain rfl:=HWE.out;clear HWE;by_cases LV:j<tk.length
     ·have q2:(j:Int)<(tk.length:Int):=Gu;obtain⟨b2,o2,hA,hbl2,d0⟩:=fO (YB.out _ AG.out) j LV;have qv:=sR (t:=tk) (l:=lk) bv LV;rw[HA.out]at qv;dsimp only at qv
      have br:=λ(oz:¬(a1<tk[j]/\tk[j]<a2)) (h:Nat) (hh:h<tk.length) (ad:h<j+1)=>show¬(a1<tk[h]/\tk[h]<a2)by
       by_cases e:h=j
       ·subst e;exact oz
       ·exact HT.out h hh Gu
      have gw:=Ah br;have sk:=Ah qv;obtain⟨h,hh⟩:=ey (tk[j]);rw[hh]at d0 gw sk;subst hA;clear br qv hh;by_cases kh:a1<h
      ·by_cases va:h<a2
       ·have on:Pf l s (k+1)=true:=by rw[CB.out,sk.out ⟨kh,va⟩];simp
        obtain⟨f1,f2,f3⟩:=CC.out _ AG.out;have Y8:=Ah on;clear on CC AY YB gw sk HT;go_wp2_with fail
        apply_assumption
        go_wp2;exact⟨⟨k+1,WU,WV,by go_num,Gu,by rw[Y8.out],f1,f2,f3,PM⟩,by simp[intOf];omega⟩
       ·have sf:=Ah (gw.out (λhc=>va hc.2));clear gw sk;go_wp2;exact⟨⟨j+1,by go_num,Gu,rfl,Ah trivial,sf⟩,by simp[intOf];omega⟩
      ·have sf:=Ah (gw.out (λhc=>kh hc.1));clear gw sk;go_wp2;exact⟨⟨j+1,by go_num,Gu,rfl,Ah trivial,sf⟩,by simp[intOf];omega⟩
     ·have q2:¬(j:Int)<(tk.length:Int):=Gu
      have UG:Hid (∀h∈tk,¬(a1<h/\h<a2)):=Ah λh hm=>by
       obtain⟨x,hx,rfl⟩:=Be.1 hm;exact HT.out x hx Gu
      have q3:(i:Int)<=(lc':Int):=Gu;have tw:=Ah (Ag WE.heap.size WE);clear HT hj LV;go_wp2
      go_loopw [6,82] (λs6 s82 wr=>∃j:Nat,s82= Aa Ab j/\j<=i/\s6= .bool c0/\Hid (Below WE.heap.size WE wr)/\Hid (∀h (hh:h<lk.length),h<j->Oy (a1,a2) lk[h]=false)) (λ_ s82 _=>i-(intOf s82).toNat)
      case atStart=>exact⟨0,rfl,Gu,rfl,tw,Ah λh _ hh=>absurd hh Gu⟩
      obtain⟨j,rfl,hj,rfl,HB,HI⟩:=hrel;have de:=AG.out.trans (HB.out.mono AG.out.size);by_cases BO:j<i
      ·have q4:(j:Int)<(i:Int):=Gu;have lz:j<lk.length:=Gu;obtain⟨b2,o2,qf,hbl2,d0,d1⟩:=yZ (AY.out _ de) j lz;obtain⟨rfl,rfl⟩:b=b2/\o=o2:=by simpa using qf
       have qv:=sQ (t:=tk) (l:=lk) bv lz;rw[HA.out]at qv
       have br:=λ(oz:Oy (a1,a2) lk[j]=false) (h:Nat) (hh:h<lk.length) (ad:h<j+1)=>show Oy (a1,a2) lk[h]=false by
        by_cases e:h=j
        ·subst e;exact oz
        ·exact HI.out h hh Gu
       have gw:=Ah br;have sk:=Ah qv;obtain⟨⟨p1,p2⟩,hp⟩:=ey (lk[j]);rw[hp]at d0 d1 gw sk;dsimp only at d0 d1;obtain⟨E2,UU⟩:=ey wr.heap.size;have RA:=de.alloc de.size (.cells #[p1,p2] 56);have hbG:=HB.out.alloc HB.out.size (.cells #[p1,p2] 56);have GG:=Bz wr (.cells #[p1,p2] 56);have QN:=kept (hbG) HEB.out (Au.1 HEB.out).1;rw[UU]at GG;clear br qv hp qf;go_upto_region 23 with fail
       try rw[UU]
       generalize wr.alloc _=WF at RA hbG GG QN⊢;clear UU d0 d1 HB de;obtain⟨⟨f0,f1⟩,-⟩:=Hn GG;obtain⟨⟨g0,g1⟩,-⟩:=Hn QN;have HBF:=Ah RA;have Y6:=Ah hbG;obtain⟨iv,hiv⟩:=ey (Oy (a1,a2) (p1,p2));have a_:=Ah hiv;clear RA hbG GG QN hiv e0 e1;go_cut [125]from 86 to 125 (λsb wx=>sb= .bool iv/\Hid (WF=wx))
       case first=>
        clear gw sk CC AY YB;go_wp2_with fail
        all_goals go_meet
        all_goals exact⟨by rw[<-a_.out];unfold Oy;first|(simp<;>omega)|(congr 1;rw[Bool.eq_iff_iff];simp;omega),Ah rfl⟩
       case rest=>
       obtain⟨rfl,hwf⟩:=hcut;obtain rfl:=hwf.out;clear hwf f0 f1 g0 g1
       cases iv
       ·have sf:=Ah (gw.out a_.out);clear gw sk a_;go_wp2;exact⟨⟨j+1,by go_num,Gu,rfl,Y6,sf⟩,by simp[intOf];omega⟩
       ·have on:Pf l s (k+1)=true:=by rw[CB.out,sk.out a_.out];simp
        obtain⟨f1,f2,f3⟩:=CC.out _ HBF.out;have Y8:=Ah on;clear on CC AY YB gw sk a_;go_wp2_with fail
        apply_assumption
        go_wp2;exact⟨⟨k+1,WU,WV,by go_num,Gu,by rw[Y8.out],f1,f2,f3,PM⟩,by simp[intOf];omega⟩
      ·have q4:¬(j:Int)<(i:Int):=Gu;have un:=Ah de
       have jf:Hid (jM tk lk (i+1)):=Ah λx hx hxi=>by
        by_cases e:x=i
        ·subst e;rw[HA.out];refine⟨UG.out,λy hy hyx=>HI.out y hy Gu⟩
        ·exact HC.out x hx Gu
       clear de HB HI hj BO e0 e1;go_wp2;exact⟨⟨i+1,by go_num,Gu,rfl,un,jf⟩,by simp[intOf];omega⟩
    ·have q1:¬(i:Int)<(lk.length:Int):=Gu
     have jr:Mz tk lk=false:=sG (by
      have e:i=lk.length:=Gu;rw[<-e];exact HC.out)
     have on:Pf l s (k+1)=c0:=by rw[CB.out,jr];simp
     obtain⟨e1,e2,e3⟩:=CC.out _ HB.out;have Y8:=Ah on;clear jr on HB HC CC AY YB;go_wp2;exact⟨⟨k+1,WU,WV,by go_num,Gu,by rw[Y8.out],e1,e2,e3,PM⟩,by simp[intOf];omega⟩
   ·have HF:Hid (R=true):=Ah (by rw[<-HR.out];exact nE hv);clear hv;go_wp2_with fail
    try rw[Exit.noGoto_ret]
    go_ret;exact⟨1,rfl,by rw[HF.out];rfl,H7.below⟩
 ·obtain rfl:k=2:=Gu;obtain⟨WY,rfl⟩:=ez wr
  have fa:Hid (R=(Pf l s 2||Qe t0 t1)):=Ah (by
   rw[<-HR.out,<-HT0.out,<-UD.out];exact sP (HG.out.1 0 Gu) (HG.out.1 1 Gu) (HG.out.2 Gu))
  have hl01:t0.length=t1.length:=by rw[<-HT0.out,<-UD.out];unfold Ik;rw[Bo,Bo]
  have hlb:t0.length<=1000000:=by rw[<-HT0.out];unfold Ik;rw[Bo];have:=NU.out;omega
  obtain⟨c2,va⟩:=ey (Pf l s 2);rw[va]at fa⊢;obtain⟨A0,d0,rfl,UQ,hd0⟩:=Hw (HO.out.1 Gu);obtain⟨A1,d1,rfl,YO,hd1⟩:=Hw (HO.out.2 Gu);have HR0:=Ah (Rd.of_own (HO.out.1 Gu));have KE:=Ah (Rd.of_own (HO.out.2 Gu));obtain⟨⟨f0,f1⟩,-⟩:=Hn (HH.out.b 1);have tw:=Ah (Ag WY.heap.size WY);clear va hk ad jz HG UQ hd0 YO hd1;go_wp2
  go_loopw [6,132] (λs6 L8 wr=>∃(i:Nat) (cx:Bool),L8= Aa Ab i/\i<=t0.length/\s6= .bool cx/\Hid (Below WY.heap.size WY wr)/\Hid ((cx=true->R=true)/\(cx=false->c2=false/\Xn t0 t1 i 0))) (λ_ L8 _=>t0.length-(intOf L8).toNat)
  case atStart=>exact⟨0,c2,rfl,Gu,rfl,tw,Ah ⟨λh=>by rw[fa.out,h];rfl,λh=>⟨h,λa b _ _ _ _ EW hh=>Gu⟩⟩⟩
  obtain⟨i,cx,rfl,hi,rfl,HB,HX⟩:=hrel;by_cases bv:i<t0.length
  ·have q1:(i:Int)<(t0.length:Int):=Gu;go_wp2
   go_loopw [6,136] (λs6 s136 wr=>Bd3 i c2 R t0 t1 WY s6 s136 wr) (λ_ s136 _=>i-(intOf s136).toNat)
   case atStart=>exact⟨0,cx,rfl,Gu,rfl,HB,HX⟩
   obtain⟨j,cx,rfl,hj,rfl,HB,HX⟩:=hrel;by_cases BO:j<i
   ·have q2:(j:Int)<(i:Int):=Gu;have q3:(j:Int)<(t0.length:Int):=Gu;have q4:(j:Int)<(t1.length:Int):=Gu;have q5:(i:Int)<(t1.length:Int):=Gu;obtain⟨b0,o0,hA,lw,x0⟩:=fO (HR0.out.below HB.out) i bv;obtain⟨b0',o0',dq,-,x1⟩:=fO (HR0.out.below HB.out) j Gu;obtain⟨rfl,rfl⟩:b0=b0'/\o0=o0':=by rw[hA]at dq;simpa using dq
    obtain⟨b1,o1,hC,ci,x2⟩:=fO (KE.out.below HB.out) i Gu;obtain⟨b1',o1',hC',-,x3⟩:=fO (KE.out.below HB.out) j Gu;obtain⟨rfl,rfl⟩:b1=b1'/\o1=o1':=by rw[hC]at hC';simpa using hC'
    have lh:=Ah3 (t:=t0) (u:=t1) (a:=i) (b:=j) Gu Gu Gu Gu
    have br:=λ(hc:cx=false) (oz:¬((t0[i]<t0[j]/\t1[j]<t1[i])∨(t0[j]<t0[i]/\t1[i]<t1[j])))=>show Xn t0 t1 i (j+1)by
     intro a b ha hb ha' hb' EW hh;by_cases e:a=i/\b=j
     ·obtain⟨rfl,rfl⟩:=e;exact oz
     ·exact(HX.out.2 hc).2 a b ha hb ha' hb' EW Gu
    have CM:=Ah lh;have gw:=Ah br;obtain⟨y0,K4⟩:=ey (t0[i]);obtain⟨y1,yf⟩:=ey (t0[j]);obtain⟨y2,yn⟩:=ey (t1[i]);obtain⟨y3,NF⟩:=ey (t1[j]);rw[K4]at x0 CM gw;rw[yf]at x1 CM gw;rw[yn]at x2 CM gw;rw[NF]at x3 CM gw;have f0':=Gv HB.out f0;have f1':=Gv HB.out f1;subst hA hC;obtain⟨S,an,HSO⟩:=Og λW'=>(W'.cell? ⟨V,0,Ae⟩=Af (Ad (Af ⟨b0,o0,Ae⟩) t0.length d0)/\W'.cell? ⟨V,1,Ae⟩=Af (Ad (Af ⟨b1,o1,Ae⟩) t1.length d1))/\(W'.cell? ⟨b0,o0+i,Ae⟩=Af (Aa Ab y0)/\W'.cell? ⟨b0,o0+j,Ae⟩=Af (Aa Ab y1))/\W'.cell? ⟨b1,o1+i,Ae⟩=Af (Aa Ab y2)/\W'.cell? ⟨b1,o1+j,Ae⟩=Af (Aa Ab y3)
    have ae:Hid (∀W',Below wr.heap.size wr W'->S W'):=Ah λW' h=>by
     subst an;exact⟨⟨Gv h f0',Gv h f1'⟩,⟨Gv h x0,Gv h x1⟩,Gv h x2,Gv h x3⟩
    have HBZ:=Ah (λ(W':Aj) (h:Below wr.heap.size wr W')=>HB.out.trans (h.mono HB.out.size));clear lh br K4 yf yn NF x0 x1 x2 x3 f0' f1' an HB;obtain⟨hmul,mw,MA⟩:=Bf5 y0 y1 y2 y3;obtain⟨p,hp⟩:=ey (Ih y0 y1);obtain⟨q,hq⟩:=ey (Ih y2 y3);have sj:=Ah (λ(w':Aj)=>My y0 y1 w');have CA:=Ah (λ(w':Aj)=>My y2 y3 w');rw[hp,hq]at hmul mw MA;rw[hp]at sj;rw[hq]at CA;have tm:Ab.wrap (p*q)=p*q:=IntWalk.i64_in _ Gu;obtain⟨m,hm⟩:=ey (p*q);rw[hm]at hmul tm;have tm2:Ab.wrap (p*q)=m:=by rw[hm];exact tm
    have PQ:=Ah hmul;clear hp hq hmul mw MA tm hm;go_upto_region 34 with fail;refine Ao (S:=S) Gw (ae.out _ (Ag _ _).drew) (λhS=>?_);have hb:Below wr.heap.size wr wr.drew:=(Ag _ _).drew;generalize wr.drew=X0 at hb hS⊢;refine Hh 0 1 2 3 ?_;refine Hh 4 5 6 7 ?_;refine Hh 8 9 11 12 ?_;refine Hh 13 14 15 16 ?_;refine Hh 17 18 19 20 ?_;refine rdy 10 (λK hK=>?_);go_simp;refine(sj.out _).mono ?_;rintro e X1 ⟨rfl,ac⟩;have hb:=hb.trans (ac.mono hb.size);refine hK.o (ae.out _ hb) (λhS=>?_);clear hK K ac;refine rdy 21 (λK hK=>?_);go_simp;refine(CA.out _).mono ?_;rintro e X2 ⟨rfl,ac⟩;have hb:=hb.trans (ac.mono hb.size);refine hK.o (ae.out _ hb) (λhS=>?_);clear hK K ac;have IR:=HBZ.out _ hb;by_cases ad:m<0
    ·have YH:Hid ((true=true->R=true)/\(true=false->c2=false/\Xn t0 t1 i (j+1))):=Ah ⟨λ_=>by rw[fa.out,CM.out (PQ.out.1 ad)];simp,λh=>by cases h⟩;have IR:=Ah IR;refine Qp 22 23 ?_;refine An Gw ?_ _;clear HX gw CM PQ hS HSO ae HBZ;go_wp2;exact⟨⟨_,_,_,⟨j+1,true,by go_num,Gu,rfl,IR,Ah ⟨λ_=>YH.out.1 trivial,λh=>by cases h⟩⟩,rfl,rfl,rfl⟩,by simp[intOf];omega⟩
    ·have YH:Hid ((cx=true->R=true)/\(cx=false->c2=false/\Xn t0 t1 i (j+1))):=Ah ⟨HX.out.1,λhc=>⟨(HX.out.2 hc).1,gw.out hc λh=>ad (PQ.out.2 h)⟩⟩;have IR:=Ah IR;refine Qp 22 23 ?_;refine An Gw ?_ _;clear HX gw CM PQ hS HSO ae HBZ;go_wp2;exact⟨⟨_,_,_,⟨j+1,cx,by go_num,Gu,rfl,IR,YH⟩,rfl,rfl,rfl⟩,by simp[intOf];omega⟩
   ·have q2:¬(j:Int)<(i:Int):=Gu;have YH:Hid ((cx=true->R=true)/\(cx=false->c2=false/\Xn t0 t1 (i+1) 0)):=Ah ⟨HX.out.1,λhc=>⟨(HX.out.2 hc).1,λa b ha hb ha' hb' EW hh=>(HX.out.2 hc).2 a b ha hb ha' hb' EW Gu⟩⟩;clear HX;go_wp2;exact⟨⟨i+1,cx,by go_num,Gu,rfl,HB,YH⟩,by simp[intOf];omega⟩
  ·have hit:i=t0.length:=Gu;have q1:¬(i:Int)<(t0.length:Int):=Gu;have cj:=HH.out.below.trans (HB.out.mono HH.out.below.size)
   cases cx
   ·have HF:Hid (R=false):=Ah (by
     obtain⟨e1,e2⟩:=HX.out.2 rfl;rw[hit]at e2;rw[fa.out,e1,Ah2 hl01 e2];rfl)
    clear HX HB;go_wp2;go_ret;exact⟨0,rfl,by rw[HF.out];rfl,cj⟩
   ·have HF:=Ah (HX.out.1 rfl);clear HX HB;go_wp2;go_ret;exact⟨12,rfl,by rw[HF.out];rfl,cj⟩
theorem yW {w:Aj} {A:Option Ci} {l:List Bool} {n:Nat} (h:Rd w A 1 n (Ib l)) (i:Nat) (hi:i<l.length):
  ∃b o,A=Af ⟨b,o,Ae⟩/\b<w.heap.size/\w.cell? ⟨b,o+i,Ae⟩=Af (.bool l[i]):=by
 have hl:=h.1;have cj:(Ib l).length=l.length:=by simp[Ib]
 rw[cj]at hl;obtain⟨b,o,e,hb,hc⟩:=h.2 Gu;exact⟨b,o,e,hb,hc i _ (by simp[Ib,hi])⟩
def Zd (a b:Int) (pc:Ak) (root:Mv) (sv uv mv:Ak):Array Ak:=#[Aa Ab a,Aa Ab b,pc,Aa Ac root.t,Aa Ab root.x,Aa Ab root.y,sv,uv,mv]
def pC (x:Nat×Nat×Nat):Ak:= .agg #[Aa Ac (x.1:Int),Aa Ab (x.2.1:Int),Aa Ab (x.2.2:Int)]
theorem At2 (a b:Int) (pc:Ak) (root:Mv) (sv mv:Ak) (U:Option Ci) (up:List Bool) (nu cu:Nat) (x:Nat×Nat×Nat) (w:Aj) (hn:nu=up.length) (h:Rd w U 1 nu (Ib up)) (hx:x.2.2<nu):
  Al Do 156 #[.agg (Zd a b pc root sv (Ad U nu cu) mv),pC x] w (Gy (Aa Ac (iK up x)) w):=by
 obtain⟨rt,rx,ry⟩:=root;obtain⟨x0,x1,x2⟩:=x;dsimp only at hx;have H:=((Bx.start w).new #[a,b,pc,Aa Ac rt,rx,ry,sv,Ad U nu cu,mv] 186 rfl).new #[Aa Ac x0,x1,x2] 266 (N:=w.heap.size+1) Gx;obtain⟨b0,o0,rfl,cj,u0⟩:=yW (h.below H.below) x2 Gu
 have e:iK up (x0,x1,x2)=if up[x2]'(by omega)then 1 else 2:=by
  unfold iK;simp[List.getD,show x2<up.length by omega]
 rw[e];have q1:(x2:Int)<(nu:Int):=Gu;obtain⟨v,hv⟩:=ey (up[x2]'(by omega));rw[hv]at u0⊢;unfold Zd pC;dsimp only;clear h hn hx e hv;go_enter Tryz.func156,Tryz.ntmps156;go_upto_region 1 with fail;generalize (w.alloc _).alloc _=W at H u0⊢;obtain⟨N,hN⟩:=ez w.heap.size;rw[<-hN]at H⊢;have db:=Ah hN;clear hN;generalize N+1=P at H⊢;obtain⟨-,-,-,-,-,-,-,c7,-⟩:=cV (H.b 0);obtain⟨⟨-,-,d2⟩,-⟩:=He (H.b 1)
 cases v
 ·go_wp2;go_ret;exact⟨rfl,H.below⟩
 ·go_wp2;go_ret;exact⟨rfl,H.below⟩
def Bp3:Array Ak:=#[Aa Ab 0,Aa Ab 0,Ad Ae 0 0,Aa Ac 0,Aa Ab 0,Aa Ab 0,Ad Ae 0 0,Ad Ae 0 0,Ad Ae 0 0]
def Bd2 (a b:Int) (pv:Ak) (root:Mv) (sv:Ak) (er:Int) (ss:List Sm) (up:List Bool) (w:Aj) (e:Ending) (w':Aj):Prop:=
 Below w.heap.size w w'/\((er≠0/\e= .returned (.tuple #[.agg Bp3,er]))∨
  (er=0/\∃A2 r U,e= .returned (.tuple #[.agg (Zd a b pv root sv (Ad U up.length up.length) (Ad A2 r.length r.length)),Aa Ab 0])/\Am9 ss r/\Lm w' w.heap.size A2 r/\Rd w' U 1 up.length (Ib up)))
theorem Lm.same {w w':Aj} {O:Nat} {A:Option Ci} {l:List Sm} (h:Lm w O A l) (hb:∀g,O<=g->g<w.heap.size->w'.heap[g]? =w.heap[g]?):Lm w' O A l:=by
 obtain⟨z,h1,h2,h3⟩:=h;exact⟨z,h1,h2.same λg hg=>hb g (h2.lt g hg).1 (h2.lt g hg).2.1,λx hx=>(h3 x hx).same hb⟩
theorem Lm.below {w w':Aj} {O:Nat} {A:Option Ci} {l:List Sm} (h:Lm w O A l) (hb:Below w.heap.size w w'):Lm w' O A l:=h.same λg _ hg=>hb.block g hg
theorem Lm.base {w:Aj} {O O':Nat} {A:Option Ci} {l:List Sm} (h:Lm w O A l) (hO:O'<=O):Lm w O' A l:=by
 obtain⟨z,h1,h2,h3⟩:=h;exact⟨z,h1,h2.base hO,λx hx=>(h3 x hx).base hO⟩
theorem At9 (a b:Int) (pA:Option Ci) (cr:List Cr) (pn pc:Nat) (root:Mv) (A:Option Ci) (l:List Stk) (n cc:Nat) (w:Aj) (hp:Lq a b cr) (mc:pn=cr.length) (fp:Rd w pA 3 pn (crs cr)) (dw:pn<=1000000) (ht:root.t<=255)
  (hn:n=l.length) (h:Hz w A l) (hl:n<=100000) (ij:∀x∈l,x.ls.length<=100000) (vj:∀x∈l,x.c.q<=255) (hQ:Qf w) (hT:Tn w):
  Al Do 96 #[.agg #[a,b,Ad pA pn pc,Aa Ac root.t,Aa Ab root.x,Aa Ab root.y,Ad A n cc]] w (Bd2 a b (Ad pA pn pc) root (Ad A n cc) (Ow a b cr root l) (eV a b cr root l).seams (upF a b cr root).1 w):=by
 have EM:=Ah (λ(w':Aj) (hb:Below w.heap.size w w')=>qM a b pA cr pn pc root A l n cc w' hp mc (fp.below hb) dw ht hn (h.below hb) hl ij vj (hQ.below hb) (hT.below hb));have UI:=Ah (λ(w':Aj) (hb:Below w.heap.size w w')=>Bq2 a b pA cr pn pc root w' hp mc (fp.below hb) dw ht (hQ.below hb) (hT.below hb))
 have EA:Ow a b cr root l=0->(upF a b cr root).2=0:=λh0=>by
  unfold Ow at h0;unfold upF
  split at h0
  ·contradiction
  ·rename_i g;rw[Gz g]
 obtain⟨E,hE⟩:=ey (Ow a b cr root l);rw[hE]at EM EA⊢;obtain⟨ss,wh⟩:=ey ((eV a b cr root l).seams);rw[wh]at EM⊢;obtain⟨⟨up,ue⟩,hu⟩:=ey (upF a b cr root);rw[hu]at UI EA⊢;obtain⟨rt,rx,ry⟩:=root;dsimp only at EM UI EA ht⊢;obtain⟨nu,pu⟩:=ey up.length;rw[pu]at UI;have IZ:=Ah pu;have H:=((Bx.start w).new #[a,b,Ad pA pn pc,Aa Ac rt,rx,ry,Ad A n cc] 33 rfl).new #[Aa Ab 0,Aa Ab 0,Ad Ae 0 0,Aa Ac 0,Aa Ab 0,Aa Ab 0,Ad Ae 0 0,Ad Ae 0 0,Ad Ae 0 0] 186 (N:=w.heap.size+1) Gx;clear hp mc fp dw ht hn h hl ij vj hQ hT hE wh hu pu;go_enter Tryz.func96,Tryz.ntmps96;go_upto_region 1 with fail;obtain⟨N,hN⟩:=ez w.heap.size;rw[<-hN]at H⊢;have db:=Ah hN;clear hN;obtain⟨P,hP⟩:=ey (N+1);rw[hP]at H⊢;generalize (w.alloc _).alloc _=W0 at H⊢;clear hP;have NV:Hid (P<W0.heap.size):=Ah (H.lt 1 rfl);have HWW:Hid (w.heap.size<=W0.heap.size):=Ah H.below.size;have hc:=λj=>By W0 N j _ _ (0,0) (H.b 0);have c0:W0.cell? ⟨N,0,Ae⟩=Af (Aa Ab a):=(hc 0).trans rfl;have c1:W0.cell? ⟨N,1,Ae⟩=Af (Aa Ab b):=(hc 1).trans rfl;have c2:W0.cell? ⟨N,2,Ae⟩=Af (Ad pA pn pc):=(hc 2).trans rfl;have c3:W0.cell? ⟨N,3,Ae⟩=Af (Aa Ac rt):=(hc 3).trans rfl;have c4:W0.cell? ⟨N,4,Ae⟩=Af (Aa Ab rx):=(hc 4).trans rfl;have c5:W0.cell? ⟨N,5,Ae⟩=Af (Aa Ab ry):=(hc 5).trans rfl;have c6:W0.cell? ⟨N,6,Ae⟩=Af (Ad A n cc):=(hc 6).trans rfl;clear hc;go_wp2_with fail;refine(EM.out _ H.below).mono ?_;rintro ee w1 ⟨hb,gr⟩;have H1:=H.call hb;clear c0 c1 c2 c3 c4 c5 c6 H EM;rcases gr with⟨h0,rfl⟩|⟨rfl,A2,r,rfl,la,BW⟩
 ·have q1:(E != 0)=true:=by simpa using h0
  have nr:=H1.b 1;obtain⟨c0,c1,c2,c3,c4,c5,c6,c7,c8⟩:=cV nr;have z0:(w1).frozen? ⟨P,0,Ae⟩=false:=by simp[Dz,nr]
  have z1:(w1).frozen? ⟨P,1,Ae⟩=false:=by simp[Dz,nr]
  have z2:(w1).frozen? ⟨P,2,Ae⟩=false:=by simp[Dz,nr]
  have z3:(w1).frozen? ⟨P,3,Ae⟩=false:=by simp[Dz,nr]
  have z4:(w1).frozen? ⟨P,4,Ae⟩=false:=by simp[Dz,nr]
  have z5:(w1).frozen? ⟨P,5,Ae⟩=false:=by simp[Dz,nr]
  have z6:(w1).frozen? ⟨P,6,Ae⟩=false:=by simp[Dz,nr]
  have z7:(w1).frozen? ⟨P,7,Ae⟩=false:=by simp[Dz,nr]
  have z8:(w1).frozen? ⟨P,8,Ae⟩=false:=by simp[Dz,nr]
  clear nr;go_wp2_with fail;have H2:=H1.setAll 1 rfl [Aa Ab 0,Aa Ab 0,Ad Ae 0 0,Aa Ac 0,Aa Ab 0,Aa Ab 0,Ad Ae 0 0,Ad Ae 0 0,Ad Ae 0 0] rfl;exact Ai (Hj rfl rfl (H2.range 1 rfl) Tryz.underlying186 rfl Gw) rfl ⟨H2.below,.inl ⟨h0,rfl⟩⟩
 ·have hue:=EA rfl;subst hue;have hc:=λj=>By w1 N j _ _ (0,0) (H1.b 0);have c0:w1.cell? ⟨N,0,Ae⟩=Af (Aa Ab a):=(hc 0).trans rfl;have c1:w1.cell? ⟨N,1,Ae⟩=Af (Aa Ab b):=(hc 1).trans rfl;have c2:w1.cell? ⟨N,2,Ae⟩=Af (Ad pA pn pc):=(hc 2).trans rfl;have c3:w1.cell? ⟨N,3,Ae⟩=Af (Aa Ac rt):=(hc 3).trans rfl;have c4:w1.cell? ⟨N,4,Ae⟩=Af (Aa Ab rx):=(hc 4).trans rfl;have c5:w1.cell? ⟨N,5,Ae⟩=Af (Aa Ab ry):=(hc 5).trans rfl;have D_:=Ah la;have ae:=Ah BW;obtain⟨m,hm⟩:=ey r.length;rw[hm];have NT:=Ah hm;clear hc EA la BW hb hm;go_wp2_with fail;refine(UI.out _ H1.below).mono ?_;rintro ee w2 ⟨hb,⟨h0,-⟩|⟨-,G,rfl,ju,hG⟩⟩
  ·exact absurd rfl h0
  have H2:=H1.call hb;have dh:=Ah (ae.out.below hb);have HGB:=Ah hG;have hGl:w1.heap.size<=G:=ju;have JI:=H1.lt 1 rfl;have hGb:=(Au.1 hG).1;have HGP:Hid (G≠P):=Ah Gu;clear c0 c1 c2 c3 c4 c5 hb ju hG hGl JI hGb H1 ae UI;have hc:=λj=>By w2 N j _ _ (0,0) (H2.b 0);have d0:w2.cell? ⟨N,0,Ae⟩=Af (Aa Ab a):=(hc 0).trans rfl;have d1:w2.cell? ⟨N,1,Ae⟩=Af (Aa Ab b):=(hc 1).trans rfl;have d2:w2.cell? ⟨N,2,Ae⟩=Af (Ad pA pn pc):=(hc 2).trans rfl;have d3:w2.cell? ⟨N,3,Ae⟩=Af (Aa Ac rt):=(hc 3).trans rfl;have d4:w2.cell? ⟨N,4,Ae⟩=Af (Aa Ab rx):=(hc 4).trans rfl;have d5:w2.cell? ⟨N,5,Ae⟩=Af (Aa Ab ry):=(hc 5).trans rfl;have d6:w2.cell? ⟨N,6,Ae⟩=Af (Ad A n cc):=(hc 6).trans rfl;have nr:=H2.b 1;obtain⟨c0,c1,c2,c3,c4,c5,c6,c7,c8⟩:=cV nr;have z0:(w2).frozen? ⟨P,0,Ae⟩=false:=by simp[Dz,nr]
  have z1:(w2).frozen? ⟨P,1,Ae⟩=false:=by simp[Dz,nr]
  have z2:(w2).frozen? ⟨P,2,Ae⟩=false:=by simp[Dz,nr]
  have z3:(w2).frozen? ⟨P,3,Ae⟩=false:=by simp[Dz,nr]
  have z4:(w2).frozen? ⟨P,4,Ae⟩=false:=by simp[Dz,nr]
  have z5:(w2).frozen? ⟨P,5,Ae⟩=false:=by simp[Dz,nr]
  have z6:(w2).frozen? ⟨P,6,Ae⟩=false:=by simp[Dz,nr]
  have z7:(w2).frozen? ⟨P,7,Ae⟩=false:=by simp[Dz,nr]
  have z8:(w2).frozen? ⟨P,8,Ae⟩=false:=by simp[Dz,nr]
  clear hc nr;go_wp2_with fail;have H3:=H2.setAll 1 rfl [Aa Ab a,Aa Ab b,Ad pA pn pc,Aa Ac rt,Aa Ab rx,Aa Ab ry,Ad A n cc,Ad (Af ⟨G,0,Ae⟩) nu nu,Ad A2 m m] rfl;refine Ai (Hj rfl rfl (H3.range 1 rfl) Tryz.underlying186 rfl Gw) rfl ⟨H3.below,.inr ⟨rfl,A2,r,Af ⟨G,0,Ae⟩,?_,D_.out,?_,?_⟩⟩
  ·rw[NT.out,IZ.out];rfl
  ·have hso:∀g,W0.heap.size<=g->g<w2.heap.size->(w2.setCells P 0 [Aa Ab a,Aa Ab b,Ad pA pn pc,Aa Ac rt,Aa Ab rx,Aa Ab ry,Ad A n cc,Ad (Af ⟨G,0,Ae⟩) nu nu,Ad A2 m m]).heap[g]? =w2.heap[g]? :=λg h1 h2=>World.heap_setCells_other w2 P 0 _ h2 (oHx NV.out);exact(dh.out.same hso).base HWW.out
  ·have hGr:=HGB.out;rw[IZ.out];refine Ug (n:=nu) (sz:=1) ((World.heap_setCells_other w2 P 0 [Aa Ab a,Aa Ab b,Ad pA pn pc,Aa Ac rt,Aa Ab rx,Aa Ab ry,Ad A n cc,Ad (Af ⟨G,0,Ae⟩) nu nu,Ad A2 m m] (Au.1 hGr).1 HGP.out).trans hGr) (by rw[<-IZ.out];simp[Ib])
theorem sK {a b:Int} {x:Nat×Nat×Nat} {lo hi e:Nat} (gz:min x.2.1 x.2.2=lo) (xq:max x.2.1 x.2.2=hi) (he:e<3) (h:nbI a b (lo:Int) (e:Int)=((hi:Int),0)) (hb:∀j:Nat,j<e->nbI a b (lo:Int) (j:Int)≠((hi:Int),0)):Mr a b x=(lo,e):=by
 unfold Mr;rw[gz,xq];have:e=0∨e=1∨e=2:=Gu
 have hf:([0,1,2]:List Nat).find? (λ(e:Nat)=>decide (nbI a b (lo:Int) (e:Int)=(((hi:Nat):Int),(0:Int))))=Af e:=by
  rcases this with rfl|rfl|rfl
  ·rw[List.find?_cons_of_pos (by simpa using h)]
  ·rw[List.find?_cons_of_neg (by simpa using hb 0 Gu),List.find?_cons_of_pos (by simpa using h)]
  ·rw[List.find?_cons_of_neg (by simpa using hb 0 Gu),List.find?_cons_of_neg (by simpa using hb 1 Gu),List.find?_cons_of_pos (by simpa using h)]
 rw[hf]
theorem kI {a b:Int} {x:Nat×Nat×Nat} {lo hi:Nat} (gz:min x.2.1 x.2.2=lo) (xq:max x.2.1 x.2.2=hi) (hb:∀j:Nat,j<3->nbI a b (lo:Int) (j:Int)≠((hi:Int),0)):Mr a b x=(0,0):=by
 unfold Mr;rw[gz,xq]
 have hf:([0,1,2]:List Nat).find? (λ(e:Nat)=>decide (nbI a b (lo:Int) (e:Int)=(((hi:Nat):Int),(0:Int))))=Ae:=by
  rw[List.find?_cons_of_neg (by simpa using hb 0 Gu),List.find?_cons_of_neg (by simpa using hb 1 Gu),List.find?_cons_of_neg (by simpa using hb 2 Gu)];rfl
 rw[hf]
theorem sL (a b:Int) (x:Nat×Nat×Nat) (w:Aj) (hs:okS a b=true) (hQ:Qt w):
  Al Do 155 #[.agg #[a,b],pC x] w (Gy (.agg #[Aa Ab ((Mr a b x).1:Int),Aa Ac ((Mr a b x).2:Int)]) w):=by
 have GD:=Ah (λ(i e:Int) (he:0<=e) (w':Aj) (hb:Below w.heap.size w w')=>Ji a b i e w' hs he (hQ.below hb));obtain⟨R,hR⟩:=ey (Mr a b x);rw[hR];have HR:=Ah hR;have EE:=Ah (λ(lo hi e:Nat)=>sK (a:=a) (b:=b) (x:=x) (lo:=lo) (hi:=hi) (e:=e));have IY:=Ah (λ(lo hi:Nat)=>kI (a:=a) (b:=b) (x:=x) (lo:=lo) (hi:=hi));obtain⟨x0,x1,x2⟩:=x;unfold pC;dsimp only at EE IY⊢;have H:=(((Bx.start w).new #[a,b] 25 rfl).new #[Aa Ac x0,x1,x2] 266 (N:=w.heap.size+1) Gx).new #[Aa Ab 0,Aa Ac 0] 194 (N:=w.heap.size+1+1) Gx;clear hs hQ hR;go_enter Tryz.func155,Tryz.ntmps155;go_upto_region 1 with fail;generalize ((w.alloc _).alloc _).alloc _=W at H⊢;obtain⟨N,hN⟩:=ez w.heap.size;rw[<-hN]at H⊢;have db:=Ah hN;clear hN;obtain⟨P,hP⟩:=ey (N+1);obtain⟨U,hU⟩:=ey (P+1);rw[hP,hU]at H⊢;clear hP hU;obtain⟨⟨c0,c1,c2⟩,-⟩:=He (H.b 1);obtain⟨lo,gz⟩:=ey (min x1 x2);obtain⟨hi,xq⟩:=ey (max x1 x2);have PI:=Ah (λe=>EE.out lo hi e gz xq);have PT:=Ah (IY.out lo hi gz xq);have HMN:=Ah (⟨gz,xq⟩:_/\_);clear gz xq EE IY;go_cut [5,6] (λs5 s6 wx=>s5= Aa Ab (lo:Int)/\s6= Aa Ab (hi:Int)/\Hid (Bx w ([(N,#[a,b],25),(P,#[Aa Ac x0,x1,x2],266),(U,#[Aa Ab 0,Aa Ac 0],194)]) wx))
 case first=>
  obtain⟨gz,xq⟩:=HMN.out;have HH:=Ah H.drew;obtain⟨S,an,HSO⟩:=Og λW'=>W'.cell? ⟨P,1,Ae⟩=Af (Aa Ab (x1:Int))/\W'.cell? ⟨P,2,Ae⟩=Af (Aa Ab (x2:Int));have qr:S W.drew:=by subst an;exact⟨c1,c2⟩
  clear an c0 c1 c2 H;rcases Nat.lt_trichotomy x1 x2 with jd|jd|jd
  ·obtain⟨rfl,rfl⟩:x1=lo/\x2=hi:=Gu;have r1:(x1:Int)<(x2:Int):=Gu;have r2:¬(x2:Int)<(x1:Int):=Gu;clear gz xq jd;refine Ao (S:=S) Gw qr (λhS=>?_);refine Hh 0 1 2 3 ?_;refine Hh 4 5 6 7 ?_;refine Hh 8 9 10 11 ?_;refine An Gw ?_ _;go_wp2;go_meet;exact⟨by first|rfl|exact congrArg (Value.int .i64) Gu,by first|rfl|exact congrArg (Value.int .i64) Gu,HH⟩
  subst jd;obtain⟨rfl,rfl⟩:x1=lo/\x1=hi:=Gu;clear gz xq;rotate_left;obtain⟨rfl,rfl⟩:x2=lo/\x1=hi:=Gu;have r1:(x2:Int)<(x1:Int):=Gu;have r2:¬(x1:Int)<(x2:Int):=Gu;clear gz xq jd
  all_goals
   refine Ao (S:=S) Gw qr (λhS=>?_);refine Hh 0 1 2 3 ?_;refine Hh 4 5 6 7 ?_;refine Hh 8 9 10 11 ?_;refine An Gw ?_ _;go_wp2;go_meet;exact⟨by first|rfl|exact congrArg (Value.int .i64) Gu,by first|rfl|exact congrArg (Value.int .i64) Gu,HH⟩
 case rest=>
 obtain⟨rfl,rfl,HH⟩:=hcut;clear H c0 c1 c2;go_wp2
 go_loopw [20] (λIP wr=>∃e:Nat,IP= Aa Ac e/\e<=3/\Hid (Bx w ([(N,#[a,b],25),(P,#[Aa Ac x0,x1,x2],266),(U,#[Aa Ab 0,Aa Ac 0],194)]) wr)/\Hid (∀j,j<e->nbI a b (lo:Int) (j:Int)≠((hi:Int),0))) (λIP _=>3-(intOf IP).toNat)
 case atStart=>exact⟨0,rfl,Gu,HH,Ah λj hj=>absurd hj Gu⟩
 obtain⟨e,rfl,he,HH,HE⟩:=hrel;by_cases h3:e<3
 ·have q1:(e:Int)<3:=Gu;have q2:(e:Int)<=255:=Gu;obtain⟨⟨a0,a1⟩,-⟩:=Hn (HH.out.b 0);have fd:=GD.out (lo:Int) (e:Int) Gu wr HH.out.below;have bi:=PI.out e h3;obtain⟨⟨nn,er⟩,hz⟩:=ey (nbI a b (lo:Int) (e:Int));rw[hz]at fd bi;have HZ:=Ah hz;have l_:=Ah fd;have PJ:=Ah bi;clear fd bi hz;go_wp2_with fail;refine l_.out.mono ?_;rintro en w2 ⟨rfl,hb⟩;have H2:=HH.out.call hb;clear l_ a0 a1 hb HH;unfold eQ;dsimp only;have PH:=((H2.set 2 0 rfl (Aa Ab (lo:Int))).set 2 1 rfl (Aa Ac (e:Int)));by_cases h0:er=0
  ·subst h0;by_cases hn:nn=(hi:Int)
   ·subst hn;have hF:=PJ.out rfl (HE.out);have HF:=Ah (show R=(lo,e)by rw[<-HR.out,hF]);obtain⟨⟨u0,u1⟩,u2,u3⟩:=Hn (H2.b 2);clear PJ hF HZ;go_wp2_with fail;rw[HF.out];exact Ai (Mm rfl rfl (PH.range 2 rfl) Tryz.underlying194 rfl Gw) rfl ⟨rfl,PH.below⟩
   ·have q5:(nn==(hi:Int))=false:=by simpa using hn
    have HK:Hid (∀j,j<e+1->nbI a b (lo:Int) (j:Int)≠((hi:Int),0)):=Ah λj hj=>by
     by_cases e1:j=e
     ·subst e1;rw[HZ.out];intro hc;exact hn (congrArg Prod.fst hc)
     ·exact HE.out j Gu
    have uo:=Ah H2;clear PJ HZ H2 PH hn;go_wp2;exact⟨⟨e+1,by go_num,Gu,uo,HK⟩,by simp[intOf];omega⟩
  ·have q5:(er==0)=false:=by simpa using h0
   have HK:Hid (∀j,j<e+1->nbI a b (lo:Int) (j:Int)≠((hi:Int),0)):=Ah λj hj=>by
    by_cases e1:j=e
    ·subst e1;rw[HZ.out];intro hc;exact h0 (congrArg Prod.snd hc)
    ·exact HE.out j Gu
   have uo:=Ah H2;clear PJ HZ H2 PH h0;go_wp2;exact⟨⟨e+1,by go_num,Gu,uo,HK⟩,by simp[intOf];omega⟩
 ·obtain rfl:e=3:=Gu;have HF:=Ah (show R=(0,0)by rw[<-HR.out,PT.out HE.out]);have H2:=HH.out;have PH:=((H2.set 2 0 rfl (Aa Ab 0)).set 2 1 rfl (Aa Ac 0));obtain⟨⟨u0,u1⟩,u2,u3⟩:=Hn (H2.b 2);clear h3;go_wp2_with fail;rw[HF.out];exact Ai (Mm rfl rfl (PH.range 2 rfl) Tryz.underlying194 rfl Gw) rfl ⟨rfl,PH.below⟩
theorem Ao7 (c e:Nat) (k kk:Int) (Wb Kb M:Nat) (mp:List ((Int×Int)×Ak)) (v:Bool) (w:Aj) (hW:w.heap[Wb]? =Af (Cn #[.bool v] 4 (0,0))) (hK:w.cell? ⟨Kb,0,Ae⟩=Af (.map (Af M))) (hM:Km unK w M mp) (hg:(Of ((c:Int),(e:Int)) mp).getD (Aa Ac 0)= Aa Ac kk):
  Al Do 99 #[.agg #[(c:Int),Aa Ac (e:Int)],Aa Ac k,.pointer (Af ⟨Wb,0,Ae⟩),.pointer (Af ⟨Kb,0,Ae⟩)] w
   λen w'=>en= .returned (.tuple #[])/\Below Wb w w'/\w'.heap[Wb]? =Af (Cn #[.bool (v||(decide (kk≠3)&&decide (kk≠k)))] 4 (0,0))/\w.heap.size<=w'.heap.size/\∀g,g<w.heap.size->g≠Wb->w'.heap[g]? =w.heap[g]? :=by
 have DA:=(Au.1 hW).1;have H:=(Bx.start w).new #[(c:Int),Aa Ac (e:Int)] 194 rfl;have ZW:=kept H.below hW DA;have hK1:=Gv H.below hK;have GI:=hM.below H.below hM.lt;obtain⟨a0,a1⟩:=Me ZW;obtain⟨R,hR⟩:=ey ((v||(decide (kk≠3)&&decide (kk≠k))));rw[hR];have HR:=Ah hR;have dy:=λW' (h:Km unK W' M mp)=>Wf Tq Tryz.underlying190 (et:=166) (z:= Aa Ac 0) (λw=>Gw) h ((c:Int),(e:Int)) false;rw[hg]at dy;unfold unK at dy;simp only[Ej,if_false]at dy;have gn:=dy _ GI
 have aw:Hid (∀W,W=(w.alloc (.cells #[(c:Int),Aa Ac (e:Int)] 194)).setCell ⟨Wb,0,Ae⟩ (.bool R)->Below Wb w W/\W.heap[Wb]? =Af (Cn #[.bool R] 4 (0,0))/\w.heap.size<=W.heap.size/\∀g,g<w.heap.size->g≠Wb->W.heap[g]? =w.heap[g]?):=Ah λW h=>by
  subst h;exact⟨(((Ag Wb w).alloc Gu _)).setCell (p:=⟨Wb,0,Ae⟩) (Am _) _,by rw[Jv _ ZW];rfl,Gx,λg hg hgW=>(Dp _ ⟨Wb,0,Ae⟩ _ g (by show g≠Wb;exact hgW)).trans (Eg w _ g hg)⟩
 obtain⟨⟨b0,b1⟩,-⟩:=Hn (H.b 0);clear hW hK hM hg hR dy ZW GI DA;go_enter Tryz.func99,Tryz.ntmps99;go_upto_region 1 with fail;generalize w.heap.size=N at H b0 b1⊢;generalize w.alloc _=W0 at H gn aw a0 a1 hK1 b0 b1⊢;clear H
 cases v with
 |true=>
  have hR:R=true:=by rw[<-HR.out];rfl
  subst hR;go_wp2_with fail
  go_end0
  exact⟨rfl,aw.out _ rfl⟩
 |false=>
  by_cases h3:kk=3
  ·subst h3;have hR:R=false:=by rw[<-HR.out];rfl
   subst hR;go_wp2_with fail
   go_end0
   exact⟨rfl,aw.out _ rfl⟩
  ·have q1:(kk != 3)=true:=by simpa using h3
   by_cases h4:kk=k
   ·subst h4;have hR:R=false:=by rw[<-HR.out];simp
    subst hR;go_wp2_with fail
    go_end0
    exact⟨rfl,aw.out _ rfl⟩
   ·have q2:(kk != k)=true:=by simpa using h4
    have hR:R=true:=by rw[<-HR.out];simp[h3,h4]
    subst hR;go_wp2_with fail
    go_end0
    exact⟨rfl,aw.out _ rfl⟩
theorem Cb6 {w:Aj} {O:Nat} {A:Option Ci} {l:List Sm} (h:Lm w O A l) (i:Nat) (hi:i<l.length):
  ∃b o A1 A2 A3,A=Af ⟨b,o,Ae⟩/\(w.cell? ⟨b,o+i*9,Ae⟩=Af (Aa Ab l[i].a.x)/\w.cell? ⟨b,o+i*9+1,Ae⟩=Af (Aa Ab l[i].a.y)/\w.cell? ⟨b,o+i*9+2,Ae⟩=Af (Aa Ac l[i].a.q)/\w.cell? ⟨b,o+i*9+3,Ae⟩=Af (Aa Ab l[i].b.x)/\w.cell? ⟨b,o+i*9+4,Ae⟩=Af (Aa Ab l[i].b.y)/\w.cell? ⟨b,o+i*9+5,Ae⟩=Af (Aa Ac l[i].b.q)/\
   w.cell? ⟨b,o+i*9+6,Ae⟩=Af (Ad A1 l[i].ps.length l[i].ps.length)/\w.cell? ⟨b,o+i*9+7,Ae⟩=Af (Ad A2 l[i].ls.length l[i].ls.length)/\w.cell? ⟨b,o+i*9+8,Ae⟩=Af (Ad A3 l[i].es.length l[i].es.length))/\Oh w O l[i] A1 A2 A3:=by
 obtain⟨z,rfl,h2,h3⟩:=h;have hiz:i<z.length:=by simpa using hi
 have hr:=h2.rd;obtain⟨b,o,e,-,hc⟩:=hr.2 Gu;have bi:∀f,f<9->(z.flatMap smC)[i*9+f]? =(smC z[i])[f]? :=λf hf=>Iv smC 9 Qu _ i f hiz hf;have ag:=h3 z[i] (Ay hiz);simp only[List.getElem_map];exact⟨b,o,z[i].2.1,z[i].2.2.1,z[i].2.2.2,e,⟨hc (i*9+0) _ ((bi 0 Gu).trans rfl),hc (i*9+1) _ ((bi 1 Gu).trans rfl),hc (i*9+2) _ ((bi 2 Gu).trans rfl),hc (i*9+3) _ ((bi 3 Gu).trans rfl),hc (i*9+4) _ ((bi 4 Gu).trans rfl),hc (i*9+5) _ ((bi 5 Gu).trans rfl),hc (i*9+6) _ ((bi 6 Gu).trans rfl),hc (i*9+7) _ ((bi 7 Gu).trans rfl),hc (i*9+8) _ ((bi 8 Gu).trans rfl)⟩,ag⟩
theorem kJ (a b:Int) (pv:Ak) (root:Mv) (A:Option Ci) (l:List Stk) (n cc:Nat) (uv:Ak) (O:Nat) (A2:Option Ci) (r:List Sm) (m:Nat) (w:Aj) (hn:n=l.length) (h:Hz w A l) (hl:n<=100000) (ij:∀x∈l,x.ls.length<=100000)
  (hm:m=r.length) (ig:m<=1000000) (hr:Lm w O A2 r) (na:∀s∈r,s.ps.length<=1000000/\s.ls.length<=1000000):
  Al Do 97 #[.agg (Zd a b pv root (Ad A n cc) uv (Ad A2 m m))] w (Gy (Aa Ab (if r.any (Ke l)then 12 else 0)) w):=by
 have HS:=Ah (λ(w':Aj) (hb:Below w.heap.size w w')=>hr.below hb);have HC:=Ah (λ(s:Sm) (hs:s∈r) (w':Aj) (hb:Below w.heap.size w w') (A1 A2 A3:Option Ci) (zy:Oh w' O s A1 A2 A3)=>nF s A1 A2 A3 s.ps.length s.ps.length s.ls.length s.ls.length s.es.length s.es.length A l n cc w' hn (h.below hb) hl ij rfl zy.1.2.rd (na s hs).1 rfl zy.2.1.2.rd (na s hs).2);have HM:=Ah hm;obtain⟨R,hR⟩:∃z:Int,(if r.any (Ke l)then 12 else 0)=z:=⟨_,rfl⟩;rw[hR];have HR:=Ah hR;clear hR;obtain⟨rt,rx,ry⟩:=root;unfold Zd;dsimp only;have H:=(Bx.start w).new #[a,b,pv,Aa Ac rt,rx,ry,Ad A n cc,uv,Ad A2 m m] 186 rfl;clear hn h ij hm hr na;go_enter Tryz.func97,Tryz.ntmps97;go_upto_region 1 with fail;obtain⟨N,hN⟩:=ez w.heap.size;rw[<-hN]at H⊢;have db:=Ah hN;clear hN;generalize w.alloc _=W at H⊢;obtain⟨-,-,-,-,-,-,-,-,c8⟩:=cV (H.b 0);go_wp2_with fail;clear c8;have H:=Ah H
 go_loopw [8] (λs8 wr=>∃i:Nat,i<=m/\s8= Aa Ab i/\Hid (Bx w [(N,#[a,b,pv,Aa Ac rt,rx,ry,Ad A n cc,uv,Ad A2 m m],186)] wr)/\Hid (∀j (hj:j<r.length),j<i->Ke l r[j]=false)) (λs8 _=>m-(intOf s8).toNat)
 case atStart=>exact⟨0,Gu,rfl,H,Ah λj _ hj=>absurd hj Gu⟩
 obtain⟨i,hi,rfl,HH,HF⟩:=hrel;by_cases ad:i<m
 ·have bv:i<r.length:=oHx HM.out;have q0:(i:Int)<(m:Int):=Gu;obtain⟨sb,so,B1,B2,B3,qf,⟨d0,d1,d2,d3,d4,d5,d6,d7,d8⟩,zy⟩:=Cb6 (HS.out _ HH.out.below) i bv;have mw:=Ay bv;obtain⟨s,hs⟩:=ey (r[i]);rw[hs]at d0 d1 d2 d3 d4 d5 d6 d7 d8 zy mw;have vn:=Ah (λ(w':Aj) (hb:Below wr.heap.size wr w')=>HC.out s mw w' (HH.out.below.trans (hb.mono HH.out.below.size)) B1 B2 B3 (zy.same λg _ hg=>hb.block g hg))
  have oh:=Ah (λ(hc:Ke l s=false) (j:Nat) (hj:j<r.length) (BO:j<i+1)=>show Ke l r[j]=false by
   by_cases kj:j=i
   ·subst kj;rw[hs];exact hc
   ·exact HF.out j hj Gu)
  have HYS:=Ah (λ(hc:Ke l s=true)=>show R=12 by
   rw[<-HR.out,Hd (Ev.2 ⟨s,mw,hc⟩)])
  obtain⟨x,hx⟩:=ey (Ke l s);rw[hx]at vn oh HYS;obtain⟨⟨s0,s1,s2⟩,⟨t0,t1,t2⟩,ps,ls,es⟩:=s;dsimp only at d0 d1 d2 d3 d4 d5 d6 d7 d8 vn;unfold Sm.cells at vn;dsimp only at vn;obtain⟨np,ob⟩:=ey ps.length;obtain⟨nl,jv⟩:=ey ls.length;obtain⟨ne,hne⟩:=ey es.length;rw[ob]at d6 vn;rw[jv]at d7 vn;rw[hne]at d8 vn;obtain⟨C,hC⟩:=ey wr.heap.size;have H2:=HH.out.new #[s0,s1,Aa Ac s2,t0,t1,Aa Ac t2,Ad B1 np np,Ad B2 nl nl,Ad B3 ne ne] 263 hC;have cg:=Ah ((Ag wr.heap.size wr).alloc (Am _) (.cells #[s0,s1,Aa Ac s2,t0,t1,Aa Ac t2,Ad B1 np np,Ad B2 nl nl,Ad B3 ne ne] 263));subst qf;clear hs zy mw hx ob jv hne;go_upto_region 4 with fail
  try rw[hC]
  generalize wr.alloc _=W2 at H2 cg⊢;clear d0 d1 d2 d3 d4 d5 d6 d7 d8 hC;have T0:W2.cell? ⟨N,6,Ae⟩=Af (Ad A n cc):=(By W2 N 6 _ _ (0,0) (H2.b 0)).trans rfl;obtain⟨e0,e1,e2,e3,e4,e5,e6,e7,e8⟩:=cV (H2.b 1);go_wp2_with fail;refine(vn.out _ cg.out).mono ?_;rintro ee w3 ⟨v,rfl,hv,hb⟩;have H3:=Ah ((H2.call hb).upto 1);clear e0 e1 e2 e3 e4 e5 e6 e7 e8 T0 hb cg vn H2 HH
  cases x with
  |true=>
   have q1:(v != 0)=true:=by simpa using hv
   have jq:=Ah (HYS.out rfl);clear hv;go_wp2;go_ret;exact⟨by have h:=jq.out;subst h;rfl,H3.out.below⟩
  |false=>
   have q1:(v != 0)=false:=by simpa using hv
   have XU:=Ah (oh.out rfl);clear oh HYS hv;go_wp2;exact⟨⟨i+1,Gu,by go_num,H3,XU⟩,by simp[intOf];omega⟩
 ·have q0:¬(i:Int)<(m:Int):=Gu
  have hR:R=0:=by
   rw[<-HR.out,Gz];intro hc;obtain⟨s,hs,DH⟩:=Ev.1 hc;obtain⟨j,hj,rfl⟩:=Be.1 hs;rw[HF.out j hj (oHx HM.out)]at DH
   cases DH
  have jq:=Ah hR;clear hR;go_wp2;go_ret;exact⟨by have h:=jq.out;subst h;rfl,HH.out.below⟩
theorem Bw8 {w:Aj} {A:Option Ci} {z:List SmZ} (h:Rd w A 9 z.length (z.flatMap smC)) (i:Nat) (hi:i<z.length):
  ∃b o,A=Af ⟨b,o,Ae⟩/\(w.cell? ⟨b,o+i*9,Ae⟩=Af (Aa Ab z[i].1.a.x)/\w.cell? ⟨b,o+i*9+1,Ae⟩=Af (Aa Ab z[i].1.a.y)/\w.cell? ⟨b,o+i*9+2,Ae⟩=Af (Aa Ac z[i].1.a.q)/\w.cell? ⟨b,o+i*9+3,Ae⟩=Af (Aa Ab z[i].1.b.x)/\w.cell? ⟨b,o+i*9+4,Ae⟩=Af (Aa Ab z[i].1.b.y)/\w.cell? ⟨b,o+i*9+5,Ae⟩=Af (Aa Ac z[i].1.b.q)/\
   w.cell? ⟨b,o+i*9+6,Ae⟩=Af (.slice z[i].2.1 z[i].1.ps.length z[i].1.ps.length)/\w.cell? ⟨b,o+i*9+7,Ae⟩=Af (.slice z[i].2.2.1 z[i].1.ls.length z[i].1.ls.length)/\w.cell? ⟨b,o+i*9+8,Ae⟩=Af (.slice z[i].2.2.2 z[i].1.es.length z[i].1.es.length)):=by
 obtain⟨b,o,e,-,hc⟩:=h.2 Gu;have bi:∀f,f<9->(z.flatMap smC)[i*9+f]? =(smC z[i])[f]? :=λf hf=>Iv smC 9 Qu _ i f hi hf;exact⟨b,o,e,⟨hc (i*9+0) _ ((bi 0 Gu).trans rfl),hc (i*9+1) _ ((bi 1 Gu).trans rfl),hc (i*9+2) _ ((bi 2 Gu).trans rfl),hc (i*9+3) _ ((bi 3 Gu).trans rfl),hc (i*9+4) _ ((bi 4 Gu).trans rfl),hc (i*9+5) _ ((bi 5 Gu).trans rfl),hc (i*9+6) _ ((bi 6 Gu).trans rfl),hc (i*9+7) _ ((bi 7 Gu).trans rfl),hc (i*9+8) _ ((bi 8 Gu).trans rfl)⟩⟩
structure Bo4 (w:Aj) (U:Option Ci) (nu:Nat) (up:List Bool) (Kb M:Nat) (mp:List ((Int×Int)×Ak)) (A2:Option Ci) (z:List SmZ):Prop where
 seams:Rd w A2 9 z.length (z.flatMap smC)
 rows:∀x∈z,Rd w x.2.2.1 3 x.1.ls.length (Nn x.1.ls)
 up:Rd w U 1 nu (Ib up)
 qt:Qt w
 map:Km unK w M mp
 kb:w.cell? ⟨Kb,0,Ae⟩=Af (.map (Af M))
theorem Af5 (a b:Int) (pv:Ak) (root:Mv) (sv:Ak) (U:Option Ci) (nu cu:Nat) (up:List Bool) (A2:Option Ci) (z:List SmZ) (m Wb Kb M:Nat) (mp:List ((Int×Int)×Ak)) (cr:List Cr) (w:Aj) (hs:okS a b=true)
  (hW:w.heap[Wb]? =Af (Cn #[.bool false] 4 (0,0))) (hm:m=z.length) (ig:m<=1000000) (pu:nu=up.length) (HL:∀w',Below Wb w w'->Bo4 w' U nu up Kb M mp A2 z)
  (jn:∀c e:Nat,(Of ((c:Int),(e:Int)) mp).getD (Aa Ac 0)= Aa Ac (Hm cr c e)) (hz:∀x∈z,x.1.ls.length<=1000000/\∀y∈x.1.ls,y.2.2<nu):
  Al Do 98 #[.agg (Zd a b pv root sv (Ad U nu cu) (Ad A2 m m)),.func (.func 99) #[] #[.pointer (Af ⟨Wb,0,Ae⟩),.pointer (Af ⟨Kb,0,Ae⟩)]] w
   λen w'=>en= .returned (.tuple #[])/\Below Wb w w'/\w'.heap[Wb]? =Af (Cn #[.bool (z.any λx=>x.1.ls.any (Iz a b cr up))] 4 (0,0)):=by
 have jp:=Ah HL;have HM:=Ah hm;have HZ:=Ah hz;have vo:=Ah jn;have HS:=Ah hs;have IZ:=Ah pu;have DA:=(Au.1 hW).1;obtain⟨rt,rx,ry⟩:=root;have HKI:=Ah (λ(x:Nat×Nat×Nat) (w':Aj) (h:Rd w' U 1 nu (Ib up)) (hx:x.2.2<nu)=>At2 a b pv ⟨rt,rx,ry⟩ sv (Ad A2 m m) U up nu cu x w' pu h hx);unfold Zd at HKI⊢;dsimp only at HKI⊢;obtain⟨N,hN⟩:=ey w.heap.size;obtain⟨W,hWd⟩:=ey (w.alloc (.cells #[a,b,pv,Aa Ac rt,rx,ry,sv,Ad U nu cu,Ad A2 m m] 186));have hNb:W.heap[N]? =Af (.cells #[a,b,pv,Aa Ac rt,rx,ry,sv,Ad U nu cu,Ad A2 m m] 186 (0,0)):=by rw[<-hWd,<-hN];exact Bz w _
 have hbW:Below Wb w W:=by rw[<-hWd];exact(Ag Wb w).alloc Gu _
 have hWW:W.heap[Wb]? =Af (Cn #[.bool ((z.take 0).any λx=>x.1.ls.any (Iz a b cr up))] 4 (0,0)):=by rw[<-hWd];exact(Eg w _ Wb DA).trans hW
 have hNW:N≠Wb:=Gu;have fw:Hid (Below Wb w W/\W.heap[N]? =Af (.cells #[a,b,pv,Aa Ac rt,rx,ry,sv,Ad U nu cu,Ad A2 m m] 186 (0,0))/\W.heap[Wb]? =Af (Cn #[.bool ((z.take 0).any λx=>x.1.ls.any (Iz a b cr up))] 4 (0,0))):=Ah ⟨hbW,hNb,hWW⟩;clear HL hm hz jn hs pu hW DA;go_enter Tryz.func98,Tryz.ntmps98;go_upto_region 1 with fail
 try rw[hN]
 try rw[hWd]
 obtain⟨-,-,-,-,-,-,-,-,c8⟩:=cV hNb;clear hN hWd hNb hbW hWW;go_wp2_with fail;clear c8
 go_loopw [11] (λtu wr=>∃i:Nat,i<=m/\tu= Aa Ab i/\Hid (Below Wb w wr/\wr.heap[N]? =Af (.cells #[a,b,pv,Aa Ac rt,rx,ry,sv,Ad U nu cu,Ad A2 m m] 186 (0,0))/\wr.heap[Wb]? =Af (Cn #[.bool ((z.take i).any λx=>x.1.ls.any (Iz a b cr up))] 4 (0,0)))) (λtu _=>m-(intOf tu).toNat)
 case atStart=>exact⟨0,Gu,rfl,fw⟩
 obtain⟨i,hi,rfl,HI⟩:=hrel;clear fw;by_cases ad:i<m
 ·have bv:i<z.length:=oHx HM.out;have q0:(i:Int)<(m:Int):=Gu;have FG:=jp.out wr HI.out.1;obtain⟨sb,so,qf,d0,d1,d2,d3,d4,d5,d6,d7,d8⟩:=Bw8 FG.seams i bv;have V9:=HZ.out _ (Ay bv)
  have ra:(z.take (i+1)).any (λx=>x.1.ls.any (Iz a b cr up))=((z.take i).any (λx=>x.1.ls.any (Iz a b cr up))||z[i].1.ls.any (Iz a b cr up)):=by
   rw[Bc bv,List.any_append];simp
  have zy:=λw' (hb:Below Wb w w')=>(jp.out w' hb).rows _ (Ay bv);obtain⟨x,hx⟩:=ey (z[i]);rw[hx]at d0 d1 d2 d3 d4 d5 d6 d7 d8 V9 ra zy;obtain⟨⟨⟨s0,s1,s2⟩,⟨t0,t1,t2⟩,ps,ls,es⟩,B1,B2,B3⟩:=x;dsimp only at d0 d1 d2 d3 d4 d5 d6 d7 d8 V9 ra zy;obtain⟨np,ob⟩:=ey ps.length;obtain⟨nl,jv⟩:=ey ls.length;obtain⟨ne,hne⟩:=ey es.length;rw[ob]at d6;rw[jv]at d7 V9 zy;rw[hne]at d8;have lv:=Ah jv;have HZM:=Ah V9;have YG:=Ah ra;have NW:=Ah zy;have hnl6:=V9.1;obtain⟨C,hC⟩:=ey wr.heap.size;have DF:=Bz wr (.cells #[s0,s1,Aa Ac s2,t0,t1,Aa Ac t2,Ad B1 np np,Ad B2 nl nl,Ad B3 ne ne] 263);have GJ:=(Au.1 HI.out.2.1).1;have DA:=(Au.1 HI.out.2.2).1
  have IW:Hid (Below Wb w (wr.alloc (.cells #[s0,s1,Aa Ac s2,t0,t1,Aa Ac t2,Ad B1 np np,Ad B2 nl nl,Ad B3 ne ne] 263))/\(wr.alloc (.cells #[s0,s1,Aa Ac s2,t0,t1,Aa Ac t2,Ad B1 np np,Ad B2 nl nl,Ad B3 ne ne] 263)).heap[N]? =Af (.cells #[a,b,pv,Aa Ac rt,rx,ry,sv,Ad U nu cu,Ad A2 m m] 186 (0,0))/\
    (wr.alloc (.cells #[s0,s1,Aa Ac s2,t0,t1,Aa Ac t2,Ad B1 np np,Ad B2 nl nl,Ad B3 ne ne] 263)).heap[Wb]? =Af (Cn #[.bool ((z.take i).any (λx=>x.1.ls.any (Iz a b cr up))||(ls.take 0).any (Iz a b cr up))] 4 (0,0))):=
   Ah ⟨HI.out.1.alloc Gu _,(Eg wr _ N GJ).trans HI.out.2.1,by rw[List.take_zero,List.any_nil,Bool.or_false];exact(Eg wr _ Wb DA).trans HI.out.2.2⟩
  rw[hC]at DF;subst qf;clear FG V9 ra zy hx ob jv hne;go_upto_region 4 with fail
  try rw[hC]
  generalize wr.alloc _=W4 at DF IW⊢;clear d0 d1 d2 d3 d4 d5 d6 d7 d8 hC GJ DA HI;obtain⟨-,-,-,-,-,-,-,e7,-⟩:=cV DF;go_wp2_with fail;clear e7 DF;obtain⟨WX,rfl⟩:=ez wr
  go_loopw [18] (λNJ wr=>∃j:Nat,j<=nl/\NJ= Aa Ab j/\Hid (Below Wb w wr/\wr.heap[N]? =Af (.cells #[a,b,pv,Aa Ac rt,rx,ry,sv,Ad U nu cu,Ad (Af ⟨sb,so,Ae⟩) m m] 186 (0,0))/\wr.heap[Wb]? =Af (Cn #[.bool ((z.take i).any (λx=>x.1.ls.any (Iz a b cr up))||(ls.take j).any (Iz a b cr up))] 4 (0,0)))) (λNJ _=>nl-(intOf NJ).toNat)
  case atStart=>exact⟨0,Gu,rfl,IW⟩
  obtain⟨j,hj,rfl,HJ⟩:=hrel;clear IW;by_cases gp:j<nl
  ·have lz:j<ls.length:=oHx lv.out;have q1:(j:Int)<(nl:Int):=Gu;obtain⟨lb,lo,dl,hlbl,r0,r1,r2⟩:=lQ (NW.out wr HJ.out.1) j lz
   have LV:(ls.take (j+1)).any (Iz a b cr up)=((ls.take j).any (Iz a b cr up)||Iz a b cr up ls[j]):=by
    rw[Bc lz,List.any_append];simp
   have JV:=HZM.out.2 _ (Ay lz);obtain⟨y,hy⟩:=ey (ls[j]);rw[hy]at r0 r1 r2 LV JV;have LK:=λw' hQ=>sL a b y w' HS.out hQ;have LX:=λw' h=>HKI.out y w' h JV;unfold Iz at LV;obtain⟨⟨cc,ce⟩,fy⟩:=ey (Mr a b y);rw[fy]at LK LV;obtain⟨kl,bc⟩:=ey (iK up y);rw[bc]at LX LV;obtain⟨y0,y1,y2⟩:=y;unfold pC at LK LX;dsimp only at r0 r1 r2 LV JV LK LX;obtain⟨v,hv⟩:∃x,((z.take i).any (λx=>x.1.ls.any (Iz a b cr up))||(ls.take j).any (Iz a b cr up))=x:=⟨_,rfl⟩
   have AA:((z.take i).any (λx=>x.1.ls.any (Iz a b cr up))||(ls.take (j+1)).any (Iz a b cr up))=(v||(decide (Hm cr cc ce≠3)&&decide (Hm cr cc ce≠kl))):=by
    unfold Iz at hv⊢;rw[LV,<-hv,Bool.or_assoc]
   rw[hv]at HJ;have gw:=Ah AA;have NP:=Ah LK;have jf:=Ah LX;obtain⟨D,hD⟩:=ey wr.heap.size;have hbD:=Bz wr (.cells #[Aa Ac y0,y1,y2] 266);rw[hD]at hbD;have GJ:=(Au.1 HJ.out.2.1).1;have DA:=(Au.1 HJ.out.2.2).1
   have NS:Hid (Below Wb w (wr.alloc (.cells #[Aa Ac y0,y1,y2] 266))/\(wr.alloc (.cells #[Aa Ac y0,y1,y2] 266)).heap[N]? =Af (.cells #[a,b,pv,Aa Ac rt,rx,ry,sv,Ad U nu cu,Ad (Af ⟨sb,so,Ae⟩) m m] 186 (0,0))/\(wr.alloc (.cells #[Aa Ac y0,y1,y2] 266)).heap[Wb]? =Af (Cn #[.bool v] 4 (0,0))):=
    Ah ⟨HJ.out.1.alloc Gu _,(Eg wr _ N GJ).trans HJ.out.2.1,(Eg wr _ Wb DA).trans HJ.out.2.2⟩
   have hDW:D≠Wb:=Gu;have hDN:D≠N:=Gu;subst dl;clear LV hy fy bc hv AA LK LX HJ hlbl JV;go_upto_region 7 with fail
   try rw[hD]
   generalize wr.alloc _=W7 at hbD NS⊢;clear r0 r1 r2 hD GJ DA;obtain⟨c0,c1,c2,c3,c4,c5,c6,c7,c8⟩:=cV NS.out.2.1;obtain⟨⟨g0,g1,g2⟩,-⟩:=He hbD
   obtain⟨S,an⟩:∃S:Aj->Prop,S=λW'=>(W'.cell? ⟨N,0,Ae⟩=Af (Aa Ab a)/\W'.cell? ⟨N,1,Ae⟩=Af (Aa Ab b)/\W'.cell? ⟨N,2,Ae⟩=Af pv/\W'.cell? ⟨N,3,Ae⟩=Af (Aa Ac rt)/\W'.cell? ⟨N,4,Ae⟩=Af (Aa Ab rx)/\W'.cell? ⟨N,5,Ae⟩=Af (Aa Ab ry)/\W'.cell? ⟨N,6,Ae⟩=Af sv/\W'.cell? ⟨N,7,Ae⟩=Af (Ad U nu cu)/\W'.cell? ⟨N,8,Ae⟩=Af (Ad (Af ⟨sb,so,Ae⟩) m m))/\
    W'.cell? ⟨D,0,Ae⟩=Af (Aa Ac y0)/\W'.cell? ⟨D,1,Ae⟩=Af (Aa Ab y1)/\W'.cell? ⟨D,2,Ae⟩=Af (Aa Ab y2):=⟨_,rfl⟩
   have HSO:Hid (∀W',S W'->(W'.cell? ⟨N,0,Ae⟩=Af (Aa Ab a)/\W'.cell? ⟨N,1,Ae⟩=Af (Aa Ab b)/\W'.cell? ⟨N,2,Ae⟩=Af pv/\W'.cell? ⟨N,3,Ae⟩=Af (Aa Ac rt)/\W'.cell? ⟨N,4,Ae⟩=Af (Aa Ab rx)/\W'.cell? ⟨N,5,Ae⟩=Af (Aa Ab ry)/\W'.cell? ⟨N,6,Ae⟩=Af sv/\W'.cell? ⟨N,7,Ae⟩=Af (Ad U nu cu)/\W'.cell? ⟨N,8,Ae⟩=Af (Ad (Af ⟨sb,so,Ae⟩) m m))/\
    W'.cell? ⟨D,0,Ae⟩=Af (Aa Ac y0)/\W'.cell? ⟨D,1,Ae⟩=Af (Aa Ab y1)/\W'.cell? ⟨D,2,Ae⟩=Af (Aa Ab y2)):=Ah λW' h=>by subst an;exact h
   have ae:Hid (∀W',W'.heap[N]? =W7.heap[N]? ->W'.heap[D]? =W7.heap[D]? ->S W'):=Ah λW' h h'=>by
    have hn:∀f u,W7.cell? ⟨N,f,Ae⟩=Af u->W'.cell? ⟨N,f,Ae⟩=Af u:=λf u hu=>by
     unfold World.cell? at hu⊢;rw[h];exact hu
    have hd:∀f u,W7.cell? ⟨D,f,Ae⟩=Af u->W'.cell? ⟨D,f,Ae⟩=Af u:=λf u hu=>by
     unfold World.cell? at hu⊢;rw[h'];exact hu
    subst an;exact⟨⟨hn _ _ c0,hn _ _ c1,hn _ _ c2,hn _ _ c3,hn _ _ c4,hn _ _ c5,hn _ _ c6,hn _ _ c7,hn _ _ c8⟩,hd _ _ g0,hd _ _ g1,hd _ _ g2⟩
   have GJ:=(Au.1 NS.out.2.1).1;have iu:=(Au.1 hbD).1;have DA:=(Au.1 NS.out.2.2).1;clear c0 c1 c2 c3 c4 c5 c6 c7 c8 g0 g1 g2 an;refine Ao (S:=S) Gw (ae.out _ rfl rfl) (λhS=>?_);have hb:Below W7.heap.size W7 W7.drew:=(Ag _ _).drew;generalize W7.drew=X0 at hb hS⊢;refine Hh 0 1 2 3 ?_;refine Hh 4 5 7 8 ?_;refine rdy 6 (λK hK=>?_);go_simp;refine(NP.out _ (jp.out _ (NS.out.1.trans (hb.mono Gu))).qt).mono ?_;rintro ee X1 ⟨rfl,ac⟩;have hb:=hb.trans (ac.mono hb.size);refine hK.o (ae.out _ (hb.block N GJ) (hb.block D iu)) (λhS=>?_);clear hK K ac;refine rdy 9 (λK hK=>?_);go_simp;refine(jf.out _ (jp.out _ (NS.out.1.trans (hb.mono Gu))).up).mono ?_;rintro ee X2 ⟨rfl,ac⟩;have hb:=hb.trans (ac.mono hb.size);refine hK.o (ae.out _ (hb.block N GJ) (hb.block D iu)) (λhS=>?_);clear hK K ac;have FG:=jp.out X2 (NS.out.1.trans (hb.mono Gu));have lq:=Ao7 cc ce kl (Hm cr cc ce) Wb Kb M mp v X2 ((hb.block Wb DA).trans NS.out.2.2) FG.kb FG.map (vo.out cc ce);have mi:=Ah lq;clear FG lq;refine rdy 10 (λK hK=>?_);go_simp;refine mi.out.mono ?_;rintro ee X3 ⟨rfl,bm,hw3,I8,DU⟩;have hszb:=hb.size;have OG:=(DU N Gu hNW).trans (hb.block N GJ);refine hK.o (ae.out _ OG ((DU D Gu hDW).trans (hb.block D iu))) (λhS=>?_)
   have HJ2:Hid (Below Wb w X3/\X3.heap[N]? =Af (.cells #[a,b,pv,Aa Ac rt,rx,ry,sv,Ad U nu cu,Ad (Af ⟨sb,so,Ae⟩) m m] 186 (0,0))/\X3.heap[Wb]? =Af (Cn #[.bool ((z.take i).any (λx=>x.1.ls.any (Iz a b cr up))||(ls.take (j+1)).any (Iz a b cr up))] 4 (0,0))):=
    Ah ⟨(NS.out.1.trans (hb.mono Gu)).trans bm,OG.trans NS.out.2.1,by rw[gw.out];exact hw3⟩
   clear hK K hb bm hw3 I8 DU OG hS HSO ae mi;refine An Gw ?_ _;go_wp2;exact⟨⟨j+1,Gu,by go_num,HJ2⟩,by simp[intOf];omega⟩
  ·obtain rfl:j=nl:=Gu;have q1:¬(j:Int)<(j:Int):=Gu;have ht:ls.take j=ls:=Bg (oHx lv.out)
   have HJ2:Hid (Below Wb w wr/\wr.heap[N]? =Af (.cells #[a,b,pv,Aa Ac rt,rx,ry,sv,Ad U nu cu,Ad (Af ⟨sb,so,Ae⟩) m m] 186 (0,0))/\wr.heap[Wb]? =Af (Cn #[.bool ((z.take (i+1)).any λx=>x.1.ls.any (Iz a b cr up))] 4 (0,0))):=Ah (by
    rw[YG.out];have:=HJ.out;rw[ht]at this;exact this)
   clear ht;go_wp2;exact⟨⟨i+1,Gu,by go_num,HJ2⟩,by simp[intOf];omega⟩
 ·obtain rfl:i=m:=Gu;have q0:¬(i:Int)<(i:Int):=Gu;have ht:z.take i=z:=Bg (oHx HM.out);rw[ht]at HI;have HI:=Ah HI.out;clear ht;go_wp2_with fail
  go_end0
  exact⟨rfl,HI.out.1,HI.out.2.2⟩
theorem Az6 {a b:Int} {cr:List Cr} {root:Mv} {l:List Stk} (hE:Ow a b cr root l=0) (hp:Lq a b cr):
  (∀s∈(eV a b cr root l).seams,aD (Hg a b) (3*Hg a b) s)/\(eV a b cr root l).seams.length<=3*Hg a b:=by
 have JL:(Ia a b cr root).2=0:=by
  unfold Ow at hE
  split at hE
  ·contradiction
  ·rename_i g;exact Ek.1 g
 obtain⟨h1,h2,h3,h4⟩:=Ny JL;have jm:rM (eV a b cr root l) (Hg a b):=⟨rfl,h1,h2,dZ _ _,h3,h4,hp⟩;exact Uk jm (3*Hg a b) (Am _)
theorem aD.perm {N j:Nat} {s t:Sm} (h:aD N j s) (hp:SmP s t):aD N j t:=
 ⟨hp.a▸h.qa,hp.b▸h.qb,λp hm=>h.ps p (hp.ps.mem_iff.2 hm),λp hm=>h.ls p (hp.ls.mem_iff.2 hm),hp.ps.length_eq▸h.lp,hp.ls.length_eq▸h.ll,hp.es.length_eq▸h.le⟩
theorem Bx5 {N j:Nat} {ss r:List Sm} (h:Am9 ss r) (hs:∀s∈ss,aD N j s):(∀t∈r,aD N j t)/\r.length=ss.length:=by
 obtain⟨z,h1,rfl,h2⟩:=h;refine⟨λt ht=>?_,by rw[h1.length_eq];simp⟩;obtain⟨p,hp,rfl⟩:=Dq.1 ht;exact(hs p.1 (h1.mem_iff.2 (Dq.2 ⟨p,hp,rfl⟩))).perm (h2 p hp)
theorem Bc8 {a b:Int} {cr:List Cr} {root:Mv} {l:List Stk} (hE:Ow a b cr root l=0):(upF a b cr root).1.length=Hg a b:=by
 have JL:(Ia a b cr root).2=0:=by
  unfold Ow at hE
  split at hE
  ·contradiction
  ·rename_i g;exact Ek.1 g
 obtain⟨h1,-⟩:=Ny JL;unfold upF;rw[Gz (λh=>h JL),Bo,h1]
def kdM (l:List Cr):List ((Int×Int)×Ak):=l.foldl (λm r=>Ro (r.c,r.e) (Aa Ac r.k) m) []
theorem As9 (l:List Cr) (i:Nat) (h:i<l.length):kdM (l.take (i+1))=Ro (l[i].c,l[i].e) (Aa Ac l[i].k) (kdM (l.take i)):=by
 unfold kdM;rw[Bc h,List.foldl_append];rfl
theorem Bi8 {l:List Cr} (h:l.Pairwise λr q=>Kv r.c r.e q.c q.e<0) (c e:Int):(Of (c,e) (kdM l)).getD (Aa Ac 0)= Aa Ac (Hm l c e):=by
 have key:∀(l:List Cr) (m:List ((Int×Int)×Ak)),(l.Pairwise λr q=>Kv r.c r.e q.c q.e<0)->
   Of (c,e) (l.foldl (λm r=>Ro (r.c,r.e) (Aa Ac r.k) m) m)=match l.find? λr=>decide (r.c=c)&&decide (r.e=e)with|some r=>Af (Aa Ac r.k)|none=>Of (c,e) m:=by
  intro l
  induction l with
  |nil=>intro m _;rfl
  |cons r t ih=>
   intro m hp;obtain⟨h1,h2⟩:=List.pairwise_cons.1 hp;rw[List.foldl_cons,ih _ h2,dX,List.find?_cons];by_cases hr:r.c=c/\r.e=e
   ·have hnone:t.find? (λr=>decide (r.c=c)&&decide (r.e=e))=Ae:=by
     rw[List.find?_eq_none];intro q hq hh;simp only[El,Lg]at hh;have:=h1 q hq;rw[hr.1,hr.2,hh.1,hh.2,lJ.2 ⟨rfl,rfl⟩]at this;omega
    rw[hnone];simp[hr.1,hr.2]
   ·have hne:¬((c,e)=(r.c,r.e)):=λx=>hr (by simp at x;exact⟨x.1.symm,x.2.symm⟩)
    have hd:(decide (r.c=c)&&decide (r.e=e))=false:=by
     rw[<-Eo,El,Lg,Lg];exact hr
    rw[Gz hne,hd]
 unfold kdM;rw[key l [] h];unfold Hm
 cases l.find? λr=>decide (r.c=c)&&decide (r.e=e)with
 |none=>rfl
 |some r=>rfl
theorem Cd5 {z:List SmZ} {f:Sm->Bool}:(z.any λx=>f x.1)=(z.map (·.1)).any f:=by
 rw[List.any_map];rfl
theorem aL (a b:Int) (pA:Option Ci) (cr:List Cr) (pn pc:Nat) (root:Mv) (A:Option Ci) (l:List Stk) (n cc:Nat) (w:Aj) (hp:Lq a b cr) (mc:pn=cr.length) (fp:Rd w pA 3 pn (crs cr)) (dw:pn<=1000000) (ht:root.t<=255)
  (hn:n=l.length) (h:Hz w A l) (hl:n<=100000) (ij:∀x∈l,x.ls.length<=100000) (vj:∀x∈l,x.c.q<=255) (hQ:Qf w) (hT:Tn w):
  Al Do 52 #[.agg #[a,b,Ad pA pn pc,Aa Ac root.t,Aa Ab root.x,Aa Ab root.y,Ad A n cc]] w (Gy (Aa Ab (St.chk ⟨a,b,cr,root,l⟩)) w):=by
 have O0:=Ah (λ(w':Aj) (hb:Below w.heap.size w w')=>At9 a b pA cr pn pc root A l n cc w' hp mc (fp.below hb) dw ht hn (h.below hb) hl ij vj (hQ.below hb) (hT.below hb));have sk:=Ah (λ(w':Aj) (hb:Below w.heap.size w w') (uv:Ak) (O:Nat) (A2:Option Ci) (r:List Sm) (hr:Lm w' O A2 r) (ig:r.length<=1000000) (na:∀s∈r,s.ps.length<=1000000/\s.ls.length<=1000000)=>kJ a b (Ad pA pn pc) root A l n cc uv O A2 r r.length w' hn (h.below hb) hl ij rfl ig hr na);have HLP:=Ah (λ(U:Option Ci) (nu cu:Nat) (up:List Bool) (A2:Option Ci) (z:List SmZ) (m Wb Kb M:Nat) (w':Aj)=>Af5 a b (Ad pA pn pc) root (Ad A n cc) U nu cu up A2 z m Wb Kb M (kdM cr) cr w' hp.sheet);have HSO:=Ah (λ(hE:Ow a b cr root l=0)=>Az6 hE hp);have UH:=Ah (λ(hE:Ow a b cr root l=0)=>Bc8 hE);have IT:=Ah (Sw hp.sheet);have HKG:=Ah (λc e:Nat=>Bi8 hp.asc (c:Int) (e:Int));have HPR:=Ah (λ(w':Aj) (hb:Below w.heap.size w w')=>fp.below hb);have JA:=Ah mc;have HQ:=Ah (λ(w':Aj) (hb:Below w.heap.size w w')=>hQ.below hb);obtain⟨R,hR⟩:=ey (St.chk ⟨a,b,cr,root,l⟩);rw[hR];unfold St.chk at hR;dsimp only at hR;have HR:=Ah hR;obtain⟨rt,rx,ry⟩:=root;dsimp only at ht⊢;have H:=(Bx.start w).new #[a,b,Ad pA pn pc,Aa Ac rt,rx,ry,Ad A n cc] 33 rfl;clear hp mc fp ht hn h hl ij vj hQ hT hR;obtain⟨E,hE⟩:=ey (Ow a b cr ⟨rt,rx,ry⟩ l);rw[hE]at O0 HSO UH HR;dsimp only at O0;go_enter Tryz.func52,Tryz.ntmps52;go_upto_region 1 with fail;obtain⟨N,hN⟩:=ez w.heap.size;rw[<-hN]at H⊢;have db:=Ah hN;clear hN;generalize w.alloc _=W0 at H⊢;have hc:=λj=>By W0 N j _ _ (0,0) (H.b 0);have c0:W0.cell? ⟨N,0,Ae⟩=Af (Aa Ab a):=(hc 0).trans rfl;have c1:W0.cell? ⟨N,1,Ae⟩=Af (Aa Ab b):=(hc 1).trans rfl;have c2:W0.cell? ⟨N,2,Ae⟩=Af (Ad pA pn pc):=(hc 2).trans rfl
 have c3:W0.cell? ⟨N,3,Ae⟩=Af (Aa Ac rt):=(hc 3).trans rfl;have c4:W0.cell? ⟨N,4,Ae⟩=Af (Aa Ab rx):=(hc 4).trans rfl;have c5:W0.cell? ⟨N,5,Ae⟩=Af (Aa Ab ry):=(hc 5).trans rfl;have c6:W0.cell? ⟨N,6,Ae⟩=Af (Ad A n cc):=(hc 6).trans rfl;clear hc hE;go_wp2_with fail;refine(O0.out _ H.below).mono ?_;rintro ee w1 ⟨hb,gr⟩;have H1:=H.call hb;clear c0 c1 c2 c3 c4 c5 c6 O0;rcases gr with⟨h0,rfl⟩|⟨rfl,A2,r,U,rfl,la,BW,hru⟩
 ·have q1:(E != 0)=true:=by simpa using h0
  have hRE:R=E:=by rw[<-HR.out,Hd h0]
  subst hRE;unfold Bp3;clear hb H;go_wp2;go_ret;exact⟨rfl,by first|exact H1.below|exact(H1.other _).below⟩
 ·have IK:=HSO.out rfl;obtain⟨el,hlen⟩:=Bx5 la IK.1;have on:=IT.out;have ig:r.length<=1000000:=oHx IK.2;have ST:=UH.out rfl;have hRv:=HR.out;rw[Gz (λh=>h rfl),mG (P:=Ke l) (λs t h=>nD l s t h) la]at hRv;obtain⟨up,EA⟩:=ey ((upF a b cr ⟨rt,rx,ry⟩).1);rw[EA]at hru ST hRv;rw[EA];rw[mG (P:=λx=>x.ls.any (Iz a b cr up)) (λs t h=>wU s t h) la]at hRv;have KJ:=Ah hRv;obtain⟨z,ap,ca,od⟩:=BW;have BW:Lm w1 W0.heap.size A2 r:=⟨z,ap,ca,od⟩;obtain⟨nu,pu⟩:=ey up.length;rw[pu]at hru ST;rw[pu];have IZ:=Ah pu;obtain⟨m,hm⟩:=ey r.length;have kc:z.length=m:=by rw[<-hm,<-ap,Bo]
  have jp:=Ah (λ(w':Aj) (hb:Below w1.heap.size w1 w')=>(⟨(ca.below hb).rd,λx hx=>((od x hx).same (λg _ hg=>hb.block g hg)).2.1.2.rd,hru.below hb⟩:Rd w' A2 9 z.length (z.flatMap smC)/\(∀x∈z,Rd w' x.2.2.1 3 x.1.ls.length (Nn x.1.ls))/\Rd w' U 1 nu (Ib up)));have FT:=Ah (λ(w':Aj) (hb:Below w1.heap.size w1 w') (uv:Ak)=>sk.out w' (H1.below.trans (hb.mono H1.below.size)) uv W0.heap.size A2 r (BW.below hb) ig (λs hs=>⟨by have:=(el s hs).lp;omega,by have:=(el s hs).ll;omega⟩));have HZ:=Ah (λx (hx:x∈z)=>(⟨by have:=(el x.1 (ap▸Dq.2 ⟨x,hx,rfl⟩)).ll;omega,λy hy=>by have:=((el x.1 (ap▸Dq.2 ⟨x,hx,rfl⟩)).ls y hy).2.2;omega⟩:x.1.ls.length<=1000000/\∀y∈x.1.ls,y.2.2<nu));have mo:=Ah ap;have EO:=Ah kc;rw[hm]at FT ig;rw[hm];unfold Zd at FT⊢;dsimp only at FT⊢;obtain⟨X,hX⟩:=ey (r.any (Ke l));rw[hX]at FT KJ;obtain⟨P,hP⟩:=ey w1.heap.size;have H2:=H1.new #[a,b,Ad pA pn pc,Aa Ac rt,rx,ry,Ad A n cc,Ad U nu nu,Ad A2 m m] 186 hP;have aj:Below w1.heap.size w1 (w1.alloc (.cells #[a,b,Ad pA pn pc,Aa Ac rt,rx,ry,Ad A n cc,Ad U nu nu,Ad A2 m m] 186)):=(Ag _ _).alloc (Am _) _;clear IK el hlen on ST hRv ap ca od BW hru pu la hm kc EA hb H HR HSO UH IT sk hX;go_upto_region 4 with fail
  try rw[hP]
  generalize w1.alloc _=w2 at H2 aj⊢;obtain⟨c0,c1,c2,c3,c4,c5,c6,c7,c8⟩:=cV (H2.b 1);have sh:=Ah aj;have HPP:=Ah hP;clear H1 aj hP;go_wp2_with fail;refine(FT.out _ sh.out _).mono ?_;rintro ee w3 ⟨rfl,hb⟩;have H3:=H2.call hb;have si:=Ah (sh.out.trans (hb.mono sh.out.size));clear c0 c1 c2 c3 c4 c5 c6 c7 c8 hb H2 sh FT
  cases X with
  |true=>
   have KG:Hid (R=12):=Ah (by rw[<-KJ.out,Hd rfl]);simp only[if_true];go_wp2;go_ret;exact⟨by have h:=KG.out;subst h;rfl,H3.below⟩
  |false=>
   simp only[Ej,if_false]
   have A_:Hid ((if(r.any λx=>x.ls.any (Iz a b cr up))then 13 else 0)=R):=Ah (by
    have h:=KJ.out;rw[Gz Ha]at h;exact h)
   clear KJ;go_upto_region 7 with fail;obtain⟨M,hM⟩:=ey w3.heap.size;obtain⟨Kb,R3⟩:=ey (M+1);have qz:(Instr.makeMap 190 Ae).run Do w3= .ok (.map (Af w3.heap.size)) (w3.alloc (.map #[] 0)):=by first|rfl|simp[Instr.makeMap]
   have OS:=Wg unK w3;rw[hM]at qz OS;have H4:=(H3.other (.map #[] 0)).new #[.map (Af M)] 190 (N:=Kb) Hu;have rp:=OS.below ((Ag _ _).alloc (Am _) (.cells #[.map (Af M)] 190)) OS.lt;have jz:w.heap.size<=M:=oHx H3.below.size;have TN:=Ah (si.out.trans (((Ag w3.heap.size w3).alloc (Am _) (.map #[] 0)).alloc Gx (.cells #[.map (Af M)] 190)|>.mono si.out.size));have PP:Hid (M<Kb):=Ah Gu;have HM1:Hid (w1.heap.size<=M):=Ah (oHx si.out.size);go_upto_region 8 with fail
   try rw[hM]
   try rw[R3]
   generalize (w3.alloc _).alloc _=w4 at H4 rp TN⊢;clear hM R3 qz OS H3 si;have va:w4.cell? ⟨N,2,Ae⟩=Af (Ad pA pn pc):=(By w4 N 2 _ _ (0,0) (H4.b 0)).trans rfl;have O5:=Ah jz;have H4:=Ah H4;have rp:=Ah rp;clear jz;go_wp2_with fail;clear va
   go_loopw [28] (λM3 wr=>∃k:Nat,k<=pn/\M3= Aa Ab k/\Hid (Bx w [(N,#[a,b,Ad pA pn pc,Aa Ac rt,rx,ry,Ad A n cc],33),(P,#[a,b,Ad pA pn pc,Aa Ac rt,rx,ry,Ad A n cc,Ad U nu nu,Ad A2 m m],186),(Kb,#[.map (Af M)],190)] wr)/\Hid (Km unK wr M (kdM (cr.take k)))/\Hid (Below w1.heap.size w1 wr)) (λM3 _=>pn-(intOf M3).toNat)
   case atStart=>exact⟨0,Gu,rfl,H4,rp,TN⟩
   obtain⟨k,hk,rfl,HH,AN,un⟩:=hrel;clear H4 rp TN;by_cases ad:k<pn
   ·have bc:k<cr.length:=oHx JA.out;have be:=HPR.out _ HH.out.below;rw[JA.out]at be;obtain⟨bb,o,hA,cj,d0,d1,d2⟩:=Xi be k bc;have ld:=As9 cr k bc;obtain⟨q,hq⟩:=ey (cr[k]);rw[hq]at d0 d1 d2 ld;have ur:=Ah ld;have q1:(k:Int)<(pn:Int):=Gu;have cg:=(Ag wr.heap.size wr).alloc (Am _) (.cells #[Aa Ab q.c,Aa Ac q.e,Aa Ac q.k] 192);have P_:=AN.out.below cg AN.out.lt;have Hr2:=HH.out.other (.cells #[Aa Ab q.c,Aa Ac q.e,Aa Ac q.k] 192);have hbw2:=un.out.trans (cg.mono un.out.size);have xv:(wr.alloc (.cells #[Aa Ab q.c,Aa Ac q.e,Aa Ac q.k] 192)).cell? ⟨Kb,0,Ae⟩=Af (.map (Af M)):=(Me (Hr2.b 2)).1;clear be ld hq;subst hA;go_wp2_with (at_mapUpdate;refine Sl Tq Tryz.underlying190 _ rfl _ _ _ rfl M (kdM (cr.take k)) (q.c,q.e) (Aa Ac q.k) rfl rfl rfl P_ ?_;intro w9 vd zg);exact⟨⟨k+1,Gu,by go_num,Ah (Hr2.mapped P_ zg O5.out),Ah (by rw[ur.out];exact vd),Ah (hbw2.grown zg hbw2.size (λx hx=>by injection hx with hx;have:=HM1.out;omega))⟩,by simp[intOf];omega⟩
   ·obtain rfl:k=pn:=Gu;have q1:¬(k:Int)<(k:Int):=Gu;have ht:cr.take k=cr:=Bg (oHx JA.out);rw[ht]at AN;clear ht;obtain⟨Wb,hWb⟩:=ey wr.heap.size;have hWn:=Bz wr (.cells #[.bool false] 4);rw[hWb]at hWn;have cg:=(Ag wr.heap.size wr).alloc (Am _) (.cells #[.bool false] 4);have H5:=HH.out.other (.cells #[.bool false] 4);have qi:=AN.out.below cg AN.out.lt;have EQ:=un.out.trans (cg.mono un.out.size);have GX:N<Wb:=oHx (HH.out.lt 0 rfl);have gn:P<Wb:=oHx (HH.out.lt 1 rfl);have oa:Kb<Wb:=oHx (HH.out.lt 2 rfl);have BP:w1.heap.size<=Wb:=oHx un.out.size;have hl4:w.heap.size<=Wb:=oHx HH.out.below.size;have UX:M<Wb:=oHx PP.out;have xv:∀w',Below Wb (wr.alloc (.cells #[.bool false] 4)) w'->w'.cell? ⟨Kb,0,Ae⟩=Af (.map (Af M)):=λw' hb=>(Me ((hb.block Kb oa).trans (H5.b 2))).1;have g_:=Ah (λ(w':Aj) (hb:Below Wb (wr.alloc (.cells #[.bool false] 4)) w')=>(⟨(jp.out w' (EQ.trans (hb.mono BP))).1,(jp.out w' (EQ.trans (hb.mono BP))).2.1,(jp.out w' (EQ.trans (hb.mono BP))).2.2,(HQ.out w' (H5.below.trans (hb.mono hl4))).qt,qi.below hb UX,xv w' hb⟩:Bo4 w' U nu up Kb M (kdM cr) A2 z));have FZ:=Ah (HLP.out U nu nu up A2 z m Wb Kb M (wr.alloc (.cells #[.bool false] 4)) hWn EO.out.symm ig IZ.out.symm g_.out (λc e=>HKG.out c e) HZ.out)
    have VN:=λw' (hb:Below Wb (wr.alloc (.cells #[.bool false] 4)) w')=>H5.keepN (M:=Wb) (λx hx=>by
     simp only[Bk,Du,or_false]at hx;rcases hx with rfl|rfl|rfl
     ·exact GX
     ·exact gn
     ·exact oa) hl4 hb
    have HKP:=Ah VN;unfold Zd at FZ;dsimp only at FZ;obtain⟨c0,c1,c2,c3,c4,c5,c6,c7,c8⟩:=cV (H5.b 1);have HZA:Hid ((z.any λx=>x.1.ls.any (Iz a b cr up))=r.any λx=>x.ls.any (Iz a b cr up)):=Ah (by rw[<-mo.out];exact Cd5 (f:=λs=>s.ls.any (Iz a b cr up)));generalize (z.any λx=>x.1.ls.any (Iz a b cr up))=Y at FZ HZA;clear hWn cg qi EQ GX gn oa BP hl4 UX xv VN H5 HH AN un g_ HLP jp;go_upto_region 14 with fail
    try rw[hWb]
    generalize wr.alloc _=w5 at FZ HKP c0 c1 c2 c3 c4 c5 c6 c7 c8⊢;clear hWb;go_wp2_with fail;refine FZ.out.mono ?_;rintro ee w6 ⟨rfl,ba,hw6⟩;have H6:=HKP.out w6 ba;obtain⟨g0,-⟩:=Me hw6;clear c0 c1 c2 c3 c4 c5 c6 c7 c8 ba hw6 FZ HKP
    cases Y with
    |true=>
     have KG:Hid (R=13):=Ah (by rw[<-A_.out,<-HZA.out];rfl);go_wp2;go_ret;exact⟨by have h:=KG.out;subst h;rfl,H6.below⟩
    |false=>
     have KG:Hid (R=0):=Ah (by rw[<-A_.out,<-HZA.out];rfl);go_wp2;go_ret;exact⟨by have h:=KG.out;subst h;rfl,H6.below⟩
structure Gs (s:St):Prop where
 pat:Lq s.a s.b s.cr
 chk:s.chk=0
theorem Gs.stk {s:St} (h:Gs s):Ow s.a s.b s.cr s.root s.l=0:=by
 have:=h.chk;unfold St.chk at this
 split at this
 ·contradiction
 ·rename_i g;exact Ek.1 g
theorem Gs.both {s:St} (h:Gs s):(Ia s.a s.b s.cr s.root).2=0:=by
 have:=h.stk;unfold Ow at this
 split at this
 ·contradiction
 ·rename_i g;exact Ek.1 g
theorem Gs.root {s:St} (h:Gs s):s.root.ok=true:=by
 cases hr:s.root.ok with
 |true=>rfl
 |false=>
  have:=h.both;rw[Xp _ _ _ _ hr]at this
  cases this
theorem uG {m:Mv} (h:m.ok=true):m.t<8:=by
 have:=(Ry.1 h).1;omega
theorem Gs.chkS {s:St} (h:Gs s):chkS (Hg s.a s.b) s.l=0:=by
 have:=h.stk;unfold Ow at this
 split at this
 ·contradiction
 ·split at this
  ·contradiction
  ·rename_i g;exact Ek.1 g
theorem iQ:∀(n:Nat) (l:List Nat),l.Nodup->(∀x∈l,x<n)->l.length<=n
 |0,l,_,hb=>by
  cases l with
  |nil=>simp
  |cons x r=>exact absurd (hb x Gx) (Nat.not_lt_zero _)
 |n+1,l,hn,hb=>by
  have h1:=iQ n (l.erase n) (hn.erase n) λx hx=>by
   have h2:=(hn.mem_erase_iff).1 hx;have:=hb x h2.2;have:=h2.1;omega
  have h2:l.length<=(l.erase n).length+1:=by
   by_cases hm:n∈l
   ·rw[List.length_erase_of_mem hm];omega
   ·rw[List.erase_of_not_mem hm];omega
  omega
theorem Bb4 (l:List Stk):Jy l=(Hl l).length:=by
 unfold Jy Hl;rw[List.length_flatMap]
theorem Bx9 {n:Nat} {l:List Stk} {i:Nat} (hi:i<l.length) (h:Ko n l i=false):l[i].c.ok=true/\l[i].ls≠[]/\∀id∈l[i].ls,id<n:=by
 unfold Ko at h;rw[Aw hi]at h;simp only[Cy,Bool.not_eq_false',List.isEmpty_eq_false_iff,Dt,Lg]at h;exact⟨h.1.1.1,h.1.2,λid hid=>by have:=h.2 id hid;omega⟩
theorem Zv {n:Nat} {l:List Stk} {i:Nat} (hi:i+1<l.length) (h:Ko n l (i+1)=false):Kc l[i].c l[i+1].c<0:=by
 unfold Ko at h;rw[Aw hi]at h;simp only[Cy,Aw (show i<l.length by omega),Rt]at h;have:=h.1.1.2;omega
theorem Gs.at {s:St} (h:Gs s):∀x∈s.l,x.c.ok=true/\x.ls≠[]/\∀id∈x.ls,id<Hg s.a s.b:=λx hx=>by
 obtain⟨i,hi,rfl⟩:=Be.1 hx;exact Bx9 hi ((Ki h.chkS).1 i hi)
theorem Gs.tot {s:St} (h:Gs s):Jy s.l<=1024:=by
 rw[Bb4];have:=Sw h.pat.sheet;refine Br (iQ (Hg s.a s.b) _ (Ki h.chkS).2.1 λx hx=>?_) this;obtain⟨y,hy,ef⟩:=Eb.1 hx;exact(h.at y hy).2.2 x ef
theorem yI:∀{l:List Stk},(∀x∈l,x.ls≠[])->l.length<=Jy l
 |[],_=>Gx
 |y::r,h=>by
  have h1:=yI (l:=r) λx hx=>h x (List.mem_cons_of_mem _ hx);have h2:0<y.ls.length:=List.length_pos_iff.2 (h y Gx);simp[Jy]at h1⊢;omega
theorem Gs.len {s:St} (h:Gs s):s.l.length<=1024:=Br (yI λx hx=>(h.at x hx).2.1) h.tot
theorem Gs.ls {s:St} (h:Gs s):∀x∈s.l,x.ls.length<=1024:=λ_ hx=>Br (Rj hx) h.tot
theorem Gs.q {s:St} (h:Gs s):∀x∈s.l,x.c.q<=255:=λx hx=>by
 have:=(Jt.1 (h.at x hx).1).2.2.2.2;omega
theorem Gs.pn {s:St} (h:Gs s):s.cr.length<=262400:=aN h.pat.fit h.pat.asc
theorem Gs.img_len {s:St} (h:Gs s):(Ia s.a s.b s.cr s.root).1.2.length=Hg s.a s.b:=(Ny h.both).2.1
structure By3 (w:Aj) (cs:List Ak) (s:St):Prop where
 held:∃pA pc A cc,cs=[Aa Ab s.a,Aa Ab s.b,Ad pA s.cr.length pc,Aa Ac s.root.t,Aa Ab s.root.x,Aa Ab s.root.y,Ad A s.l.length cc]/\AOk pA s.cr.length pc/\Rd w pA 3 s.cr.length (crs s.cr)/\Hz w A s.l
def St.mv (s:St) (f:Fd):Option (List Stk):=Rx (ofL f.k f.c) (Mj (Hv f.k f.c f.side s.l))
def St.rt (s:St) (f:Fd):Mv×Int:=if Ir f.k f.c (s.img 0)=f.side then Vt s.root (ofL f.k f.c)else (s.root,0)
def St.kf (s:St) (f:Fd) (i:Nat):Int:=if(upF s.a s.b s.cr s.root).1.getD i false=f.over then 2 else 1
def St.to (s:St) (f:Fd) (mv:List Stk):St:=⟨s.a,s.b,Oc (s.cr++Ma (Lv s f.k f.c) (s.kf f)),(s.rt f).1,if f.over then Kd (Hv f.k f.c (1-f.side) s.l) mv else Kd mv (Hv f.k f.c (1-f.side) s.l)⟩
theorem xU (s:St) (f:Fd):s.fold f=if Qk f.k f.c f.side=false then ((1:Int),(Ae:Option St))else if(Lv s f.k f.c).isEmpty then (7,Ae)else match s.mv f with
  |none=>(3,Ae)
  |some mv=>if(s.rt f).2≠0 then (3,Ae)else if(s.to f mv).chk=0 then (0,Af (s.to f mv))else (3,Ae):=rfl
theorem At0 (s:St) (f:Fd) (i:Nat):s.kf f i=1∨s.kf f i=2:=by
 unfold St.kf
 split
 ·exact .inr rfl
 ·exact .inl rfl
theorem pQ {s:St} (hp:Lq s.a s.b s.cr) (f:Fd) (mv:List Stk):Lq (s.to f mv).a (s.to f mv).b (s.to f mv).cr:=Ag4 hp f.k f.c (s.kf f) (At0 s f)
structure Off (O M:Nat) (w w':Aj):Prop where
 os:w'.os=w.os
 tape:w'.tape=w.tape
 output:w'.output=w.output
 size:w.heap.size<=w'.heap.size
 block:∀k,k<O->k≠M->w'.heap[k]? =w.heap[k]?
theorem Off.refl (O M:Nat) (w:Aj):Off O M w w:=⟨rfl,rfl,rfl,Am _,λ_ _ _=>rfl⟩
theorem Off.below {O M:Nat} {a b c:Aj} (h:Off O M a b) (k:Below O b c):Off O M a c:=
 ⟨k.os.trans h.os,k.tape.trans h.tape,k.output.trans h.output,Br h.size k.size,λi hi hm=>(k.block i hi).trans (h.block i hi hm)⟩
theorem Off.put {O M:Nat} {a b c:Aj} (h:Off O M a b) (hO:O<=b.heap.size) (k:b.grownBy c (Af M)):Off O M a c:=
 ⟨k.os.trans h.os,k.tape.trans h.tape,k.output.trans h.output,Br h.size k.size,λi hi hm=>(k.block i Gu (by simpa using hm)).trans (h.block i hi hm)⟩
theorem Off.back {O M B:Nat} {a w w':Aj} (h:Off O M w w') (k:Below B a w) (hO:B<=O) (hM:B<=M):Below B a w':=
 k.trans ⟨h.os,h.tape,h.output,h.size,λi hi=>h.block i Gu Gu⟩
theorem Rd.off {O M:Nat} {w w':Aj} {A:Option Ci} {sz n:Nat} {xs:List Ak} (h:Rd w A sz n xs) (hO:w.heap.size<=O) (k:Off O M w w') (hM:∃es c,w.heap[M]? =Af (.map es c)):Rd w' A sz n xs:=by
 refine⟨h.1,λhn=>?_⟩;obtain⟨b,o,rfl,hb,hc⟩:=h.2 hn;have ir:=k.size;refine⟨b,o,rfl,Gu,λj u hu=>?_⟩;have x7:=hc j u hu
 have hne:b≠M:=by
  rintro rfl;obtain⟨es,c,hm⟩:=hM;simp[World.cell?,hm]at x7
 rw[World.cell?_of_block (w:=w) (a:=⟨b,o+j,Ae⟩) (k.block b Gu hne)];exact x7
theorem Hz.off {O M:Nat} {w w':Aj} {A:Option Ci} {l:List Stk} (h:Hz w A l) (hO:w.heap.size<=O) (k:Off O M w w') (hM:∃es c,w.heap[M]? =Af (.map es c)):Hz w' A l:=by
 obtain⟨hs,h1,h2,h3⟩:=h;exact⟨hs,h1,h2.off hO k hM,λi hi se=>⟨(h3 i hi se).1,(h3 i hi se).2.1,(h3 i hi se).2.2.1,(h3 i hi se).2.2.2.off hO k hM⟩⟩
theorem Hy.lowM {O:Nat} {w w':Aj} {v:Ak} {l:List SkR} (h:Hy O w v l) (k:∀g,O<=g->g<w.heap.size->w'.heap[g]? =w.heap[g]?):Hy O w' v l:=by
 refine⟨⟨h.1.1,h.1.2.imp id λ⟨g,cap,cur,r1,r2,r3,r4⟩=>⟨g,cap,cur,r1,r2,(k g r2 (Au.1 r3).1).trans r3,r4⟩⟩,λx hx=>(h.2.1 x hx).same λg hg=>?_,h.2.2⟩;have:=(h.2.1 x hx).lt g hg;exact k g this.1 this.2.1
structure OvI (O M:Nat) (w0 wr:Aj) (v:Ak) (zl:List SkR):Prop where
 out:Hy O wr v zl
 cap:∀x∈zl,Um wr x
 mp:Km clK wr M (Mf (zl.map (·.1)) 0)
 off:Off O M w0 wr
 top:O<=wr.heap.size
 low:M<O
theorem OvI.below {O M:Nat} {w0 wr w':Aj} {v:Ak} {zl:List SkR} (h:OvI O M w0 wr v zl) (hb:Below wr.heap.size wr w'):OvI O M w0 w' v zl:=
 ⟨h.out.below hb,λx hx=>(h.cap x hx).same λg hg=>hb.block g ((h.out.2.1 x hx).lt g hg).2.1,h.mp.below hb h.mp.lt,h.off.below (hb.mono h.top),Br h.top hb.size,h.low⟩
theorem Xa {w w':Aj} {row:Option Nat} {O:Nat} (hg:w.grownBy w' row) (hO:O<=w.heap.size) (hr:∀g,row=Af g->O<=g):Below O w w':=(Ag O w).grown hg hO hr
theorem OvI.snoc {O M:Nat} {w0 wr W1 W2 W3:Aj} {v v':Ak} {zl:List SkR} {x:SkR} (h:OvI O M w0 wr v zl) (hp:Tk x.1.c (zl.map (·.1)) 0=Ae)
  (h1:Km clK W1 M (Ro x.1.c (Aa Ab (zl.length:Int)) (Mf (zl.map (·.1)) 0))) (k1:wr.grownBy W1 (Af M)) (hb:Below W1.heap.size W1 W2) (hx:Nl W1.heap.size W2 x) (hc:Um W2 x) (ho:Hy O W3 v' (zl++[x])) (hg:W2.grownBy W3 v.ownBlock):OvI O M w0 W3 v' (zl++[x]):=by
 have ET:O<=W1.heap.size:=Br h.top k1.size;have OH:O<=W2.heap.size:=Br ET hb.size;have hv:∀g,v.ownBlock=Af g->O<=g:=λg hg=>(h.out.1.lt g hg).1
 have GI:Km clK W1 M (Mf ((zl++[x]).map (·.1)) 0):=by
  rw[List.map_append];have e:=Ax2 x.1 (zl.map (·.1)) hp;rw[Bo]at e;rw[List.map_cons,List.map_nil,<-e];exact h1
 have hM:Km clK W3 M (Mf ((zl++[x]).map (·.1)) 0):=(GI.below hb GI.lt).kept hg (λe=>by have:=hv M e.symm;have:=h.low;omega);have bm:Below O W2 W3:=Xa hg OH hv
 have ky:∀y∈zl,∀g∈Kl y,W3.heap[g]? =wr.heap[g]? :=λy hy g lr=>by
  have hk:=h.out.2.1 y hy;have ad:=hk.lt g lr;have h1:g<W1.heap.size:=Bq ad.2.1 k1.size;have h2:g<W2.heap.size:=Bq h1 hb.size;rw[hg.block g h2 (Ne.symm (Vk h.out.1 hk g lr)),hb.block g h1,k1.block g ad.2.1 (by have:=h.low;simp;omega)]
 refine⟨ho,λy hy=>?_,hM,((h.off.put h.top k1).below (hb.mono ET)).below bm,Br OH hg.size,h.low⟩;rcases Bl.1 hy with hy|hy
 ·exact(h.cap y hy).same (ky y hy)
 ·obtain rfl:=List.mem_singleton.1 hy;refine hc.same λg lr=>hg.block g (hx.lt g lr).2.1 λe=>?_;have a1:=(h.out.1.lt g e.symm).2;have a2:=(hx.lt g lr).1;have:=k1.size;omega
theorem OvI.poke {O M:Nat} {w0 wr W1:Aj} {G n c:Nat} {zl:List SkR} {i:Nat} (h:OvI O M w0 wr (Ad (Af ⟨G,0,Ae⟩) n c) zl) (hi:i<zl.length) (ys:List Nat) (A':Option Ci) (c':Nat)
  (hx:Nl O W1 (⟨zl[i].1.c,zl[i].1.ls++ys⟩,(A',c'))) (hc:Um W1 (⟨zl[i].1.c,zl[i].1.ls++ys⟩,(A',c'))) (hg:wr.grownBy W1 (zl[i].2.1.map (·.block))) (hA:A'.map (·.block)=zl[i].2.1.map (·.block)∨A'.map (·.block)=Af wr.heap.size):
  OvI O M w0 (W1.setCell ⟨G,i*4+3,Ae⟩ (Ad A' (zl[i].1.ls++ys).length c')) (Ad (Af ⟨G,0,Ae⟩) n c) (zl.set i (⟨zl[i].1.c,zl[i].1.ls++ys⟩,(A',c')))/\(∃u,W1.cell? ⟨G,i*4+3,Ae⟩=Af u)/\W1.frozen? ⟨G,i*4+3,Ae⟩=false:=by
 obtain⟨x',J9⟩:∃z:SkR,(⟨zl[i].1.c,zl[i].1.ls++ys⟩,(A',c'))=z:=⟨_,rfl⟩;obtain⟨x0,NE⟩:=ey (zl[i]);have D3:(zl[i].1.ls++ys).length=x'.1.ls.length:=by rw[<-J9]
 have UQ:A'=x'.2.1:=by rw[<-J9]
 have EY:c'=x'.2.2:=by rw[<-J9]
 rw[D3];rw[J9]at hx hc⊢;rw[UQ]at hA⊢;rw[EY];have bt:x'.1.c=x0.1.c:=by rw[<-J9,<-NE]
 rw[NE]at hg hA;have bp:x0∈zl:=NE▸Ay hi;have di:=h.out.2.1 x0 bp
 have hn:n=zl.length:=by
  obtain⟨_,_,e,-⟩:=Hw h.out.1;simp at e;exact e.2.1
 subst hn;have pj:O<=G:=(h.out.1.lt G rfl).1;have N':G<wr.heap.size:=(h.out.1.lt G rfl).2;have hG0:G∉Kl x0:=λhm=>Vk h.out.1 di G hm rfl;have hGW:W1.heap[G]? =wr.heap[G]? :=hg.block G N' λe=>hG0 (by unfold Kl;rw[<-e];simp)
 have au:W1.ownsRow O 92 4 (Ad (Af ⟨G,0,Ae⟩) zl.length c) zl.length (zl.flatMap Jb):=Il h.out.1 λg B4=>by
  obtain rfl:G=g:=by simpa[Value.ownBlock]using B4
  exact hGW
 have s4:=Kx au (Jr W1 (Af G)) (i*4+3) (Ad x'.2.1 x'.1.ls.length x'.2.2)
 have dj:(zl.flatMap Jb).set (i*4+3) (Ad x'.2.1 x'.1.ls.length x'.2.2)=(zl.set i x').flatMap Jb:=by
  refine(Oo Jb 4 Le zl i 3 hi Gu x' _ ?_).symm;rw[NE];simp[Jb,bt]
 rw[dj]at s4;have I7:=hg.size;have hlow:=h.low
 have br:∀g,g<wr.heap.size->g∉Kl x0->g≠G->(W1.setCell ⟨G,i*4+3,Ae⟩ (Ad x'.2.1 x'.1.ls.length x'.2.2)).heap[g]? =wr.heap[g]? :=λg h1 h2 h3=>by
  rw[Dp _ ⟨G,i*4+3,Ae⟩ _ g h3];exact hg.block g h1 λe=>h2 (by unfold Kl;rw[<-e];simp)
 have JT:∀g∈Kl x',g∈Kl x0∨g=wr.heap.size:=λg DL=>by
  unfold Kl at DL⊢;rcases hA with e|e
  ·rw[e]at DL;exact .inl DL
  ·rw[e]at DL;simp at DL;exact .inr DL
 have hxG:∀g∈Kl x',g≠G:=λg DL e=>by
  rcases JT g DL with h1|h1
  ·exact hG0 (e▸h1)
  ·omega
 have e0:zl=zl.take i++x0::zl.drop (i+1):=by rw[<-NE,<-List.drop_eq_getElem_cons hi,List.take_append_drop]
 have bj:=h.out.2.2;rw[e0]at bj;simp only[Bi,Bf,Bp,Bl]at bj;obtain⟨a1,⟨a2,a3,a4⟩,a5⟩:=bj
 have MV:∀y∈zl.take i++zl.drop (i+1),y∈zl/\∀g∈Kl y,g∉Kl x0:=λy hy=>by
  rcases Bl.1 hy with hy|hy
  ·exact⟨List.mem_of_mem_take hy,λg hg h0=>a5 g (Eb.2 ⟨y,hy,hg⟩) g (.inl h0) rfl⟩
  ·exact⟨List.mem_of_mem_drop hy,λg hg h0=>a4 g h0 g (Eb.2 ⟨y,hy,hg⟩) rfl⟩
 have ky:∀y∈zl.take i++zl.drop (i+1),∀g∈Kl y,(W1.setCell ⟨G,i*4+3,Ae⟩ (Ad x'.2.1 x'.1.ls.length x'.2.2)).heap[g]? =wr.heap[g]? :=λy hy g lr=>by
  obtain⟨hyz,JV⟩:=MV y hy;have VO:=h.out.2.1 y hyz;exact br g (VO.lt g lr).2.1 (JV g lr) λe=>Vk h.out.1 VO g lr (by rw[e];rfl)
 have um:∀g∈Kl x',(W1.setCell ⟨G,i*4+3,Ae⟩ (Ad x'.2.1 x'.1.ls.length x'.2.2)).heap[g]? =W1.heap[g]? :=λg DL=>Dp _ ⟨G,i*4+3,Ae⟩ _ g (hxG g DL)
 have FH:∀y∈zl.set i x',y=x'∨y∈zl.take i++zl.drop (i+1):=λy hy=>by
  rw[bI zl i hi]at hy;rcases Bl.1 hy with hy|hy
  ·exact .inr (Bl.2 (.inl hy))
  ·rcases Bk.1 hy with hy|hy
   ·exact .inl hy
   ·exact .inr (Bl.2 (.inr hy))
 have r8:(zl.set i x').map (·.1)=(zl.map (·.1)).set i x'.1:=by rw[List.map_set]
 have mw:Km clK W1 M (Mf (zl.map (·.1)) 0):=h.mp.kept hg λe=>by
  have:=(di.lt M (by unfold Kl;rw[<-e];simp)).1;omega
 have hold:∀g,g∈(zl.take i).flatMap Kl∨g∈(zl.drop (i+1)).flatMap Kl->g<wr.heap.size:=λg hg=>by
  rcases hg with hg|hg
  ·obtain⟨y,hy,lr⟩:=Eb.1 hg;exact((h.out.2.1 y (List.mem_of_mem_take hy)).lt g lr).2.1
  ·obtain⟨y,hy,lr⟩:=Eb.1 hg;exact((h.out.2.1 y (List.mem_of_mem_drop hy)).lt g lr).2.1
 refine⟨⟨⟨by rw[List.length_set];exact s4.1,λy hy=>?_,?_⟩,λy hy=>?_,?_,?_,?_,hlow⟩,?_,Ti au _⟩
 ·rcases FH y hy with rfl|hy
  ·exact hx.same um
  ·exact(h.out.2.1 y (MV y hy).1).same (ky y hy)
 ·rw[bI zl i hi];simp only[Bi,Bf,Bp,Bl];refine⟨a1,⟨Xy _,a3,λa ha b hb e=>?_⟩,λa ha b hb e=>?_⟩
  ·subst e;rcases JT a ha with h1|h1
   ·exact a4 a h1 a hb rfl
   ·have:=hold a (.inr hb);omega
  ·subst e;rcases hb with hb|hb
   ·rcases JT a hb with h1|h1
    ·exact a5 a ha a (.inl h1) rfl
    ·have:=hold a (.inl ha);omega
   ·exact a5 a ha a (.inr hb) rfl
 ·rcases FH y hy with rfl|hy
  ·exact hc.same um
  ·exact(h.cap y (MV y hy).1).same (ky y hy)
 ·rw[r8,fD x'.1 (zl.map (·.1)) 0 i (by simpa using hi) (by simp[NE,bt])];obtain⟨es,clock,m1,m2⟩:=mw;exact⟨es,clock,(Dp _ ⟨G,i*4+3,Ae⟩ _ M (by show M≠G;omega)).trans m1,m2⟩
 ·have ci:Below O wr W1:=Xa hg h.top λg e=>(di.lt g (by unfold Kl;rw[e];simp)).1;exact(h.off.below ci).below ((Ag O W1).setCell (p:=⟨G,i*4+3,Ae⟩) pj _)
 ·simp;have:=h.top;omega
 ·have hlen:=Ks Jb 4 Le zl;obtain⟨b,o,e,-,fy⟩:=(Rd.of_own au).2 Gu;obtain⟨rfl,rfl⟩:G=b/\0=o:=by simpa using e
  have:=fy (i*4+3) _ (Aw (l:=zl.flatMap Jb) (by rw[hlen];omega));rw[Bt]at this;exact⟨_,this⟩
theorem vC {c:Cl} {l:List Stk} {i:Nat} (h:Tk c l 0=Af i):∃h:i<l.length,l[i].c=c:=by simpa using(Wo h).2
theorem rW {x:Stk} {l:List Stk} {i:Nat} (h:Tk x.c l 0=Af i):∃h:i<l.length,Nd x l=l.set i ⟨x.c,l[i].ls++x.ls⟩:=by simpa using Ss h
theorem Hy.elem {O n c:Nat} {w:Aj} {A:Option Ci} {l:List SkR} (h:Hy O w (Ad A n c) l) (i:Nat) (hi:i<l.length):
  ∃G,A=Af ⟨G,0,Ae⟩/\n=l.length/\O<=G/\G<w.heap.size/\w.cell? ⟨G,i*4,Ae⟩=Af (Aa Ab l[i].1.c.x)/\w.cell? ⟨G,i*4+1,Ae⟩=Af (Aa Ab l[i].1.c.y)/\w.cell? ⟨G,i*4+2,Ae⟩=Af (Aa Ac (l[i].1.c.q:Int))/\w.cell? ⟨G,i*4+3,Ae⟩=Af (.slice l[i].2.1 l[i].1.ls.length l[i].2.2):=by
 obtain⟨A',c',hv,-,-⟩:=Hw h.1;obtain⟨rfl,rfl,rfl⟩:A=A'/\n=l.length/\c=c':=by simpa using hv
 have hb:=h.1.lt;rcases h.1.2 with⟨-,h0⟩|⟨g,cap,cur,tr,-⟩
 ·omega
 obtain⟨rfl,rfl⟩:A=Af ⟨g,0,Ae⟩/\c=cap:=by simpa using tr
 obtain⟨b,o,e,-,fy⟩:=(Rd.of_own h.1).2 Gu;obtain⟨rfl,rfl⟩:g=b/\0=o:=by simpa using e
 have bi:∀f,f<4->(l.flatMap Jb)[i*4+f]? =(Jb l[i])[f]? :=λf hf=>Iv Jb 4 Le l i f hi hf
 have va:∀f v,f<4->(Jb l[i])[f]? =Af v->w.cell? ⟨g,i*4+f,Ae⟩=Af v:=λf v hf hv=>by
  have:=fy (i*4+f) v ((bi f hf).trans hv)
  rwa [Bt]at this
 exact⟨g,rfl,rfl,(hb g rfl).1,(hb g rfl).2,va 0 _ Gu rfl,va 1 _ Gu rfl,va 2 _ Gu rfl,va 3 _ Gu rfl⟩
end Go.Proofs.YtlgkpdfieaadaaaGreatDoor
