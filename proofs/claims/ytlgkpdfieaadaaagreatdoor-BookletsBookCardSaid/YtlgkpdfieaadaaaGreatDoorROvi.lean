import Derived.Test.YtlgkpdfieaadaaaGreatDoorROfd
set_option linter.all false
open Array renaming getElem?_eq_some_iff->Au
open Bool renaming and_eq_true->Em,false_eq_true->Ek,not_eq_true->Ep,or_eq_false_iff->Cz
open Classical renaming not_not->El
open Go renaming Addr->Cj,Calls->Al,Value->Ak,World->Aj,bodyPost_ret->Ai,cell_of_row->Bz,heap_alloc_new->Ca,wpAnyH_done->An,wpAnyH_ready->Ap,wp_region_held_drew->Ao
open Go.AllReadyH renaming cons->Aq,nil->Ar
open Go.IntKind renaming i64->Ab,u8->Ac
open Go.Lib renaming hid->Ah
open Go.Obj renaming cells->Co
open Go.Proofs.Tryz renaming prog->Dp
open Go.RowKit.Below renaming heap_alloc->Eh,heap_setCell->Dq,refl->Ag
open Go.Value renaming int->Aa,slice->Ad
open Go.World renaming frozen?->Ea
open List renaming any_eq_false->Du,any_eq_true->Ew,cons_append->Er,flatMap_append->Bi,flatMap_cons->Bf,getElem?_eq_getElem->Aw,getElem?_toArray->Fv,getElem_cons_succ->Ce,getElem_cons_zero->Cd,getElem_mem->Ay,getElem_toArray->Cf,length_map->Bp,map_map->Ft,mem_append->Bl,mem_cons->Bk,mem_flatMap->Ec,mem_iff_getElem->Be,mem_map->Dr,nil_append->Eu,nodup_append->Bq,nodup_cons->Ei,not_mem_nil->Dv,replicate->Ba,setIfInBounds_toArray->Ci,set_cons_succ->Ch,set_cons_zero->Cg,take_of_length_le->Bg,take_succ_eq_append_getElem->Bc
open Nat renaming le_refl->Am,le_trans->Bt,lt_of_lt_of_le->Br,zero_add->Bu
open Option renaming none->Ae,some->Af
set_option maxHeartbeats 16000000
set_option maxRecDepth 100000
namespace Go.Proofs.YtlgkpdfieaadaaaGreatDoor
open Go.RowKit
variable {fix cs xs:List Ak} {WL w w' w0 wr W1:Aj} {A:Option Cj} {n g k i j B O O' lo hi e N M sz:Nat} {t u:List Int} {l:List Stk} {a b:Int} {x:Nat×Nat×Nat} {z:List SmZ} {cr:List Cr} {ss r:List Sm} {s:St} {v v':Ak} {zl:List SkR}
def Ay4 {O B GO n:Nat} {F:List Nat} {l0:List SmB} {ks:List (Cl×Cl)} (hB:Il O B (GO::F) fix WL l0) (AD:WL.heap[GO]? =Af (Co ((Ba n Vo).flatMap smC).toArray 263 (0,0))):iJ O B GO n F fix l0 ks WL WL 0 (l0.map λx=>(x,x)) [] where
 len:=rfl
 fst:=by rw[Ft];exact List.map_id l0
 rel q hq:=by
  obtain⟨x,-,rfl⟩:=Dr.1 hq;exact⟨rfl,rfl,rfl,SmP.refl _⟩
 bld:=by
  rw[Ft];have e:l0.map ((λq:SmB×SmB=>q.2)∘λx=>(x,x))=l0:=List.map_id l0;rw[e];exact hB
 same _ _ _ _:=rfl
 size:=Am _
 frm:=Ag _ _
 out:=AD
 rows x hx:=by simp at hx
 spec j k x _ hx:=by simp at hx
def Cf2 {l:List (Cl×Cl)} (h:Rd w A 6 n (l.flatMap pkC)) (i:Nat) (hi:i<l.length):
  ∃b o,A=Af ⟨b,o,Ae⟩/\b<w.heap.size/\w.cell? ⟨b,o+i*6,Ae⟩=Af (Aa Ab l[i].1.x)/\w.cell? ⟨b,o+i*6+1,Ae⟩=Af (Aa Ab l[i].1.y)/\w.cell? ⟨b,o+i*6+2,Ae⟩=Af (Aa Ac l[i].1.q)/\
   w.cell? ⟨b,o+i*6+3,Ae⟩=Af (Aa Ab l[i].2.x)/\w.cell? ⟨b,o+i*6+4,Ae⟩=Af (Aa Ab l[i].2.y)/\w.cell? ⟨b,o+i*6+5,Ae⟩=Af (Aa Ac l[i].2.q):=by
 have hl:=h.1;rw[Kq pkC 6 (λ_=>rfl)]at hl;obtain⟨b,o,e,hb,hc⟩:=h.2 Gv;have bi:∀f,f<6->(l.flatMap pkC)[i*6+f]? =(pkC l[i])[f]? :=λf hf=>It pkC 6 (λ_=>rfl) _ i f hi hf;exact⟨b,o,e,hb,hc (i*6+0) _ ((bi 0 Gv).trans rfl),hc (i*6+1) _ ((bi 1 Gv).trans rfl),hc (i*6+2) _ ((bi 2 Gv).trans rfl),hc (i*6+3) _ ((bi 3 Gv).trans rfl),hc (i*6+4) _ ((bi 4 Gv).trans rfl),hc (i*6+5) _ ((bi 5 Gv).trans rfl)⟩
def rL (a b:Int) (pA:Option Cj) (cr:List Cr) (pn pc:Nat) (root:Mv) (A:Option Cj) (l:List Stk) (n cc:Nat) (w:Aj) (hp:Lo a b cr) (oh:pn=cr.length) (fi:Rd w pA 3 pn (crs cr)) (dr:pn<=1000000) (ht:root.t<=255)
  (hn:n=l.length) (h:Ib w A l) (hl:n<=100000) (jd:∀x∈l,x.ls.length<=100000) (xy:∀x∈l,x.c.q<=255) (hQ:Qf w) (hT:Tn w):
  Al Dp 153 #[.agg #[a,b,Ad pA pn pc],.agg #[Aa Ac root.t,Aa Ab root.x,Aa Ab root.y],Ad A n cc] w (Ao6 (Ov a b cr root l) (fI a b cr root l).seams w):=by
 have dx:=Zz w (λw' hb=>iG a b pA cr pn pc root A l n cc w' hp oh (fi.below hb) dr ht hn (h.below hb) hl jd xy (hQ.below hb) (hT.below hb));have na:=Zz w (λw' hb=>jN a b pA cr pn pc root w' hp oh (fi.below hb) dr ht (hQ.below hb) (hT.below hb));have pu:=Zz w (λw' hb=>Wd a b pA cr pn pc root w' hp oh (fi.below hb) dr ht (hQ.below hb) (hT.below hb));have DS:=Ah (λ(w':Aj)=>Vz a b w' hp.sheet);have WM:=Zz w (λw' hb=>h.below hb);have PR:=Zz w (λw' hb=>(⟨oh,fi.below hb,hQ.below hb,hT.below hb⟩:pn=cr.length/\Rd w' pA 3 pn (crs cr)/\Qf w'/\Tn w'));have HP:=Ah hp;have HN:=Ah hn;have xb:=Ah jd;have ji:=Sx hp.sheet
 have BP:0<Hh a b:=by
  obtain⟨m1,-⟩:=Mg hp.sheet;have e0:4*a*b=4*(a*b):=Int.mul_assoc _ _ _;unfold Hh;omega
 obtain⟨cnt,ob⟩:=ey (Hh a b);rw[ob]at ji DS BP;have KT:=Ah ob;obtain⟨E,hE⟩:=ey (Ov a b cr root l);rw[hE]at dx⊢;have HE:=Ah hE;obtain⟨rt,rx,ry⟩:=root;dsimp only at dx na pu ht⊢;have H:=((Bx.start w).new #[a,b,Ad pA pn pc] 28 rfl).new #[Aa Ac rt,rx,ry] 30 (N:=w.heap.size+1) Gy;clear hp oh fi dr ht hn h jd xy hQ hT ob hE;go_in;go_upto_region 1 with fail;obtain⟨N,ct⟩:=Tw w.heap.size;rw[<-ct.out]at H⊢;obtain⟨P,hP⟩:=ey (N+1);rw[hP]at H⊢;generalize (w.alloc _).alloc _=W0 at H⊢;clear hP;obtain⟨⟨a0,a1,a2⟩,-⟩:=Hg (H.b 0);obtain⟨⟨b0,b1,b2⟩,-⟩:=Hg (H.b 1);go_wp2_with fail;refine(dx.out _ H.below).mono ?_;rintro ee w1 ⟨rfl,hb⟩;have H1:=H.call hb;clear a0 a1 a2 b0 b1 b2 hb H dx;by_cases hE0:E=0
 ·subst hE0;go_upto_region 4 with fail;have HWS:=Ah H1.below.size;go_cut [9] (λs9 wx=>∃Hb M B,s9= .pointer (Af ⟨B,0,Ae⟩)/\Hid (Bx w [(N,#[a,b,Ad pA pn pc],28),(P,#[Aa Ac rt,rx,ry],30),(Hb,(Ih (Ba cnt 0)).toArray,3),(B,#[a,b,Ad pA pn pc,Ad Ae 0 0,Ad Ae 0 0,Ad (Af ⟨Hb,0,Ae⟩) cnt cnt,.map (Af M),Ad Ae 0 0],326)] wx/\Kl pkK wx M []/\w.heap.size<=M))
  case first=>
   obtain⟨⟨a0,a1,a2⟩,-⟩:=Hg (H1.b 0);obtain⟨S,an,HSO⟩:=Og λW'=>W'.cell? ⟨N,0,Ae⟩=Af (Aa Ab a)/\W'.cell? ⟨N,1,Ae⟩=Af (Aa Ab b)/\W'.cell? ⟨N,2,Ae⟩=Af (Ad pA pn pc)
   have ag:Hid (∀W',Below w1.heap.size w1 W'->S W'):=Ah λW' h=>by
    subst an;exact⟨Gw h a0,Gw h a1,Gw h a2⟩
   clear a0 a1 a2 an;refine Ao (S:=S) Gx (ag.out _ (Ag _ _).drew) (λhS=>?_);have hb:Below w1.heap.size w1 w1.drew:=(Ag _ _).drew;have H:=H1.drew;generalize w1.drew=X0 at hb hS H⊢;clear H1;refine Oe 0 1 2 ?_;refine Ap (rs:=[3,5]) Gx Gy (Aq rfl (λK hK=>?_) (Aq rfl (λK hK=>?_) Ar))
   ·go_simp;refine(DS.out _).mono ?_;rintro ee X1 ⟨rfl,ad⟩;have hb:=Up hb ad;have H:=H.call ad;refine hK.o (ag.out _ hb) (λhS=>?_);clear hK K ad;refine Ap (rs:=[4,5]) Gx Gy (Aq rfl (λK hK=>?_) (Aq rfl (λK hK=>?_) Ar));obtain⟨Hb,EL⟩:=ey X1.heap.size;have ub:=Zf cnt ji X1;have H:=H.new (Ih (Ba cnt 0)).toArray 3 EL;have cg:=(Ag X1.heap.size X1).alloc (Am _) (.cells (Ih (Ba cnt 0)).toArray 3);have hb:=Up hb cg;rw[EL]at ub;go_simp;refine hK.o (ag.out _ hb) (λhS=>?_);clear hK K EL ub cg;generalize X1.alloc _=X2 at H hb hS⊢;refine rdy 5 (λK hK=>?_);obtain⟨M,XK⟩:=ey X2.heap.size;have ju:(Instr.makeMap 323 Ae).run Dp X2= .ok (.map (Af X2.heap.size)) (X2.alloc (.map #[] 0)):=by first|rfl|simp[Instr.makeMap]
    have hM:=Wf pkK X2;have H:=H.other (.map #[] 0);have cg:=(Ag X2.heap.size X2).alloc (Am _) (.map #[] 0);have MW:w1.heap.size<=X2.heap.size:=hb.size;have hb:=Up hb cg;rw[XK]at ju hM MW;go_simp;refine hK.o (ag.out _ hb) (λhS=>?_);clear hK K XK ju cg;rotate_left;obtain⟨M,XK⟩:=ey X1.heap.size;have ju:(Instr.makeMap 323 Ae).run Dp X1= .ok (.map (Af X1.heap.size)) (X1.alloc (.map #[] 0)):=by first|rfl|simp[Instr.makeMap]
    have hM:=Wf pkK X1;have H:=H.other (.map #[] 0);have cg:=(Ag X1.heap.size X1).alloc (Am _) (.map #[] 0);have MW:w1.heap.size<=X1.heap.size:=hb.size;have hb:=Up hb cg;rw[XK]at ju hM MW;go_simp;refine hK.o (ag.out _ hb) (λhS=>?_);clear hK K XK ju cg;generalize X1.alloc _=X2 at H hb hS hM⊢;refine rdy 4 (λK hK=>?_);obtain⟨Hb,EL⟩:=ey X2.heap.size;have ub:=Zf cnt ji X2;have H:=H.new (Ih (Ba cnt 0)).toArray 3 EL;have cg:=(Ag X2.heap.size X2).alloc (Am _) (.cells (Ih (Ba cnt 0)).toArray 3);have hb:=Up hb cg;have hM:=hM.below cg hM.lt;rw[EL]at ub;go_simp;refine hK.o (ag.out _ hb) (λhS=>?_);clear hK K EL ub cg
    all_goals
     generalize X2.alloc _=X3 at H hb hS hM⊢;refine Ke 6 ?_;obtain⟨B,hB⟩:=ey X3.heap.size;have hM:=hM.below ((Ag X3.heap.size X3).alloc (Am _) (.cells #[a,b,Ad pA pn pc,Ad Ae 0 0,Ad Ae 0 0,Ad (Af ⟨Hb,0,Ae⟩) cnt cnt,.map (Af M),Ad Ae 0 0] 326)) hM.lt;have H:=H.new #[a,b,Ad pA pn pc,Ad Ae 0 0,Ad Ae 0 0,Ad (Af ⟨Hb,0,Ae⟩) cnt cnt,.map (Af M),Ad Ae 0 0] 326 hB;have hb:=hb.alloc hb.size (.cells #[a,b,Ad pA pn pc,Ad Ae 0 0,Ad Ae 0 0,Ad (Af ⟨Hb,0,Ae⟩) cnt cnt,.map (Af M),Ad Ae 0 0] 326);refine rdy 7 (λK hK=>?_);go_simp;refine hK.o (ag.out _ hb) (λhS=>?_);clear hK K hB;refine Ke 8 ?_;refine An Gx ?_ _;go_wp2;go_meet;exact⟨Hb,M,B,rfl,Ah ⟨H,hM,Bt HWS.out MW⟩⟩
   ·obtain⟨M,XK⟩:=ey X0.heap.size;have ju:(Instr.makeMap 323 Ae).run Dp X0= .ok (.map (Af X0.heap.size)) (X0.alloc (.map #[] 0)):=by first|rfl|simp[Instr.makeMap]
    have hM:=Wf pkK X0;have H:=H.other (.map #[] 0);have cg:=(Ag X0.heap.size X0).alloc (Am _) (.map #[] 0);have MW:w1.heap.size<=X0.heap.size:=hb.size;have hb:=Up hb cg;rw[XK]at ju hM MW;go_simp;refine hK.o (ag.out _ hb) (λhS=>?_);clear hK K XK ju cg;generalize X0.alloc _=X1 at H hb hS hM⊢;refine rdy 3 (λK hK=>?_);go_simp;refine(DS.out _).mono ?_;rintro ee X2 ⟨rfl,ad⟩;have hb:=Up hb ad;have H:=H.call ad;have hM:=hM.below ad hM.lt;refine hK.o (ag.out _ hb) (λhS=>?_);clear hK K ad;refine rdy 4 (λK hK=>?_);obtain⟨Hb,EL⟩:=ey X2.heap.size;have ub:=Zf cnt ji X2;have H:=H.new (Ih (Ba cnt 0)).toArray 3 EL;have cg:=(Ag X2.heap.size X2).alloc (Am _) (.cells (Ih (Ba cnt 0)).toArray 3);have hb:=Up hb cg;have hM:=hM.below cg hM.lt;rw[EL]at ub;go_simp;refine hK.o (ag.out _ hb) (λhS=>?_);clear hK K EL ub cg;generalize X2.alloc _=X3 at H hb hS hM⊢;refine Ke 6 ?_;obtain⟨B,hB⟩:=ey X3.heap.size;have hM:=hM.below ((Ag X3.heap.size X3).alloc (Am _) (.cells #[a,b,Ad pA pn pc,Ad Ae 0 0,Ad Ae 0 0,Ad (Af ⟨Hb,0,Ae⟩) cnt cnt,.map (Af M),Ad Ae 0 0] 326)) hM.lt;have H:=H.new #[a,b,Ad pA pn pc,Ad Ae 0 0,Ad Ae 0 0,Ad (Af ⟨Hb,0,Ae⟩) cnt cnt,.map (Af M),Ad Ae 0 0] 326 hB;have hb:=hb.alloc hb.size (.cells #[a,b,Ad pA pn pc,Ad Ae 0 0,Ad Ae 0 0,Ad (Af ⟨Hb,0,Ae⟩) cnt cnt,.map (Af M),Ad Ae 0 0] 326);refine rdy 7 (λK hK=>?_);go_simp;refine hK.o (ag.out _ hb) (λhS=>?_);clear hK K hB;refine Ke 8 ?_;refine An Gx ?_ _;go_wp2;go_meet;exact⟨Hb,M,B,rfl,Ah ⟨H,hM,Bt HWS.out MW⟩⟩
  obtain⟨Hb,M,B,rfl,HS⟩:=hcut;obtain⟨H,hM,kx⟩:=HS.out;have e_:=Ah kx;have S':=HE.out
  obtain⟨LO,AV⟩:(Ie a b cr ⟨rt,rx,ry⟩).2=0/\chkS cnt l=0:=by
   unfold Ov at S';rw[KT.out]at S'
   split at S'
   ·contradiction
   ·rename_i g1
    split at S'
    ·contradiction
    ·rename_i g2;exact⟨El.1 g1,El.1 g2⟩
  obtain⟨jc,bv,xt,jj⟩:=Ny LO;obtain⟨⟨⟨ms,is⟩,er⟩,GX⟩:∃z,Ie a b cr ⟨rt,rx,ry⟩=z:=⟨_,rfl⟩;rw[GX]at na pu LO jc bv xt jj;dsimp only at na pu LO jc bv xt jj;subst LO;rw[KT.out]at jc bv;rw[jc]at na;rw[bv]at pu;have Z5:=Ah GX;have CN:=Ah jc;have yv:=Ah bv;have DY:=Ah xt;have VZ:=Ah jj;have HCS:=Ah AV;clear kx S' GX jc bv xt jj AV HS;obtain⟨⟨a0,a1,a2⟩,-⟩:=Hg (H.b 0);obtain⟨⟨b0,b1,b2⟩,-⟩:=Hg (H.b 1);go_wp2_with fail;refine(na.out _ H.below).mono ?_;rintro ee w2 ⟨hb,⟨h0,-⟩|⟨-,G1,rfl,jz,hG1⟩⟩
  ·exact absurd rfl h0
  have H2:=H.join hb jz hG1;have AQ:=hM.below hb hM.lt;clear a0 a1 a2 b0 b1 b2 hb jz hG1 H hM;have dm:=H2.b 3;have c3:w2.cell? ⟨B,3,Ae⟩=Af (Ad Ae 0 0):=(Bz w2 B 3 _ _ (0,0) dm).trans rfl;have z3:w2.frozen? ⟨B,3,Ae⟩=false:=by simp[Ea,dm]
  obtain⟨⟨a0,a1,a2⟩,-⟩:=Hg (H2.b 0);obtain⟨⟨b0,b1,b2⟩,-⟩:=Hg (H2.b 1)
  have HBM:Hid (M≠B):=Ah λe=>by
   obtain⟨es,clock,hm,-⟩:=AQ;rw[e,dm]at hm
   cases hm
  have H3:=H2.set 3 3 rfl (Ad (Af ⟨G1,0,Ae⟩) cnt cnt);have lg:=AQ.same (w':=w2.setCell ⟨B,3,Ae⟩ (Ad (Af ⟨G1,0,Ae⟩) cnt cnt)) (Dq w2 ⟨B,3,Ae⟩ _ M (by show M≠B;exact HBM.out));dsimp only[Cg,Ch,Eu,Er,Ci]at H3;have RT:=Ah H2;clear dm H2 AQ;go_upto_region 6 with fail;generalize w2.setCell _ _=w3 at H3 lg⊢;clear c3 z3 a0 a1 a2 b0 b1 b2 RT;obtain⟨⟨a0,a1,a2⟩,-⟩:=Hg (H3.b 0);obtain⟨⟨b0,b1,b2⟩,-⟩:=Hg (H3.b 1);go_wp2_with fail;refine(pu.out _ H3.below).mono ?_;rintro ee w4 ⟨hb,⟨h0,-⟩|⟨-,G2,rfl,jz,MU⟩⟩
  ·exact absurd rfl h0
  have H4:=H3.join hb jz MU;have uk:=lg.below hb lg.lt;clear a0 a1 a2 b0 b1 b2 hb jz MU H3 lg;have dm:=H4.b 3;have c3:w4.cell? ⟨B,4,Ae⟩=Af (Ad Ae 0 0):=(Bz w4 B 4 _ _ (0,0) dm).trans rfl;have z3:w4.frozen? ⟨B,4,Ae⟩=false:=by simp[Ea,dm]
  have H5:=H4.set 3 4 rfl (Ad (Af ⟨G2,0,Ae⟩) cnt cnt);have td:=uk.same (w':=w4.setCell ⟨B,4,Ae⟩ (Ad (Af ⟨G2,0,Ae⟩) cnt cnt)) (Dq w4 ⟨B,4,Ae⟩ _ M (by show M≠B;exact HBM.out));dsimp only[Cg,Ch,Eu,Er,Ci]at H5;clear dm H4 uk;go_upto_region 7 with fail;generalize w4.setCell _ _=w5 at H5 td⊢;clear c3 z3
  have H6:Hid (Bx w (osL a b pA pn pc rt rx ry N P Hb B G1 G2 M cnt ms is (Yt cnt (hTo l 0 0))) w5):=Ah (by
   rw[eP];exact H5)
  have ul:=Ah td;clear H5 td na pu DS HWS;go_wp2
  go_loopw [54] (λPI wr=>∃k:Nat,k<=n/\PI= Aa Ab k/\Hid (Bx w (osL a b pA pn pc rt rx ry N P Hb B G1 G2 M cnt ms is (Yt cnt (hTo l k 0))) wr)/\Hid (Kl pkK wr M [])) (λPI _=>n-(intOf PI).toNat)
  case atStart=>exact⟨0,Gv,rfl,H6,ul⟩
  obtain⟨k,hk,rfl,HH,CO⟩:=hrel;clear H6 ul;by_cases ac:k<n
  ·have be:k<l.length:=oHx HN.out;obtain⟨bb,o,A',c',TD,cj,⟨d0,d1,d2,d3⟩,du,hle,jb,ba⟩:=(WM.out w (Ag _ _)).get k be;have d0:=Gw HH.out.below d0;have d1:=Gw HH.out.below d1;have d2:=Gw HH.out.below d2;have d3:=Gw HH.out.below d3
   have fg:∀id∈l[k].ls,id<cnt:=λid hid=>by
    have:=(La HCS.out).1 k be;unfold Kn at this;rw[Aw be]at this;simp only[Cz]at this;have h2:=Du.1 this.2 id hid;simpa using h2
   have dq:=xb.out l[k] (Ay _);have fp:=At8 l k be
   have bo:∀j id,l[k].ls[j]? =Af id->hTo l k (j+1)=hTo l k j++[(id,j)]:=λj id hj=>by
    obtain⟨h1,rfl⟩:=List.getElem?_eq_some_iff.1 hj;exact At9 l k j be h1
   obtain⟨⟨⟨x0,x1,x2⟩,ids⟩,hx⟩:∃z,l[k]=z:=⟨_,rfl⟩;simp only[hx]at d0 d1 d2 d3 fg dq fp bo ba du hle;obtain⟨m,hm⟩:=ey ids.length;rw[hm]at d3 dq fp ba du hle;have dt:=Zz w (λw' hb=>ba.below hb);have SF:=Ah fg;have qm:=Ah fp;have HSTP:=Ah bo;have gj:=Ah hm;have q0:(k:Int)<(n:Int):=Gv;obtain⟨C,hC⟩:=ey wr.heap.size;have H7:=HH.out.new #[x0,x1,Aa Ac x2,Ad A' m c'] 92 hC;have CY:=CO.out.below ((Ag wr.heap.size wr).alloc (Am _) (.cells #[x0,x1,Aa Ac x2,Ad A' m c'] 92)) CO.out.lt;have cg:=(Ag wr.heap.size wr).alloc (Am _) (.cells #[x0,x1,Aa Ac x2,Ad A' m c'] 92);subst TD;clear fg fp bo ba du hle hx hm;go_upto_region 10 with fail;generalize wr.alloc _=w7 at H7 CY cg⊢;have KR:=Ah cg;clear d0 d1 d2 d3 cg hC;obtain⟨⟨e0,e1,e2,e3⟩,-⟩:=Jh (H7.b 6);have H7:=Ah (H7.upto 6);have CY:=Ah CY;have hM70:=CY;go_wp2_with fail;obtain⟨WY,rfl⟩:=ez wr
   go_loopw [61] (λPJ wr=>∃j:Nat,j<=m/\PJ= Aa Ab j/\Hid (Bx w (osL a b pA pn pc rt rx ry N P Hb B G1 G2 M cnt ms is (Yt cnt (hTo l k j))) wr)/\Hid (Kl pkK wr M [])) (λPJ _=>m-(intOf PJ).toNat)
   case atStart=>exact⟨0,Gv,rfl,H7,hM70⟩
   obtain⟨j,hj,rfl,xa,j4⟩:=hrel;clear H7 CY hM70 HH CO;by_cases fw:j<m
   ·have DF:j<ids.length:=oHx gj.out;obtain⟨rb,ro,hrA,uw,r0⟩:=Rp (dt.out _ xa.out.below) j DF;obtain⟨id,hid⟩:=ey (ids[j]);have NV:id<cnt:=SF.out id (hid▸Ay DF);have bo:=HSTP.out j id (by rw[Aw DF,hid]);rw[hid]at r0;have q1:(j:Int)<(m:Int):=Gv;have q2:(id:Int)<(cnt:Int):=Gv;have CV:=xa.out.b 3;have f5:wr.cell? ⟨B,5,Ae⟩=Af (Ad (Af ⟨Hb,0,Ae⟩) cnt cnt):=(Bz wr B 5 _ _ (0,0) CV).trans rfl;have hHB:=xa.out.b 2;have UM:=eO cnt (hTo l k j);obtain⟨hv,hhv⟩:∃z,(Yt cnt (hTo l k j))[id]? =Af z:=⟨_,Aw Gv⟩
    have c0:wr.cell? ⟨Hb,id,Ae⟩=Af (Aa Ab (hv:Int)):=by
     rw[Bz wr Hb id _ _ (0,0) hHB,Fv];unfold Ih;rw[List.getElem?_map,hhv];rfl
    have z0:wr.frozen? ⟨Hb,id,Ae⟩=false:=by simp[Ea,hHB]
    have H8:=xa.out.set 2 id rfl (Aa Ab (j:Int));rw[yZ,<-Ae8 cnt (hTo l k j) (id,j),<-bo]at H8
    have hMH:M≠Hb:=λe=>by
     obtain⟨es,clock,hm,-⟩:=j4.out;rw[e,hHB]at hm
     cases hm
    have H8:=Ah H8;have GR:=Ah (j4.out.same (w':=wr.setCell ⟨Hb,id,Ae⟩ (Aa Ab (j:Int))) (Dq wr ⟨Hb,id,Ae⟩ _ M (by show M≠Hb;exact hMH)));subst hrA;clear CV hHB hhv bo UM hid NV;go_wp2;exact⟨⟨j+1,Gv,by go_num,H8,GR⟩,by simp[intOf];omega⟩
   ·obtain rfl:j=m:=Gv;have q1:¬(j:Int)<(j:Int):=Gv;have H8:Hid (Bx w (osL a b pA pn pc rt rx ry N P Hb B G1 G2 M cnt ms is (Yt cnt (hTo l (k+1) 0))) wr):=Ah (by rw[<-qm.out];exact xa.out);go_wp2;exact⟨⟨k+1,Gv,by go_num,H8,j4⟩,by simp[intOf];omega⟩
  ·obtain rfl:k=n:=Gv;have q0:¬(k:Int)<(k:Int):=Gv;obtain⟨K,hK⟩:∃z:Lk,fI a b cr ⟨rt,rx,ry⟩ l=z:=⟨_,rfl⟩;rw[hK];have UM:=eO cnt (Qb l)
   have hKe:K=⟨a,b,cr,ms,is,Yt cnt (Qb l)⟩:=by
    rw[<-hK];unfold fI;rw[Z5.out,KT.out]
   have M_:hTo l k 0=Qb l:=by
    have:=Bj4 l;rw[<-HN.out]at this;exact this
   rw[M_]at HH;obtain⟨cj,ID⟩:=Ay3 HH.out CO.out e_.out CN.out yv.out UM PR.out;have fy:=Ce0 (b:=b) KT.out CN.out yv.out UM DY.out VZ.out HP.out;rw[<-hKe]at cj ID fy;obtain⟨V,hV⟩:=ey (osV pA pn pc Hb G1 G2 cnt);rw[hV]at cj ID;have M':=Ah cj;have jt:=Ah ID;have si:=Ah fy;have de:=HH.out.below;have wz:=Ah de;have HHA:=Ah (show V.hA=Af ⟨Hb,0,Ae⟩/\V.hc=cnt by rw[<-hV];exact⟨rfl,rfl⟩);have CL:=Ah hK;clear hK hKe M_ UM cj ID fy hV de HH CO Z5 CN yv DY VZ HP PR WM HCS HN xb e_ KT HE;obtain⟨-,-,-,-,-,f5⟩:=Pl M'.out;rw[HHA.out.1,HHA.out.2]at f5;obtain⟨WZ,rfl⟩:=ez wr;go_wp2_with fail;clear f5
   go_loopw [80] (λs80 wr=>∃i:Nat,i<=cnt/\s80= Aa Ab i/\Hid (∃lB:List SmB,lB.map (·.s)=K.seamsTo (3*i)/\Il w.heap.size B [G1,G2,Hb] (V.fix K cnt) wr lB/\Frm w.heap.size [G1,G2,Hb] WZ wr)) (λs80 _=>cnt-(intOf s80).toNat)
   case atStart=>exact⟨0,Gv,rfl,Ah ⟨[],rfl,M'.out,Frm.refl _ _ _⟩⟩
   obtain⟨i,hi,rfl,HS⟩:=hrel;by_cases fw:i<cnt
   ·have q1:(i:Int)<(cnt:Int):=Gv;go_wp2_with fail;obtain⟨WX,rfl⟩:=ez wr
    go_loopw [83] (λs83 wr=>∃e:Nat,e<=3/\s83= Aa Ac e/\Hid (∃lB:List SmB,lB.map (·.s)=K.seamsTo (3*i+e)/\Il w.heap.size B [G1,G2,Hb] (V.fix K cnt) wr lB/\Frm w.heap.size [G1,G2,Hb] WZ wr)) (λs83 _=>3-(intOf s83).toNat)
    case atStart=>exact⟨0,Gv,rfl,HS⟩
    obtain⟨e,he,rfl,qw⟩:=hrel;clear HS;by_cases OB:e<3
    ·have q2:(e:Int)<3:=Gv;obtain⟨lB,gr,jf,MT⟩:=qw.out;have DN:=Uj si.out (3*i+e) Gv;rw[<-gr]at DN;have hlen:lB.length<=3*i+e:=by simpa using DN.2
     have d_:=Ah (Ax0 w.heap.size B cnt i e [G1,G2,Hb] K V lB wr si.out fw Gv (jt.out.frm MT) jf Gv (λx hx=>by
      have:=DN.1 x.s (Dr.2 ⟨x,hx,rfl⟩);exact⟨by have:=this.lp;omega,by have:=this.ll;omega,by have:=this.le;omega⟩))
     rw[gr]at d_
     have CD:K.meet i e (K.seamsTo (3*i+e))=K.seamsTo (3*i+(e+1)):=by
      show _=K.meet ((3*i+e)/3) ((3*i+e)%3) (K.seamsTo (3*i+e));rw[show(3*i+e)/3=i by omega,show(3*i+e)%3=e by omega]
     rw[CD]at d_;have HF1:=Ah MT;clear gr jf MT DN hlen CD qw;go_wp2_with fail;refine d_.out.mono ?_;rintro ee w9 ⟨rfl,l2,jl,dm,CX⟩;have HS3:Hid (∃lB:List SmB,lB.map (·.s)=K.seamsTo (3*i+(e+1))/\Il w.heap.size B [G1,G2,Hb] (V.fix K cnt) w9 lB/\Frm w.heap.size [G1,G2,Hb] WZ w9):=Ah ⟨l2,jl,dm,HF1.out.trans CX⟩;clear jl dm CX HF1 d_;go_wp2;exact⟨⟨e+1,Gv,by go_num,HS3⟩,by simp[intOf];omega⟩
    ·obtain rfl:e=3:=Gv;have HS3:Hid (∃lB:List SmB,lB.map (·.s)=K.seamsTo (3*(i+1))/\Il w.heap.size B [G1,G2,Hb] (V.fix K cnt) wr lB/\Frm w.heap.size [G1,G2,Hb] WZ wr):=Ah qw.out;go_wp2;exact⟨⟨i+1,Gv,by go_num,HS3⟩,by simp[intOf];omega⟩
   ·obtain rfl:i=cnt:=Gv;have q1:¬(i:Int)<(i:Int):=Gv;obtain⟨l0,ud,GN,E7⟩:=HS.out;have DN:=Uj si.out (3*i) (Am _);rw[<-ud]at DN;have dw:∀x∈l0,aC i (3*i) x.s:=λx hx=>DN.1 x.s (Dr.2 ⟨x,hx,rfl⟩);have hlen:l0.length<=3*i:=by simpa using DN.2
    have hse:K.seams=l0.map (·.s):=by
     unfold Lk.seams;rw[<-si.out.n];exact ud.symm
    have JF:=Ah hse;obtain⟨A7,c7,k7,IR⟩:=Aq3 GN (λx hx=>⟨(dw x hx).qa,(dw x hx).qb⟩) Gv;have HSO:=Ah IR;have GH:=Ah dw;have CM:=Ah hlen;have HF0:=Ah E7;obtain⟨m,hm⟩:=ey l0.length;rw[hm]at k7 HSO;have PR:=Ah hm;have hm5:m<=100000:=Gv;clear DN ud GN E7 IR dw hlen hse HS hm;go_wp2_with fail;refine HSO.out.mono ?_;rintro ee w8 ⟨rfl,QD,hF8⟩;clear k7 HSO;have tr:=Ah QD;have yu:=Ah (HF0.out.trans hF8);obtain⟨M8,kv,a1,a2,a3,⟨ks,mh,a4⟩,a5,a6,a7,a8,a9,sm⟩:=QD;have be:ks.length=m:=by rw[mh.length_eq,Bp];exact PR.out
    rw[be]at a4;obtain⟨A8,c8,hv,-,-⟩:=Hy a4;subst hv;obtain⟨k6,k7,-,-,-⟩:=Mm a1 a2;have ub:=Aw9 m hm5 w8;obtain⟨GO,rm⟩:=ey w8.heap.size;have cg:=(Ag w8.heap.size w8).alloc (Am _) (.cells ((Ba m Vo).flatMap smC).toArray 263);have hBL:=Ah (tr.out.more (P:=GO) cg Gv Hv);have Q_:=Hz a4 (Am _) cg;have GR:=a3.below cg a3.lt;have P0:∀g∈l0.flatMap SmB.blks,g<w8.heap.size:=λg hg=>(a5.lt g hg).2
    have zw:∀g,Value.ownBlock (Ad A8 m c8)=Af g->g<w8.heap.size/\g∉l0.flatMap SmB.blks:=λg hg=>⟨(a4.lt g hg).2,λhx=>by
     unfold Hq at a7;simp only[Ei,Bq,Option.mem_toList]at a7;exact a7.2.2.2.2 g hg g hx rfl⟩
    have XJ:M8<w8.heap.size/\M8∉l0.flatMap SmB.blks:=⟨a3.lt,λhx=>by
     unfold Hq at a7;simp only[Ei,Bl,not_or]at a7;exact a7.2.1.2 hx⟩
    have r_:B<w8.heap.size/\B∉l0.flatMap SmB.blks:=⟨(Au.1 a2).1,λhx=>by
     unfold Hq at a7;simp only[Ei,Bl,Bk,not_or]at a7;exact a7.1.2.2 hx⟩
    have k6L:=Gw cg k6;have k7L:=Gw cg k7;have AD:=Ca w8 (.cells ((Ba m Vo).flatMap smC).toArray 263);have J9:Below w.heap.size WZ (w8.alloc (.cells ((Ba m Vo).flatMap smC).toArray 263)):=yu.out.1.trans (cg.mono (by have:=wz.out.size;have:=yu.out.1.size;omega));have F6:=jt.out.frm (yu.out.trans (⟨cg.mono (by have:=wz.out.size;have:=yu.out.1.size;omega),λg hg=>cg.block g (sm g hg).1⟩:Frm w.heap.size [G1,G2,Hb] w8 _));have hOG:w.heap.size<=GO:=by have:=wz.out.size;have:=yu.out.1.size;omega
    rw[rm]at ub AD;rw[rm]at P0 zw XJ r_;go_upto_region 27 with fail
    try rw[rm]
    generalize w8.alloc _=WL at hBL Q_ GR k6L k7L AD J9 F6⊢;have ca:=hBL.out.keys;have bo:=Ay4 (n:=m) (ks:=ks) hBL.out AD;have hGOl:GO<WL.heap.size:=(Au.1 AD).1
    have E9:∀g∈[G1,G2,Hb],g<WL.heap.size/\g∉l0.flatMap SmB.blks/\g≠GO:=λg hg=>by
     have h1:=(sm g hg).1;refine⟨Gv,λhx=>(sm g hg).2 ?_,Gv⟩;unfold Hq;simp only[Bk,Bl];exact .inr (.inr (.inr hx))
    have HKS:=Ah mh;have HKL:=Ah be;have KY:=Ah ca;have VY:=Ah hGOl;have HOG:=Ah hOG;have HF3:=Ah E9
    have HLTB:Hid (∀g∈l0.flatMap SmB.blks,g<WL.heap.size/\g≠GO):=Ah λg hg=>by
     have:=P0 g hg;exact⟨Gv,Gv⟩
    have HKB:Hid (∀g,Value.ownBlock (Ad A8 m c8)=Af g->g<WL.heap.size/\g∉l0.flatMap SmB.blks/\g≠GO):=Ah λg hg=>by
     obtain⟨h1,h2⟩:=zw g hg;exact⟨Gv,h2,Gv⟩
    have HMB:Hid (M8<WL.heap.size/\M8∉l0.flatMap SmB.blks/\M8≠GO):=Ah ⟨Gv,XJ.2,Gv⟩;have wg:Hid (B<WL.heap.size/\B∉l0.flatMap SmB.blks/\B≠GO):=Ah ⟨Gv,r_.2,Gv⟩;have HKR:=Ah Q_;have HM8:=Ah GR;have HK6:=Ah k6L;have Z5:=Ah J9;have HLL:=Ah F6;have YP:Hid (∃zz zs,iJ w.heap.size B GO m [G1,G2,Hb] (V.fix K i) l0 ks WL WL 0 zz zs):=Ah ⟨_,_,bo⟩;clear bo a1 a2 a3 a4 a5 a6 a7 a8 a9 sm mh be k6 k7 ub rm cg hBL Q_ GR P0 zw XJ r_ k6L AD J9 F6 hOG ca hGOl E9 tr yu HF0 jt M';go_wp2_with fail;clear k7L
    go_loopw [108] (λX9 wr=>∃j:Nat,j<=m/\X9= Aa Ab j/\Hid (∃zz zs,iJ w.heap.size B GO m [G1,G2,Hb] (V.fix K i) l0 ks WL wr j zz zs)) (λX9 _=>m-(intOf X9).toNat)
    case atStart=>exact⟨0,Gv,rfl,YP⟩
    obtain⟨j,hj,rfl,HV⟩:=hrel;clear YP;by_cases fw:j<m
    ·have q1:(j:Int)<(m:Int):=Gv;obtain⟨zz,zs,hv⟩:=HV.out;obtain⟨k9,x0,x,b1,b2,ur,JT,PD,OZ,hzz,YF⟩:=Bo0 hv fw HKS.out HKL.out KY.out VY.out HOG.out HLTB.out;have qm:=Ah YF;have O0:j<ks.length:=by rw[HKL.out];exact fw
     have O4:=Io HKR.out (w':=wr) λg hg=>hv.same g (HKB.out g hg).1 (HKB.out g hg).2.1 (HKB.out g hg).2.2;obtain⟨kb,ko,hA8,hkbl,r0,r1,r2,r3,r4,r5⟩:=Cf2 (Rd.of_own O4) j O0;have iz:ks[j]=k9:=by rw[Aw O0]at ur;simpa using ur
     rw[iz]at r0 r1 r2 r3 r4 r5;have dq:=λW' (h:Kl pkK W' M8 (Ot l0))=>We dM Tryz.underlying323 (et:=332) (z:= .pointer Ae) (λw=>Gx) h k9 false;rw[JT]at dq;simp only[Ek,if_false,Option.getD_some]at dq;obtain⟨⟨⟨u0,u1,u2⟩,v0,v1,v2⟩,hke⟩:∃z,k9=z:=⟨_,rfl⟩;rw[hke]at r0 r1 r2 r3 r4 r5 dq;unfold pkK SmB.ptr at dq;dsimp only at r0 r1 r2 r3 r4 r5 dq;have a_:=Ah dq
     have q_:wr.cell? ⟨B,6,Ae⟩=Af (.map (Af M8)):=by
      have h6:=HK6.out;unfold World.cell? at h6⊢;rw[hv.same B wg.out.1 wg.out.2.1 wg.out.2.2];exact h6
     have kx:=HM8.out.same (w':=wr) (hv.same M8 HMB.out.1 HMB.out.2.1 HMB.out.2.2);obtain⟨C,hC⟩:=ey wr.heap.size;have cg:=(Ag wr.heap.size wr).alloc (Am _) (.cells #[u0,u1,Aa Ac u2,v0,v1,Aa Ac v2] 329);have EV:=Ca wr (.cells #[u0,u1,Aa Ac u2,v0,v1,Aa Ac v2] 329);rw[hC]at EV;have E4:=Gw cg q_;have F9:=kx.below cg kx.lt;have hszW:=hv.size;have HVV:=Ah hv;have WV:=Ah hzz;have wi:=Ah OZ;have HX0:=Ah PD;clear hv hzz OZ PD YF O4 JT ur iz hke O0 dq q_ kx hkbl HV;subst hA8;go_upto_region 30 with fail
     try rw[hC]
     generalize wr.alloc _=W1 at cg EV E4 F9⊢;clear r0 r1 r2 r3 r4 r5;obtain⟨⟨y0,y1,y2,y3,y4,y5⟩,-⟩:=cY EV;obtain⟨S,an,HSO⟩:=Og λW'=>W'.cell? ⟨C,0,Ae⟩=Af (Aa Ab u0)/\W'.cell? ⟨C,1,Ae⟩=Af (Aa Ab u1)/\W'.cell? ⟨C,2,Ae⟩=Af (Aa Ac u2)/\W'.cell? ⟨C,3,Ae⟩=Af (Aa Ab v0)/\W'.cell? ⟨C,4,Ae⟩=Af (Aa Ab v1)/\W'.cell? ⟨C,5,Ae⟩=Af (Aa Ac v2)
     have ag:Hid (∀W',W'.heap[C]? =W1.heap[C]? ->S W'):=Ah λW' h=>by
      have hc:∀f u,W1.cell? ⟨C,f,Ae⟩=Af u->W'.cell? ⟨C,f,Ae⟩=Af u:=λf u hu=>by
       unfold World.cell? at hu⊢;rw[h];exact hu
      subst an;exact⟨hc _ _ y0,hc _ _ y1,hc _ _ y2,hc _ _ y3,hc _ _ y4,hc _ _ y5⟩
     have hCl:C<W1.heap.size:=(Au.1 EV).1;clear y0 y1 y2 y3 y4 y5 an EV;have dh:Below wr.heap.size wr W1.drew:=cg.drew;have hv:=HVV.out
     have hFx:Frm w.heap.size [G1,G2,Hb] WL W1.drew:=⟨hv.frm.trans (dh.mono (by have:=HOG.out;have:=VY.out;omega)),λg hg=>by
      obtain⟨g1,g2,g3⟩:=HF3.out g hg;exact(dh.block g Gv).trans (hv.same g g1 g2 g3)⟩
     have CW:=hv.bld.below dh;rw[WV.out]at CW;have KE:=GH.out x0 HX0.out
     have qz:=Ah (xJ w.heap.size B i (GO::[G1,G2,Hb]) K V b1 b2 x W1.drew si.out ((HLL.out.frm hFx).more) CW BP
      (λp hp=>(KE.ps p (wi.out.ps.mem_iff.2 hp)).1) (λp hp=>(KE.ls p (wi.out.ls.mem_iff.2 hp)).2.1)
      ⟨by have:=wi.out.ps.length_eq;have:=KE.lp;omega,by have:=wi.out.ls.length_eq;have:=KE.ll;omega,by have:=wi.out.es.length_eq;have:=KE.le;omega⟩)
     have hxlt:∀g∈x.blks,g<WL.heap.size/\g≠GO:=λg hg=>by
      have hgm:g∈(zz.map (·.2)).flatMap SmB.blks:=by rw[WV.out];simp[hg]
      obtain⟨q,hq,hgq⟩:=Ec.1 hgm;obtain⟨r,hr,rfl⟩:=Dr.1 hq;have LS:=(hv.rel r hr).blks;rw[LS]at hgq;exact HLTB.out g (Ec.2 ⟨r.1,by rw[<-hv.fst];exact Dr.2 ⟨r,hr,rfl⟩,hgq⟩)
     have HXLT:=Ah hxlt;have hGOw:wr.heap[GO]? =_:=hv.out;have ld:=hv.len;have GM:=Ah ld;have ZZ:=Ah hGOw;have hk6:W1.drew.cell? ⟨B,6,Ae⟩=Af (.map (Af M8)):=E4;have e_:=Ah F9;unfold SmB.ptr at qz;clear hv hFx CW KE hxlt hGOw ld E4 F9 cg;have fa:=Ah dh;clear dh;refine Ao (S:=S) Gx (ag.out _ rfl) (λhS=>?_);have dq:=a_.out W1.drew (e_.out.same rfl);have hCD:C<W1.drew.heap.size:=hCl;have hCH:Hid (W1.drew.heap[C]? =W1.heap[C]?):=Ah rfl;generalize W1.drew=X0 at hS dq hk6 qz fa hCD hCH⊢;refine Hk 0 1 2 3 ?_;refine Oe 4 5 7 ?_;refine rdy 6 (λK hK=>?_);go_simp;refine hK.o hS (λhS=>?_);clear hK K hk6;refine rdy 8 (λK hK=>?_);go_simp;refine hK.o hS (λhS=>?_);clear hK K dq;refine rdy 9 (λK hK=>?_);go_simp;refine qz.out.mono ?_;rintro ee X1 ⟨y,A1,A2,A3,rfl,ZC,hyp,KM,dm,CX,CC,ym,tp⟩;have hCne:C≠GO:=oHx VY.out;have hCx:C∉x.blks:=λhg=>by have:=(HXLT.out C hg).1;omega
     have t_:X1.heap[C]? =W1.heap[C]? :=(tp C hCD hCx).trans hCH.out;have hGOx:GO∉x.blks:=λhg=>(HXLT.out GO hg).2 rfl;have hszX:=fa.out.size;have hGOX:X1.heap[GO]? =wr.heap[GO]? :=(tp GO (oHx VY.out) hGOx).trans (fa.out.block GO (oHx VY.out));obtain⟨RN,RO,-⟩:=qK (y.s,A1,A2,A3) (hGOX.trans ZZ.out) GM.out fw;have yw:=qm.out X0 X1 y A1 A2 A3 fa.out ZC hyp KM ym dm CX CC tp;have hC2:(X1.setCells GO (j*9) (smC (y.s,A1,A2,A3))).heap[C]? =W1.heap[C]? :=(World.heap_setCells_other X1 GO (j*9) _ (oHx CX.1.size) hCne).trans t_;have qw:=Ah (ag.out _ hC2);refine hK.o (ag.out _ t_) (λhS=>?_);clear hK K;clear ZC hyp KM dm CX CC ym tp t_ hC2 hGOX qz;obtain⟨w0c,e0⟩:=RN 0 Gv;obtain⟨w1c,e1⟩:=RN 1 Gv;obtain⟨w2c,e2⟩:=RN 2 Gv;obtain⟨w3c,e3⟩:=RN 3 Gv;obtain⟨w4c,e4⟩:=RN 4 Gv;obtain⟨w5c,e5⟩:=RN 5 Gv;obtain⟨w6c,e6⟩:=RN 6 Gv;obtain⟨w7c,e7⟩:=RN 7 Gv;obtain⟨w8c,e8⟩:=RN 8 Gv;have z0:=RO (j*9);have z1:=RO (j*9+1);have z2:=RO (j*9+2);have z3:=RO (j*9+3);have z4:=RO (j*9+4);have z5:=RO (j*9+5);have z6:=RO (j*9+6);have z7:=RO (j*9+7);have z8:=RO (j*9+8);simp only[Nat.add_zero]at e0;unfold smC at qw yw;unfold Sm.val Sm.cells;unfold Sm.cells at qw yw;obtain⟨⟨⟨s0,s1,s2⟩,⟨t0,t1,t2⟩,ps,ls,es⟩,ZC⟩:∃z,y.s=z:=⟨_,rfl⟩;rw[ZC]at qw yw⊢;obtain⟨np,oc⟩:=ey ps.length;obtain⟨nl,ky⟩:=ey ls.length;obtain⟨ne,hne⟩:=ey es.length;dsimp only at qw yw⊢;rw[oc,ky,hne]at qw yw⊢;have yw:=Ah yw;clear RN RO ZC oc ky hne;refine Ke 10 ?_;refine rdy 11 (λK hK=>?_);go_simp;have hS3:=qw.out;have SO:=yw.out;simp only[World.setCells,Nat.add_assoc,Nat.reduceAdd]at hS3 SO;refine hK.o hS3 (λhS=>?_);have SO:=Ah SO;clear hK K hS3 hS e0 e1 e2 e3 e4 e5 e6 e7 e8 z0 z1 z2 z3 z4 z5 z6 z7 z8 yw qw;refine An Gx ?_ _;go_wp2_with fail;obtain⟨zz',hzn⟩:=SO.out;exact⟨⟨j+1,Gv,by go_num,Ah ⟨zz',_,hzn⟩⟩,by simp[intOf];omega⟩
    ·obtain rfl:j=m:=Gv;have q1:¬(j:Int)<(j:Int):=Gv;obtain⟨zz,zs,hv⟩:=HV.out;obtain⟨h1,h2⟩:=Bz0 (O':=w.heap.size) hv HKS.out HKL.out KY.out HOG.out (by have:=HOG.out;have:=VY.out;omega);rw[<-JF.out]at h1;have ld:=hv.len
     have aw:Hid (Ao6 0 K.seams w (.returned (.tuple #[Ad (Af ⟨GO,0,Ae⟩) j j,Aa Ab 0])) wr):=Ah
      ⟨wz.out.trans (Z5.out.trans hv.frm),.inr ⟨rfl,Af ⟨GO,0,Ae⟩,zs.map (·.1),by rw[Bp,ld],h1,h2⟩⟩
     clear hv h1 h2 ld HV;go_wp2_with fail;refine Ai (v:= .tuple #[Ad (Af ⟨GO,0,Ae⟩) j j,Aa Ab 0]) (by simp[results,Tryz.results153,go_sem]) rfl ?_;rw[CL.out];exact aw.out
 ·have q1:(E != 0)=true:=by simpa using hE0
  go_wp2_with fail;refine Ai (v:= .tuple #[Ad Ae 0 0,E]) (by simp[results,Tryz.results153,go_sem]) rfl ?_;exact⟨H1.below,.inl ⟨hE0,rfl⟩⟩
def uQ (F:FuncId) (tl:∀(args:Array Ak) (w:Aj),(callFunc F args).run Dp w= .ok (.enter F args) w) (dd:Array Ak) (p:Nat×Nat×Nat->Bool) (A:Option Cj) (l:List (Nat×Nat×Nat)) (n c:Nat) (w:Aj) (hn:n=l.length) (h:Rd w A 3 n (Nl l)) (hl:n<=1000000)
  (hf:∀(i:Nat×Nat×Nat) (w':Aj),i∈l->Below w.heap.size w w'->Al Dp F (#[.agg #[Aa Ac (i.1:Int),Aa Ab (i.2.1:Int),Aa Ab (i.2.2:Int)]]++dd) w' (Gz (.bool (p i)) w')):
  Al Dp 258 #[Ad A n c,.func (.func F) #[] dd] w λe w'=>(∃r:Int,e= .returned (Aa Ab r)/\((l.any p)=decide (0<=r)))/\Below w.heap.size w w':=by
 have dt:=Ah h;have HN:=Ah hn;have DV:=Ah hf;clear h hn hf;go_in;go_wp2
 go_loopw [5,8] (λ_ i wr=>∃k:Nat,k<=n/\i= Aa Ab k/\Below w.heap.size w wr/\Hid (∀j (hj:j<l.length),j<k->p l[j]=false)) (λ_ i _=>n-(intOf i).toNat)
 case atStart=>exact⟨0,Gv,rfl,Ag _ _,Ah λj _ hj=>absurd hj Gv⟩
 obtain⟨k,hk,rfl,hb,HK⟩:=hrel;by_cases ac:k<n
 ·have be:k<l.length:=oHx HN.out;obtain⟨bb,o,rfl,cj,c0,c1,c2⟩:=mM (dt.out.below hb) k be;have q1:(k:Int)<(n:Int):=Gv;have br:=Ay be;obtain⟨⟨r,r1,r2⟩,hr⟩:=ey (l[k]);have jn:=Ah hr;rw[hr]at c0 c1 c2 br;dsimp only at c0 c1 c2;have hC:=DV.out (r,r1,r2) wr br hb;obtain⟨ar,BM⟩:=ey (#[Value.agg #[Aa Ac (r:Int),(r1:Int),(r2:Int)]]++dd);rw[BM]at hC;have HC:=Ah hC;clear hr br hC;go_wp2_with fail;refine HC.out.mono ?_;rintro e w2 ⟨rfl,aj⟩;have bh:=Up hb aj
  cases he:p (r,r1,r2)
  ·have js:=Ah (λj (hj:j<l.length) (h:j<k+1)=>show p l[j]=false by
    by_cases lu:j=k
    ·subst lu;rw[jn.out];exact he
    ·exact HK.out j hj Gv)
   go_wp2;exact⟨⟨k+1,Gv,by go_num,bh,js⟩,by simp[intOf];omega⟩
  ·have HA:Hid ((l.any p)=true):=Ah (by rw[Ew];exact⟨l[k],Ay _,by rw[jn.out];exact he⟩);go_wp2;go_ret;exact⟨⟨k,rfl,by rw[HA.out];simp⟩,bh⟩
 ·have q1:¬(k:Int)<(n:Int):=Gv
  have HA:Hid ((l.any p)=false):=Ah (by
   rw[Du];intro x hx;obtain⟨j,hj,rfl⟩:=Be.1 hx;simpa using HK.out j hj (oHx HN.out))
  go_wp2;go_ret;exact⟨⟨-1,rfl,by rw[HA.out];rfl⟩,hb⟩
def tD (F:FuncId) (tl:∀(args:Array Ak) (w:Aj),(callFunc F args).run Dp w= .ok (.enter F args) w) (dd:Array Ak) (p:Nat×Nat×Nat->Bool) (A:Option Cj) (l:List (Nat×Nat×Nat)) (n c:Nat) (w:Aj) (hn:n=l.length) (h:Rd w A 3 n (Nl l)) (hl:n<=1000000)
  (hf:∀(i:Nat×Nat×Nat) (w':Aj),i∈l->Below w.heap.size w w'->Al Dp F (#[.agg #[Aa Ac (i.1:Int),Aa Ab (i.2.1:Int),Aa Ab (i.2.2:Int)]]++dd) w' (Gz (.bool (p i)) w')):
  Al Dp 209 #[Ad A n c,.func (.func F) #[] dd] w (Gz (.bool (l.any p)) w):=by
 have HC:=Ah (uQ F tl dd p A l n c w hn h hl hf);generalize l.any p=R at HC⊢;clear hn h hl hf tl;go_in;go_wp2_with fail;refine HC.out.mono ?_;rintro e w2 ⟨⟨r,rfl,hr⟩,hb⟩;go_wp2;go_ret;exact⟨by rw[hr];rfl,hb⟩
def rM (p:Nat×Nat×Nat) (w:Aj):Al Dp 210 #[.agg #[Aa Ac (p.1:Int),Aa Ab (p.2.1:Int),Aa Ab (p.2.2:Int)]] w (Gz (.bool (decide (1<p.1))) w):=by
 obtain⟨p0,p1,p2⟩:=p;have H:=(Bx.start w).new #[Aa Ac (p0:Int),(p1:Int),(p2:Int)] 266 rfl;dsimp only;go_in;go_upto_region 1 with fail;generalize w.alloc _=W at H⊢;obtain⟨⟨a0,a1,a2⟩,-⟩:=Hg (H.b 0);by_cases h:1<p0
 ·have h1:(1:Int)<(p0:Int):=Gv;rw[Ld h];go_wp2;go_ret;exact⟨by simp<;>omega,H.below⟩
 ·have h1:¬(1:Int)<(p0:Int):=Gv;rw[Me h];go_wp2;go_ret;exact⟨by simp<;>omega,H.below⟩
def cZ {a0 a1 a2 a3 a4 a5 a6 a7 a8:Ak} {t:TypeId} (h:w.heap[g]? =Af (Co #[a0,a1,a2,a3,a4,a5,a6,a7,a8] t (0,0))):
  w.cell? ⟨g,0,Ae⟩=Af a0/\w.cell? ⟨g,1,Ae⟩=Af a1/\w.cell? ⟨g,2,Ae⟩=Af a2/\w.cell? ⟨g,3,Ae⟩=Af a3/\w.cell? ⟨g,4,Ae⟩=Af a4/\w.cell? ⟨g,5,Ae⟩=Af a5/\w.cell? ⟨g,6,Ae⟩=Af a6/\w.cell? ⟨g,7,Ae⟩=Af a7/\w.cell? ⟨g,8,Ae⟩=Af a8:=by
 simp[World.cell?,h]
def uN (x y:Int×Int):Ox x y=Ox y x:=by
 unfold Ox;rw[Bool.or_comm]
def uM (x:Int×Int):Ox x x=false:=by
 unfold Ox;simp
def kG (t:List Int) (l:List (Int×Int)) (i:Nat):Prop:=∀k (hk:k<l.length),k<i->(∀h∈t,¬(l[k].1<h/\h<l[k].2))/\∀j (hj:j<l.length),j<k->Ox l[k] l[j]=false
def tE {l:List (Int×Int)} (h:kG t l l.length):Mz t l=false:=by
 unfold Mz;rw[Du];intro x hx;obtain⟨k,hk,rfl⟩:=Be.1 hx;rw[Ep,Cz];refine⟨?_,?_⟩
 ·rw[Du];intro y hy hc;rw[Em,decide_eq_true_iff,decide_eq_true_iff]at hc;exact(h k hk hk).1 y hy hc
 ·rw[Du];intro y hy;obtain⟨j,hj,rfl⟩:=Be.1 hy;rw[Ep];rcases Nat.lt_trichotomy j k with lu|rfl|lu
  ·exact(h k hk hk).2 j hj lu
  ·exact uM _
  ·rw[uN];exact(h j hj hj).2 k hk lu
def tP {l:List (Int×Int)} (hk:k<l.length) (hi:i<t.length) (h:l[k].1<t[i]/\t[i]<l[k].2):Mz t l=true:=by
 unfold Mz;rw[Ew];refine⟨_,Ay hk,?_⟩;rw[Bool.or_eq_true]
 left
 rw[Ew];exact⟨_,Ay hi,by rw[Em,decide_eq_true_iff,decide_eq_true_iff];exact h⟩
def tO {l:List (Int×Int)} (hk:k<l.length) (hj:j<l.length) (h:Ox l[k] l[j]=true):Mz t l=true:=by
 unfold Mz;rw[Ew];refine⟨_,Ay hk,?_⟩;rw[Bool.or_eq_true]
 right
 rw[Ew];exact⟨_,Ay hj,h⟩
def Xj (t u:List Int) (i j:Nat):Prop:=∀a b (ha:a<t.length) (hb:b<t.length) (ha':a<u.length) (hb':b<u.length),b<a->(a<i∨(a=i/\b<j))->¬((t[a]<t[b]/\u[b]<u[a])∨(t[b]<t[a]/\u[a]<u[b]))
def Ai9 (hl:t.length=u.length) (h:Xj t u t.length 0):Qa t u=false:=by
 unfold Qa;rw[Du];intro p hp;rw[Ep,Du];intro q hq hc;rw[Em,decide_eq_true_iff,decide_eq_true_iff]at hc;obtain⟨a,ha,rfl⟩:=Be.1 hp;obtain⟨b,hb,rfl⟩:=Be.1 hq;simp only[List.length_zip]at ha hb;simp only[List.getElem_zip]at hc;rcases Nat.lt_trichotomy b a with GW|rfl|GW
 ·exact h a b Gv Gv Gv Gv GW (.inl Gv) (.inl ⟨hc.1,hc.2⟩)
 ·omega
 ·exact h b a Gv Gv Gv Gv GW (.inl Gv) (.inr ⟨hc.1,hc.2⟩)
def Aj0 {a b:Nat} (ha:a<t.length) (hb:b<t.length) (ha':a<u.length) (hb':b<u.length) (h:(t[a]<t[b]/\u[b]<u[a])∨(t[b]<t[a]/\u[a]<u[b])):Qa t u=true:=by
 unfold Qa;rw[Ew];rcases h with h|h
 ·refine⟨(t[a],u[a]),?_,?_⟩
  ·rw[Be];exact⟨a,Hv,Gy⟩
  ·rw[Ew];refine⟨(t[b],u[b]),?_,by simpa using h⟩;rw[Be];exact⟨b,Hv,Gy⟩
 ·refine⟨(t[b],u[b]),?_,?_⟩
  ·rw[Be];exact⟨b,Hv,Gy⟩
  ·rw[Ew];refine⟨(t[a],u[a]),?_,by simpa using h⟩;rw[Be];exact⟨a,Hv,Gy⟩
def Bi0 (a b c d:Int):(Ik a b*Ik c d<0↔((a<b/\d<c)∨(b<a/\c<d)))/\-1<=Ik a b*Ik c d/\Ik a b*Ik c d<=1:=by
 have e1:(Ik a b= -1/\a<b)∨(Ik a b=0/\a=b)∨(Ik a b=1/\b<a):=by
  unfold Ik;split
  ·exact .inl ⟨rfl,by assumption⟩
  ·split
   ·exact .inr (.inr ⟨rfl,by assumption⟩)
   ·exact .inr (.inl ⟨rfl,Gv⟩)
 have e2:(Ik c d= -1/\c<d)∨(Ik c d=0/\c=d)∨(Ik c d=1/\d<c):=by
  unfold Ik;split
  ·exact .inl ⟨rfl,by assumption⟩
  ·split
   ·exact .inr (.inr ⟨rfl,by assumption⟩)
   ·exact .inr (.inl ⟨rfl,Gv⟩)
 rcases e1 with⟨e1,h1⟩|⟨e1,h1⟩|⟨e1,h1⟩<;>rcases e2 with⟨e2,h2⟩|⟨e2,h2⟩|⟨e2,h2⟩<;>rw[e1,e2]<;>omega
def Bf8 (i:Nat) (c2 R:Bool) (t0 t1:List Int) (W:Aj) (s6 s136:Ak) (wr:Aj):Prop:=∃(j:Nat) (cx:Bool),s136= Aa Ab j/\j<=i/\s6= .bool cx/\Hid (Below W.heap.size W wr)/\Hid ((cx=true->R=true)/\(cx=false->c2=false/\Xj t0 t1 i j))
def Ao2 (b:Bool) (w:Aj) (e:Ending) (w':Aj):Prop:=∃r:Int,e= .returned (Aa Ab r)/\(decide (r≠0))=b/\Below w.heap.size w w'
def Pd (ls:List Stk) (s:Sm) (k:Nat):Bool:=(decide (1<=k)&&Mz (Im (atF ls s.a) s 0) (Te (atF ls s.a) s 0))||(decide (2<=k)&&Mz (Im (atF ls s.b) s 1) (Te (atF ls s.b) s 1))
def Vn (s:Sm) (k:Nat):Cl:=if k=0 then s.a else s.b
def oD (ls:List Stk) (s:Sm) (k:Nat) (hk:k<2):Pd ls s (k+1)=(Pd ls s k||Mz (Im (atF ls (Vn s k)) s k) (Te (atF ls (Vn s k)) s k)):=by
 have:k=0∨k=1:=Gv;rcases this with rfl|rfl
 ·simp[Pd,Vn]
 ·simp[Pd,Vn]
def Bg4 (h:∀x∈l,x.ls.length<=B) (c:Cl):(atF l c).length<=B:=by
 unfold atF
 split
 ·rename_i x hx;exact h x (List.mem_of_find?_eq_some hx)
 ·simp
def oF {s:Sm} (hk:k<2) (h:Oo (atF l (Vn s k)) s k=false):Kd l s=true:=by
 have:k=0∨k=1:=Gv;unfold Kd;rcases this with rfl|rfl
 ·have h:Oo (atF l s.a) s 0=false:=h;rw[h];simp
 ·have h:Oo (atF l s.b) s 1=false:=h;rw[h];simp
def oH {s:Sm} (h:(s.ls.any λx=>decide (1<x.1))=true):Kd l s=true:=by
 unfold Kd;rw[h];simp
def tN {s:Sm} (h0:Oo (atF l s.a) s 0=true) (h1:Oo (atF l s.b) s 1=true) (h:(s.ls.any λx=>decide (1<x.1))=false):
  Kd l s=(Pd l s 2||Qa (Im (atF l s.a) s 0) (Im (atF l s.b) s 1)):=by
 unfold Kd Pd;rw[h0,h1,h];simp
def oI (s:Sm) (pA lA eA:Option Cj) (np pc nl lc ne BH:Nat) (A:Option Cj) (l:List Stk) (n cc:Nat) (w:Aj)
  (hn:n=l.length) (h:Ib w A l) (hl:n<=100000) (jd:∀x∈l,x.ls.length<=100000) (oc:np=s.ps.length) (hp:Rd w pA 2 np (Pw s.ps)) (dr:np<=1000000) (ky:nl=s.ls.length) (jo:Rd w lA 3 nl (Nl s.ls)) (O8:nl<=1000000):
  Al Dp 154 #[.agg (s.cells (Ad pA np pc) (Ad lA nl lc) (Ad eA ne BH)),Ad A n cc] w (Ao2 (Kd l s) w):=by
 have ww:=Ah (λ(c:Cl) (w':Aj) (hb:Below w.heap.size w w')=>rW A l n cc c w' hn (h.below hb) hl jd);have SY:=Ah (λ(side:Nat) (hs:side<=1) (A':Option Cj) (ls:List Nat) (n c:Nat) (w':Aj) (hb:Below w.heap.size w w') (hn:n=ls.length) (hl:n<=1000000) (h:Rd w' A' 1 n (Ih ls))=>Al8 s pA lA eA np pc nl lc ne BH side A' ls n c w' hs hn hl h oc (hp.below hb) dr ky (jo.below hb) O8);have KS:=Zz w (λw' hb=>tD 210 (λ_ _=>rfl) #[] (λp=>decide (1<p.1)) lA s.ls nl lc w' ky (jo.below hb) O8 (λi w2 _ _=>rM i w2));obtain⟨R,hR⟩:=ey (Kd l s);rw[hR];have HR:=Ah hR;have xb:=Ah jd;have PT:=Ah oc;unfold Sm.cells;have H:=(Bx.start w).new #[Aa Ab s.a.x,Aa Ab s.a.y,Aa Ac s.a.q,Aa Ab s.b.x,Aa Ab s.b.y,Aa Ac s.b.q,Ad pA np pc,Ad lA nl lc,Ad eA ne BH] 263 rfl;unfold Sm.cells at SY;clear hR hn h jd oc hp ky jo;obtain⟨⟨x1,y1,q1⟩,J_⟩:=ey s.a;obtain⟨⟨x2,y2,q2⟩,EW⟩:=ey s.b;have HCA:=Ah J_;have HCB:=Ah EW;rw[J_,EW]at H SY⊢;dsimp only at H SY⊢;clear J_ EW;go_in;go_upto_region 1 with fail;obtain⟨N,ct⟩:=Tw w.heap.size;rw[<-ct.out]at H⊢;generalize w.alloc _=W at H⊢;obtain⟨V,hV⟩:=ey W.heap.size;have H2:=H.new #[Ad Ae 0 0,Ad Ae 0 0] 333 hV;go_upto_region 2 with fail
 try rw[hV]
 generalize W.alloc _=W2 at H2⊢;clear hV H;obtain⟨a0,a1,a2,a3,a4,a5,-⟩:=cZ (H2.b 0);obtain⟨D,hD⟩:=ey W2.heap.size;have H3:=H2.new #[x1,y1,Aa Ac q1,x2,y2,Aa Ac q2] 90 hD;have hw3:D<(W2.alloc (.cells #[x1,y1,Aa Ac q1,x2,y2,Aa Ac q2] 90)).heap.size:=Hv;have hVD:V<D:=by rw[<-hD];exact H2.lt 1 rfl
 have hND:N<D:=by rw[<-hD];exact H2.lt 0 rfl
 go_upto_region 4 with fail
 try rw[hD]
 generalize W2.alloc _=W3 at H3 hw3⊢;have hwD:w.heap.size<=D:=oHx ct.out;obtain⟨M,hM⟩:=ey (D+1)
 have jt:Hid (∀(X:Array Ak),∀x∈[(N,X,263),(V,X,333),(D,X,90)],x.1<M):=Ah (by
  intro X x hx;simp only[Bk,Dv,or_false]at hx;rcases hx with rfl|rfl|rfl
  ·show N<M;omega
  ·show V<M;omega
  ·show D<M;omega)
 have uz:Hid (w.heap.size<=M):=Ah Gv;have TK:M<=W3.heap.size:=Gv;have HVM:Hid (V<M):=Ah Gv;obtain⟨t0,ht0⟩:=ey (Im (atF l s.a) s 0);obtain⟨t1,ht1⟩:=ey (Im (atF l s.b) s 1);have HT0:=Ah ht0;have WN:=Ah ht1;have PP:=Ah H3;clear hD hM H2 hw3 hVD hND hwD a0 a1 a2 a3 a4 a5 ht0 ht1 H3
 go_loopw [6,27] (λs6 Y7 wr=>∃(k:Nat) (v0 v1:Ak),Y7= Aa Ab k/\k<=2/\s6= .bool (Pd l s k)/\M<=wr.heap.size/\Hid (Bx w [(N,#[x1,y1,Aa Ac q1,x2,y2,Aa Ac q2,Ad pA np pc,Ad lA nl lc,Ad eA ne BH],263),(V,#[v0,v1],333),(D,#[x1,y1,Aa Ac q1,x2,y2,Aa Ac q2],90)] wr)/\
  Hid ((1<=k->wr.ownsRow M 3 1 v0 t0.length (Ls t0))/\(2<=k->wr.ownsRow M 3 1 v1 t1.length (Ls t1)))/\Hid ((∀j,j<k->Oo (atF l (Vn s j)) s j=true)/\(1<=k->(s.ls.any λx=>decide (1<x.1))=false))) (λ_ Y7 _=>2-(intOf Y7).toNat)
 case atStart=>exact⟨0,_,_,rfl,Gv,rfl,TK,PP,Ah ⟨λh=>absurd h Gv,λh=>absurd h Gv⟩,Ah ⟨λj hj=>absurd hj Gv,λh=>absurd h Gv⟩⟩
 obtain⟨k,v0,v1,rfl,hk,rfl,kx,HH,HO,HG⟩:=hrel;clear PP TK;by_cases ac:k<2
 ·have q0:(k:Int)<2:=Gv;obtain⟨⟨x,y,q⟩,Y_⟩:=ey (Vn s k)
  have hd:wr.cell? ⟨D,k*3,Ae⟩=Af (Aa Ab x)/\wr.cell? ⟨D,k*3+1,Ae⟩=Af (Aa Ab y)/\wr.cell? ⟨D,k*3+2,Ae⟩=Af (Aa Ac q):=by
   obtain⟨⟨e0,e1,e2,e3,e4,e5⟩,-⟩:=cY (HH.out.b 2);have:k=0∨k=1:=Gv;rcases this with rfl|rfl
   ·have:s.a=⟨x,y,q⟩:=Y_;rw[HCA.out]at this;injection this with r1 r2 r3;subst r1;subst r2;subst r3;exact⟨e0,e1,e2⟩
   ·have:s.b=⟨x,y,q⟩:=Y_;rw[HCB.out]at this;injection this with r1 r2 r3;subst r1;subst r2;subst r3;exact⟨e3,e4,e5⟩
  obtain⟨d0,d1,d2⟩:=hd;have HSC:=Ah Y_;obtain⟨C,hC⟩:=ey wr.heap.size;have H4:=HH.out.new #[x,y,Aa Ac q] 90 hC;have uk:M<=(wr.alloc (.cells #[x,y,Aa Ac q] 90)).heap.size:=Hv;have KC:(1<=k->(wr.alloc (.cells #[x,y,Aa Ac q] 90)).ownsRow M 3 1 v0 t0.length (Ls t0))/\(2<=k->(wr.alloc (.cells #[x,y,Aa Ac q] 90)).ownsRow M 3 1 v1 t1.length (Ls t1)):=⟨λh=>(HO.out.1 h).alloc _,λh=>(HO.out.2 h).alloc _⟩;clear Y_;go_upto_region 6 with fail
  try rw[hC]
  generalize wr.alloc _=W4 at H4 uk KC⊢;clear hC HH HO kx d0 d1 d2;obtain⟨⟨c0,c1,c2⟩,-⟩:=Hg (H4.b 3);have bi:=ww.out ⟨x,y,q⟩ _ H4.below;dsimp only at bi;have RU:=Ah bi;clear bi
  go_step3
  go_wp2_with fail;refine RU.out.mono ?_;rintro e W5 ⟨A',rfl,du,ae,hb⟩;have hlen:(atF l ⟨x,y,q⟩).length<=1000000:=oHx (Bg4 xb.out ⟨x,y,q⟩);have H5:=H4.call hb;have td:M<=W5.heap.size:=Bt uk hb.size;have LR:(1<=k->W5.ownsRow M 3 1 v0 t0.length (Ls t0))/\(2<=k->W5.ownsRow M 3 1 v1 t1.length (Ls t1)):=⟨λh=>Hz (KC.1 h) (Am _) hb,λh=>Hz (KC.2 h) (Am _) hb⟩;obtain⟨ids,fg⟩:=ey (atF l ⟨x,y,q⟩);have DW:=Ah fg;rw[fg]at hlen ae du⊢;have dt:=Ah ae.rd;clear hb H4 uk KC c0 c1 c2 ae du fg;obtain⟨a0,a1,a2,a3,a4,a5,a6,a7,a8⟩:=cZ (H5.b 0);have OZ:=SY.out k Gv A' ids ids.length ids.length _ H5.below rfl hlen dt.out;have wi:=Ah OZ;have hku:IntKind.u8.wrap (k:Int)=(k:Int):=IntWalk.u8_in _ Gv;clear OZ RU;go_wp2_with fail;refine wi.out.mono ?_;rintro e W6 ⟨LA,lc',TA,tc,nL,nT,rfl,hnL,S_,gv,jb,F7,hTo,hb⟩;have H6:=H5.call hb;have ul:M<=W6.heap.size:=Bt td hb.size;have yh:(1<=k->W6.ownsRow M 3 1 v0 t0.length (Ls t0))/\(2<=k->W6.ownsRow M 3 1 v1 t1.length (Ls t1)):=⟨λh=>Hz (LR.1 h) (Am _) hb,λh=>Hz (LR.2 h) (Am _) hb⟩;have F7:=Nn F7 td;have hTo:=Nn hTo td;clear wi hb H5 td LR a0 a1 a2 a3 a4 a5 a6 a7 a8 dt hlen hku;have HL6:=Ah (⟨F7,hTo,hnL,S_,gv,jb⟩:_/\_/\_/\_/\_/\_);clear F7 hTo hnL S_ gv jb;obtain⟨g,hg⟩:=ey (Oo ids s k);rw[hg];have h7:=Bz W6 N 7 _ _ (0,0) (H6.b 0);simp only[Fv,List.getElem?_cons_zero,List.getElem?_cons_succ]at h7
  cases g
  ·have HF:Hid (R=true):=Ah (by
    rw[<-HR.out];refine oF ac ?_;rw[HSC.out,DW.out];exact hg)
   clear hg;go_wp2_with fail
   try rw[Exit.noGoto_ret]
   go_ret;exact⟨1,rfl,by rw[HF.out];rfl,H6.below⟩
  ·have HGG:=Ah hg;obtain⟨v,hv⟩:=ey ((s.ls.any λp=>decide (1<p.1)));have hcf:=KS.out W6 H6.below;rw[hv]at hcf;have P':=Ah hcf;clear hg hcf;go_wp2_with fail;refine P'.out.mono ?_;rintro e W7 ⟨rfl,hb⟩;have H7:=H6.call hb;have CY:M<=W7.heap.size:=Bt ul hb.size;have P8:(1<=k->W7.ownsRow M 3 1 v0 t0.length (Ls t0))/\(2<=k->W7.ownsRow M 3 1 v1 t1.length (Ls t1)):=⟨λh=>Hz (yh.1 h) (Am _) hb,λh=>Hz (yh.2 h) (Am _) hb⟩;have HL7:=Ah (⟨Hz HL6.out.1 (Am _) hb,Hz HL6.out.2.1 (Am _) hb,HL6.out.2.2⟩:_/\_/\_);clear P' hb H6 ul yh h7 HL6
   cases v
   ·have SE:Hid ((∀j,j<k+1->Oo (atF l (Vn s j)) s j=true)/\(1<=k+1->(s.ls.any λx=>decide (1<x.1))=false)):=Ah ⟨λj hj=>by
     by_cases e:j=k
     ·subst e;rw[HSC.out,DW.out];exact HGG.out
     ·exact HG.out.1 j Gv,λ_=>hv⟩
    have ob:=oD l s k ac;rw[HSC.out,DW.out]at ob;have TR:(Im ids s k).length<=1000000:=by unfold Im;rw[Bp];have:=PT.out;omega
    obtain⟨tk,ug⟩:=ey (Im ids s k);obtain⟨lk,dq⟩:=ey (Te ids s k);rw[ug,dq]at ob HL7;rw[ug]at TR;obtain⟨c0,BP⟩:=ey (Pd l s k);rw[BP]at ob⊢;have DS:=Ah ob
    obtain⟨u,hu⟩:∃u,W7.cell? ⟨V,k,Ae⟩=Af u:=by
     obtain⟨⟨r0,r1⟩,-⟩:=Hm (H7.b 1);have:k=0∨k=1:=Gv;rcases this with rfl|rfl
     ·exact⟨_,r0⟩
     ·exact⟨_,r1⟩
    have UJ:=Bb0 (H7.b 1) k;obtain⟨F7,hTo,hnL,S_,gv,jb⟩:=HL7.out;unfold maxLen at jb;obtain⟨ZI,gq⟩:=ey ((if k=0 then Value.slice TA nT tc else v0));obtain⟨ZJ,lw⟩:=ey ((if k=0 then v1 else Value.slice TA nT tc));have H8:=(H7.set 1 k rfl (Ad TA nT tc)).upto 3;have GR:M<=(W7.setCell ⟨V,k,Ae⟩ (Ad TA nT tc)).heap.size:=by simpa using CY
    have F8:=Jb F7 HVM.out k (Ad TA nT tc);have NA:=Jb hTo HVM.out k (Ad TA nT tc)
    have ho8:(1<=k+1->(W7.setCell ⟨V,k,Ae⟩ (Ad TA nT tc)).ownsRow M 3 1 ZI t0.length (Ls t0))/\(2<=k+1->(W7.setCell ⟨V,k,Ae⟩ (Ad TA nT tc)).ownsRow M 3 1 ZJ t1.length (Ls t1)):=by
     have:k=0∨k=1:=Gv;rcases this with rfl|rfl
     ·refine⟨λ_=>?_,λh=>absurd h Gv⟩;have e:t0=tk:=by rw[<-HT0.out,<-ug,<-DW.out,<-HSC.out];rfl
      rw[<-gq,Hc rfl,e,<-S_];exact NA
     ·refine⟨λ_=>?_,λ_=>?_⟩
      ·rw[<-gq,Ha He];exact Jb (P8.1 Gv) HVM.out 1 _
      ·have e:t1=tk:=by rw[<-WN.out,<-ug,<-DW.out,<-HSC.out];rfl
       rw[<-lw,Ha He,e,<-S_];exact NA
    have QD:Bx w [(N,#[x1,y1,Aa Ac q1,x2,y2,Aa Ac q2,Ad pA np pc,Ad lA nl lc,Ad eA ne BH],263),(V,#[ZI,ZJ],333),(D,#[x1,y1,Aa Ac q1,x2,y2,Aa Ac q2],90)] (W7.setCell ⟨V,k,Ae⟩ (Ad TA nT tc)):=by
     have e: #[v0,v1].setIfInBounds k (Value.slice TA nT tc)= #[ZI,ZJ]:=by
      have:k=0∨k=1:=Gv;rcases this with rfl|rfl
      ·rw[<-gq,<-lw,Hc rfl,Hc rfl];rfl
      ·rw[<-gq,<-lw,Ha He,Ha He];rfl
     rw[e]at H8;exact H8
    clear hv H7 CY P8 HL7 F7 hTo ug dq BP ob gq lw H8;subst hnL S_;go_upto_region 11 with fail;generalize W7.setCell _ _=W8 at GR F8 NA ho8 QD⊢
    have DT:=Zz W8 (λwr hb=>(⟨Bt GR hb.size,Ah (QD.call hb),Ah ⟨λh=>Hz (ho8.1 h) (Am _) hb,λh=>Hz (ho8.2 h) (Am _) hb⟩⟩:
     M<=wr.heap.size/\Hid (Bx w [(N,#[x1,y1,Aa Ac q1,x2,y2,Aa Ac q2,Ad pA np pc,Ad lA nl lc,Ad eA ne BH],263),(V,#[ZI,ZJ],333),(D,#[x1,y1,Aa Ac q1,x2,y2,Aa Ac q2],90)] wr)/\
     Hid ((1<=k+1->wr.ownsRow M 3 1 ZI t0.length (Ls t0))/\(2<=k+1->wr.ownsRow M 3 1 ZJ t1.length (Ls t1)))))
    have CS:=Zz W8 (λwr hb=>(Rd.of_own F8).below hb);have v8:=Zz W8 (λwr hb=>(Rd.of_own NA).below hb);clear hu UJ GR F8 NA ho8 QD
    go_step3
    go_wp2
    go_loopw [6,56] (λs6 s56 wr=>∃i:Nat,s56= Aa Ab i/\i<=lk.length/\s6= .bool c0/\Hid (Below W8.heap.size W8 wr)/\Hid (kG tk lk i)) (λ_ s56 _=>lk.length-(intOf s56).toNat)
    case atStart=>exact⟨0,rfl,Gv,rfl,Ah (Ag _ _),Ah λk _ hk=>absurd hk Gv⟩
    obtain⟨i,rfl,hi,rfl,HB,HC⟩:=hrel;by_cases bv:i<lk.length
    ·have q1:(i:Int)<(lk.length:Int):=Gv;obtain⟨b,o,hA,cj,d0,d1⟩:=Aa3 (CS.out _ HB.out) i bv;obtain⟨⟨a1,a2⟩,ha⟩:=ey (lk[i]);rw[ha]at d0 d1;dsimp only at d0 d1;have HA:=Ah ha;obtain⟨E,hE⟩:=ey wr.heap.size;have hbE:=HB.out.alloc HB.out.size (.cells #[a1,a2] 56);have TI:=Ca wr (.cells #[a1,a2] 56);rw[hE]at TI;subst hA;clear ha;go_upto_region 14 with fail
     try rw[hE]
     generalize wr.alloc _=WE at hbE TI⊢;clear hE d0 d1 HB;have CG:=Ah hbE;have HEB:=Ah TI;obtain⟨⟨e0,e1⟩,-⟩:=Hm TI;clear hbE TI;go_wp2
     go_loopw [6,63] (λs6 s63 wr=>∃j:Nat,s63= Aa Ab j/\j<=tk.length/\s6= .bool c0/\Hid (WE=wr)/\Hid (∀h (hh:h<tk.length),h<j->¬(a1<tk[h]/\tk[h]<a2))) (λ_ s63 _=>tk.length-(intOf s63).toNat)
     case atStart=>exact⟨0,rfl,Gv,rfl,Ah rfl,Ah λh _ hh=>absurd hh Gv⟩
     obtain⟨j,rfl,hj,rfl,HWE,HT⟩:=hrel;obtain rfl:=HWE.out;clear HWE;by_cases NX:j<tk.length
     ·have q2:(j:Int)<(tk.length:Int):=Gv;obtain⟨b2,o2,hA,hbl2,d0⟩:=fX (v8.out _ CG.out) j NX;have ua:=tP (t:=tk) (l:=lk) bv NX;rw[HA.out]at ua;dsimp only at ua
      have bo:=λ(qg:¬(a1<tk[j]/\tk[j]<a2)) (h:Nat) (hh:h<tk.length) (ac:h<j+1)=>show¬(a1<tk[h]/\tk[h]<a2)by
       by_cases e:h=j
       ·subst e;exact qg
       ·exact HT.out h hh Gv
      have dx:=Ah bo;have ux:=Ah ua;obtain⟨h,hh⟩:=ey (tk[j]);rw[hh]at d0 dx ux;subst hA;clear bo ua hh;by_cases jy:a1<h
      ·by_cases qo:h<a2
       ·have ob:Pd l s (k+1)=true:=by rw[DS.out,ux.out ⟨jy,qo⟩];simp
        obtain⟨f1,f2,f3⟩:=DT.out _ CG.out;have N':=Ah ob;clear ob DT CS v8 dx ux HT;go_wp2_with fail
        apply_assumption
        go_wp2;exact⟨⟨k+1,ZI,ZJ,by go_num,Gv,by rw[N'.out],f1,f2,f3,SE⟩,by simp[intOf];omega⟩
       ·have ut:=Ah (dx.out (λhc=>qo hc.2));clear dx ux;go_wp2;exact⟨⟨j+1,by go_num,Gv,rfl,Ah trivial,ut⟩,by simp[intOf];omega⟩
      ·have ut:=Ah (dx.out (λhc=>jy hc.1));clear dx ux;go_wp2;exact⟨⟨j+1,by go_num,Gv,rfl,Ah trivial,ut⟩,by simp[intOf];omega⟩
     ·have q2:¬(j:Int)<(tk.length:Int):=Gv
      have WQ:Hid (∀h∈tk,¬(a1<h/\h<a2)):=Ah λh hm=>by
       obtain⟨x,hx,rfl⟩:=Be.1 hm;exact HT.out x hx Gv
      have q3:(i:Int)<=(lc':Int):=Gv;have wa:=Ah (Ag WE.heap.size WE);clear HT hj NX;go_wp2
      go_loopw [6,82] (λs6 s82 wr=>∃j:Nat,s82= Aa Ab j/\j<=i/\s6= .bool c0/\Hid (Below WE.heap.size WE wr)/\Hid (∀h (hh:h<lk.length),h<j->Ox (a1,a2) lk[h]=false)) (λ_ s82 _=>i-(intOf s82).toNat)
      case atStart=>exact⟨0,rfl,Gv,rfl,wa,Ah λh _ hh=>absurd hh Gv⟩
      obtain⟨j,rfl,hj,rfl,HB,HI⟩:=hrel;have de:=Up CG.out HB.out;by_cases DF:j<i
      ·have q4:(j:Int)<(i:Int):=Gv;have me:j<lk.length:=Gv;obtain⟨b2,o2,sq,hbl2,d0,d1⟩:=Aa3 (CS.out _ de) j me;obtain⟨rfl,rfl⟩:b=b2/\o=o2:=by simpa using sq
       have ua:=tO (t:=tk) (l:=lk) bv me;rw[HA.out]at ua
       have bo:=λ(qg:Ox (a1,a2) lk[j]=false) (h:Nat) (hh:h<lk.length) (ac:h<j+1)=>show Ox (a1,a2) lk[h]=false by
        by_cases e:h=j
        ·subst e;exact qg
        ·exact HI.out h hh Gv
       have dx:=Ah bo;have ux:=Ah ua;obtain⟨⟨p1,p2⟩,hp⟩:=ey (lk[j]);rw[hp]at d0 d1 dx ux;dsimp only at d0 d1;obtain⟨E2,XG⟩:=ey wr.heap.size;have TY:=de.alloc de.size (.cells #[p1,p2] 56);have hbG:=HB.out.alloc HB.out.size (.cells #[p1,p2] 56);have JI:=Ca wr (.cells #[p1,p2] 56);have TI:=kept (hbG) HEB.out (Au.1 HEB.out).1;rw[XG]at JI;clear bo ua hp sq;go_upto_region 23 with fail
       try rw[XG]
       generalize wr.alloc _=WF at TY hbG JI TI⊢;clear XG d0 d1 HB de;obtain⟨⟨f0,f1⟩,-⟩:=Hm JI;obtain⟨⟨g0,g1⟩,-⟩:=Hm TI;have HBF:=Ah TY;have L':=Ah hbG;obtain⟨iv,hiv⟩:=ey (Ox (a1,a2) (p1,p2));have Y':=Ah hiv;clear TY hbG JI TI hiv e0 e1;go_cut [125]from 86 to 125 (λsb wx=>sb= .bool iv/\Hid (WF=wx))
       case first=>
        clear dx ux DT CS v8;go_wp2_with fail
        all_goals go_meet
        all_goals exact⟨by rw[<-Y'.out];unfold Ox;first|(simp<;>omega)|(congr 1;rw[Bool.eq_iff_iff];simp;omega),Ah rfl⟩
       case rest=>
       obtain⟨rfl,hwf⟩:=hcut;obtain rfl:=hwf.out;clear hwf f0 f1 g0 g1
       cases iv
       ·have ut:=Ah (dx.out Y'.out);clear dx ux Y';go_wp2;exact⟨⟨j+1,by go_num,Gv,rfl,L',ut⟩,by simp[intOf];omega⟩
       ·have ob:Pd l s (k+1)=true:=by rw[DS.out,ux.out Y'.out];simp
        obtain⟨f1,f2,f3⟩:=DT.out _ HBF.out;have N':=Ah ob;clear ob DT CS v8 dx ux Y';go_wp2_with fail
        apply_assumption
        go_wp2;exact⟨⟨k+1,ZI,ZJ,by go_num,Gv,by rw[N'.out],f1,f2,f3,SE⟩,by simp[intOf];omega⟩
      ·have q4:¬(j:Int)<(i:Int):=Gv;have wz:=Ah de
       have js:Hid (kG tk lk (i+1)):=Ah λx hx hxi=>by
        by_cases e:x=i
        ·subst e;rw[HA.out];refine⟨WQ.out,λy hy hyx=>HI.out y hy Gv⟩
        ·exact HC.out x hx Gv
       clear de HB HI hj DF e0 e1;go_wp2;exact⟨⟨i+1,by go_num,Gv,rfl,wz,js⟩,by simp[intOf];omega⟩
    ·have q1:¬(i:Int)<(lk.length:Int):=Gv
     have iu:Mz tk lk=false:=tE (by
      have e:i=lk.length:=Gv;rw[<-e];exact HC.out)
     have ob:Pd l s (k+1)=c0:=by rw[DS.out,iu];simp
     obtain⟨e1,e2,e3⟩:=DT.out _ HB.out;have N':=Ah ob;clear iu ob HB HC DT CS v8;go_wp2;exact⟨⟨k+1,ZI,ZJ,by go_num,Gv,by rw[N'.out],e1,e2,e3,SE⟩,by simp[intOf];omega⟩
   ·have HF:Hid (R=true):=Ah (by rw[<-HR.out];exact oH hv);clear hv;go_wp2_with fail
    try rw[Exit.noGoto_ret]
    go_ret;exact⟨1,rfl,by rw[HF.out];rfl,H7.below⟩
 ·obtain rfl:k=2:=Gv;obtain⟨WY,rfl⟩:=ez wr
  have ff:Hid (R=(Pd l s 2||Qa t0 t1)):=Ah (by
   rw[<-HR.out,<-HT0.out,<-WN.out];exact tN (HG.out.1 0 Gv) (HG.out.1 1 Gv) (HG.out.2 Gv))
  have hl01:t0.length=t1.length:=by rw[<-HT0.out,<-WN.out];unfold Im;rw[Bp,Bp]
  have hlb:t0.length<=1000000:=by rw[<-HT0.out];unfold Im;rw[Bp];have:=PT.out;omega
  obtain⟨c2,qo⟩:=ey (Pd l s 2);rw[qo]at ff⊢;obtain⟨A0,d0,rfl,XE,hd0⟩:=Hy (HO.out.1 Gv);obtain⟨A1,d1,rfl,C8,hd1⟩:=Hy (HO.out.2 Gv);have HR0:=Ah (Rd.of_own (HO.out.1 Gv));have MG:=Ah (Rd.of_own (HO.out.2 Gv));obtain⟨⟨f0,f1⟩,-⟩:=Hm (HH.out.b 1);have wa:=Ah (Ag WY.heap.size WY);clear qo hk ac kx HG XE hd0 C8 hd1;go_wp2
  go_loopw [6,132] (λs6 Y3 wr=>∃(i:Nat) (cx:Bool),Y3= Aa Ab i/\i<=t0.length/\s6= .bool cx/\Hid (Below WY.heap.size WY wr)/\Hid ((cx=true->R=true)/\(cx=false->c2=false/\Xj t0 t1 i 0))) (λ_ Y3 _=>t0.length-(intOf Y3).toNat)
  case atStart=>exact⟨0,c2,rfl,Gv,rfl,wa,Ah ⟨λh=>by rw[ff.out,h];rfl,λh=>⟨h,λa b _ _ _ _ GW hh=>Gv⟩⟩⟩
  obtain⟨i,cx,rfl,hi,rfl,HB,HX⟩:=hrel;by_cases bv:i<t0.length
  ·have q1:(i:Int)<(t0.length:Int):=Gv;go_wp2
   go_loopw [6,136] (λs6 s136 wr=>Bf8 i c2 R t0 t1 WY s6 s136 wr) (λ_ s136 _=>i-(intOf s136).toNat)
   case atStart=>exact⟨0,cx,rfl,Gv,rfl,HB,HX⟩
   obtain⟨j,cx,rfl,hj,rfl,HB,HX⟩:=hrel;by_cases DF:j<i
   ·have q2:(j:Int)<(i:Int):=Gv;have q3:(j:Int)<(t0.length:Int):=Gv;have q4:(j:Int)<(t1.length:Int):=Gv;have q5:(i:Int)<(t1.length:Int):=Gv;obtain⟨b0,o0,hA,lh,x0⟩:=fX (HR0.out.below HB.out) i bv;obtain⟨b0',o0',du,-,x1⟩:=fX (HR0.out.below HB.out) j Gv;obtain⟨rfl,rfl⟩:b0=b0'/\o0=o0':=by rw[hA]at du;simpa using du
    obtain⟨b1,o1,hC,ci,x2⟩:=fX (MG.out.below HB.out) i Gv;obtain⟨b1',o1',hC',-,x3⟩:=fX (MG.out.below HB.out) j Gv;obtain⟨rfl,rfl⟩:b1=b1'/\o1=o1':=by rw[hC]at hC';simpa using hC'
    have mw:=Aj0 (t:=t0) (u:=t1) (a:=i) (b:=j) Gv Gv Gv Gv
    have bo:=λ(hc:cx=false) (qg:¬((t0[i]<t0[j]/\t1[j]<t1[i])∨(t0[j]<t0[i]/\t1[i]<t1[j])))=>show Xj t0 t1 i (j+1)by
     intro a b ha hb ha' hb' GW hh;by_cases e:a=i/\b=j
     ·obtain⟨rfl,rfl⟩:=e;exact qg
     ·exact(HX.out.2 hc).2 a b ha hb ha' hb' GW Gv
    have EB:=Ah mw;have dx:=Ah bo;obtain⟨y0,V2⟩:=ey (t0[i]);obtain⟨y1,qv⟩:=ey (t0[j]);obtain⟨y2,vu⟩:=ey (t1[i]);obtain⟨y3,PE⟩:=ey (t1[j]);rw[V2]at x0 EB dx;rw[qv]at x1 EB dx;rw[vu]at x2 EB dx;rw[PE]at x3 EB dx;have f0':=Gw HB.out f0;have f1':=Gw HB.out f1;subst hA hC;obtain⟨S,an,HSO⟩:=Og λW'=>(W'.cell? ⟨V,0,Ae⟩=Af (Ad (Af ⟨b0,o0,Ae⟩) t0.length d0)/\W'.cell? ⟨V,1,Ae⟩=Af (Ad (Af ⟨b1,o1,Ae⟩) t1.length d1))/\(W'.cell? ⟨b0,o0+i,Ae⟩=Af (Aa Ab y0)/\W'.cell? ⟨b0,o0+j,Ae⟩=Af (Aa Ab y1))/\W'.cell? ⟨b1,o1+i,Ae⟩=Af (Aa Ab y2)/\W'.cell? ⟨b1,o1+j,Ae⟩=Af (Aa Ab y3)
    have ag:Hid (∀W',Below wr.heap.size wr W'->S W'):=Ah λW' h=>by
     subst an;exact⟨⟨Gw h f0',Gw h f1'⟩,⟨Gw h x0,Gw h x1⟩,Gw h x2,Gw h x3⟩
    have HBZ:=Zz wr (λW' h=>Up HB.out h);clear mw bo V2 qv vu PE x0 x1 x2 x3 f0' f1' an HB;obtain⟨hmul,pm,OC⟩:=Bi0 y0 y1 y2 y3;obtain⟨p,hp⟩:=ey (Ik y0 y1);obtain⟨q,hq⟩:=ey (Ik y2 y3);have pa:=Ah (λ(w':Aj)=>My y0 y1 w');have DR:=Ah (λ(w':Aj)=>My y2 y3 w');rw[hp,hq]at hmul pm OC;rw[hp]at pa;rw[hq]at DR;have tm:=IntWalk.i64_in (p*q) Gv;obtain⟨m,hm⟩:=ey (p*q);rw[hm]at hmul tm;have tm2:Ab.wrap (p*q)=m:=by rw[hm];exact tm
    have SI:=Ah hmul;clear hp hq hmul pm OC tm hm;go_upto_region 34 with fail;refine Ao (S:=S) Gx (ag.out _ (Ag _ _).drew) (λhS=>?_);have hb:Below wr.heap.size wr wr.drew:=(Ag _ _).drew;generalize wr.drew=X0 at hb hS⊢;refine Hk 0 1 2 3 ?_;refine Hk 4 5 6 7 ?_;refine Hk 8 9 11 12 ?_;refine Hk 13 14 15 16 ?_;refine Hk 17 18 19 20 ?_;refine rdy 10 (λK hK=>?_);go_simp;refine(pa.out _).mono ?_;rintro e X1 ⟨rfl,ad⟩;have hb:=Up hb ad;refine hK.o (ag.out _ hb) (λhS=>?_);clear hK K ad;refine rdy 21 (λK hK=>?_);go_simp;refine(DR.out _).mono ?_;rintro e X2 ⟨rfl,ad⟩;have hb:=Up hb ad;refine hK.o (ag.out _ hb) (λhS=>?_);clear hK K ad;have CH:=HBZ.out _ hb;by_cases ac:m<0
    ·have y9:Hid ((true=true->R=true)/\(true=false->c2=false/\Xj t0 t1 i (j+1))):=Ah ⟨λ_=>by rw[ff.out,EB.out (SI.out.1 ac)];simp,λh=>by cases h⟩;have CH:=Ah CH;refine Ql 22 23 ?_;refine An Gx ?_ _;clear HX dx EB SI hS HSO ag HBZ;go_wp2;exact⟨⟨_,_,_,⟨j+1,true,by go_num,Gv,rfl,CH,Ah ⟨λ_=>y9.out.1 trivial,λh=>by cases h⟩⟩,rfl,rfl,rfl⟩,by simp[intOf];omega⟩
    ·have y9:Hid ((cx=true->R=true)/\(cx=false->c2=false/\Xj t0 t1 i (j+1))):=Ah ⟨HX.out.1,λhc=>⟨(HX.out.2 hc).1,dx.out hc λh=>ac (SI.out.2 h)⟩⟩;have CH:=Ah CH;refine Ql 22 23 ?_;refine An Gx ?_ _;clear HX dx EB SI hS HSO ag HBZ;go_wp2;exact⟨⟨_,_,_,⟨j+1,cx,by go_num,Gv,rfl,CH,y9⟩,rfl,rfl,rfl⟩,by simp[intOf];omega⟩
   ·have q2:¬(j:Int)<(i:Int):=Gv;have y9:Hid ((cx=true->R=true)/\(cx=false->c2=false/\Xj t0 t1 (i+1) 0)):=Ah ⟨HX.out.1,λhc=>⟨(HX.out.2 hc).1,λa b ha hb ha' hb' GW hh=>(HX.out.2 hc).2 a b ha hb ha' hb' GW Gv⟩⟩;clear HX;go_wp2;exact⟨⟨i+1,cx,by go_num,Gv,rfl,HB,y9⟩,by simp[intOf];omega⟩
  ·have hit:i=t0.length:=Gv;have q1:¬(i:Int)<(t0.length:Int):=Gv;have cj:=Up HH.out.below HB.out
   cases cx
   ·have HF:Hid (R=false):=Ah (by
     obtain⟨e1,e2⟩:=HX.out.2 rfl;rw[hit]at e2;rw[ff.out,e1,Ai9 hl01 e2];rfl)
    clear HX HB;go_wp2;go_ret;exact⟨0,rfl,by rw[HF.out];rfl,cj⟩
   ·have HF:=Ah (HX.out.1 rfl);clear HX HB;go_wp2;go_ret;exact⟨12,rfl,by rw[HF.out];rfl,cj⟩
def Aa0 {l:List Bool} (h:Rd w A 1 n (If l)) (i:Nat) (hi:i<l.length):
  ∃b o,A=Af ⟨b,o,Ae⟩/\b<w.heap.size/\w.cell? ⟨b,o+i,Ae⟩=Af (.bool l[i]):=by
 have hl:=h.1;have cj:(If l).length=l.length:=by simp[If]
 rw[cj]at hl;obtain⟨b,o,e,hb,hc⟩:=h.2 Gv;exact⟨b,o,e,hb,hc i _ (by simp[If,hi])⟩
def Zb (a b:Int) (pc:Ak) (root:Mv) (sv uv mv:Ak):Array Ak:=#[Aa Ab a,Aa Ab b,pc,Aa Ac root.t,Aa Ab root.x,Aa Ab root.y,sv,uv,mv]
def pX (x:Nat×Nat×Nat):Ak:= .agg #[Aa Ac (x.1:Int),Aa Ab (x.2.1:Int),Aa Ab (x.2.2:Int)]
def Av7 (a b:Int) (pc:Ak) (root:Mv) (sv mv:Ak) (U:Option Cj) (up:List Bool) (nu cu:Nat) (x:Nat×Nat×Nat) (w:Aj) (hn:nu=up.length) (h:Rd w U 1 nu (If up)) (hx:x.2.2<nu):
  Al Dp 156 #[.agg (Zb a b pc root sv (Ad U nu cu) mv),pX x] w (Gz (Aa Ac (jE up x)) w):=by
 obtain⟨rt,rx,ry⟩:=root;obtain⟨x0,x1,x2⟩:=x;dsimp only at hx;have H:=((Bx.start w).new #[a,b,pc,Aa Ac rt,rx,ry,sv,Ad U nu cu,mv] 186 rfl).new #[Aa Ac x0,x1,x2] 266 (N:=w.heap.size+1) Gy;obtain⟨b0,o0,rfl,cj,u0⟩:=Aa0 (h.below H.below) x2 Gv
 have e:jE up (x0,x1,x2)=if up[x2]'(by omega)then 1 else 2:=by
  unfold jE;simp[List.getD,show x2<up.length by omega]
 rw[e];have q1:(x2:Int)<(nu:Int):=Gv;obtain⟨v,hv⟩:=ey (up[x2]'(by omega));rw[hv]at u0⊢;unfold Zb pX;dsimp only;clear h hn hx e hv;go_in;go_upto_region 1 with fail;generalize (w.alloc _).alloc _=W at H u0⊢;obtain⟨N,ct⟩:=Tw w.heap.size;rw[<-ct.out]at H⊢;generalize N+1=P at H⊢;obtain⟨-,-,-,-,-,-,-,c7,-⟩:=cZ (H.b 0);obtain⟨⟨-,-,d2⟩,-⟩:=Hg (H.b 1)
 cases v
 ·go_wp2;go_ret;exact⟨rfl,H.below⟩
 ·go_wp2;go_ret;exact⟨rfl,H.below⟩
def Bs0:Array Ak:=#[Aa Ab 0,Aa Ab 0,Ad Ae 0 0,Aa Ac 0,Aa Ab 0,Aa Ab 0,Ad Ae 0 0,Ad Ae 0 0,Ad Ae 0 0]
def Bf7 (a b:Int) (pv:Ak) (root:Mv) (sv:Ak) (er:Int) (ss:List Sm) (up:List Bool) (w:Aj) (e:Ending) (w':Aj):Prop:=
 Below w.heap.size w w'/\((er≠0/\e= .returned (.tuple #[.agg Bs0,er]))∨
  (er=0/\∃A2 r U,e= .returned (.tuple #[.agg (Zb a b pv root sv (Ad U up.length up.length) (Ad A2 r.length r.length)),Aa Ab 0])/\Ap1 ss r/\Ll w' w.heap.size A2 r/\Rd w' U 1 up.length (If up)))
def Ll.same {l:List Sm} (h:Ll w O A l) (hb:∀g,O<=g->g<w.heap.size->w'.heap[g]? =w.heap[g]?):Ll w' O A l:=by
 obtain⟨z,h1,h2,h3⟩:=h;exact⟨z,h1,h2.same λg hg=>hb g (h2.lt g hg).1 (h2.lt g hg).2.1,λx hx=>(h3 x hx).same hb⟩
def Ll.below {l:List Sm} (h:Ll w O A l) (hb:Below w.heap.size w w'):Ll w' O A l:=h.same λg _ hg=>hb.block g hg
def Ll.base {l:List Sm} (h:Ll w O A l) (hO:O'<=O):Ll w O' A l:=by
 obtain⟨z,h1,h2,h3⟩:=h;exact⟨z,h1,h2.base hO,λx hx=>(h3 x hx).base hO⟩
def Aw3 (a b:Int) (pA:Option Cj) (cr:List Cr) (pn pc:Nat) (root:Mv) (A:Option Cj) (l:List Stk) (n cc:Nat) (w:Aj) (hp:Lo a b cr) (oh:pn=cr.length) (fi:Rd w pA 3 pn (crs cr)) (dr:pn<=1000000) (ht:root.t<=255)
  (hn:n=l.length) (h:Ib w A l) (hl:n<=100000) (jd:∀x∈l,x.ls.length<=100000) (xy:∀x∈l,x.c.q<=255) (hQ:Qf w) (hT:Tn w):
  Al Dp 96 #[.agg #[a,b,Ad pA pn pc,Aa Ac root.t,Aa Ab root.x,Aa Ab root.y,Ad A n cc]] w (Bf7 a b (Ad pA pn pc) root (Ad A n cc) (Ov a b cr root l) (fI a b cr root l).seams (upF a b cr root).1 w):=by
 have BD:=Zz w (λw' hb=>rL a b pA cr pn pc root A l n cc w' hp oh (fi.below hb) dr ht hn (h.below hb) hl jd xy (hQ.below hb) (hT.below hb));have WS:=Zz w (λw' hb=>Bt0 a b pA cr pn pc root w' hp oh (fi.below hb) dr ht (hQ.below hb) (hT.below hb))
 have FR:Ov a b cr root l=0->(upF a b cr root).2=0:=λh0=>by
  unfold Ov at h0;unfold upF
  split at h0
  ·contradiction
  ·rename_i g;rw[Ha g]
 obtain⟨E,hE⟩:=ey (Ov a b cr root l);rw[hE]at BD FR⊢;obtain⟨ss,sc⟩:=ey ((fI a b cr root l).seams);rw[sc]at BD⊢;obtain⟨⟨up,ue⟩,hu⟩:=ey (upF a b cr root);rw[hu]at WS FR⊢;obtain⟨rt,rx,ry⟩:=root;dsimp only at BD WS FR ht⊢;obtain⟨nu,pr⟩:=ey up.length;rw[pr]at WS;have LC:=Ah pr;have H:=((Bx.start w).new #[a,b,Ad pA pn pc,Aa Ac rt,rx,ry,Ad A n cc] 33 rfl).new #[Aa Ab 0,Aa Ab 0,Ad Ae 0 0,Aa Ac 0,Aa Ab 0,Aa Ab 0,Ad Ae 0 0,Ad Ae 0 0,Ad Ae 0 0] 186 (N:=w.heap.size+1) Gy;clear hp oh fi dr ht hn h hl jd xy hQ hT hE sc hu pr;go_in;go_upto_region 1 with fail;obtain⟨N,ct⟩:=Tw w.heap.size;rw[<-ct.out]at H⊢;obtain⟨P,hP⟩:=ey (N+1);rw[hP]at H⊢;generalize (w.alloc _).alloc _=W0 at H⊢;clear hP;have PV:Hid (P<W0.heap.size):=Ah (H.lt 1 rfl);have HWW:Hid (w.heap.size<=W0.heap.size):=Ah H.below.size;have hc:=λj=>Bz W0 N j _ _ (0,0) (H.b 0);have c0:W0.cell? ⟨N,0,Ae⟩=Af (Aa Ab a):=(hc 0).trans rfl;have c1:W0.cell? ⟨N,1,Ae⟩=Af (Aa Ab b):=(hc 1).trans rfl;have c2:W0.cell? ⟨N,2,Ae⟩=Af (Ad pA pn pc):=(hc 2).trans rfl;have c3:W0.cell? ⟨N,3,Ae⟩=Af (Aa Ac rt):=(hc 3).trans rfl;have c4:W0.cell? ⟨N,4,Ae⟩=Af (Aa Ab rx):=(hc 4).trans rfl;have c5:W0.cell? ⟨N,5,Ae⟩=Af (Aa Ab ry):=(hc 5).trans rfl;have c6:W0.cell? ⟨N,6,Ae⟩=Af (Ad A n cc):=(hc 6).trans rfl;clear hc;go_wp2_with fail;refine(BD.out _ H.below).mono ?_;rintro ee w1 ⟨hb,ij⟩;have H1:=H.call hb;clear c0 c1 c2 c3 c4 c5 c6 H BD;rcases ij with⟨h0,rfl⟩|⟨rfl,A2,r,rfl,mj,uf⟩
 ·have q1:(E != 0)=true:=by simpa using h0
  have qf:=H1.b 1;obtain⟨c0,c1,c2,c3,c4,c5,c6,c7,c8⟩:=cZ qf;have z0:(w1).frozen? ⟨P,0,Ae⟩=false:=by simp[Ea,qf]
  have z1:(w1).frozen? ⟨P,1,Ae⟩=false:=by simp[Ea,qf]
  have z2:(w1).frozen? ⟨P,2,Ae⟩=false:=by simp[Ea,qf]
  have z3:(w1).frozen? ⟨P,3,Ae⟩=false:=by simp[Ea,qf]
  have z4:(w1).frozen? ⟨P,4,Ae⟩=false:=by simp[Ea,qf]
  have z5:(w1).frozen? ⟨P,5,Ae⟩=false:=by simp[Ea,qf]
  have z6:(w1).frozen? ⟨P,6,Ae⟩=false:=by simp[Ea,qf]
  have z7:(w1).frozen? ⟨P,7,Ae⟩=false:=by simp[Ea,qf]
  have z8:(w1).frozen? ⟨P,8,Ae⟩=false:=by simp[Ea,qf]
  clear qf;go_wp2_with fail;have H2:=H1.setAll 1 rfl [Aa Ab 0,Aa Ab 0,Ad Ae 0 0,Aa Ac 0,Aa Ab 0,Aa Ab 0,Ad Ae 0 0,Ad Ae 0 0,Ad Ae 0 0] rfl;exact Ai (Hj rfl rfl (H2.range 1 rfl) Tryz.underlying186 rfl Gx) rfl ⟨H2.below,.inl ⟨h0,rfl⟩⟩
 ·have hue:=FR rfl;subst hue;have hc:=λj=>Bz w1 N j _ _ (0,0) (H1.b 0);have c0:w1.cell? ⟨N,0,Ae⟩=Af (Aa Ab a):=(hc 0).trans rfl;have c1:w1.cell? ⟨N,1,Ae⟩=Af (Aa Ab b):=(hc 1).trans rfl;have c2:w1.cell? ⟨N,2,Ae⟩=Af (Ad pA pn pc):=(hc 2).trans rfl;have c3:w1.cell? ⟨N,3,Ae⟩=Af (Aa Ac rt):=(hc 3).trans rfl;have c4:w1.cell? ⟨N,4,Ae⟩=Af (Aa Ab rx):=(hc 4).trans rfl;have c5:w1.cell? ⟨N,5,Ae⟩=Af (Aa Ab ry):=(hc 5).trans rfl;have HSM:=Ah mj;have ag:=Ah uf;obtain⟨m,hm⟩:=ey r.length;rw[hm];have PR:=Ah hm;clear hc FR mj uf hb hm;go_wp2_with fail;refine(WS.out _ H1.below).mono ?_;rintro ee w2 ⟨hb,⟨h0,-⟩|⟨-,G,rfl,jz,hG⟩⟩
  ·exact absurd rfl h0
  have H2:=H1.call hb;have dj:=Ah (ag.out.below hb);have HGB:=Ah hG;have v_:w1.heap.size<=G:=jz;have LM:=H1.lt 1 rfl;have hGb:=(Au.1 hG).1;have HGP:Hid (G≠P):=Ah Gv;clear c0 c1 c2 c3 c4 c5 hb jz hG v_ LM hGb H1 ag WS;have hc:=λj=>Bz w2 N j _ _ (0,0) (H2.b 0);have d0:w2.cell? ⟨N,0,Ae⟩=Af (Aa Ab a):=(hc 0).trans rfl;have d1:w2.cell? ⟨N,1,Ae⟩=Af (Aa Ab b):=(hc 1).trans rfl;have d2:w2.cell? ⟨N,2,Ae⟩=Af (Ad pA pn pc):=(hc 2).trans rfl;have d3:w2.cell? ⟨N,3,Ae⟩=Af (Aa Ac rt):=(hc 3).trans rfl;have d4:w2.cell? ⟨N,4,Ae⟩=Af (Aa Ab rx):=(hc 4).trans rfl;have d5:w2.cell? ⟨N,5,Ae⟩=Af (Aa Ab ry):=(hc 5).trans rfl;have d6:w2.cell? ⟨N,6,Ae⟩=Af (Ad A n cc):=(hc 6).trans rfl;have qf:=H2.b 1;obtain⟨c0,c1,c2,c3,c4,c5,c6,c7,c8⟩:=cZ qf;have z0:(w2).frozen? ⟨P,0,Ae⟩=false:=by simp[Ea,qf]
  have z1:(w2).frozen? ⟨P,1,Ae⟩=false:=by simp[Ea,qf]
  have z2:(w2).frozen? ⟨P,2,Ae⟩=false:=by simp[Ea,qf]
  have z3:(w2).frozen? ⟨P,3,Ae⟩=false:=by simp[Ea,qf]
  have z4:(w2).frozen? ⟨P,4,Ae⟩=false:=by simp[Ea,qf]
  have z5:(w2).frozen? ⟨P,5,Ae⟩=false:=by simp[Ea,qf]
  have z6:(w2).frozen? ⟨P,6,Ae⟩=false:=by simp[Ea,qf]
  have z7:(w2).frozen? ⟨P,7,Ae⟩=false:=by simp[Ea,qf]
  have z8:(w2).frozen? ⟨P,8,Ae⟩=false:=by simp[Ea,qf]
  clear hc qf;go_wp2_with fail;have H3:=H2.setAll 1 rfl [Aa Ab a,Aa Ab b,Ad pA pn pc,Aa Ac rt,Aa Ab rx,Aa Ab ry,Ad A n cc,Ad (Af ⟨G,0,Ae⟩) nu nu,Ad A2 m m] rfl;refine Ai (Hj rfl rfl (H3.range 1 rfl) Tryz.underlying186 rfl Gx) rfl ⟨H3.below,.inr ⟨rfl,A2,r,Af ⟨G,0,Ae⟩,?_,HSM.out,?_,?_⟩⟩
  ·rw[PR.out,LC.out];rfl
  ·have hso:∀g,W0.heap.size<=g->g<w2.heap.size->(w2.setCells P 0 [Aa Ab a,Aa Ab b,Ad pA pn pc,Aa Ac rt,Aa Ab rx,Aa Ab ry,Ad A n cc,Ad (Af ⟨G,0,Ae⟩) nu nu,Ad A2 m m]).heap[g]? =w2.heap[g]? :=λg h1 h2=>World.heap_setCells_other w2 P 0 _ h2 (oHx PV.out);exact(dj.out.same hso).base HWW.out
  ·have hGr:=HGB.out;rw[LC.out];refine Ug (n:=nu) (sz:=1) ((World.heap_setCells_other w2 P 0 [Aa Ab a,Aa Ab b,Ad pA pn pc,Aa Ac rt,Aa Ab rx,Aa Ab ry,Ad A n cc,Ad (Af ⟨G,0,Ae⟩) nu nu,Ad A2 m m] (Au.1 hGr).1 HGP.out).trans hGr) (by rw[<-LC.out];simp[If])
def tI (jo:min x.2.1 x.2.2=lo) (zr:max x.2.1 x.2.2=hi) (he:e<3) (h:nbI a b (lo:Int) (e:Int)=((hi:Int),0)) (hb:∀j:Nat,j<e->nbI a b (lo:Int) (j:Int)≠((hi:Int),0)):Mr a b x=(lo,e):=by
 unfold Mr;rw[jo,zr];have:e=0∨e=1∨e=2:=Gv
 have hf:([0,1,2]:List Nat).find? (λ(e:Nat)=>decide (nbI a b (lo:Int) (e:Int)=(((hi:Nat):Int),(0:Int))))=Af e:=by
  rcases this with rfl|rfl|rfl
  ·rw[List.find?_cons_of_pos (by simpa using h)]
  ·rw[List.find?_cons_of_neg (by simpa using hb 0 Gv),List.find?_cons_of_pos (by simpa using h)]
  ·rw[List.find?_cons_of_neg (by simpa using hb 0 Gv),List.find?_cons_of_neg (by simpa using hb 1 Gv),List.find?_cons_of_pos (by simpa using h)]
 rw[hf]
def lH (jo:min x.2.1 x.2.2=lo) (zr:max x.2.1 x.2.2=hi) (hb:∀j:Nat,j<3->nbI a b (lo:Int) (j:Int)≠((hi:Int),0)):Mr a b x=(0,0):=by
 unfold Mr;rw[jo,zr]
 have hf:([0,1,2]:List Nat).find? (λ(e:Nat)=>decide (nbI a b (lo:Int) (e:Int)=(((hi:Nat):Int),(0:Int))))=Ae:=by
  rw[List.find?_cons_of_neg (by simpa using hb 0 Gv),List.find?_cons_of_neg (by simpa using hb 1 Gv),List.find?_cons_of_neg (by simpa using hb 2 Gv)];rfl
 rw[hf]
def tJ (a b:Int) (x:Nat×Nat×Nat) (w:Aj) (hs:okS a b=true) (hQ:Qt w):
  Al Dp 155 #[.agg #[a,b],pX x] w (Gz (.agg #[Aa Ab ((Mr a b x).1:Int),Aa Ac ((Mr a b x).2:Int)]) w):=by
 have JD:=Ah (λ(i e:Int) (he:0<=e) (w':Aj) (hb:Below w.heap.size w w')=>Jj a b i e w' hs he (hQ.below hb));obtain⟨R,hR⟩:=ey (Mr a b x);rw[hR];have HR:=Ah hR;have ww:=Ah (λ(lo hi e:Nat)=>tI (a:=a) (b:=b) (x:=x) (lo:=lo) (hi:=hi) (e:=e));have KZ:=Ah (λ(lo hi:Nat)=>lH (a:=a) (b:=b) (x:=x) (lo:=lo) (hi:=hi));obtain⟨x0,x1,x2⟩:=x;unfold pX;dsimp only at ww KZ⊢;have H:=(((Bx.start w).new #[a,b] 25 rfl).new #[Aa Ac x0,x1,x2] 266 (N:=w.heap.size+1) Gy).new #[Aa Ab 0,Aa Ac 0] 194 (N:=w.heap.size+1+1) Gy;clear hs hQ hR;go_in;go_upto_region 1 with fail;generalize ((w.alloc _).alloc _).alloc _=W at H⊢;obtain⟨N,ct⟩:=Tw w.heap.size;rw[<-ct.out]at H⊢;obtain⟨P,hP⟩:=ey (N+1);obtain⟨U,hU⟩:=ey (P+1);rw[hP,hU]at H⊢;clear hP hU;obtain⟨⟨c0,c1,c2⟩,-⟩:=Hg (H.b 1);obtain⟨lo,jo⟩:=ey (min x1 x2);obtain⟨hi,zr⟩:=ey (max x1 x2);have RU:=Ah (λe=>ww.out lo hi e jo zr);have SK:=Ah (KZ.out lo hi jo zr);have HMN:=Ah (⟨jo,zr⟩:_/\_);clear jo zr ww KZ;go_cut [5,6] (λs5 s6 wx=>s5= Aa Ab (lo:Int)/\s6= Aa Ab (hi:Int)/\Hid (Bx w ([(N,#[a,b],25),(P,#[Aa Ac x0,x1,x2],266),(U,#[Aa Ab 0,Aa Ac 0],194)]) wx))
 case first=>
  obtain⟨jo,zr⟩:=HMN.out;have HH:=Ah H.drew;obtain⟨S,an,HSO⟩:=Og λW'=>W'.cell? ⟨P,1,Ae⟩=Af (Aa Ab (x1:Int))/\W'.cell? ⟨P,2,Ae⟩=Af (Aa Ab (x2:Int));have tu:S W.drew:=by subst an;exact⟨c1,c2⟩
  clear an c0 c1 c2 H;rcases Nat.lt_trichotomy x1 x2 with ja|ja|ja
  ·obtain⟨rfl,rfl⟩:x1=lo/\x2=hi:=Gv;have r1:(x1:Int)<(x2:Int):=Gv;have r2:¬(x2:Int)<(x1:Int):=Gv;clear jo zr ja;refine Ao (S:=S) Gx tu (λhS=>?_);refine Hk 0 1 2 3 ?_;refine Hk 4 5 6 7 ?_;refine Hk 8 9 10 11 ?_;refine An Gx ?_ _;go_wp2;go_meet;exact⟨by first|rfl|exact congrArg (Value.int .i64) Gv,by first|rfl|exact congrArg (Value.int .i64) Gv,HH⟩
  subst ja;obtain⟨rfl,rfl⟩:x1=lo/\x1=hi:=Gv;clear jo zr;rotate_left;obtain⟨rfl,rfl⟩:x2=lo/\x1=hi:=Gv;have r1:(x2:Int)<(x1:Int):=Gv;have r2:¬(x1:Int)<(x2:Int):=Gv;clear jo zr ja
  all_goals
   refine Ao (S:=S) Gx tu (λhS=>?_);refine Hk 0 1 2 3 ?_;refine Hk 4 5 6 7 ?_;refine Hk 8 9 10 11 ?_;refine An Gx ?_ _;go_wp2;go_meet;exact⟨by first|rfl|exact congrArg (Value.int .i64) Gv,by first|rfl|exact congrArg (Value.int .i64) Gv,HH⟩
 case rest=>
 obtain⟨rfl,rfl,HH⟩:=hcut;clear H c0 c1 c2;go_wp2
 go_loopw [20] (λFX wr=>∃e:Nat,FX= Aa Ac e/\e<=3/\Hid (Bx w ([(N,#[a,b],25),(P,#[Aa Ac x0,x1,x2],266),(U,#[Aa Ab 0,Aa Ac 0],194)]) wr)/\Hid (∀j,j<e->nbI a b (lo:Int) (j:Int)≠((hi:Int),0))) (λFX _=>3-(intOf FX).toNat)
 case atStart=>exact⟨0,rfl,Gv,HH,Ah λj hj=>absurd hj Gv⟩
 obtain⟨e,rfl,he,HH,HE⟩:=hrel;by_cases h3:e<3
 ·have q1:(e:Int)<3:=Gv;have q2:(e:Int)<=255:=Gv;obtain⟨⟨a0,a1⟩,-⟩:=Hm (HH.out.b 0);have eh:=JD.out (lo:Int) (e:Int) Gv wr HH.out.below;have bi:=RU.out e h3;obtain⟨⟨nn,er⟩,hz⟩:=ey (nbI a b (lo:Int) (e:Int));rw[hz]at eh bi;have HZ:=Ah hz;have HNB2:=Ah eh;have RX:=Ah bi;clear eh bi hz;go_wp2_with fail;refine HNB2.out.mono ?_;rintro en w2 ⟨rfl,hb⟩;have H2:=HH.out.call hb;clear HNB2 a0 a1 hb HH;unfold fD;dsimp only;have RT:=((H2.set 2 0 rfl (Aa Ab (lo:Int))).set 2 1 rfl (Aa Ac (e:Int)));by_cases h0:er=0
  ·subst h0;by_cases hn:nn=(hi:Int)
   ·subst hn;have hF:=RX.out rfl (HE.out);have HF:=Ah (show R=(lo,e)by rw[<-HR.out,hF]);obtain⟨⟨u0,u1⟩,u2,u3⟩:=Hm (H2.b 2);clear RX hF HZ;go_wp2_with fail;rw[HF.out];exact Ai (Lv rfl rfl (RT.range 2 rfl) Tryz.underlying194 rfl Gx) rfl ⟨rfl,RT.below⟩
   ·have q5:(nn==(hi:Int))=false:=by simpa using hn
    have HK:Hid (∀j,j<e+1->nbI a b (lo:Int) (j:Int)≠((hi:Int),0)):=Ah λj hj=>by
     by_cases e1:j=e
     ·subst e1;rw[HZ.out];intro hc;exact hn (congrArg Prod.fst hc)
     ·exact HE.out j Gv
    have xa:=Ah H2;clear RX HZ H2 RT hn;go_wp2;exact⟨⟨e+1,by go_num,Gv,xa,HK⟩,by simp[intOf];omega⟩
  ·have q5:(er==0)=false:=by simpa using h0
   have HK:Hid (∀j,j<e+1->nbI a b (lo:Int) (j:Int)≠((hi:Int),0)):=Ah λj hj=>by
    by_cases e1:j=e
    ·subst e1;rw[HZ.out];intro hc;exact h0 (congrArg Prod.snd hc)
    ·exact HE.out j Gv
   have xa:=Ah H2;clear RX HZ H2 RT h0;go_wp2;exact⟨⟨e+1,by go_num,Gv,xa,HK⟩,by simp[intOf];omega⟩
 ·obtain rfl:e=3:=Gv;have HF:=Ah (show R=(0,0)by rw[<-HR.out,SK.out HE.out]);have H2:=HH.out;have RT:=((H2.set 2 0 rfl (Aa Ab 0)).set 2 1 rfl (Aa Ac 0));obtain⟨⟨u0,u1⟩,u2,u3⟩:=Hm (H2.b 2);clear h3;go_wp2_with fail;rw[HF.out];exact Ai (Lv rfl rfl (RT.range 2 rfl) Tryz.underlying194 rfl Gx) rfl ⟨rfl,RT.below⟩
def Ar2 (c e:Nat) (k kk:Int) (Wb Kb M:Nat) (mp:List ((Int×Int)×Ak)) (v:Bool) (w:Aj) (hW:w.heap[Wb]? =Af (Co #[.bool v] 4 (0,0))) (hK:w.cell? ⟨Kb,0,Ae⟩=Af (.map (Af M))) (hM:Kl unK w M mp) (hg:(Of ((c:Int),(e:Int)) mp).getD (Aa Ac 0)= Aa Ac kk):
  Al Dp 99 #[.agg #[(c:Int),Aa Ac (e:Int)],Aa Ac k,.pointer (Af ⟨Wb,0,Ae⟩),.pointer (Af ⟨Kb,0,Ae⟩)] w
   λen w'=>en= .returned (.tuple #[])/\Below Wb w w'/\w'.heap[Wb]? =Af (Co #[.bool (v||(decide (kk≠3)&&decide (kk≠k)))] 4 (0,0))/\w.heap.size<=w'.heap.size/\∀g,g<w.heap.size->g≠Wb->w'.heap[g]? =w.heap[g]? :=by
 have EQ:=(Au.1 hW).1;have H:=(Bx.start w).new #[(c:Int),Aa Ac (e:Int)] 194 rfl;have I8:=kept H.below hW EQ;have hK1:=Gw H.below hK;have JK:=hM.below H.below hM.lt;obtain⟨a0,a1⟩:=Lx I8;obtain⟨R,hR⟩:=ey ((v||(decide (kk≠3)&&decide (kk≠k))));rw[hR];have HR:=Ah hR;have dq:=λW' (h:Kl unK W' M mp)=>We Ts Tryz.underlying190 (et:=166) (z:= Aa Ac 0) (λw=>Gx) h ((c:Int),(e:Int)) false;rw[hg]at dq;unfold unK at dq;simp only[Ek,if_false]at dq;have ig:=dq _ JK
 have aw:Hid (∀W,W=(w.alloc (.cells #[(c:Int),Aa Ac (e:Int)] 194)).setCell ⟨Wb,0,Ae⟩ (.bool R)->Below Wb w W/\W.heap[Wb]? =Af (Co #[.bool R] 4 (0,0))/\w.heap.size<=W.heap.size/\∀g,g<w.heap.size->g≠Wb->W.heap[g]? =w.heap[g]?):=Ah λW h=>by
  subst h;exact⟨(((Ag Wb w).alloc Gv _)).setCell (p:=⟨Wb,0,Ae⟩) (Am _) _,by rw[Ju _ I8];rfl,Gy,λg hg hgW=>(Dq _ ⟨Wb,0,Ae⟩ _ g (by show g≠Wb;exact hgW)).trans (Eh w _ g hg)⟩
 obtain⟨⟨b0,b1⟩,-⟩:=Hm (H.b 0);clear hW hK hM hg hR dq I8 JK EQ;go_in;go_upto_region 1 with fail;generalize w.heap.size=N at H b0 b1⊢;generalize w.alloc _=W0 at H ig aw a0 a1 hK1 b0 b1⊢;clear H
 cases v with
 |true=>
  have hR:R=true:=by rw[<-HR.out];rfl
  subst hR;go_wp2_with fail
  go_end0
  exact⟨rfl,aw.out _ rfl⟩
 |false=>
  by_cases h3:kk=3
  ·subst h3;have hR:R=false:=by rw[<-HR.out];rfl
   subst hR;go_wp2_with fail
   go_end0
   exact⟨rfl,aw.out _ rfl⟩
  ·have q1:(kk != 3)=true:=by simpa using h3
   by_cases h4:kk=k
   ·subst h4;have hR:R=false:=by rw[<-HR.out];simp
    subst hR;go_wp2_with fail
    go_end0
    exact⟨rfl,aw.out _ rfl⟩
   ·have q2:(kk != k)=true:=by simpa using h4
    have hR:R=true:=by rw[<-HR.out];simp[h3,h4]
    subst hR;go_wp2_with fail
    go_end0
    exact⟨rfl,aw.out _ rfl⟩
def Cf3 {l:List Sm} (h:Ll w O A l) (i:Nat) (hi:i<l.length):
  ∃b o A1 A2 A3,A=Af ⟨b,o,Ae⟩/\(w.cell? ⟨b,o+i*9,Ae⟩=Af (Aa Ab l[i].a.x)/\w.cell? ⟨b,o+i*9+1,Ae⟩=Af (Aa Ab l[i].a.y)/\w.cell? ⟨b,o+i*9+2,Ae⟩=Af (Aa Ac l[i].a.q)/\w.cell? ⟨b,o+i*9+3,Ae⟩=Af (Aa Ab l[i].b.x)/\w.cell? ⟨b,o+i*9+4,Ae⟩=Af (Aa Ab l[i].b.y)/\w.cell? ⟨b,o+i*9+5,Ae⟩=Af (Aa Ac l[i].b.q)/\
   w.cell? ⟨b,o+i*9+6,Ae⟩=Af (Ad A1 l[i].ps.length l[i].ps.length)/\w.cell? ⟨b,o+i*9+7,Ae⟩=Af (Ad A2 l[i].ls.length l[i].ls.length)/\w.cell? ⟨b,o+i*9+8,Ae⟩=Af (Ad A3 l[i].es.length l[i].es.length))/\Oh w O l[i] A1 A2 A3:=by
 obtain⟨z,rfl,h2,h3⟩:=h;have hiz:i<z.length:=by simpa using hi
 have hr:=h2.rd;obtain⟨b,o,e,-,hc⟩:=hr.2 Gv;have bi:∀f,f<9->(z.flatMap smC)[i*9+f]? =(smC z[i])[f]? :=λf hf=>It smC 9 Qp _ i f hiz hf;have ae:=h3 z[i] (Ay hiz);simp only[List.getElem_map];exact⟨b,o,z[i].2.1,z[i].2.2.1,z[i].2.2.2,e,⟨hc (i*9+0) _ ((bi 0 Gv).trans rfl),hc (i*9+1) _ ((bi 1 Gv).trans rfl),hc (i*9+2) _ ((bi 2 Gv).trans rfl),hc (i*9+3) _ ((bi 3 Gv).trans rfl),hc (i*9+4) _ ((bi 4 Gv).trans rfl),hc (i*9+5) _ ((bi 5 Gv).trans rfl),hc (i*9+6) _ ((bi 6 Gv).trans rfl),hc (i*9+7) _ ((bi 7 Gv).trans rfl),hc (i*9+8) _ ((bi 8 Gv).trans rfl)⟩,ae⟩
def lI (a b:Int) (pv:Ak) (root:Mv) (A:Option Cj) (l:List Stk) (n cc:Nat) (uv:Ak) (O:Nat) (A2:Option Cj) (r:List Sm) (m:Nat) (w:Aj) (hn:n=l.length) (h:Ib w A l) (hl:n<=100000) (jd:∀x∈l,x.ls.length<=100000)
  (hm:m=r.length) (jc:m<=1000000) (hr:Ll w O A2 r) (uw:∀s∈r,s.ps.length<=1000000/\s.ls.length<=1000000):
  Al Dp 97 #[.agg (Zb a b pv root (Ad A n cc) uv (Ad A2 m m))] w (Gz (Aa Ab (if r.any (Kd l)then 12 else 0)) w):=by
 have HS:=Zz w (λw' hb=>hr.below hb);have HC:=Ah (λ(s:Sm) (hs:s∈r) (w':Aj) (hb:Below w.heap.size w w') (A1 A2 A3:Option Cj) (CC:Oh w' O s A1 A2 A3)=>oI s A1 A2 A3 s.ps.length s.ps.length s.ls.length s.ls.length s.es.length s.es.length A l n cc w' hn (h.below hb) hl jd rfl CC.1.2.rd (uw s hs).1 rfl CC.2.1.2.rd (uw s hs).2);have HM:=Ah hm;obtain⟨R,hR⟩:∃z:Int,(if r.any (Kd l)then 12 else 0)=z:=⟨_,rfl⟩;rw[hR];have HR:=Ah hR;clear hR;obtain⟨rt,rx,ry⟩:=root;unfold Zb;dsimp only;have H:=(Bx.start w).new #[a,b,pv,Aa Ac rt,rx,ry,Ad A n cc,uv,Ad A2 m m] 186 rfl;clear hn h jd hm hr uw;go_in;go_upto_region 1 with fail;obtain⟨N,ct⟩:=Tw w.heap.size;rw[<-ct.out]at H⊢;generalize w.alloc _=W at H⊢;obtain⟨-,-,-,-,-,-,-,-,c8⟩:=cZ (H.b 0);go_wp2_with fail;clear c8;have H:=Ah H
 go_loopw [8] (λs8 wr=>∃i:Nat,i<=m/\s8= Aa Ab i/\Hid (Bx w [(N,#[a,b,pv,Aa Ac rt,rx,ry,Ad A n cc,uv,Ad A2 m m],186)] wr)/\Hid (∀j (hj:j<r.length),j<i->Kd l r[j]=false)) (λs8 _=>m-(intOf s8).toNat)
 case atStart=>exact⟨0,Gv,rfl,H,Ah λj _ hj=>absurd hj Gv⟩
 obtain⟨i,hi,rfl,HH,HF⟩:=hrel;by_cases ac:i<m
 ·have bv:i<r.length:=oHx HM.out;have q0:(i:Int)<(m:Int):=Gv;obtain⟨sb,so,B1,B2,B3,sq,⟨d0,d1,d2,d3,d4,d5,d6,d7,d8⟩,CC⟩:=Cf3 (HS.out _ HH.out.below) i bv;have pm:=Ay bv;obtain⟨s,hs⟩:=ey (r[i]);rw[hs]at d0 d1 d2 d3 d4 d5 d6 d7 d8 CC pm;have ya:=Zz wr (λw' hb=>HC.out s pm w' (Up HH.out.below hb) B1 B2 B3 (CC.same λg _ hg=>hb.block g hg))
  have qm:=Ah (λ(hc:Kd l s=false) (j:Nat) (hj:j<r.length) (DF:j<i+1)=>show Kd l r[j]=false by
   by_cases lu:j=i
   ·subst lu;rw[hs];exact hc
   ·exact HF.out j hj Gv)
  have HYS:=Ah (λ(hc:Kd l s=true)=>show R=12 by
   rw[<-HR.out,Hc (Ew.2 ⟨s,pm,hc⟩)])
  obtain⟨x,hx⟩:=ey (Kd l s);rw[hx]at ya qm HYS;obtain⟨⟨s0,s1,s2⟩,⟨t0,t1,t2⟩,ps,ls,es⟩:=s;dsimp only at d0 d1 d2 d3 d4 d5 d6 d7 d8 ya;unfold Sm.cells at ya;dsimp only at ya;obtain⟨np,oc⟩:=ey ps.length;obtain⟨nl,ky⟩:=ey ls.length;obtain⟨ne,hne⟩:=ey es.length;rw[oc]at d6 ya;rw[ky]at d7 ya;rw[hne]at d8 ya;obtain⟨C,hC⟩:=ey wr.heap.size;have H2:=HH.out.new #[s0,s1,Aa Ac s2,t0,t1,Aa Ac t2,Ad B1 np np,Ad B2 nl nl,Ad B3 ne ne] 263 hC;have cg:=Ah ((Ag wr.heap.size wr).alloc (Am _) (.cells #[s0,s1,Aa Ac s2,t0,t1,Aa Ac t2,Ad B1 np np,Ad B2 nl nl,Ad B3 ne ne] 263));subst sq;clear hs CC pm hx oc ky hne;go_upto_region 4 with fail
  try rw[hC]
  generalize wr.alloc _=W2 at H2 cg⊢;clear d0 d1 d2 d3 d4 d5 d6 d7 d8 hC;have I_:W2.cell? ⟨N,6,Ae⟩=Af (Ad A n cc):=(Bz W2 N 6 _ _ (0,0) (H2.b 0)).trans rfl;obtain⟨e0,e1,e2,e3,e4,e5,e6,e7,e8⟩:=cZ (H2.b 1);go_wp2_with fail;refine(ya.out _ cg.out).mono ?_;rintro ee w3 ⟨v,rfl,hv,hb⟩;have H3:=Ah ((H2.call hb).upto 1);clear e0 e1 e2 e3 e4 e5 e6 e7 e8 I_ hb cg ya H2 HH
  cases x with
  |true=>
   have q1:(v != 0)=true:=by simpa using hv
   have jn:=Ah (HYS.out rfl);clear hv;go_wp2;go_ret;exact⟨by have h:=jn.out;subst h;rfl,H3.out.below⟩
  |false=>
   have q1:(v != 0)=false:=by simpa using hv
   have j5:=Ah (qm.out rfl);clear qm HYS hv;go_wp2;exact⟨⟨i+1,Gv,by go_num,H3,j5⟩,by simp[intOf];omega⟩
 ·have q0:¬(i:Int)<(m:Int):=Gv
  have hR:R=0:=by
   rw[<-HR.out,Ha];intro hc;obtain⟨s,hs,AV⟩:=Ew.1 hc;obtain⟨j,hj,rfl⟩:=Be.1 hs;rw[HF.out j hj (oHx HM.out)]at AV
   cases AV
  have jn:=Ah hR;clear hR;go_wp2;go_ret;exact⟨by have h:=jn.out;subst h;rfl,HH.out.below⟩
def Ca0 (h:Rd w A 9 z.length (z.flatMap smC)) (i:Nat) (hi:i<z.length):
  ∃b o,A=Af ⟨b,o,Ae⟩/\(w.cell? ⟨b,o+i*9,Ae⟩=Af (Aa Ab z[i].1.a.x)/\w.cell? ⟨b,o+i*9+1,Ae⟩=Af (Aa Ab z[i].1.a.y)/\w.cell? ⟨b,o+i*9+2,Ae⟩=Af (Aa Ac z[i].1.a.q)/\w.cell? ⟨b,o+i*9+3,Ae⟩=Af (Aa Ab z[i].1.b.x)/\w.cell? ⟨b,o+i*9+4,Ae⟩=Af (Aa Ab z[i].1.b.y)/\w.cell? ⟨b,o+i*9+5,Ae⟩=Af (Aa Ac z[i].1.b.q)/\
   w.cell? ⟨b,o+i*9+6,Ae⟩=Af (.slice z[i].2.1 z[i].1.ps.length z[i].1.ps.length)/\w.cell? ⟨b,o+i*9+7,Ae⟩=Af (.slice z[i].2.2.1 z[i].1.ls.length z[i].1.ls.length)/\w.cell? ⟨b,o+i*9+8,Ae⟩=Af (.slice z[i].2.2.2 z[i].1.es.length z[i].1.es.length)):=by
 obtain⟨b,o,e,-,hc⟩:=h.2 Gv;have bi:∀f,f<9->(z.flatMap smC)[i*9+f]? =(smC z[i])[f]? :=λf hf=>It smC 9 Qp _ i f hi hf;exact⟨b,o,e,⟨hc (i*9+0) _ ((bi 0 Gv).trans rfl),hc (i*9+1) _ ((bi 1 Gv).trans rfl),hc (i*9+2) _ ((bi 2 Gv).trans rfl),hc (i*9+3) _ ((bi 3 Gv).trans rfl),hc (i*9+4) _ ((bi 4 Gv).trans rfl),hc (i*9+5) _ ((bi 5 Gv).trans rfl),hc (i*9+6) _ ((bi 6 Gv).trans rfl),hc (i*9+7) _ ((bi 7 Gv).trans rfl),hc (i*9+8) _ ((bi 8 Gv).trans rfl)⟩⟩
structure Bq9 (w:Aj) (U:Option Cj) (nu:Nat) (up:List Bool) (Kb M:Nat) (mp:List ((Int×Int)×Ak)) (A2:Option Cj) (z:List SmZ):Prop where
 seams:Rd w A2 9 z.length (z.flatMap smC)
 rows:∀x∈z,Rd w x.2.2.1 3 x.1.ls.length (Nl x.1.ls)
 up:Rd w U 1 nu (If up)
 qt:Qt w
 map:Kl unK w M mp
 kb:w.cell? ⟨Kb,0,Ae⟩=Af (.map (Af M))
def Ah5 (a b:Int) (pv:Ak) (root:Mv) (sv:Ak) (U:Option Cj) (nu cu:Nat) (up:List Bool) (A2:Option Cj) (z:List SmZ) (m Wb Kb M:Nat) (mp:List ((Int×Int)×Ak)) (cr:List Cr) (w:Aj) (hs:okS a b=true)
  (hW:w.heap[Wb]? =Af (Co #[.bool false] 4 (0,0))) (hm:m=z.length) (jc:m<=1000000) (pr:nu=up.length) (HL:∀w',Below Wb w w'->Bq9 w' U nu up Kb M mp A2 z)
  (iz:∀c e:Nat,(Of ((c:Int),(e:Int)) mp).getD (Aa Ac 0)= Aa Ac (Ho cr c e)) (hz:∀x∈z,x.1.ls.length<=1000000/\∀y∈x.1.ls,y.2.2<nu):
  Al Dp 98 #[.agg (Zb a b pv root sv (Ad U nu cu) (Ad A2 m m)),.func (.func 99) #[] #[.pointer (Af ⟨Wb,0,Ae⟩),.pointer (Af ⟨Kb,0,Ae⟩)]] w
   λen w'=>en= .returned (.tuple #[])/\Below Wb w w'/\w'.heap[Wb]? =Af (Co #[.bool (z.any λx=>x.1.ls.any (Iz a b cr up))] 4 (0,0)):=by
 have jt:=Ah HL;have HM:=Ah hm;have HZ:=Ah hz;have CL:=Ah iz;have HS:=Ah hs;have LC:=Ah pr;have EQ:=(Au.1 hW).1;obtain⟨rt,rx,ry⟩:=root;have HKI:=Ah (λ(x:Nat×Nat×Nat) (w':Aj) (h:Rd w' U 1 nu (If up)) (hx:x.2.2<nu)=>Av7 a b pv ⟨rt,rx,ry⟩ sv (Ad A2 m m) U up nu cu x w' pr h hx);unfold Zb at HKI⊢;dsimp only at HKI⊢;obtain⟨N,hN⟩:=ey w.heap.size;obtain⟨W,hWd⟩:=ey (w.alloc (.cells #[a,b,pv,Aa Ac rt,rx,ry,sv,Ad U nu cu,Ad A2 m m] 186));have hNb:W.heap[N]? =Af (.cells #[a,b,pv,Aa Ac rt,rx,ry,sv,Ad U nu cu,Ad A2 m m] 186 (0,0)):=by rw[<-hWd,<-hN];exact Ca w _
 have hbW:Below Wb w W:=by rw[<-hWd];exact(Ag Wb w).alloc Gv _
 have hWW:W.heap[Wb]? =Af (Co #[.bool ((z.take 0).any λx=>x.1.ls.any (Iz a b cr up))] 4 (0,0)):=by rw[<-hWd];exact(Eh w _ Wb EQ).trans hW
 have hNW:N≠Wb:=Gv;have fx:Hid (Below Wb w W/\W.heap[N]? =Af (.cells #[a,b,pv,Aa Ac rt,rx,ry,sv,Ad U nu cu,Ad A2 m m] 186 (0,0))/\W.heap[Wb]? =Af (Co #[.bool ((z.take 0).any λx=>x.1.ls.any (Iz a b cr up))] 4 (0,0))):=Ah ⟨hbW,hNb,hWW⟩;clear HL hm hz iz hs pr hW EQ;go_in;go_upto_region 1 with fail
 try rw[hN]
 try rw[hWd]
 obtain⟨-,-,-,-,-,-,-,-,c8⟩:=cZ hNb;clear hN hWd hNb hbW hWW;go_wp2_with fail;clear c8
 go_loopw [11] (λvy wr=>∃i:Nat,i<=m/\vy= Aa Ab i/\Hid (Below Wb w wr/\wr.heap[N]? =Af (.cells #[a,b,pv,Aa Ac rt,rx,ry,sv,Ad U nu cu,Ad A2 m m] 186 (0,0))/\wr.heap[Wb]? =Af (Co #[.bool ((z.take i).any λx=>x.1.ls.any (Iz a b cr up))] 4 (0,0)))) (λvy _=>m-(intOf vy).toNat)
 case atStart=>exact⟨0,Gv,rfl,fx⟩
 obtain⟨i,hi,rfl,HI⟩:=hrel;clear fx;by_cases ac:i<m
 ·have bv:i<z.length:=oHx HM.out;have q0:(i:Int)<(m:Int):=Gv;have ID:=jt.out wr HI.out.1;obtain⟨sb,so,sq,d0,d1,d2,d3,d4,d5,d6,d7,d8⟩:=Ca0 ID.seams i bv;have u':=HZ.out _ (Ay bv)
  have ug:(z.take (i+1)).any (λx=>x.1.ls.any (Iz a b cr up))=((z.take i).any (λx=>x.1.ls.any (Iz a b cr up))||z[i].1.ls.any (Iz a b cr up)):=by
   rw[Bc bv,List.any_append];simp
  have CC:=λw' (hb:Below Wb w w')=>(jt.out w' hb).rows _ (Ay bv);obtain⟨x,hx⟩:=ey (z[i]);rw[hx]at d0 d1 d2 d3 d4 d5 d6 d7 d8 u' ug CC;obtain⟨⟨⟨s0,s1,s2⟩,⟨t0,t1,t2⟩,ps,ls,es⟩,B1,B2,B3⟩:=x;dsimp only at d0 d1 d2 d3 d4 d5 d6 d7 d8 u' ug CC;obtain⟨np,oc⟩:=ey ps.length;obtain⟨nl,ky⟩:=ey ls.length;obtain⟨ne,hne⟩:=ey es.length;rw[oc]at d6;rw[ky]at d7 u' CC;rw[hne]at d8;have qk:=Ah ky;have HZM:=Ah u';have y8:=Ah ug;have wh:=Ah CC;have hnl6:=u'.1;obtain⟨C,hC⟩:=ey wr.heap.size;have EV:=Ca wr (.cells #[s0,s1,Aa Ac s2,t0,t1,Aa Ac t2,Ad B1 np np,Ad B2 nl nl,Ad B3 ne ne] 263);have EN:=(Au.1 HI.out.2.1).1;have EQ:=(Au.1 HI.out.2.2).1
  have KX:Hid (Below Wb w (wr.alloc (.cells #[s0,s1,Aa Ac s2,t0,t1,Aa Ac t2,Ad B1 np np,Ad B2 nl nl,Ad B3 ne ne] 263))/\(wr.alloc (.cells #[s0,s1,Aa Ac s2,t0,t1,Aa Ac t2,Ad B1 np np,Ad B2 nl nl,Ad B3 ne ne] 263)).heap[N]? =Af (.cells #[a,b,pv,Aa Ac rt,rx,ry,sv,Ad U nu cu,Ad A2 m m] 186 (0,0))/\
    (wr.alloc (.cells #[s0,s1,Aa Ac s2,t0,t1,Aa Ac t2,Ad B1 np np,Ad B2 nl nl,Ad B3 ne ne] 263)).heap[Wb]? =Af (Co #[.bool ((z.take i).any (λx=>x.1.ls.any (Iz a b cr up))||(ls.take 0).any (Iz a b cr up))] 4 (0,0))):=
   Ah ⟨HI.out.1.alloc Gv _,(Eh wr _ N EN).trans HI.out.2.1,by rw[List.take_zero,List.any_nil,Bool.or_false];exact(Eh wr _ Wb EQ).trans HI.out.2.2⟩
  rw[hC]at EV;subst sq;clear ID u' ug CC hx oc ky hne;go_upto_region 4 with fail
  try rw[hC]
  generalize wr.alloc _=W4 at EV KX⊢;clear d0 d1 d2 d3 d4 d5 d6 d7 d8 hC EN EQ HI;obtain⟨-,-,-,-,-,-,-,e7,-⟩:=cZ EV;go_wp2_with fail;clear e7 EV;obtain⟨WX,rfl⟩:=ez wr
  go_loopw [18] (λFW wr=>∃j:Nat,j<=nl/\FW= Aa Ab j/\Hid (Below Wb w wr/\wr.heap[N]? =Af (.cells #[a,b,pv,Aa Ac rt,rx,ry,sv,Ad U nu cu,Ad (Af ⟨sb,so,Ae⟩) m m] 186 (0,0))/\wr.heap[Wb]? =Af (Co #[.bool ((z.take i).any (λx=>x.1.ls.any (Iz a b cr up))||(ls.take j).any (Iz a b cr up))] 4 (0,0)))) (λFW _=>nl-(intOf FW).toNat)
  case atStart=>exact⟨0,Gv,rfl,KX⟩
  obtain⟨j,hj,rfl,HJ⟩:=hrel;clear KX;by_cases fw:j<nl
  ·have me:j<ls.length:=oHx qk.out;have q1:(j:Int)<(nl:Int):=Gv;obtain⟨lb,lo,dm,hlbl,r0,r1,r2⟩:=mM (wh.out wr HJ.out.1) j me
   have NX:(ls.take (j+1)).any (Iz a b cr up)=((ls.take j).any (Iz a b cr up)||Iz a b cr up ls[j]):=by
    rw[Bc me,List.any_append];simp
   have LW:=HZM.out.2 _ (Ay me);obtain⟨y,hy⟩:=ey (ls[j]);rw[hy]at r0 r1 r2 NX LW;have NN:=λw' hQ=>tJ a b y w' HS.out hQ;have NZ:=λw' h=>HKI.out y w' h LW;unfold Iz at NX;obtain⟨⟨cc,ce⟩,gv⟩:=ey (Mr a b y);rw[gv]at NN NX;obtain⟨kl,be⟩:=ey (jE up y);rw[be]at NZ NX;obtain⟨y0,y1,y2⟩:=y;unfold pX at NN NZ;dsimp only at r0 r1 r2 NX LW NN NZ;obtain⟨v,hv⟩:∃x,((z.take i).any (λx=>x.1.ls.any (Iz a b cr up))||(ls.take j).any (Iz a b cr up))=x:=⟨_,rfl⟩
   have CD:((z.take i).any (λx=>x.1.ls.any (Iz a b cr up))||(ls.take (j+1)).any (Iz a b cr up))=(v||(decide (Ho cr cc ce≠3)&&decide (Ho cr cc ce≠kl))):=by
    unfold Iz at hv⊢;rw[NX,<-hv,Bool.or_assoc]
   rw[hv]at HJ;have dx:=Ah CD;have PO:=Ah NN;have js:=Ah NZ;obtain⟨D,hD⟩:=ey wr.heap.size;have hbD:=Ca wr (.cells #[Aa Ac y0,y1,y2] 266);rw[hD]at hbD;have EN:=(Au.1 HJ.out.2.1).1;have EQ:=(Au.1 HJ.out.2.2).1
   have PQ:Hid (Below Wb w (wr.alloc (.cells #[Aa Ac y0,y1,y2] 266))/\(wr.alloc (.cells #[Aa Ac y0,y1,y2] 266)).heap[N]? =Af (.cells #[a,b,pv,Aa Ac rt,rx,ry,sv,Ad U nu cu,Ad (Af ⟨sb,so,Ae⟩) m m] 186 (0,0))/\(wr.alloc (.cells #[Aa Ac y0,y1,y2] 266)).heap[Wb]? =Af (Co #[.bool v] 4 (0,0))):=
    Ah ⟨HJ.out.1.alloc Gv _,(Eh wr _ N EN).trans HJ.out.2.1,(Eh wr _ Wb EQ).trans HJ.out.2.2⟩
   have hDW:D≠Wb:=Gv;have hDN:D≠N:=Gv;subst dm;clear NX hy gv be hv CD NN NZ HJ hlbl LW;go_upto_region 7 with fail
   try rw[hD]
   generalize wr.alloc _=W7 at hbD PQ⊢;clear r0 r1 r2 hD EN EQ;obtain⟨c0,c1,c2,c3,c4,c5,c6,c7,c8⟩:=cZ PQ.out.2.1;obtain⟨⟨g0,g1,g2⟩,-⟩:=Hg hbD
   obtain⟨S,an⟩:∃S:Aj->Prop,S=λW'=>(W'.cell? ⟨N,0,Ae⟩=Af (Aa Ab a)/\W'.cell? ⟨N,1,Ae⟩=Af (Aa Ab b)/\W'.cell? ⟨N,2,Ae⟩=Af pv/\W'.cell? ⟨N,3,Ae⟩=Af (Aa Ac rt)/\W'.cell? ⟨N,4,Ae⟩=Af (Aa Ab rx)/\W'.cell? ⟨N,5,Ae⟩=Af (Aa Ab ry)/\W'.cell? ⟨N,6,Ae⟩=Af sv/\W'.cell? ⟨N,7,Ae⟩=Af (Ad U nu cu)/\W'.cell? ⟨N,8,Ae⟩=Af (Ad (Af ⟨sb,so,Ae⟩) m m))/\
    W'.cell? ⟨D,0,Ae⟩=Af (Aa Ac y0)/\W'.cell? ⟨D,1,Ae⟩=Af (Aa Ab y1)/\W'.cell? ⟨D,2,Ae⟩=Af (Aa Ab y2):=⟨_,rfl⟩
   have HSO:Hid (∀W',S W'->(W'.cell? ⟨N,0,Ae⟩=Af (Aa Ab a)/\W'.cell? ⟨N,1,Ae⟩=Af (Aa Ab b)/\W'.cell? ⟨N,2,Ae⟩=Af pv/\W'.cell? ⟨N,3,Ae⟩=Af (Aa Ac rt)/\W'.cell? ⟨N,4,Ae⟩=Af (Aa Ab rx)/\W'.cell? ⟨N,5,Ae⟩=Af (Aa Ab ry)/\W'.cell? ⟨N,6,Ae⟩=Af sv/\W'.cell? ⟨N,7,Ae⟩=Af (Ad U nu cu)/\W'.cell? ⟨N,8,Ae⟩=Af (Ad (Af ⟨sb,so,Ae⟩) m m))/\
    W'.cell? ⟨D,0,Ae⟩=Af (Aa Ac y0)/\W'.cell? ⟨D,1,Ae⟩=Af (Aa Ab y1)/\W'.cell? ⟨D,2,Ae⟩=Af (Aa Ab y2)):=Ah λW' h=>by subst an;exact h
   have ag:Hid (∀W',W'.heap[N]? =W7.heap[N]? ->W'.heap[D]? =W7.heap[D]? ->S W'):=Ah λW' h h'=>by
    have hn:∀f u,W7.cell? ⟨N,f,Ae⟩=Af u->W'.cell? ⟨N,f,Ae⟩=Af u:=λf u hu=>by
     unfold World.cell? at hu⊢;rw[h];exact hu
    have hd:∀f u,W7.cell? ⟨D,f,Ae⟩=Af u->W'.cell? ⟨D,f,Ae⟩=Af u:=λf u hu=>by
     unfold World.cell? at hu⊢;rw[h'];exact hu
    subst an;exact⟨⟨hn _ _ c0,hn _ _ c1,hn _ _ c2,hn _ _ c3,hn _ _ c4,hn _ _ c5,hn _ _ c6,hn _ _ c7,hn _ _ c8⟩,hd _ _ g0,hd _ _ g1,hd _ _ g2⟩
   have EN:=(Au.1 PQ.out.2.1).1;have jg:=(Au.1 hbD).1;have EQ:=(Au.1 PQ.out.2.2).1;clear c0 c1 c2 c3 c4 c5 c6 c7 c8 g0 g1 g2 an;refine Ao (S:=S) Gx (ag.out _ rfl rfl) (λhS=>?_);have hb:Below W7.heap.size W7 W7.drew:=(Ag _ _).drew;generalize W7.drew=X0 at hb hS⊢;refine Hk 0 1 2 3 ?_;refine Hk 4 5 7 8 ?_;refine rdy 6 (λK hK=>?_);go_simp;refine(PO.out _ (jt.out _ (PQ.out.1.trans (hb.mono Gv))).qt).mono ?_;rintro ee X1 ⟨rfl,ad⟩;have hb:=Up hb ad;refine hK.o (ag.out _ (hb.block N EN) (hb.block D jg)) (λhS=>?_);clear hK K ad;refine rdy 9 (λK hK=>?_);go_simp;refine(js.out _ (jt.out _ (PQ.out.1.trans (hb.mono Gv))).up).mono ?_;rintro ee X2 ⟨rfl,ad⟩;have hb:=Up hb ad;refine hK.o (ag.out _ (hb.block N EN) (hb.block D jg)) (λhS=>?_);clear hK K ad;have ID:=jt.out X2 (PQ.out.1.trans (hb.mono Gv));have ni:=Ar2 cc ce kl (Ho cr cc ce) Wb Kb M mp v X2 ((hb.block Wb EQ).trans PQ.out.2.2) ID.kb ID.map (CL.out cc ce);have pd:=Ah ni;clear ID ni;refine rdy 10 (λK hK=>?_);go_simp;refine pd.out.mono ?_;rintro ee X3 ⟨rfl,bh,hw3,U1,FK⟩;have hszb:=hb.size;have QG:=(FK N Gv hNW).trans (hb.block N EN);refine hK.o (ag.out _ QG ((FK D Gv hDW).trans (hb.block D jg))) (λhS=>?_)
   have HJ2:Hid (Below Wb w X3/\X3.heap[N]? =Af (.cells #[a,b,pv,Aa Ac rt,rx,ry,sv,Ad U nu cu,Ad (Af ⟨sb,so,Ae⟩) m m] 186 (0,0))/\X3.heap[Wb]? =Af (Co #[.bool ((z.take i).any (λx=>x.1.ls.any (Iz a b cr up))||(ls.take (j+1)).any (Iz a b cr up))] 4 (0,0))):=
    Ah ⟨(PQ.out.1.trans (hb.mono Gv)).trans bh,QG.trans PQ.out.2.1,by rw[dx.out];exact hw3⟩
   clear hK K hb bh hw3 U1 FK QG hS HSO ag pd;refine An Gx ?_ _;go_wp2;exact⟨⟨j+1,Gv,by go_num,HJ2⟩,by simp[intOf];omega⟩
  ·obtain rfl:j=nl:=Gv;have q1:¬(j:Int)<(j:Int):=Gv;have ht:ls.take j=ls:=Bg (oHx qk.out)
   have HJ2:Hid (Below Wb w wr/\wr.heap[N]? =Af (.cells #[a,b,pv,Aa Ac rt,rx,ry,sv,Ad U nu cu,Ad (Af ⟨sb,so,Ae⟩) m m] 186 (0,0))/\wr.heap[Wb]? =Af (Co #[.bool ((z.take (i+1)).any λx=>x.1.ls.any (Iz a b cr up))] 4 (0,0))):=Ah (by
    rw[y8.out];have:=HJ.out;rw[ht]at this;exact this)
   clear ht;go_wp2;exact⟨⟨i+1,Gv,by go_num,HJ2⟩,by simp[intOf];omega⟩
 ·obtain rfl:i=m:=Gv;have q0:¬(i:Int)<(i:Int):=Gv;have ht:z.take i=z:=Bg (oHx HM.out);rw[ht]at HI;have HI:=Ah HI.out;clear ht;go_wp2_with fail
  go_end0
  exact⟨rfl,HI.out.1,HI.out.2.2⟩
def Bb9 {root:Mv} (hE:Ov a b cr root l=0) (hp:Lo a b cr):
  (∀s∈(fI a b cr root l).seams,aC (Hh a b) (3*Hh a b) s)/\(fI a b cr root l).seams.length<=3*Hh a b:=by
 have LO:(Ie a b cr root).2=0:=by
  unfold Ov at hE
  split at hE
  ·contradiction
  ·rename_i g;exact El.1 g
 obtain⟨h1,h2,h3,h4⟩:=Ny LO;have fy:sO (fI a b cr root l) (Hh a b):=⟨rfl,h1,h2,eO _ _,h3,h4,hp⟩;exact Uj fy (3*Hh a b) (Am _)
def aC.perm {s t:Sm} (h:aC N j s) (hp:SmP s t):aC N j t:=
 ⟨hp.a▸h.qa,hp.b▸h.qb,λp hm=>h.ps p (hp.ps.mem_iff.2 hm),λp hm=>h.ls p (hp.ls.mem_iff.2 hm),hp.ps.length_eq▸h.lp,hp.ls.length_eq▸h.ll,hp.es.length_eq▸h.le⟩
def Ca7 (h:Ap1 ss r) (hs:∀s∈ss,aC N j s):(∀t∈r,aC N j t)/\r.length=ss.length:=by
 obtain⟨z,h1,rfl,h2⟩:=h;refine⟨λt ht=>?_,by rw[h1.length_eq];simp⟩;obtain⟨p,hp,rfl⟩:=Dr.1 ht;exact(hs p.1 (h1.mem_iff.2 (Dr.2 ⟨p,hp,rfl⟩))).perm (h2 p hp)
def Bf3 {root:Mv} (hE:Ov a b cr root l=0):(upF a b cr root).1.length=Hh a b:=by
 have LO:(Ie a b cr root).2=0:=by
  unfold Ov at hE
  split at hE
  ·contradiction
  ·rename_i g;exact El.1 g
 obtain⟨h1,-⟩:=Ny LO;unfold upF;rw[Ha (λh=>h LO),Bp,h1]
def kdM (l:List Cr):List ((Int×Int)×Ak):=l.foldl (λm r=>Ro (r.c,r.e) (Aa Ac r.k) m) []
def Av4 (l:List Cr) (i:Nat) (h:i<l.length):kdM (l.take (i+1))=Ro (l[i].c,l[i].e) (Aa Ac l[i].k) (kdM (l.take i)):=by
 unfold kdM;rw[Bc h,List.foldl_append];rfl
def Bl2 {l:List Cr} (h:l.Pairwise λr q=>Kv r.c r.e q.c q.e<0) (c e:Int):(Of (c,e) (kdM l)).getD (Aa Ac 0)= Aa Ac (Ho l c e):=by
 have key:∀(l:List Cr) (m:List ((Int×Int)×Ak)),(l.Pairwise λr q=>Kv r.c r.e q.c q.e<0)->
   Of (c,e) (l.foldl (λm r=>Ro (r.c,r.e) (Aa Ac r.k) m) m)=match l.find? λr=>decide (r.c=c)&&decide (r.e=e)with|some r=>Af (Aa Ac r.k)|none=>Of (c,e) m:=by
  intro l
  induction l with
  |nil=>intro m _;rfl
  |cons r t ih=>
   intro m hp;obtain⟨h1,h2⟩:=List.pairwise_cons.1 hp;rw[List.foldl_cons,ih _ h2,eJ,List.find?_cons];by_cases hr:r.c=c/\r.e=e
   ·have hnone:t.find? (λr=>decide (r.c=c)&&decide (r.e=e))=Ae:=by
     rw[List.find?_eq_none];intro q hq hh;simp only[Em,Li]at hh;have:=h1 q hq;rw[hr.1,hr.2,hh.1,hh.2,mF.2 ⟨rfl,rfl⟩]at this;omega
    rw[hnone];simp[hr.1,hr.2]
   ·have hne:¬((c,e)=(r.c,r.e)):=λx=>hr (by simp at x;exact⟨x.1.symm,x.2.symm⟩)
    have hd:(decide (r.c=c)&&decide (r.e=e))=false:=by
     rw[<-Ep,Em,Li,Li];exact hr
    rw[Ha hne,hd]
 unfold kdM;rw[key l [] h];unfold Ho
 cases l.find? λr=>decide (r.c=c)&&decide (r.e=e)with
 |none=>rfl
 |some r=>rfl
def Ch0 {f:Sm->Bool}:(z.any λx=>f x.1)=(z.map (·.1)).any f:=by
 rw[List.any_map];rfl
def aK (a b:Int) (pA:Option Cj) (cr:List Cr) (pn pc:Nat) (root:Mv) (A:Option Cj) (l:List Stk) (n cc:Nat) (w:Aj) (hp:Lo a b cr) (oh:pn=cr.length) (fi:Rd w pA 3 pn (crs cr)) (dr:pn<=1000000) (ht:root.t<=255)
  (hn:n=l.length) (h:Ib w A l) (hl:n<=100000) (jd:∀x∈l,x.ls.length<=100000) (xy:∀x∈l,x.c.q<=255) (hQ:Qf w) (hT:Tn w):
  Al Dp 52 #[.agg #[a,b,Ad pA pn pc,Aa Ac root.t,Aa Ab root.x,Aa Ab root.y,Ad A n cc]] w (Gz (Aa Ab (St.chk ⟨a,b,cr,root,l⟩)) w):=by
 have a_:=Zz w (λw' hb=>Aw3 a b pA cr pn pc root A l n cc w' hp oh (fi.below hb) dr ht hn (h.below hb) hl jd xy (hQ.below hb) (hT.below hb));have ux:=Zz w (λw' hb (uv:Ak) (O:Nat) (A2:Option Cj) (r:List Sm) (hr:Ll w' O A2 r) (jc:r.length<=1000000) (uw:∀s∈r,s.ps.length<=1000000/\s.ls.length<=1000000)=>lI a b (Ad pA pn pc) root A l n cc uv O A2 r r.length w' hn (h.below hb) hl jd rfl jc hr uw);have HLP:=Ah (λ(U:Option Cj) (nu cu:Nat) (up:List Bool) (A2:Option Cj) (z:List SmZ) (m Wb Kb M:Nat) (w':Aj)=>Ah5 a b (Ad pA pn pc) root (Ad A n cc) U nu cu up A2 z m Wb Kb M (kdM cr) cr w' hp.sheet);have HSO:=Ah (λ(hE:Ov a b cr root l=0)=>Bb9 hE hp);have WR:=Ah (λ(hE:Ov a b cr root l=0)=>Bf3 hE);have KT:=Ah (Sx hp.sheet);have HKG:=Ah (λc e:Nat=>Bl2 hp.asc (c:Int) (e:Int));have HPR:=Zz w (λw' hb=>fi.below hb);have LD:=Ah oh;have HQ:=Zz w (λw' hb=>hQ.below hb);obtain⟨R,hR⟩:=ey (St.chk ⟨a,b,cr,root,l⟩);rw[hR];unfold St.chk at hR;dsimp only at hR;have HR:=Ah hR;obtain⟨rt,rx,ry⟩:=root;dsimp only at ht⊢;have H:=(Bx.start w).new #[a,b,Ad pA pn pc,Aa Ac rt,rx,ry,Ad A n cc] 33 rfl;clear hp oh fi ht hn h hl jd xy hQ hT hR;obtain⟨E,hE⟩:=ey (Ov a b cr ⟨rt,rx,ry⟩ l);rw[hE]at a_ HSO WR HR;dsimp only at a_;go_in;go_upto_region 1 with fail;obtain⟨N,ct⟩:=Tw w.heap.size;rw[<-ct.out]at H⊢;generalize w.alloc _=W0 at H⊢;have hc:=λj=>Bz W0 N j _ _ (0,0) (H.b 0);have c0:W0.cell? ⟨N,0,Ae⟩=Af (Aa Ab a):=(hc 0).trans rfl;have c1:W0.cell? ⟨N,1,Ae⟩=Af (Aa Ab b):=(hc 1).trans rfl;have c2:W0.cell? ⟨N,2,Ae⟩=Af (Ad pA pn pc):=(hc 2).trans rfl
 have c3:W0.cell? ⟨N,3,Ae⟩=Af (Aa Ac rt):=(hc 3).trans rfl;have c4:W0.cell? ⟨N,4,Ae⟩=Af (Aa Ab rx):=(hc 4).trans rfl;have c5:W0.cell? ⟨N,5,Ae⟩=Af (Aa Ab ry):=(hc 5).trans rfl;have c6:W0.cell? ⟨N,6,Ae⟩=Af (Ad A n cc):=(hc 6).trans rfl;clear hc hE;go_wp2_with fail;refine(a_.out _ H.below).mono ?_;rintro ee w1 ⟨hb,ij⟩;have H1:=H.call hb;clear c0 c1 c2 c3 c4 c5 c6 a_;rcases ij with⟨h0,rfl⟩|⟨rfl,A2,r,U,rfl,mj,uf,hru⟩
 ·have q1:(E != 0)=true:=by simpa using h0
  have hRE:R=E:=by rw[<-HR.out,Hc h0]
  subst hRE;unfold Bs0;clear hb H;go_wp2;go_ret;exact⟨rfl,by first|exact H1.below|exact(H1.other _).below⟩
 ·have DN:=HSO.out rfl;obtain⟨dw,hlen⟩:=Ca7 mj DN.1;have ob:=KT.out;have jc:r.length<=1000000:=oHx DN.2;have VH:=WR.out rfl;have hRv:=HR.out;rw[Ha (λh=>h rfl),nD (P:=Kd l) (λs t h=>oG l s t h) mj]at hRv;obtain⟨up,FR⟩:=ey ((upF a b cr ⟨rt,rx,ry⟩).1);rw[FR]at hru VH hRv;rw[FR];rw[nD (P:=λx=>x.ls.any (Iz a b cr up)) (λs t h=>xW s t h) mj]at hRv;have MN:=Ah hRv;obtain⟨z,ap,bw,qi⟩:=uf;have uf:Ll w1 W0.heap.size A2 r:=⟨z,ap,bw,qi⟩;obtain⟨nu,pr⟩:=ey up.length;rw[pr]at hru VH;rw[pr];have LC:=Ah pr;obtain⟨m,hm⟩:=ey r.length;have ld:z.length=m:=by rw[<-hm,<-ap,Bp]
  have jt:=Zz w1 (λw' hb=>(⟨(bw.below hb).rd,λx hx=>((qi x hx).same (λg _ hg=>hb.block g hg)).2.1.2.rd,hru.below hb⟩:Rd w' A2 9 z.length (z.flatMap smC)/\(∀x∈z,Rd w' x.2.2.1 3 x.1.ls.length (Nl x.1.ls))/\Rd w' U 1 nu (If up)));have IU:=Zz w1 (λw' hb (uv:Ak)=>ux.out w' (Up H1.below hb) uv W0.heap.size A2 r (uf.below hb) jc (λs hs=>⟨by have:=(dw s hs).lp;omega,by have:=(dw s hs).ll;omega⟩));have HZ:=Ah (λx (hx:x∈z)=>(⟨by have:=(dw x.1 (ap▸Dr.2 ⟨x,hx,rfl⟩)).ll;omega,λy hy=>by have:=((dw x.1 (ap▸Dr.2 ⟨x,hx,rfl⟩)).ls y hy).2.2;omega⟩:x.1.ls.length<=1000000/\∀y∈x.1.ls,y.2.2<nu));have pj:=Ah ap;have GM:=Ah ld;rw[hm]at IU jc;rw[hm];unfold Zb at IU⊢;dsimp only at IU⊢;obtain⟨X,hX⟩:=ey (r.any (Kd l));rw[hX]at IU MN;obtain⟨P,hP⟩:=ey w1.heap.size;have H2:=H1.new #[a,b,Ad pA pn pc,Aa Ac rt,rx,ry,Ad A n cc,Ad U nu nu,Ad A2 m m] 186 hP;have aj:Below w1.heap.size w1 (w1.alloc (.cells #[a,b,Ad pA pn pc,Aa Ac rt,rx,ry,Ad A n cc,Ad U nu nu,Ad A2 m m] 186)):=(Ag _ _).alloc (Am _) _;clear DN dw hlen ob VH hRv ap bw qi uf hru pr mj hm ld FR hb H HR HSO WR KT ux hX;go_upto_region 4 with fail
  try rw[hP]
  generalize w1.alloc _=w2 at H2 aj⊢;obtain⟨c0,c1,c2,c3,c4,c5,c6,c7,c8⟩:=cZ (H2.b 1);have oz:=Ah aj;have HPP:=Ah hP;clear H1 aj hP;go_wp2_with fail;refine(IU.out _ oz.out _).mono ?_;rintro ee w3 ⟨rfl,hb⟩;have H3:=H2.call hb;have sh:=Ah (Up oz.out hb);clear c0 c1 c2 c3 c4 c5 c6 c7 c8 hb H2 oz IU
  cases X with
  |true=>
   have MI:Hid (R=12):=Ah (by rw[<-MN.out,Hc rfl]);simp only[if_true];go_wp2;go_ret;exact⟨by have h:=MI.out;subst h;rfl,H3.below⟩
  |false=>
   simp only[Ek,if_false]
   have HRV2:Hid ((if(r.any λx=>x.ls.any (Iz a b cr up))then 13 else 0)=R):=Ah (by
    have h:=MN.out;rw[Ha He]at h;exact h)
   clear MN;go_upto_region 7 with fail;obtain⟨M,hM⟩:=ey w3.heap.size;obtain⟨Kb,x_⟩:=ey (M+1);have ju:(Instr.makeMap 190 Ae).run Dp w3= .ok (.map (Af w3.heap.size)) (w3.alloc (.map #[] 0)):=by first|rfl|simp[Instr.makeMap]
   have QX:=Wf unK w3;rw[hM]at ju QX;have H4:=(H3.other (.map #[] 0)).new #[.map (Af M)] 190 (N:=Kb) Hv;have uk:=QX.below ((Ag _ _).alloc (Am _) (.cells #[.map (Af M)] 190)) QX.lt;have kx:w.heap.size<=M:=oHx H3.below.size;have yq:=Ah (sh.out.trans (((Ag w3.heap.size w3).alloc (Am _) (.map #[] 0)).alloc Gy (.cells #[.map (Af M)] 190)|>.mono sh.out.size));have SH:Hid (M<Kb):=Ah Gv;have HM1:Hid (w1.heap.size<=M):=Ah (oHx sh.out.size);go_upto_region 8 with fail
   try rw[hM]
   try rw[x_]
   generalize (w3.alloc _).alloc _=w4 at H4 uk yq⊢;clear hM x_ ju QX H3 sh;have qo:w4.cell? ⟨N,2,Ae⟩=Af (Ad pA pn pc):=(Bz w4 N 2 _ _ (0,0) (H4.b 0)).trans rfl;have e_:=Ah kx;have H4:=Ah H4;have uk:=Ah uk;clear kx;go_wp2_with fail;clear qo
   go_loopw [28] (λY8 wr=>∃k:Nat,k<=pn/\Y8= Aa Ab k/\Hid (Bx w [(N,#[a,b,Ad pA pn pc,Aa Ac rt,rx,ry,Ad A n cc],33),(P,#[a,b,Ad pA pn pc,Aa Ac rt,rx,ry,Ad A n cc,Ad U nu nu,Ad A2 m m],186),(Kb,#[.map (Af M)],190)] wr)/\Hid (Kl unK wr M (kdM (cr.take k)))/\Hid (Below w1.heap.size w1 wr)) (λY8 _=>pn-(intOf Y8).toNat)
   case atStart=>exact⟨0,Gv,rfl,H4,uk,yq⟩
   obtain⟨k,hk,rfl,HH,CO,wz⟩:=hrel;clear H4 uk yq;by_cases ac:k<pn
   ·have be:k<cr.length:=oHx LD.out;have ba:=HPR.out _ HH.out.below;rw[LD.out]at ba;obtain⟨bb,o,hA,cj,d0,d1,d2⟩:=Xh ba k be;have kg:=Av4 cr k be;obtain⟨q,hq⟩:=ey (cr[k]);rw[hq]at d0 d1 d2 kg;have xd:=Ah kg;have q1:(k:Int)<(pn:Int):=Gv;have cg:=(Ag wr.heap.size wr).alloc (Am _) (.cells #[Aa Ab q.c,Aa Ac q.e,Aa Ac q.k] 192);have Kr2:=CO.out.below cg CO.out.lt;have Hr2:=HH.out.other (.cells #[Aa Ab q.c,Aa Ac q.e,Aa Ac q.k] 192);have hbw2:=Up wz.out cg;have zw:(wr.alloc (.cells #[Aa Ab q.c,Aa Ac q.e,Aa Ac q.k] 192)).cell? ⟨Kb,0,Ae⟩=Af (.map (Af M)):=(Lx (Hr2.b 2)).1;clear ba kg hq;subst hA;go_wp2_with (at_mapUpdate;refine Sl Ts Tryz.underlying190 _ rfl _ _ _ rfl M (kdM (cr.take k)) (q.c,q.e) (Aa Ac q.k) rfl rfl rfl Kr2 ?_;intro w9 ur BT);exact⟨⟨k+1,Gv,by go_num,Ah (Hr2.mapped Kr2 BT e_.out),Ah (by rw[xd.out];exact ur),Ah (hbw2.grown BT hbw2.size (λx hx=>by injection hx with hx;have:=HM1.out;omega))⟩,by simp[intOf];omega⟩
   ·obtain rfl:k=pn:=Gv;have q1:¬(k:Int)<(k:Int):=Gv;have ht:cr.take k=cr:=Bg (oHx LD.out);rw[ht]at CO;clear ht;obtain⟨Wb,hWb⟩:=ey wr.heap.size;have hWn:=Ca wr (.cells #[.bool false] 4);rw[hWb]at hWn;have cg:=(Ag wr.heap.size wr).alloc (Am _) (.cells #[.bool false] 4);have H5:=HH.out.other (.cells #[.bool false] 4);have td:=CO.out.below cg CO.out.lt;have GP:=Up wz.out cg;have JV:N<Wb:=oHx (HH.out.lt 0 rfl);have ig:P<Wb:=oHx (HH.out.lt 1 rfl);have mo:Kb<Wb:=oHx (HH.out.lt 2 rfl);have DH:w1.heap.size<=Wb:=oHx wz.out.size;have QU:w.heap.size<=Wb:=oHx HH.out.below.size;have XJ:M<Wb:=oHx SH.out;have zw:∀w',Below Wb (wr.alloc (.cells #[.bool false] 4)) w'->w'.cell? ⟨Kb,0,Ae⟩=Af (.map (Af M)):=λw' hb=>(Lx ((hb.block Kb mo).trans (H5.b 2))).1;have HLPM:=Ah (λ(w':Aj) (hb:Below Wb (wr.alloc (.cells #[.bool false] 4)) w')=>(⟨(jt.out w' (GP.trans (hb.mono DH))).1,(jt.out w' (GP.trans (hb.mono DH))).2.1,(jt.out w' (GP.trans (hb.mono DH))).2.2,(HQ.out w' (H5.below.trans (hb.mono QU))).qt,td.below hb XJ,zw w' hb⟩:Bq9 w' U nu up Kb M (kdM cr) A2 z));have IZ:=Ah (HLP.out U nu nu up A2 z m Wb Kb M (wr.alloc (.cells #[.bool false] 4)) hWn GM.out.symm jc LC.out.symm HLPM.out (λc e=>HKG.out c e) HZ.out)
    have XZ:=λw' (hb:Below Wb (wr.alloc (.cells #[.bool false] 4)) w')=>H5.keepN (M:=Wb) (λx hx=>by
     simp only[Bk,Dv,or_false]at hx;rcases hx with rfl|rfl|rfl
     ·exact JV
     ·exact ig
     ·exact mo) QU hb
    have HKP:=Ah XZ;unfold Zb at IZ;dsimp only at IZ;obtain⟨c0,c1,c2,c3,c4,c5,c6,c7,c8⟩:=cZ (H5.b 1);have HZA:Hid ((z.any λx=>x.1.ls.any (Iz a b cr up))=r.any λx=>x.ls.any (Iz a b cr up)):=Ah (by rw[<-pj.out];exact Ch0 (f:=λs=>s.ls.any (Iz a b cr up)));generalize (z.any λx=>x.1.ls.any (Iz a b cr up))=Y at IZ HZA;clear hWn cg td GP JV ig mo DH QU XJ zw XZ H5 HH CO wz HLPM HLP jt;go_upto_region 14 with fail
    try rw[hWb]
    generalize wr.alloc _=w5 at IZ HKP c0 c1 c2 c3 c4 c5 c6 c7 c8⊢;clear hWb;go_wp2_with fail;refine IZ.out.mono ?_;rintro ee w6 ⟨rfl,bc,hw6⟩;have H6:=HKP.out w6 bc;obtain⟨g0,-⟩:=Lx hw6;clear c0 c1 c2 c3 c4 c5 c6 c7 c8 bc hw6 IZ HKP
    cases Y with
    |true=>
     have MI:Hid (R=13):=Ah (by rw[<-HRV2.out,<-HZA.out];rfl);go_wp2;go_ret;exact⟨by have h:=MI.out;subst h;rfl,H6.below⟩
    |false=>
     have MI:Hid (R=0):=Ah (by rw[<-HRV2.out,<-HZA.out];rfl);go_wp2;go_ret;exact⟨by have h:=MI.out;subst h;rfl,H6.below⟩
structure Gs (s:St):Prop where
 pat:Lo s.a s.b s.cr
 chk:s.chk=0
def Gs.stk (h:Gs s):Ov s.a s.b s.cr s.root s.l=0:=by
 have:=h.chk;unfold St.chk at this
 split at this
 ·contradiction
 ·rename_i g;exact El.1 g
def Gs.both (h:Gs s):(Ie s.a s.b s.cr s.root).2=0:=by
 have:=h.stk;unfold Ov at this
 split at this
 ·contradiction
 ·rename_i g;exact El.1 g
def Gs.root (h:Gs s):s.root.ok=true:=by
 cases hr:s.root.ok with
 |true=>rfl
 |false=>
  have:=h.both;rw[Xl _ _ _ _ hr]at this
  cases this
def vG {m:Mv} (h:m.ok=true):m.t<8:=by
 have:=(Ry.1 h).1;omega
def Gs.chkS (h:Gs s):chkS (Hh s.a s.b) s.l=0:=by
 have:=h.stk;unfold Ov at this
 split at this
 ·contradiction
 ·split at this
  ·contradiction
  ·rename_i g;exact El.1 g
def jJ:∀(n:Nat) (l:List Nat),l.Nodup->(∀x∈l,x<n)->l.length<=n
 |0,l,_,hb=>by
  cases l with
  |nil=>simp
  |cons x r=>exact absurd (hb x Gy) (Nat.not_lt_zero _)
 |n+1,l,hn,hb=>by
  have h1:=jJ n (l.erase n) (hn.erase n) λx hx=>by
   have h2:=(hn.mem_erase_iff).1 hx;have:=hb x h2.2;have:=h2.1;omega
  have h2:l.length<=(l.erase n).length+1:=by
   by_cases hm:n∈l
   ·rw[List.length_erase_of_mem hm];omega
   ·rw[List.erase_of_not_mem hm];omega
  omega
def Be0 (l:List Stk):Jw l=(Hn l).length:=by
 unfold Jw Hn;rw[List.length_flatMap]
def Cb1 (hi:i<l.length) (h:Kn n l i=false):l[i].c.ok=true/\l[i].ls≠[]/\∀id∈l[i].ls,id<n:=by
 unfold Kn at h;rw[Aw hi]at h;simp only[Cz,Bool.not_eq_false',List.isEmpty_eq_false_iff,Du,Li]at h;exact⟨h.1.1.1,h.1.2,λid hid=>by have:=h.2 id hid;omega⟩
def Zt (hi:i+1<l.length) (h:Kn n l (i+1)=false):Ka l[i].c l[i+1].c<0:=by
 unfold Kn at h;rw[Aw hi]at h;simp only[Cz,Aw (show i<l.length by omega),Rt]at h;have:=h.1.1.2;omega
def Gs.at (h:Gs s):∀x∈s.l,x.c.ok=true/\x.ls≠[]/\∀id∈x.ls,id<Hh s.a s.b:=λx hx=>by
 obtain⟨i,hi,rfl⟩:=Be.1 hx;exact Cb1 hi ((La h.chkS).1 i hi)
def Gs.tot (h:Gs s):Jw s.l<=1024:=by
 rw[Be0];have:=Sx h.pat.sheet;refine Bt (jJ (Hh s.a s.b) _ (La h.chkS).2.1 λx hx=>?_) this;obtain⟨y,hy,el⟩:=Ec.1 hx;exact(h.at y hy).2.2 x el
def zI:∀{l:List Stk},(∀x∈l,x.ls≠[])->l.length<=Jw l
 |[],_=>Gy
 |y::r,h=>by
  have h1:=zI (l:=r) λx hx=>h x (List.mem_cons_of_mem _ hx);have h2:0<y.ls.length:=List.length_pos_iff.2 (h y Gy);simp[Jw]at h1⊢;omega
def Gs.len (h:Gs s):s.l.length<=1024:=Bt (zI λx hx=>(h.at x hx).2.1) h.tot
def Gs.ls (h:Gs s):∀x∈s.l,x.ls.length<=1024:=λ_ hx=>Bt (Rk hx) h.tot
def Gs.q (h:Gs s):∀x∈s.l,x.c.q<=255:=λx hx=>by
 have:=(Jq.1 (h.at x hx).1).2.2.2.2;omega
def Gs.pn (h:Gs s):s.cr.length<=262400:=aL h.pat.fit h.pat.asc
def Gs.img_len (h:Gs s):(Ie s.a s.b s.cr s.root).1.2.length=Hh s.a s.b:=(Ny h.both).2.1
structure Ap3 (w:Aj) (cs:List Ak) (s:St):Prop where
 held:∃pA pc A cc,cs=[Aa Ab s.a,Aa Ab s.b,Ad pA s.cr.length pc,Aa Ac s.root.t,Aa Ab s.root.x,Aa Ab s.root.y,Ad A s.l.length cc]/\AOk pA s.cr.length pc/\Rd w pA 3 s.cr.length (crs s.cr)/\Ib w A s.l
def Ap3.below (h:Ap3 w cs s) (hb:Below w.heap.size w w'):Ap3 w' cs s:=by
 obtain⟨pA,pc,A,cc,h1,h2,h3,h4⟩:=h.held;exact⟨⟨pA,pc,A,cc,h1,h2,h3.below hb,h4.below hb⟩⟩
def St.mv (s:St) (f:Fd):Option (List Stk):=Rx (ofL f.k f.c) (Mj (Hx f.k f.c f.side s.l))
def St.rt (s:St) (f:Fd):Mv×Int:=if Is f.k f.c (s.img 0)=f.side then Vq s.root (ofL f.k f.c)else (s.root,0)
def St.kf (s:St) (f:Fd) (i:Nat):Int:=if(upF s.a s.b s.cr s.root).1.getD i false=f.over then 2 else 1
def St.to (s:St) (f:Fd) (mv:List Stk):St:=⟨s.a,s.b,Oc (s.cr++Lz (Lt s f.k f.c) (s.kf f)),(s.rt f).1,if f.over then Kc (Hx f.k f.c (1-f.side) s.l) mv else Kc mv (Hx f.k f.c (1-f.side) s.l)⟩
def yU (s:St) (f:Fd):s.fold f=if Qe f.k f.c f.side=false then ((1:Int),(Ae:Option St))else if(Lt s f.k f.c).isEmpty then (7,Ae)else match s.mv f with
  |none=>(3,Ae)
  |some mv=>if(s.rt f).2≠0 then (3,Ae)else if(s.to f mv).chk=0 then (0,Af (s.to f mv))else (3,Ae):=rfl
def Av5 (s:St) (f:Fd) (i:Nat):s.kf f i=1∨s.kf f i=2:=by
 unfold St.kf
 split
 ·exact .inr rfl
 ·exact .inl rfl
def qI (hp:Lo s.a s.b s.cr) (f:Fd) (mv:List Stk):Lo (s.to f mv).a (s.to f mv).b (s.to f mv).cr:=Ai1 hp f.k f.c (s.kf f) (Av5 s f)
structure Off (O M:Nat) (w w':Aj):Prop where
 os:w'.os=w.os
 tape:w'.tape=w.tape
 output:w'.output=w.output
 size:w.heap.size<=w'.heap.size
 block:∀k,k<O->k≠M->w'.heap[k]? =w.heap[k]?
def Off.refl (O M:Nat) (w:Aj):Off O M w w:=⟨rfl,rfl,rfl,Am _,λ_ _ _=>rfl⟩
def Off.below {a b c:Aj} (h:Off O M a b) (k:Below O b c):Off O M a c:=
 ⟨k.os.trans h.os,k.tape.trans h.tape,k.output.trans h.output,Bt h.size k.size,λi hi hm=>(k.block i hi).trans (h.block i hi hm)⟩
def Off.put {a b c:Aj} (h:Off O M a b) (hO:O<=b.heap.size) (k:b.grownBy c (Af M)):Off O M a c:=
 ⟨k.os.trans h.os,k.tape.trans h.tape,k.output.trans h.output,Bt h.size k.size,λi hi hm=>(k.block i Gv (by simpa using hm)).trans (h.block i hi hm)⟩
def Off.back {a w w':Aj} (h:Off O M w w') (k:Below B a w) (hO:B<=O) (hM:B<=M):Below B a w':=
 k.trans ⟨h.os,h.tape,h.output,h.size,λi hi=>h.block i Gv Gv⟩
def Rd.off (h:Rd w A sz n xs) (hO:w.heap.size<=O) (k:Off O M w w') (hM:∃es c,w.heap[M]? =Af (.map es c)):Rd w' A sz n xs:=by
 refine⟨h.1,λhn=>?_⟩;obtain⟨b,o,rfl,hb,hc⟩:=h.2 hn;have gg:=k.size;refine⟨b,o,rfl,Gv,λj u hu=>?_⟩;have L4:=hc j u hu
 have hne:b≠M:=by
  rintro rfl;obtain⟨es,c,hm⟩:=hM;simp[World.cell?,hm]at L4
 rw[World.cell?_of_block (w:=w) (a:=⟨b,o+j,Ae⟩) (k.block b Gv hne)];exact L4
def Ib.off (h:Ib w A l) (hO:w.heap.size<=O) (k:Off O M w w') (hM:∃es c,w.heap[M]? =Af (.map es c)):Ib w' A l:=by
 obtain⟨hs,h1,h2,h3⟩:=h;exact⟨hs,h1,h2.off hO k hM,λi hi uo=>⟨(h3 i hi uo).1,(h3 i hi uo).2.1,(h3 i hi uo).2.2.1,(h3 i hi uo).2.2.2.off hO k hM⟩⟩
def Ia.lowM {l:List SkR} (h:Ia O w v l) (k:∀g,O<=g->g<w.heap.size->w'.heap[g]? =w.heap[g]?):Ia O w' v l:=by
 refine⟨⟨h.1.1,h.1.2.imp id λ⟨g,cap,cur,r1,r2,r3,r4⟩=>⟨g,cap,cur,r1,r2,(k g r2 (Au.1 r3).1).trans r3,r4⟩⟩,λx hx=>(h.2.1 x hx).same λg hg=>?_,h.2.2⟩;have:=(h.2.1 x hx).lt g hg;exact k g this.1 this.2.1
structure OvI (O M:Nat) (w0 wr:Aj) (v:Ak) (zl:List SkR):Prop where
 out:Ia O wr v zl
 cap:∀x∈zl,Um wr x
 mp:Kl clK wr M (Mf (zl.map (·.1)) 0)
 off:Off O M w0 wr
 top:O<=wr.heap.size
 low:M<O
def OvI.below (h:OvI O M w0 wr v zl) (hb:Below wr.heap.size wr w'):OvI O M w0 w' v zl:=
 ⟨h.out.below hb,λx hx=>(h.cap x hx).same λg hg=>hb.block g ((h.out.2.1 x hx).lt g hg).2.1,h.mp.below hb h.mp.lt,h.off.below (hb.mono h.top),Bt h.top hb.size,h.low⟩
def Xa {row:Option Nat} (hg:w.grownBy w' row) (hO:O<=w.heap.size) (hr:∀g,row=Af g->O<=g):Below O w w':=(Ag O w).grown hg hO hr
def OvI.snoc {w0 wr W1 W2 W3:Aj} {x:SkR} (h:OvI O M w0 wr v zl) (hp:Tj x.1.c (zl.map (·.1)) 0=Ae)
  (h1:Kl clK W1 M (Ro x.1.c (Aa Ab (zl.length:Int)) (Mf (zl.map (·.1)) 0))) (k1:wr.grownBy W1 (Af M)) (hb:Below W1.heap.size W1 W2) (hx:Nj W1.heap.size W2 x) (hc:Um W2 x) (ho:Ia O W3 v' (zl++[x])) (hg:W2.grownBy W3 v.ownBlock):OvI O M w0 W3 v' (zl++[x]):=by
 have GS:O<=W1.heap.size:=Bt h.top k1.size;have QH:O<=W2.heap.size:=Bt GS hb.size;have hv:∀g,v.ownBlock=Af g->O<=g:=λg hg=>(h.out.1.lt g hg).1
 have JK:Kl clK W1 M (Mf ((zl++[x]).map (·.1)) 0):=by
  rw[List.map_append];have e:=Az7 x.1 (zl.map (·.1)) hp;rw[Bp]at e;rw[List.map_cons,List.map_nil,<-e];exact h1
 have hM:Kl clK W3 M (Mf ((zl++[x]).map (·.1)) 0):=(JK.below hb JK.lt).kept hg (λe=>by have:=hv M e.symm;have:=h.low;omega);have bh:Below O W2 W3:=Xa hg QH hv
 have mi:∀y∈zl,∀g∈Kk y,W3.heap[g]? =wr.heap[g]? :=λy hy g nk=>by
  have hk:=h.out.2.1 y hy;have ac:=hk.lt g nk;have h1:g<W1.heap.size:=Br ac.2.1 k1.size;have h2:g<W2.heap.size:=Br h1 hb.size;rw[hg.block g h2 (Ne.symm (Vj h.out.1 hk g nk)),hb.block g h1,k1.block g ac.2.1 (by have:=h.low;simp;omega)]
 refine⟨ho,λy hy=>?_,hM,((h.off.put h.top k1).below (hb.mono GS)).below bh,Bt QH hg.size,h.low⟩;rcases Bl.1 hy with hy|hy
 ·exact(h.cap y hy).same (mi y hy)
 ·obtain rfl:=List.mem_singleton.1 hy;refine hc.same λg nk=>hg.block g (hx.lt g nk).2.1 λe=>?_;have a1:=(h.out.1.lt g e.symm).2;have a2:=(hx.lt g nk).1;have:=k1.size;omega
def OvI.poke {G n c:Nat} (h:OvI O M w0 wr (Ad (Af ⟨G,0,Ae⟩) n c) zl) (hi:i<zl.length) (ys:List Nat) (A':Option Cj) (c':Nat)
  (hx:Nj O W1 (⟨zl[i].1.c,zl[i].1.ls++ys⟩,(A',c'))) (hc:Um W1 (⟨zl[i].1.c,zl[i].1.ls++ys⟩,(A',c'))) (hg:wr.grownBy W1 (zl[i].2.1.map (·.block))) (hA:A'.map (·.block)=zl[i].2.1.map (·.block)∨A'.map (·.block)=Af wr.heap.size):
  OvI O M w0 (W1.setCell ⟨G,i*4+3,Ae⟩ (Ad A' (zl[i].1.ls++ys).length c')) (Ad (Af ⟨G,0,Ae⟩) n c) (zl.set i (⟨zl[i].1.c,zl[i].1.ls++ys⟩,(A',c')))/\(∃u,W1.cell? ⟨G,i*4+3,Ae⟩=Af u)/\W1.frozen? ⟨G,i*4+3,Ae⟩=false:=by
 obtain⟨x',KK⟩:∃z:SkR,(⟨zl[i].1.c,zl[i].1.ls++ys⟩,(A',c'))=z:=⟨_,rfl⟩;obtain⟨x0,PD⟩:=ey (zl[i]);have O5:(zl[i].1.ls++ys).length=x'.1.ls.length:=by rw[<-KK]
 have XE:A'=x'.2.1:=by rw[<-KK]
 have BP:c'=x'.2.2:=by rw[<-KK]
 rw[O5];rw[KK]at hx hc⊢;rw[XE]at hA⊢;rw[BP];have bj:x'.1.c=x0.1.c:=by rw[<-KK,<-PD]
 rw[PD]at hg hA;have br:x0∈zl:=PD▸Ay hi;have di:=h.out.2.1 x0 br
 have hn:n=zl.length:=by
  obtain⟨_,_,e,-⟩:=Hy h.out.1;simp at e;exact e.2.1
 subst hn;have rm:O<=G:=(h.out.1.lt G rfl).1;have hGs:G<wr.heap.size:=(h.out.1.lt G rfl).2;have hG0:G∉Kk x0:=λhm=>Vj h.out.1 di G hm rfl;have hGW:W1.heap[G]? =wr.heap[G]? :=hg.block G hGs λe=>hG0 (by unfold Kk;rw[<-e];simp)
 have au:W1.ownsRow O 92 4 (Ad (Af ⟨G,0,Ae⟩) zl.length c) zl.length (zl.flatMap Jc):=Io h.out.1 λg M3=>by
  obtain rfl:G=g:=by simpa[Value.ownBlock]using M3
  exact hGW
 have s4:=Kx au (Jo W1 (Af G)) (i*4+3) (Ad x'.2.1 x'.1.ls.length x'.2.2)
 have dl:(zl.flatMap Jc).set (i*4+3) (Ad x'.2.1 x'.1.ls.length x'.2.2)=(zl.set i x').flatMap Jc:=by
  refine(On Jc 4 Lg zl i 3 hi Gv x' _ ?_).symm;rw[PD];simp[Jc,bj]
 rw[dl]at s4;have U0:=hg.size;have hlow:=h.low
 have bo:∀g,g<wr.heap.size->g∉Kk x0->g≠G->(W1.setCell ⟨G,i*4+3,Ae⟩ (Ad x'.2.1 x'.1.ls.length x'.2.2)).heap[g]? =wr.heap[g]? :=λg h1 h2 h3=>by
  rw[Dq _ ⟨G,i*4+3,Ae⟩ _ g h3];exact hg.block g h1 λe=>h2 (by unfold Kk;rw[<-e];simp)
 have KL:∀g∈Kk x',g∈Kk x0∨g=wr.heap.size:=λg EZ=>by
  unfold Kk at EZ⊢;rcases hA with e|e
  ·rw[e]at EZ;exact .inl EZ
  ·rw[e]at EZ;simp at EZ;exact .inr EZ
 have hxG:∀g∈Kk x',g≠G:=λg EZ e=>by
  rcases KL g EZ with h1|h1
  ·exact hG0 (e▸h1)
  ·omega
 have e0:zl=zl.take i++x0::zl.drop (i+1):=by rw[<-PD,<-List.drop_eq_getElem_cons hi,List.take_append_drop]
 have ca:=h.out.2.2;rw[e0]at ca;simp only[Bi,Bf,Bq,Bl]at ca;obtain⟨a1,⟨a2,a3,a4⟩,a5⟩:=ca
 have OV:∀y∈zl.take i++zl.drop (i+1),y∈zl/\∀g∈Kk y,g∉Kk x0:=λy hy=>by
  rcases Bl.1 hy with hy|hy
  ·exact⟨List.mem_of_mem_take hy,λg hg h0=>a5 g (Ec.2 ⟨y,hy,hg⟩) g (.inl h0) rfl⟩
  ·exact⟨List.mem_of_mem_drop hy,λg hg h0=>a4 g h0 g (Ec.2 ⟨y,hy,hg⟩) rfl⟩
 have mi:∀y∈zl.take i++zl.drop (i+1),∀g∈Kk y,(W1.setCell ⟨G,i*4+3,Ae⟩ (Ad x'.2.1 x'.1.ls.length x'.2.2)).heap[g]? =wr.heap[g]? :=λy hy g nk=>by
  obtain⟨hyz,LW⟩:=OV y hy;have YA:=h.out.2.1 y hyz;exact bo g (YA.lt g nk).2.1 (LW g nk) λe=>Vj h.out.1 YA g nk (by rw[e];rfl)
 have wu:∀g∈Kk x',(W1.setCell ⟨G,i*4+3,Ae⟩ (Ad x'.2.1 x'.1.ls.length x'.2.2)).heap[g]? =W1.heap[g]? :=λg EZ=>Dq _ ⟨G,i*4+3,Ae⟩ _ g (hxG g EZ)
 have IE:∀y∈zl.set i x',y=x'∨y∈zl.take i++zl.drop (i+1):=λy hy=>by
  rw[bK zl i hi]at hy;rcases Bl.1 hy with hy|hy
  ·exact .inr (Bl.2 (.inl hy))
  ·rcases Bk.1 hy with hy|hy
   ·exact .inl hy
   ·exact .inr (Bl.2 (.inr hy))
 have L1:(zl.set i x').map (·.1)=(zl.map (·.1)).set i x'.1:=by rw[List.map_set]
 have pm:Kl clK W1 M (Mf (zl.map (·.1)) 0):=h.mp.kept hg λe=>by
  have:=(di.lt M (by unfold Kk;rw[<-e];simp)).1;omega
 have hold:∀g,g∈(zl.take i).flatMap Kk∨g∈(zl.drop (i+1)).flatMap Kk->g<wr.heap.size:=λg hg=>by
  rcases hg with hg|hg
  ·obtain⟨y,hy,nk⟩:=Ec.1 hg;exact((h.out.2.1 y (List.mem_of_mem_take hy)).lt g nk).2.1
  ·obtain⟨y,hy,nk⟩:=Ec.1 hg;exact((h.out.2.1 y (List.mem_of_mem_drop hy)).lt g nk).2.1
 refine⟨⟨⟨by rw[List.length_set];exact s4.1,λy hy=>?_,?_⟩,λy hy=>?_,?_,?_,?_,hlow⟩,?_,Th au _⟩
 ·rcases IE y hy with rfl|hy
  ·exact hx.same wu
  ·exact(h.out.2.1 y (OV y hy).1).same (mi y hy)
 ·rw[bK zl i hi];simp only[Bi,Bf,Bq,Bl];refine⟨a1,⟨Xw _,a3,λa ha b hb e=>?_⟩,λa ha b hb e=>?_⟩
  ·subst e;rcases KL a ha with h1|h1
   ·exact a4 a h1 a hb rfl
   ·have:=hold a (.inr hb);omega
  ·subst e;rcases hb with hb|hb
   ·rcases KL a hb with h1|h1
    ·exact a5 a ha a (.inl h1) rfl
    ·have:=hold a (.inl ha);omega
   ·exact a5 a ha a (.inr hb) rfl
 ·rcases IE y hy with rfl|hy
  ·exact hc.same wu
  ·exact(h.cap y (OV y hy).1).same (mi y hy)
 ·rw[L1,fP x'.1 (zl.map (·.1)) 0 i (by simpa using hi) (by simp[PD,bj])];obtain⟨es,clock,m1,m2⟩:=pm;exact⟨es,clock,(Dq _ ⟨G,i*4+3,Ae⟩ _ M (by show M≠G;omega)).trans m1,m2⟩
 ·have ci:Below O wr W1:=Xa hg h.top λg e=>(di.lt g (by unfold Kk;rw[e];simp)).1;exact(h.off.below ci).below ((Ag O W1).setCell (p:=⟨G,i*4+3,Ae⟩) rm _)
 ·simp;have:=h.top;omega
 ·have hlen:=Kq Jc 4 Lg zl;obtain⟨b,o,e,-,gv⟩:=(Rd.of_own au).2 Gv;obtain⟨rfl,rfl⟩:G=b/\0=o:=by simpa using e
  have:=gv (i*4+3) _ (Aw (l:=zl.flatMap Jc) (by rw[hlen];omega));rw[Bu]at this;exact⟨_,this⟩
def wD {c:Cl} (h:Tj c l 0=Af i):∃h:i<l.length,l[i].c=c:=by simpa using(Wn h).2
def sX {x:Stk} (h:Tj x.c l 0=Af i):∃h:i<l.length,Nd x l=l.set i ⟨x.c,l[i].ls++x.ls⟩:=by simpa using Ss h
def Ia.elem {O n c:Nat} {l:List SkR} (h:Ia O w (Ad A n c) l) (i:Nat) (hi:i<l.length):
  ∃G,A=Af ⟨G,0,Ae⟩/\n=l.length/\O<=G/\G<w.heap.size/\w.cell? ⟨G,i*4,Ae⟩=Af (Aa Ab l[i].1.c.x)/\w.cell? ⟨G,i*4+1,Ae⟩=Af (Aa Ab l[i].1.c.y)/\w.cell? ⟨G,i*4+2,Ae⟩=Af (Aa Ac (l[i].1.c.q:Int))/\w.cell? ⟨G,i*4+3,Ae⟩=Af (.slice l[i].2.1 l[i].1.ls.length l[i].2.2):=by
 obtain⟨A',c',hv,-,-⟩:=Hy h.1;obtain⟨rfl,rfl,rfl⟩:A=A'/\n=l.length/\c=c':=by simpa using hv
 have hb:=h.1.lt;rcases h.1.2 with⟨-,h0⟩|⟨g,cap,cur,vt,-⟩
 ·omega
 obtain⟨rfl,rfl⟩:A=Af ⟨g,0,Ae⟩/\c=cap:=by simpa using vt
 obtain⟨b,o,e,-,gv⟩:=(Rd.of_own h.1).2 Gv;obtain⟨rfl,rfl⟩:g=b/\0=o:=by simpa using e
 have bi:∀f,f<4->(l.flatMap Jc)[i*4+f]? =(Jc l[i])[f]? :=λf hf=>It Jc 4 Lg l i f hi hf
 have qo:∀f v,f<4->(Jc l[i])[f]? =Af v->w.cell? ⟨g,i*4+f,Ae⟩=Af v:=λf v hf hv=>by
  have:=gv (i*4+f) v ((bi f hf).trans hv)
  rwa [Bu]at this
 exact⟨g,rfl,rfl,(hb g rfl).1,(hb g rfl).2,qo 0 _ Gv rfl,qo 1 _ Gv rfl,qo 2 _ Gv rfl,qo 3 _ Gv rfl⟩
end Go.Proofs.YtlgkpdfieaadaaaGreatDoor
