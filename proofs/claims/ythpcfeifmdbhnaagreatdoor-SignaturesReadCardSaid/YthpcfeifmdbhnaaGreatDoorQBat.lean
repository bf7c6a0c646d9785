import Derived.Test.YthpcfeifmdbhnaaGreatDoorQRsC
import Derived.Test.YthpcfeifmdbhnaaGreatDoorQSid
import Derived.Test.YthpcfeifmdbhnaaGreatDoorQLkm
import Derived.Test.YthpcfeifmdbhnaaGreatDoorQSog
open Array renaming getElem?_eq_some_iff→Au
open Go renaming Calls→Al,Value→Ak,World→Aj,cell_of_row→By,heap_alloc_new→Bz,wpAnyH_done→An,wpAnyH_ready→Ap,wp_region_held_drew→Ao
open Go.AllReadyH renaming cons→Aq,nil→Ar
open Go.IntKind renaming i64→Ab,u8→Ac
open Go.Lib renaming hid→Ah
open Go.RowKit.Below renaming refl→Ag
open Go.Value renaming int→Aa,slice→Ad
open List renaming flatMap_append→Bi,flatMap_cons→Bf,getElem_cons_succ→Cd,getElem_cons_zero→Cc,getElem_toArray→Ce,length_append→Bh,length_map→Bo,mem_append→Bl,mem_cons→Bk,nodup_append→Bp,setIfInBounds_toArray→Ch,set_cons_succ→Cg,set_cons_zero→Cf
open Nat renaming le_refl→Am,lt_of_lt_of_le→Bq,zero_add→Bt
open Option renaming none→Ae,some→Af
set_option maxHeartbeats 4000000
set_option maxRecDepth 100000
namespace Go.Proofs
open Go.Shelf Go.RowKit
def Tryz.laysSortCr_ren:Go.Shelf.Ren:=⟨fun|6=>96|15=>132|14=>143|28=>181|29=>182|20=>188|21=>189|22=>190|23=>191|24=>192|25=>193|26=>194|27=>195|46=>234|47=>214|48=>215|49=>235|50=>236|57=>269|n=>n,fun|22=>26|24=>124|25=>212|3=>3|39=>256|0=>0|53=>316|55=>287|4=>4|46=>310|45=>309|50=>181|5=>5|9=>9|66=>344|70=>76|76=>373|77=>199|n=>n,fun|n=>n⟩
open Tryz in
theorem Tryz.laysSortCr:Go.Proofs.SlLaysF0.n6 Tryz.prog Tryz.laysSortCr_ren:={
 mixed:=Cm,f6:=lyb func96,f14:=lyb func143,f15:=lyf func132,f20:=lyb func188,f21:=lyb func189,f22:=lyb func190,f23:=lyb func191,f24:=lyb func192,f25:=lyb func193,f26:=lyb func194,f27:=lyb func195,f28:=lyf func181,f29:=lyf func182,f46:=lyb func234,f47:=lyf func214,f48:=lyf func215,f49:=lyb func235,f50:=lyb func236,f57:=lyb func269,t0:=underlying0,a0:=isAgg0,z0:=sizeOf0,v0:=zeroValue0,t3:=underlying3,a3:=isAgg3,z3:=sizeOf3,v3:=zeroValue3,t4:=underlying4,a4:=isAgg4,z4:=sizeOf4,v4:=zeroValue4,t5:=underlying5,a5:=isAgg5,z5:=sizeOf5,v5:=zeroValue5,t9:=underlying9,a9:=isAgg9,z9:=sizeOf9,v9:=zeroValue9,t22:=underlying26,a22:=isAgg26,z22:=sizeOf26,v22:=zeroValue26,t25:=underlying212,a25:=isAgg212,z25:=sizeOf212,v25:=zeroValue212,t39:=underlying256,a39:=isAgg256,z39:=sizeOf256,v39:=zeroValue256,t45:=underlying309,a45:=isAgg309,z45:=sizeOf309,v45:=zeroValue309,t46:=underlying310,a46:=isAgg310,z46:=sizeOf310,v46:=zeroValue310,t50:=underlying181,a50:=isAgg181,z50:=sizeOf181,v50:=zeroValue181,t53:=underlying316,a53:=isAgg316,z53:=sizeOf316,v53:=zeroValue316,t55:=underlying287,a55:=isAgg287,z55:=sizeOf287,v55:=zeroValue287,t66:=underlying344,a66:=isAgg344,z66:=sizeOf344,v66:=zeroValue344,t70:=underlying76,a70:=isAgg76,z70:=sizeOf76,v70:=zeroValue76,t76:=underlying373,a76:=isAgg373,z76:=sizeOf373,v76:=zeroValue373,t77:=underlying199,a77:=isAgg199,z77:=sizeOf199,v77:=zeroValue199}
end Go.Proofs
namespace Go.Proofs.YthpcfeifmdbhnaaGreatDoor
open Go.RowKit Go.Sort
abbrev CrE:=Int×Int×Int
def crI (x:CrE):List Ak:=[Aa Ab x.1,Aa Ac x.2.1,Aa Ac x.2.2]
def cX (x y:CrE):Int:=orI (Dm x.1 y.1) (Dm x.2.1 y.2.1)
theorem dA (x y:CrE) (w:Aj):Al Tryz.prog 97 #[.agg (crI x).toArray,.agg (crI y).toArray] w (Ot (Aa Ab (cX x y)) w):=by
 obtain⟨x0,x1,x2⟩:=x;obtain⟨y0,y1,y2⟩:=y;unfold crI cX;dsimp only;have HC1:=Ah (λw'=>Im x0 y0 w');have HC2:=Ah (λw'=>fA x1 y1 w');obtain⟨p,hp⟩:=ey (Dm x0 y0);obtain⟨q,hq⟩:=ey (Dm x1 y1);rw[hp]at HC1⊢;rw[hq]at HC2⊢;have hbd:Bd w ((w.alloc (.cells #[Aa Ab x0,Aa Ac x1,Aa Ac x2] 124)).alloc (.cells #[Aa Ab y0,Aa Ac y1,Aa Ac y2] 124)):=((Bd.refl w).alloc _).alloc _;have HB:=((Bx.start w).new #[Aa Ab x0,Aa Ac x1,Aa Ac x2] 124 rfl).new #[Aa Ab y0,Aa Ac y1,Aa Ac y2] 124 (N:=w.heap.size+1) Cn;clear hp hq;go_enter Tryz.func97,Tryz.ntmps97;go_upto_region 1 with fail;obtain⟨W,hW⟩:=ez ((w.alloc (.cells #[Aa Ab x0,Aa Ac x1,Aa Ac x2] 124)).alloc (.cells #[Aa Ab y0,Aa Ac y1,Aa Ac y2] 124));rw[←hW]at HB hbd⊢;clear hW;obtain⟨N,hN⟩:=ez w.heap.size;rw[←hN]at HB⊢;have HNN:=Ah hN;clear hN;obtain⟨P,hP⟩:=ey (N+1);rw[hP]at HB⊢;clear hP;obtain⟨⟨a0,a1,-⟩,-⟩:=Cv (HB.blk 0 _ _ _ rfl);obtain⟨⟨b0,b1,-⟩,-⟩:=Cv (HB.blk 1 _ _ _ rfl);have HBD:=Ah hbd.drew;obtain⟨S,hSd⟩:∃S:Aj→Prop,S=λW'=>(W'.cell? ⟨N,0,Ae⟩=Af (Aa Ab x0)∧W'.cell? ⟨N,1,Ae⟩=Af (Aa Ac x1))∧W'.cell? ⟨P,0,Ae⟩=Af (Aa Ab y0)∧W'.cell? ⟨P,1,Ae⟩=Af (Aa Ac y1):=⟨_,rfl⟩;have HSO:Hid (∀W',S W'→(W'.cell? ⟨N,0,Ae⟩=Af (Aa Ab x0)∧W'.cell? ⟨N,1,Ae⟩=Af (Aa Ac x1))∧W'.cell? ⟨P,0,Ae⟩=Af (Aa Ab y0)∧W'.cell? ⟨P,1,Ae⟩=Af (Aa Ac y1)):=Ah λW' h=>by subst hSd;exact h
 have HSA:Hid (∀W',Below W.heap.size W W'→S W'):=Ah λW' h=>by
  subst hSd;exact⟨⟨Cj h a0,Cj h a1⟩,Cj h b0,Cj h b1⟩
 clear hSd a0 a1 b0 b1 hbd HB;refine Ao (S:=S) Cm (HSA.out _ (Ag _ _).drew) (λhS=>?_);have hb:Below W.heap.size W W.drew:=(Ag _ _).drew;obtain⟨X0,hX0⟩:=ez W.drew;rw[←hX0]at hb hS HBD⊢;clear hX0;refine Ck 0 ?_;refine Ck 1 ?_;refine Ck 2 ?_;refine Ck 3 ?_;refine Ck 5 ?_;refine Ck 6 ?_;refine Ck 7 ?_;refine Ck 8 ?_;refine rdy 4 (λK hK=>?_);go_simp;refine(HC1.out _).mono ?_;rintro e X1 ⟨rfl,hbm⟩;have HBD:=Ah (HBD.out.trans hbm);have hb:=hb.trans (hbm.b.mono hb.size);refine hK.out _ _ (HSA.out _ hb) (λhS=>?_);clear hK K hbm;refine rdy 9 (λK hK=>?_);go_simp;refine(HC2.out _).mono ?_;rintro e X2 ⟨rfl,hbm⟩;have HBD:=Ah (HBD.out.trans hbm);have hb:=hb.trans (hbm.b.mono hb.size);refine hK.out _ _ (HSA.out _ hb) (λhS=>?_);clear hK K hbm
 have hr:(X2.alloc (.cells #[Aa Ab p,Aa Ab q] 3)).rangeAt X2.heap.size 0 [Aa Ab p,Aa Ab q]:=λj v hj=>by
  rw[Bt,By _ _ j _ _ (0,0) (Bz X2 _)];simpa using hj
 have HOR:=Ah (mV X2.heap.size 2 p q _ hr);have HBD:=Ah (HBD.out.alloc (.cells #[Aa Ab p,Aa Ab q] 3));have hb:=hb.alloc hb.size (.cells #[Aa Ab p,Aa Ab q] 3);clear hr;refine rdy 10 (λK hK=>?_);go_simp;refine hK.out _ _ (HSA.out _ hb) (λhS=>?_);clear hK K;refine rdy 11 (λK hK=>?_);go_simp;refine HOR.out.mono ?_;rintro e X3 ⟨rfl,hbm⟩;have HBD:=Ah (HBD.out.trans hbm);have hb:=hb.trans (hbm.b.mono hb.size);refine hK.out _ _ (HSA.out _ hb) (λhS=>?_);clear hK K hbm;refine Ck 12 ?_;refine An Cm ?_ _;go_wp2;go_ret;exact⟨rfl,HBD.out⟩
theorem Ak7 (x y:CrE):ltOf cX x y=decide (x.1<y.1∨(x.1=y.1∧x.2.1<y.2.1)):=by
 unfold ltOf cX;rw[decide_eq_decide,Tb,If,Ek,If]
theorem Bc2:SWO (ltOf cX) where
 irrefl x:=by rw[Ak7,decide_eq_false_iff_not];omega
 trans x y z h1 h2:=by rw[Ak7,decide_eq_true_iff]at*;omega
 ntrans x y z h1 h2:=by rw[Ak7,decide_eq_false_iff_not]at*;omega
theorem Aj2 (w:Aj):(isAgg 124).run Tryz.prog w= .ok true w:=Cm
theorem Ax2 (w:Aj):(Go.sizeOf 124).run Tryz.prog w= .ok 3 w:=Cm
theorem oI {O m c:Nat} {B:Option Addr} (l:List CrE) (w:Aj) (h:w.ownsRow O 124 3 (Ad B m c) m (l.flatMap crI)) (hm:m≤1000000):
  Al Tryz.prog 96 #[Ad B m c,.func (.func 97) #[] #[]] w (Gu crI cX l O 124 3 m (Ad B m c) w):=
 Nq Tryz.laysSortCr 3 Ct Aj2 Ax2 crI (λ_=>rfl) (λx v hv=>by
  simp[crI]at hv;rcases hv with rfl|rfl|rfl<;>rfl) cX Bc2 97 #[] (enters_of Tryz.func97 Cm rfl) l w h hm (λW' _ x y=>dA x y W')
end Go.Proofs.YthpcfeifmdbhnaaGreatDoor
namespace Go.Proofs.YthpcfeifmdbhnaaGreatDoor
open Go.Sort
theorem Ij {a b:Int}:∀{j:Nat} {u:Nat×Nat},u∈Ff a b j→u.2<3∧3*u.1+u.2<j∧isU a b u.1 u.2=true
 |0,u,h=>by simp[Ff]at h
 |j+1,u,h=>by
  unfold Ff at h;rcases Bl.1 h with h|h
  ·obtain⟨h1,h2,h3⟩:=Ij h;exact⟨h1,Ci,h3⟩
  ·unfold Oh at h
   split at h
   ·rename_i hu;simp at h;subst h;exact⟨by show j%3<3;omega,by show 3*(j/3)+j%3<j+1;omega,hu⟩
   ·simp at h
theorem Vw (a b:Int):∀j,(Ff a b j).Pairwise λu v=>3*u.1+u.2<3*v.1+v.2
 |0=> .nil
 |j+1=>by
  unfold Ff;rw[List.pairwise_append];refine⟨Vw a b j,?_,λu hu v hv=>?_⟩
  ·unfold Oh
   split
   ·exact List.pairwise_singleton _ _
   ·exact .nil
  ·have h1:=(Ij hu).2.1;unfold Oh at hv
   split at hv
   ·simp at hv;subst hv;show 3*u.1+u.2<3*(j/3)+j%3;omega
   ·simp at hv
theorem gC {a b:Int} {i e:Nat} (h:isU a b i e=true):Dl a b i e=((i:Int),(e:Int),0):=by
 unfold isU at h;simp only[Bool.and_eq_true,decide_eq_true_eq]at h;unfold Dl;rw[if_pos h.1];have:min (i:Int) (nbI a b i e).1=i:=Ci;rw[this]
theorem pJ:∀(l:List Int) (lo hi:Int),l.Pairwise (· <·)→(∀x∈l,lo≤x∧x<hi)→lo≤hi→(l.length:Int)≤hi-lo
 |[],lo,hi,_,_,h=>by simp;omega
 |x::r,lo,hi,hp,hb,h=>by
  rw[List.pairwise_cons]at hp;have hx:=hb x Cn;have:=pJ r (x+1) hi hp.2 (λy hy=>⟨by have:=hp.1 y hy;omega,(hb y (by simp[hy])).2⟩) Ci;simp only[List.length_cons];omega
theorem Uh {l:List Cr} (hf:∀r∈l,r.fit) (ha:l.Pairwise λr q=>Gd r.c r.e q.c q.e<0):l.length≤262400:=by
 have h1:(l.map λr=>r.c*256+r.e).Pairwise (· <·):=by
  rw[List.pairwise_map];refine ha.imp_of_mem λ{r q} hr hq h=>?_;have f1:=hf r hr;have f2:=hf q hq;unfold Cr.fit at f1 f2;unfold Gd at h
  split at h
  ·rename_i e;omega
  ·omega
 have h2:=pJ _ 0 262400 h1 (λx hx=>by
  obtain⟨r,hr,rfl⟩:=List.mem_map.1 hx;have f1:=hf r hr;unfold Cr.fit at f1;omega) Ct
 simp at h2;omega
theorem aR (x:Cr) (l:List Cr):(tA x l).Perm (x::l):=by
 induction l with
 |nil=>exact .refl _
 |cons y r ih=>
  unfold tA
  split
  ·exact .refl _
  ·exact(ih.cons y).trans (List.Perm.swap x y r)
theorem Ii (l:List Cr):(Jg l).Perm l:=by
 induction l with
 |nil=>exact .refl _
 |cons x r ih=>exact(aR x _).trans (ih.cons x)
theorem Td {c e c' e':Int}:Gd c e c' e'≤0↔c<c'∨(c=c'∧e≤e'):=by
 unfold Gd
 split
 ·omega
 ·omega
theorem qR {c e c' e':Int}:Gd c e c' e'<0↔c<c'∨(c=c'∧e<e'):=by
 unfold Gd
 split
 ·omega
 ·omega
theorem Aj0 (x:Cr) (l:List Cr) (h:l.Pairwise λp q=>Gd p.c p.e q.c q.e≤0):(tA x l).Pairwise λp q=>Gd p.c p.e q.c q.e≤0:=by
 induction l with
 |nil=>exact List.pairwise_singleton _ _
 |cons y r ih=>
  unfold tA;have hh:=h;rw[List.pairwise_cons]at h
  split
  ·rename_i hc;rw[List.pairwise_cons];refine⟨λz hz=>?_,hh⟩;rcases Bk.1 hz with rfl|hz
   ·exact hc
   ·have h2:=h.1 z hz;rw[Td]at*;omega
  ·rename_i hc;rw[List.pairwise_cons];refine⟨λz hz=>?_,ih h.2⟩;rcases Bk.1 ((aR x r).mem_iff.1 hz)with rfl|hz
   ·rw[Td]at*;omega
   ·exact h.1 z hz
theorem jK (l:List Cr):(Jg l).Pairwise λp q=>Gd p.c p.e q.c q.e≤0:=by
 induction l with
 |nil=>exact .nil
 |cons x r ih=>exact Aj0 x _ ih
def crU (r:Cr):Int×Int:=(r.c,r.e)
theorem dM {l:List Cr} (h:l.Pairwise λp q=>Gd p.c p.e q.c q.e≤0) (hn:(l.map crU).Nodup):l.Pairwise λp q=>Gd p.c p.e q.c q.e<0:=by
 unfold List.Nodup at hn;rw[List.pairwise_map]at hn;refine(h.and hn).imp λ{p q} hh=>?_;obtain⟨h1,h2⟩:=hh;rw[Td]at h1;rw[qR];unfold crU at h2;have:¬(p.c=q.c∧p.e=q.e):=λe=>h2 (by rw[e.1,e.2]);omega
theorem Tp {l:List Cr} (h:l.Pairwise λp q=>Gd p.c p.e q.c q.e<0):(l.map crU).Nodup:=by
 unfold List.Nodup;rw[List.pairwise_map];refine h.imp λ{p q} hh=>?_;rw[qR]at hh;unfold crU;intro e;simp at e;omega
theorem cY:∀{l:List Cr},(l.map crU).Nodup→∀a∈l,∀b∈l,crU a=crU b→a=b
 |[],_,a,ha,_,_,_=>absurd ha Cn
 |y::r,h,a,ha0,b,hb0,e=>by
  rw[List.map_cons,List.nodup_cons]at h;rcases Bk.1 ha0 with e1|ha
  ·rcases Bk.1 hb0 with e2|hb
   ·rw[e1,e2]
   ·exact absurd (List.mem_map.2 ⟨b,hb,by rw[←e,e1]⟩) h.1
  ·rcases Bk.1 hb0 with e2|hb
   ·exact absurd (List.mem_map.2 ⟨a,ha,by rw[e,e2]⟩) h.1
   ·exact cY h.2 a ha b hb e
theorem eC {L l':List Cr} (hp:l'.Perm L) (hs:l'.Pairwise λp q=>Gd p.c p.e q.c q.e≤0) (hn:(L.map crU).Nodup):l'=Jg L:=by
 refine Qj _ l' (Jg L) (hp.trans (Ii L).symm) hs (jK L) λa ha b hb h1 h2=>?_;refine cY hn a (hp.mem_iff.1 ha) b (hp.mem_iff.1 hb) ?_;rw[Td]at h1 h2;unfold crU;have e1:a.c=b.c:=Ci;have e2:a.e=b.e:=Ci;rw[e1,e2]
theorem mA {l:List Cr} {c e:Int} (hk:∀r∈l,isK r.k=true) (h:Cx l c e=0):(c,e)∉l.map crU:=by
 intro hm;obtain⟨r,hr,hu⟩:=List.mem_map.1 hm;unfold crU at hu;simp at hu;unfold Cx at h
 split at h
 ·rename_i q hq;have h1:=hk q (List.mem_of_find?_eq_some hq);rw[h]at h1;exact absurd h1 Ct
 ·rename_i hq;have:=List.find?_eq_none.1 hq r hr;simp[hu.1,hu.2]at this
def Hg (l:List (Nat×Nat)) (k:Nat→Int):List Cr:=l.map λu=>⟨u.1,u.2,k u.1⟩
theorem Lp {s:St} {k c:Int} {u:Nat×Nat} (h:u∈Hd s k c):u∈Fu s.a s.b∧Cx s.cr u.1 u.2=0:=by
 unfold Hd at h;obtain⟨h1,h2⟩:=List.mem_filter.1 h;simp only[Bool.and_eq_true,decide_eq_true_eq]at h2;exact⟨h1,h2.2⟩
theorem Vg {a b:Int} (hs:okS a b=true) {u:Nat×Nat} (h:u∈Fu a b):u.2<3∧u.1<1024∧isU a b u.1 u.2=true:=by
 obtain⟨h1,h2,h3⟩:=Ij h;have:=Nc hs;exact⟨h1,Ci,h3⟩
theorem aX {s:St} (hp:Gx s.a s.b s.cr) (k c:Int) (kf:Nat→Int):((s.cr++Hg (Hd s k c) kf).map crU).Nodup:=by
 rw[List.map_append,Bp];refine⟨Tp hp.asc,?_,λx hx y hy e=>?_⟩
 ·unfold Hg List.Nodup;rw[List.map_map,List.pairwise_map]
  have h1:(Hd s k c).Pairwise λu v=>3*u.1+u.2<3*v.1+v.2:=by
   unfold Hd;exact(Vw s.a s.b _).filter _
  refine h1.imp λ{u v} h e=>?_;simp[crU]at e;omega
 ·subst e;unfold Hg at hy;rw[List.map_map]at hy;obtain⟨u,hu,rfl⟩:=List.mem_map.1 hy;exact mA hp.kind (Lp hu).2 hx
theorem tZ {s:St} (hp:Gx s.a s.b s.cr) (k c:Int) (kf:Nat→Int) (hk:∀i,kf i=1∨kf i=2):Gx s.a s.b (Jg (s.cr++Hg (Hd s k c) kf)):=by
 have hpm:=Ii (s.cr++Hg (Hd s k c) kf)
 have hmem:∀r∈Jg (s.cr++Hg (Hd s k c) kf),r∈s.cr∨∃u∈Hd s k c,r=⟨u.1,u.2,kf u.1⟩:=λr hr=>by
  rcases Bl.1 (hpm.mem_iff.1 hr)with h|h
  ·exact .inl h
  ·obtain⟨u,hu,e⟩:=List.mem_map.1 h;exact .inr ⟨u,hu,e.symm⟩
 have hfit:∀r∈Jg (s.cr++Hg (Hd s k c) kf),r.fit:=λr hr=>by
  rcases hmem r hr with h|⟨u,hu,rfl⟩
  ·exact hp.fit r h
  ·obtain⟨b1,b2,-⟩:=Vg hp.sheet (Lp hu).1;have h12:=hk u.1;unfold Cr.fit;dsimp only;omega
 have hasc:(Jg (s.cr++Hg (Hd s k c) kf)).Pairwise λr q=>Gd r.c r.e q.c q.e<0:=dM (jK _) ((hpm.map crU).nodup_iff.2 (aX hp k c kf));refine⟨hp.sheet,λr hr=>?_,λr hr=>?_,hfit,hasc,by have:=Uh hfit hasc;omega⟩
 ·rcases hmem r hr with h|⟨u,hu,rfl⟩
  ·exact hp.kind r h
  ·dsimp only;rcases hk u.1 with e|e<;>rw[e]<;>decide
 ·rcases hmem r hr with h|⟨u,hu,rfl⟩
  ·exact hp.name r h
  ·exact gC (Vg hp.sheet (Lp hu).1).2.2
def crT (r:Cr):CrE:=(r.c,r.e,r.k)
theorem Az4 (l:List Cr):crs l=(l.map crT).flatMap crI:=by
 unfold crs;rw[List.flatMap_map];rfl
def crB (x:CrE):Cr:=⟨x.1,x.2.1,x.2.2⟩
theorem Az3 (l:List CrE):crs (l.map crB)=l.flatMap crI:=by
 unfold crs;rw[List.flatMap_map];rfl
theorem Ac5 {L:List Cr} {l':List CrE} (hp:l'.Perm (L.map crT)) (hs:l'.Pairwise λp q=>ltOf cX q p=false) (hn:(L.map crU).Nodup):l'.map crB=Jg L:=by
 refine eC ?_ ?_ hn
 ·have h:=hp.map crB;rw[List.map_map]at h;have e:(crB∘crT)=id:=by funext r;rfl
  rwa [e,List.map_id]at h
 ·rw[List.pairwise_map];refine hs.imp λ{p q} h=>?_;rw[Ak7,decide_eq_false_iff_not]at h;rw[Td];unfold crB;dsimp only;omega
end Go.Proofs.YthpcfeifmdbhnaaGreatDoor
namespace Go.Proofs.YthpcfeifmdbhnaaGreatDoor
open Go.RowKit
theorem Kd {O:Nat} {w:Aj} {l1 l2:List SmB} {x:SmB} (h:Jk O w (l1++x::l2)):x.blks.Nodup:=by
 have:=h.2;simp only[Bi,Bf,Bp]at this;exact this.2.1.1
theorem sU (l:List Nat) (x:Nat):Di (l++[x])=Di l++[Aa Ab (x:Int)]:=by simp[Di]
theorem At4 {O B:Nat} {F:List Nat} {fix:List Ak} {w:Aj} {l1 l2:List SmB} {x:SmB} (h:Dn O B F fix w (l1++x::l2)) (hl:x.s.es.length≤1000000) (id:Nat):
  ∃A c,x.ve= Ad A x.s.es.length c∧w.cell? ⟨x.p,8,Ae⟩=Af (Ad A x.s.es.length c)∧
   ∃A' c' w6,(Builtin.append_ #[46,46] 46 #[Ad A x.s.es.length c,Ad (Af ⟨w.heap.size,0,Ae⟩) 1 1]).run Tryz.prog (w.alloc (.cells ([Aa Ab (id:Int)]:List Ak).toArray 3))= .ok (Ad A' (x.s.es.length+1) c') w6∧
    w6.frozen? ⟨x.p,8,Ae⟩=false∧w6.cell? ⟨x.p,8,Ae⟩=Af (Ad A x.s.es.length c)∧
    Dn O B F fix (w6.setCell ⟨x.p,8,Ae⟩ (Ad A' (x.s.es.length+1) c')) (l1++(⟨{x.s with es:=x.s.es++[id]},x.p,x.vp,x.vl,Ad A' (x.s.es.length+1) c'⟩:SmB)::l2)∧Frm O F w (w6.setCell ⟨x.p,8,Ae⟩ (Ad A' (x.s.es.length+1) c')):=by
 have hsm:=h.sms
 have hO:O≤w.heap.size:=by
  obtain⟨M,kv,_,h2,_,_,_,_,_,h8,_⟩:=h;have:=(Au.1 h2).1;omega
 have hok:=hsm.1 x Cn;have hlt:=hok.lt;have hnd:=Kd hsm;obtain⟨h0,h1,h2,h3,h4⟩:=hok;obtain⟨A,c,hv,-,-⟩:=Dv h4;obtain⟨A',c',w6,hrun,ho6,hb6,hg6,hM6,-,-,hfr⟩:=Zo (sl:=46) Tryz.underlying46 Ss rfl Ct Ct w O x.s.es.length x.ve _ h4 hO Ci [Aa Ab (id:Int)] rfl (by simp[Value.oneCell']);have hnd':=hnd;unfold SmB.blks at hnd';simp only[List.nodup_cons,Bp,Bl,Option.mem_toList,not_or]at hnd';obtain⟨⟨⟨np1,np2⟩,np3⟩,⟨-,-,n12⟩,-,n3⟩:=hnd';have hpl:x.p<w.heap.size:=(Au.1 h1).1;have hpb:w6.heap[x.p]? =Af (.cells (x.s.cells x.vp x.vl x.ve) 173 (0,0)):=(hg6.block x.p hpl (Ne.symm np3)).trans h1;have hb:=Ag9 (s:={x.s with es:=x.s.es++[id]}) (v:= Ad A' (x.s.es.length+1) c') (N:=w.heap.size) hnd (λg hg=>(hlt g hg).2) hfr
 have hnew:∀g,(Value.ownBlock (Ad A' (x.s.es.length+1) c'))=Af g→g≠x.p:=by
  intro g hg e;subst e;rcases hfr with e|⟨g,e,hge⟩
  ·rw[e]at hg;exact np3 hg
  ·rw[e]at hg;injection hg with hg;omega
 have hother:∀g,g<w.heap.size→g≠x.p→x.ve.ownBlock≠Af g→(w6.setCell ⟨x.p,8,Ae⟩ (Ad A' (x.s.es.length+1) c')).heap[g]? =w.heap[g]? :=λg hg hp hve=>
  (Below.heap_setCell w6 ⟨x.p,8,Ae⟩ _ g (by show g≠x.p;exact hp)).trans (hg6.block g hg (Ne.symm hve))
 have hy:(⟨{x.s with es:=x.s.es++[id]},x.p,x.vp,x.vl,Ad A' (x.s.es.length+1) c'⟩:SmB).ok O (w6.setCell ⟨x.p,8,Ae⟩ (Ad A' (x.s.es.length+1) c')):=by
  refine⟨h0,?_,?_,?_,?_⟩
  ·rw[Ey _ hpb];rfl
  ·exact Dr h2 λg hg=>hother g (h2.lt g hg).2 (λe=>np1 (e▸hg)) λe=>n3 g (.inl hg) g e rfl
  ·exact Dr h3 λg hg=>hother g (h3.lt g hg).2 (λe=>np2 (e▸hg)) λe=>n3 g (.inr hg) g e rfl
  ·rw[sU,Bh];exact Dr ho6 λg hg=>Below.heap_setCell w6 ⟨x.p,8,Ae⟩ _ g (by show g≠x.p;exact hnew g hg)
 have hsz:w.heap.size≤(w6.setCell ⟨x.p,8,Ae⟩ (Ad A' (x.s.es.length+1) c')).heap.size:=by
  have:=hg6.size;simpa using this
 obtain⟨r1,r2⟩:=h.change (y:=⟨{x.s with es:=x.s.es++[id]},x.p,x.vp,x.vl,Ad A' (x.s.es.length+1) c'⟩) hy rfl rfl hb.1 hb.2 (λg hg hx=>hother g hg (λe=>hx (by rw[e];simp[SmB.blks])) (λe=>hx (by unfold SmB.blks;simp[e]))) hsz;refine⟨A,c,hv,?_,A',c',w6,by rw[←hv];exact hrun,by simp[World.frozen?,hpb],?_,r1,hb6.setCell (p:=⟨x.p,8,Ae⟩) h0 _,r2⟩
 ·rw[By w x.p 8 _ _ (0,0) h1,←hv];rfl
 ·rw[By w6 x.p 8 _ _ (0,0) hpb,←hv];rfl
theorem cI {O B:Nat} {F:List Nat} {fix:List Ak} {w:Aj} {l1 l2:List SmB} {x:SmB} (h:Dn O B F fix w (l1++x::l2)) (hl:x.s.ls.length≤1000000) (z:Nat×Nat×Nat):
  ∃A c,x.vl= Ad A x.s.ls.length c∧w.cell? ⟨x.p,7,Ae⟩=Af (Ad A x.s.ls.length c)∧
   ∃A' c' w6,(Builtin.append_ #[171,171] 171 #[Ad A x.s.ls.length c,Ad (Af ⟨w.heap.size,0,Ae⟩) 1 1]).run Tryz.prog (w.alloc (.cells ([Aa Ac (z.1:Int),Aa Ab (z.2.1:Int),Aa Ab (z.2.2:Int)]:List Ak).toArray 176))= .ok (Ad A' (x.s.ls.length+1) c') w6∧
    w6.frozen? ⟨x.p,7,Ae⟩=false∧w6.cell? ⟨x.p,7,Ae⟩=Af (Ad A x.s.ls.length c)∧
    Dn O B F fix (w6.setCell ⟨x.p,7,Ae⟩ (Ad A' (x.s.ls.length+1) c')) (l1++(⟨{x.s with ls:=x.s.ls++[z]},x.p,x.vp,Ad A' (x.s.ls.length+1) c',x.ve⟩:SmB)::l2)∧Frm O F w (w6.setCell ⟨x.p,7,Ae⟩ (Ad A' (x.s.ls.length+1) c')):=by
 have hsm:=h.sms
 have hO:O≤w.heap.size:=by
  obtain⟨M,kv,_,h2,_,_,_,_,_,h8,_⟩:=h;have:=(Au.1 h2).1;omega
 have hok:=hsm.1 x Cn;have hlt:=hok.lt;have hnd:=Kd hsm;obtain⟨h0,h1,h2,h3,h4⟩:=hok;obtain⟨A,c,hv,-,-⟩:=Dv h3;obtain⟨A',c',w6,hrun,ho6,hb6,hg6,hM6,-,-,hfr⟩:=Zo (sl:=171) Tryz.underlying171 fZ rfl Ct Ct w O x.s.ls.length x.vl _ h3 hO Ci [Aa Ac (z.1:Int),Aa Ab (z.2.1:Int),Aa Ab (z.2.2:Int)] rfl (by simp[Value.oneCell']);have hnd':=hnd;unfold SmB.blks at hnd';simp only[List.nodup_cons,Bp,Bl,Option.mem_toList,not_or]at hnd';obtain⟨⟨⟨np1,np2⟩,np3⟩,⟨-,-,n12⟩,-,n3⟩:=hnd';have hpl:x.p<w.heap.size:=(Au.1 h1).1;have hpb:w6.heap[x.p]? =Af (.cells (x.s.cells x.vp x.vl x.ve) 173 (0,0)):=(hg6.block x.p hpl (Ne.symm np2)).trans h1;have hb:=Ah0 (s:={x.s with ls:=x.s.ls++[z]}) (v:= Ad A' (x.s.ls.length+1) c') (N:=w.heap.size) hnd (λg hg=>(hlt g hg).2) hfr
 have hnew:∀g,(Value.ownBlock (Ad A' (x.s.ls.length+1) c'))=Af g→g≠x.p:=by
  intro g hg e;subst e;rcases hfr with e|⟨g,e,hge⟩
  ·rw[e]at hg;exact np2 hg
  ·rw[e]at hg;injection hg with hg;omega
 have hother:∀g,g<w.heap.size→g≠x.p→x.vl.ownBlock≠Af g→(w6.setCell ⟨x.p,7,Ae⟩ (Ad A' (x.s.ls.length+1) c')).heap[g]? =w.heap[g]? :=λg hg hp hve=>
  (Below.heap_setCell w6 ⟨x.p,7,Ae⟩ _ g (by show g≠x.p;exact hp)).trans (hg6.block g hg (Ne.symm hve))
 have hy:(⟨{x.s with ls:=x.s.ls++[z]},x.p,x.vp,Ad A' (x.s.ls.length+1) c',x.ve⟩:SmB).ok O (w6.setCell ⟨x.p,7,Ae⟩ (Ad A' (x.s.ls.length+1) c')):=by
  refine⟨h0,?_,?_,?_,?_⟩
  ·rw[Ey _ hpb];rfl
  ·exact Dr h2 λg hg=>hother g (h2.lt g hg).2 (λe=>np1 (e▸hg)) λe=>n12 g hg g e rfl
  ·rw[mD,Bh];exact Dr ho6 λg hg=>Below.heap_setCell w6 ⟨x.p,7,Ae⟩ _ g (by show g≠x.p;exact hnew g hg)
  ·exact Dr h4 λg hg=>hother g (h4.lt g hg).2 (λe=>np3 (e▸hg)) λe=>n3 g (.inr e) g hg rfl
 have hsz:w.heap.size≤(w6.setCell ⟨x.p,7,Ae⟩ (Ad A' (x.s.ls.length+1) c')).heap.size:=by
  have:=hg6.size;simpa using this
 obtain⟨r1,r2⟩:=h.change (y:=⟨{x.s with ls:=x.s.ls++[z]},x.p,x.vp,Ad A' (x.s.ls.length+1) c',x.ve⟩) hy rfl rfl hb.1 hb.2 (λg hg hx=>hother g hg (λe=>hx (by rw[e];simp[SmB.blks])) (λe=>hx (by unfold SmB.blks;simp[e]))) hsz;refine⟨A,c,hv,?_,A',c',w6,by rw[←hv];exact hrun,by simp[World.frozen?,hpb],?_,r1,hb6.setCell (p:=⟨x.p,7,Ae⟩) h0 _,r2⟩
 ·rw[By w x.p 7 _ _ (0,0) h1,←hv];rfl
 ·rw[By w6 x.p 7 _ _ (0,0) hpb,←hv];rfl
theorem wK {O B:Nat} {F:List Nat} {fix:List Ak} {w:Aj} {l1 l2:List SmB} {x:SmB} (h:Dn O B F fix w (l1++x::l2)) (hl:x.s.ps.length≤1000000) (z:Nat×Nat):
  ∃A c,x.vp= Ad A x.s.ps.length c∧w.cell? ⟨x.p,6,Ae⟩=Af (Ad A x.s.ps.length c)∧
   ∃A' c' w6,(Builtin.append_ #[170,170] 170 #[Ad A x.s.ps.length c,Ad (Af ⟨w.heap.size,0,Ae⟩) 1 1]).run Tryz.prog (w.alloc (.cells ([Aa Ab (z.1:Int),Aa Ab (z.2:Int)]:List Ak).toArray 297))= .ok (Ad A' (x.s.ps.length+1) c') w6∧
    w6.frozen? ⟨x.p,6,Ae⟩=false∧w6.cell? ⟨x.p,6,Ae⟩=Af (Ad A x.s.ps.length c)∧
    Dn O B F fix (w6.setCell ⟨x.p,6,Ae⟩ (Ad A' (x.s.ps.length+1) c')) (l1++(⟨{x.s with ps:=x.s.ps++[z]},x.p,Ad A' (x.s.ps.length+1) c',x.vl,x.ve⟩:SmB)::l2)∧Frm O F w (w6.setCell ⟨x.p,6,Ae⟩ (Ad A' (x.s.ps.length+1) c')):=by
 have hsm:=h.sms
 have hO:O≤w.heap.size:=by
  obtain⟨M,kv,_,h2,_,_,_,_,_,h8,_⟩:=h;have:=(Au.1 h2).1;omega
 have hok:=hsm.1 x Cn;have hlt:=hok.lt;have hnd:=Kd hsm;obtain⟨h0,h1,h2,h3,h4⟩:=hok;obtain⟨A,c,hv,-,-⟩:=Dv h2;obtain⟨A',c',w6,hrun,ho6,hb6,hg6,hM6,-,-,hfr⟩:=Zo (sl:=170) Tryz.underlying170 gA rfl Ct Ct w O x.s.ps.length x.vp _ h2 hO Ci [Aa Ab (z.1:Int),Aa Ab (z.2:Int)] rfl (by simp[Value.oneCell']);have hnd':=hnd;unfold SmB.blks at hnd';simp only[List.nodup_cons,Bp,Bl,Option.mem_toList,not_or]at hnd';obtain⟨⟨⟨np1,np2⟩,np3⟩,⟨-,-,n12⟩,-,n3⟩:=hnd';have hpl:x.p<w.heap.size:=(Au.1 h1).1;have hpb:w6.heap[x.p]? =Af (.cells (x.s.cells x.vp x.vl x.ve) 173 (0,0)):=(hg6.block x.p hpl (Ne.symm np1)).trans h1;have hb:=Ah1 (s:={x.s with ps:=x.s.ps++[z]}) (v:= Ad A' (x.s.ps.length+1) c') (N:=w.heap.size) hnd (λg hg=>(hlt g hg).2) hfr
 have hnew:∀g,(Value.ownBlock (Ad A' (x.s.ps.length+1) c'))=Af g→g≠x.p:=by
  intro g hg e;subst e;rcases hfr with e|⟨g,e,hge⟩
  ·rw[e]at hg;exact np1 hg
  ·rw[e]at hg;injection hg with hg;omega
 have hother:∀g,g<w.heap.size→g≠x.p→x.vp.ownBlock≠Af g→(w6.setCell ⟨x.p,6,Ae⟩ (Ad A' (x.s.ps.length+1) c')).heap[g]? =w.heap[g]? :=λg hg hp hve=>
  (Below.heap_setCell w6 ⟨x.p,6,Ae⟩ _ g (by show g≠x.p;exact hp)).trans (hg6.block g hg (Ne.symm hve))
 have hy:(⟨{x.s with ps:=x.s.ps++[z]},x.p,Ad A' (x.s.ps.length+1) c',x.vl,x.ve⟩:SmB).ok O (w6.setCell ⟨x.p,6,Ae⟩ (Ad A' (x.s.ps.length+1) c')):=by
  refine⟨h0,?_,?_,?_,?_⟩
  ·rw[Ey _ hpb];rfl
  ·rw[nE,Bh];exact Dr ho6 λg hg=>Below.heap_setCell w6 ⟨x.p,6,Ae⟩ _ g (by show g≠x.p;exact hnew g hg)
  ·exact Dr h3 λg hg=>hother g (h3.lt g hg).2 (λe=>np2 (e▸hg)) λe=>n12 g e g hg rfl
  ·exact Dr h4 λg hg=>hother g (h4.lt g hg).2 (λe=>np3 (e▸hg)) λe=>n3 g (.inl e) g hg rfl
 have hsz:w.heap.size≤(w6.setCell ⟨x.p,6,Ae⟩ (Ad A' (x.s.ps.length+1) c')).heap.size:=by
  have:=hg6.size;simpa using this
 obtain⟨r1,r2⟩:=h.change (y:=⟨{x.s with ps:=x.s.ps++[z]},x.p,Ad A' (x.s.ps.length+1) c',x.vl,x.ve⟩) hy rfl rfl hb.1 hb.2 (λg hg hx=>hother g hg (λe=>hx (by rw[e];simp[SmB.blks])) (λe=>hx (by unfold SmB.blks;simp[e]))) hsz;refine⟨A,c,hv,?_,A',c',w6,by rw[←hv];exact hrun,by simp[World.frozen?,hpb],?_,r1,hb6.setCell (p:=⟨x.p,6,Ae⟩) h0 _,r2⟩
 ·rw[By w x.p 6 _ _ (0,0) h1,←hv];rfl
 ·rw[By w6 x.p 6 _ _ (0,0) hpb,←hv];rfl
theorem Av0:(Tryz.prog.info? 239).map (λi=>(i.zero,i.size,i.bytes))=Af (Af (.agg #[Aa Ab 0,Aa Ab 0,Aa Ac 0,Aa Ab 0,Aa Ab 0,Aa Ac 0]),6,48):=Cm
theorem Fq.same {κ:Type} {K:κ→Ak} {w w':Aj} {M:Nat} {l:List (κ×Ak)} (h:Fq K w M l) (hb:w'.heap[M]? =w.heap[M]?):Fq K w' M l:=by
 obtain⟨es,clock,h1,h2⟩:=h;exact⟨es,clock,hb.trans h1,h2⟩
def Kg:Ak:= Ad Ae 0 0
theorem Ag6 {O B M:Nat} {F:List Nat} {fix:List Ak} {W Y0 Y2:Aj} {l:List SmB} {kv:Ak} {p:Cl×Cl} (e1:fix.length=6) (e2:W.heap[B]? =Af (.cells (fix++[.map (Af M),kv]).toArray 236 (0,0))) (e3:Fq pkK W M (Js l))
  (e4:Kc O W kv l) (e5:Jk O W l) (e6:(l.map SmB.key).Nodup) (e7:(Cz B M kv l).Nodup) (e8:O≤B) (e9:O≤M) (e10:∀g∈F,g<W.heap.size∧g∉Cz B M kv l)
  (hl:l.length≤900000000) (hb:Below W.heap.size W Y0) (hnew:p∉l.map SmB.key)
  (h1:Fq pkK Y2 M (Ma p (.pointer (Af ⟨Y0.heap.size,0,Ae⟩)) (Js l))) (h2:(Y0.alloc (.cells ((Sm.none p.1 p.2).cells Kg Kg Kg) 173)).grownBy Y2 (Af M)):
  ∃A c,kv= Ad A l.length c∧Y2.cell? ⟨B,7,Ae⟩=Af (Ad A l.length c)∧
   ∃A' c' Y5,(Builtin.append_ #[234,234] 234 #[Ad A l.length c,Ad (Af ⟨Y2.drew.heap.size,0,Ae⟩) 1 1]).run Tryz.prog (Y2.drew.alloc (.cells (pkC p).toArray 239))= .ok (Ad A' (l.length+1) c') Y5∧
    Y5.frozen? ⟨B,7,Ae⟩=false∧Y5.cell? ⟨B,7,Ae⟩=Af (Ad A l.length c)∧Y2.drew.grownBy Y5 kv.ownBlock∧
    Dn O B F fix (Y5.setCell ⟨B,7,Ae⟩ (Ad A' (l.length+1) c')) (l++[⟨Sm.none p.1 p.2,Y0.heap.size,Kg,Kg,Kg⟩])∧Frm O F W (Y5.setCell ⟨B,7,Ae⟩ (Ad A' (l.length+1) c')):=by
 obtain⟨y,hy⟩:∃z:SmB,(⟨Sm.none p.1 p.2,Y0.heap.size,Kg,Kg,Kg⟩:SmB)=z:=⟨_,rfl⟩;have hlt:=Ud e2 e3 e4 e5 e8 e9;have hBl:B<W.heap.size:=(Au.1 e2).1;have hMl:=e3.lt;have hnd:=e7;unfold Cz at hnd;simp only[List.nodup_cons,Bp,Bk,Bl,Option.mem_toList,not_or]at hnd;obtain⟨⟨b1,b2,b3⟩,⟨m1,m2⟩,k1,k2,k3⟩:=hnd;have hW0:=hb.size
 have st2:∀g,g<W.heap.size→g≠M→Y2.heap[g]? =W.heap[g]? :=λg hg hM=>by
  have hg0:g<Y0.heap.size:=Ci;refine(h2.block g (by simp;omega) (λe=>hM (by injection e))).trans ?_;exact(Below.heap_alloc Y0 _ g hg0).trans (hb.block g hg)
 have hs2:Y0.heap.size+1≤Y2.heap.size:=by have:=h2.size;simpa using this
 have e2':Y2.heap[B]? =Af (.cells (fix++[.map (Af M),kv]).toArray 236 (0,0)):=(st2 B hBl b1).trans e2;obtain⟨ks,hkp,e4r⟩:=e4;have e4:Kc O W kv l:=⟨ks,hkp,e4r⟩;have hkl:ks.length=l.length:=by rw[hkp.length_eq,Bo]
 rw[hkl]at e4r;have ho2:Y2.drew.ownsRow O 239 6 kv l.length (ks.flatMap pkC):=Dr e4r λg hg=>st2 g (e4r.lt g hg).2 (λe=>m1 (e▸hg));obtain⟨A,c,hv,-,-⟩:=Dv e4r;have hO:O≤Y2.drew.heap.size:=by show O≤Y2.heap.size;omega
 obtain⟨A',c',Y5,hrun,ho5,hb5,hg5,hM5,-,-,hfr⟩:=Zo (sl:=234) Tryz.underlying234 Av0 rfl Ct Ct Y2.drew O l.length kv _ ho2 hO Ci (pkC p) rfl (by simp[pkC,Value.oneCell']);obtain⟨kv',hkv'⟩:=ey (Value.slice A' (l.length+1) c');rw[hkv']at hrun ho5 hfr;have hs5:Y2.heap.size≤Y5.heap.size:=hg5.size
 have st5:∀g,g<W.heap.size→g≠M→kv.ownBlock≠Af g→Y5.heap[g]? =W.heap[g]? :=λg hg hM hk=>
  (hg5.block g (by show g<Y2.heap.size;omega) (Ne.symm hk)).trans (st2 g hg hM)
 have e5':Y5.heap[B]? =Af (.cells (fix++[.map (Af M),kv]).toArray 236 (0,0)):=(st5 B hBl b1 b2).trans e2;obtain⟨-,c7,cz,cset,-⟩:=Hu e1 e5';obtain⟨-,c7',-,-,-⟩:=Hu e1 e2'
 have hseam:Y5.heap[Y0.heap.size]? =Af (.cells ((Sm.none p.1 p.2).cells Kg Kg Kg) 173 (0,0)):=by
  refine(hg5.block _ (by show Y0.heap.size<Y2.heap.size;omega) (λe=>?_)).trans ?_
  ·have:=(e4.lt _ e.symm).2;omega
  ·refine(h2.block _ Cn (λe=>?_)).trans (Bz Y0 _);injection e with e;omega
 have stS:∀g,g≠B→(Y5.setCell ⟨B,7,Ae⟩ kv').heap[g]? =Y5.heap[g]? :=λg hg=>Below.heap_setCell Y5 ⟨B,7,Ae⟩ kv' g (by show g≠B;exact hg);have hyk:y.key=p:=by subst hy;rfl
 have hyp:y.p=Y0.heap.size:=by subst hy;rfl
 have hyok:y.ok O (Y5.setCell ⟨B,7,Ae⟩ kv'):=by
  subst hy;refine⟨by show O≤Y0.heap.size;omega,(stS _ (by show Y0.heap.size≠B;omega)).trans hseam,⟨rfl,.inl ⟨rfl,rfl⟩⟩,⟨rfl,.inl ⟨rfl,rfl⟩⟩,⟨rfl,.inl ⟨rfl,rfl⟩⟩⟩
 have hyb:y.blks=[Y0.heap.size]:=by subst hy;rfl
 have hkb:∀g,kv'.ownBlock=Af g→g≠B∧g≠M∧g≠Y0.heap.size:=λg hg=>by
  rcases hfr with h|⟨g',h,hge⟩
  ·rw[h]at hg;refine⟨λe=>b2 (e▸hg),λe=>m1 (e▸hg),λe=>?_⟩;have:=(e4.lt g hg).2;omega
  ·rw[h]at hg;injection hg with hg;have:Y2.drew.heap.size=Y2.heap.size:=rfl;refine⟨?_,?_,?_⟩<;>omega
 have hbW:Below O W (Y5.setCell ⟨B,7,Ae⟩ kv'):=by
  have q1:Below O W Y0:=hb.mono Ci;have q2:Below O W (Y0.alloc (.cells ((Sm.none p.1 p.2).cells Kg Kg Kg) 173)):=q1.alloc Ci _;have q3:Below O W Y2:=q2.grown h2 (by simp;omega) (λk hk=>by injection hk with hk;omega);exact((q3.drew).trans hb5).setCell (p:=⟨B,7,Ae⟩) e8 kv'
 have hh:Dn O B F fix (Y5.setCell ⟨B,7,Ae⟩ kv') (l++[y])∧∀g∈F,(Y5.setCell ⟨B,7,Ae⟩ kv').heap[g]? =W.heap[g]? :=by
  refine wT (w':=Y5.setCell ⟨B,7,Ae⟩ kv') (y:=y) (kv':=kv') e1 e5 e6 e7 e8 e9 e10 hlt (cset kv') ?_ ?_ hyok (by rw[hyk];exact hnew) ?_ (by rw[hyb];simp) (λg hg=>?_) (λg hg hgB hgM hgk=>(stS g hgB).trans (st5 g hg hgM hgk)) ?_
  ·have h3:Fq pkK Y5 M (Ma p (.pointer (Af ⟨Y0.heap.size,0,Ae⟩)) (Js l)):=h1.same (hg5.block M (by show M<Y2.heap.size;omega) (λe=>m1 e.symm));have h4:=h3.same (w':=Y5.setCell ⟨B,7,Ae⟩ kv') (stS M (Ne.symm b1))
   have e:Js (l++[y])=Ma p (.pointer (Af ⟨Y0.heap.size,0,Ae⟩)) (Js l):=by
    rw[Aa4 p _ l hnew];unfold Js;rw[List.map_append];subst hy;rfl
   rw[e];exact h4
  ·have h5:=Dr (w':=Y5.setCell ⟨B,7,Ae⟩ kv') ho5 λg hg=>stS g (hkb g hg).1;refine⟨ks++[p],?_,?_⟩
   ·rw[List.map_append,List.map_cons,List.map_nil,hyk];exact hkp.append_right _
   ·rw[Bi,Bh,Bf,List.flatMap_nil,List.append_nil,hkl];exact h5
  ·exact hfr.imp id λ⟨g,hg,hge⟩=>⟨g,hg,by have:Y2.drew.heap.size=Y2.heap.size:=rfl;omega⟩
  ·rw[hyb,List.mem_singleton]at hg;subst hg;exact⟨hW0,λe=>(hkb _ e).2.2 rfl⟩
  ·have:(Y5.setCell ⟨B,7,Ae⟩ kv').heap.size=Y5.heap.size:=Cn;omega
 obtain⟨r1,r2⟩:=hh;refine⟨A,c,hv,by rw[←hv];exact c7',A',c',Y5,by rw[←hv,hkv'];exact hrun,cz 7,by rw[←hv];exact c7,hg5,by rw[hkv',hy];exact r1,by rw[hkv'];exact⟨hbW,r2⟩⟩
theorem At8 (O B:Nat) (F:List Nat) (fix:List Ak) (x y:Cl) (l:List SmB) (w:Aj) (hx:x.q≤255) (hy:y.q≤255) (h:Dn O B F fix w l) (hl:l.length≤900000000):
  Al Tryz.prog 159 #[.pointer (Af ⟨B,0,Ae⟩),clK x,clK y] w (As5 O B F fix (qH x y) l w):=by
 have HC:=Ah (λw'=>Nv x y w' hx hy);have H:=Ah h;have HL:=Ah hl;obtain⟨K,hK⟩:=ey (qH x y);rw[hK];obtain⟨r,hr⟩:=ey (Fg x y);unfold qH at hK;rw[hr]at HC hK;obtain⟨x0,x1,x2⟩:=x;obtain⟨y0,y1,y2⟩:=y;have HK:=Ah hK;dsimp only at HC HK hx hy;unfold clK;dsimp only;have HB:=((Bx.start w).new #[Aa Ab x0,Aa Ab x1,Aa Ac x2] 87 rfl).new #[Aa Ab y0,Aa Ab y1,Aa Ac y2] 87 (N:=w.heap.size+1) Cn;clear h hl hK hr hx hy;go_enter Tryz.func159,Tryz.ntmps159;go_upto_region 1 with fail;obtain⟨N,hN⟩:=ez w.heap.size;rw[←hN]at HB⊢;have HNN:=Ah hN;clear hN;obtain⟨P,hP⟩:=ey (N+1);rw[hP]at HB⊢;have n1:N≠P:=Ci;have n2:P≠N:=Ci;clear hP;obtain⟨⟨a0,a1,a2⟩,ax,ay,az⟩:=Cv (HB.blk 0 _ _ _ rfl);obtain⟨⟨b0,b1,b2⟩,bx,by',bz⟩:=Cv (HB.blk 1 _ _ _ rfl);go_wp2_with fail;refine(HC.out _).mono ?_;rintro e w2 ⟨rfl,hb⟩;have H2:=HB.call hb.b;clear HB a0 a1 a2 ax ay az b0 b1 b2 bx by' bz hb;obtain⟨⟨a0,a1,a2⟩,ax,ay,az⟩:=Cv (H2.blk 0 _ _ _ rfl);obtain⟨⟨b0,b1,b2⟩,bx,by',bz⟩:=Cv (H2.blk 1 _ _ _ rfl);go_upto_if 11 with fail;go_cut [12,13] (λ_ _ wx=>∃u v:Cl,Hid ((u,v)=K)∧Hid (Bx w [(N,#[Aa Ab u.x,Aa Ab u.y,Aa Ac (u.q:Int)],87),(P,#[Aa Ab v.x,Aa Ab v.y,Aa Ac (v.q:Int)],87)] wx))
 case first=>
  by_cases hr:0<r
  ·go_wp2;go_meet;exact⟨⟨y0,y1,y2⟩,⟨x0,x1,x2⟩,Ah (by rw[←HK.out,if_pos hr]),Ah ((((((H2.set 0 0 rfl (Aa Ab y0)).set 0 1 rfl (Aa Ab y1)).set 0 2 rfl (Aa Ac y2)).set 1 0 rfl (Aa Ab x0)).set 1 1 rfl (Aa Ab x1)).set 1 2 rfl (Aa Ac x2))⟩
  ·go_wp2;go_meet;exact⟨⟨x0,x1,x2⟩,⟨y0,y1,y2⟩,Ah (by rw[←HK.out,if_neg Ci]),Ah H2⟩
 case rest=>
  clear a0 a1 a2 ax ay az b0 b1 b2 bx by' bz H2;obtain⟨⟨u0,u1,u2⟩,⟨v0,v1,v2⟩,HKK,HB3⟩:=hcut;dsimp only at HB3;obtain⟨⟨a0,a1,a2⟩,-⟩:=Cv (HB3.out.blk 0 _ _ _ rfl);obtain⟨⟨b0,b1,b2⟩,-⟩:=Cv (HB3.out.blk 1 _ _ _ rfl);obtain⟨Q,hQ⟩:=ey wc.heap.size;have H4:=HB3.out.new #[Aa Ab u0,Aa Ab u1,Aa Ac u2,Aa Ab v0,Aa Ab v1,Aa Ac v2] 239 hQ;go_upto_region 4 with fail;obtain⟨W,hW⟩:=ez (wc.alloc (.cells #[Aa Ab u0,Aa Ab u1,Aa Ac u2,Aa Ab v0,Aa Ab v1,Aa Ac v2] 239));rw[←hW]at H4⊢;clear hW;clear hQ a0 a1 a2 b0 b1 b2 HB3;obtain⟨p,hp⟩:∃z:Cl×Cl,(⟨u0,u1,u2⟩,⟨v0,v1,v2⟩)=z:=⟨_,rfl⟩;have hpk:Value.agg #[Aa Ab u0,Aa Ab u1,Aa Ac u2,Aa Ab v0,Aa Ab v1,Aa Ac v2]=pkK p:=by rw[←hp];rfl
  obtain rfl:p=K:=hp.symm.trans HKK.out;have hB:=H.out.below H4.below;have HB:=Ah hB;obtain⟨M,kv,e1,e2,e3,e4,e5,e6,e7,e8,e9,e10⟩:=hB;obtain⟨m6,m7,mz,mL,-⟩:=Hu e1 e2;obtain⟨R,hR⟩:=ey ((Ji p (Js l)).getD (.pointer Ae));have hlk:=λW' (h:Fq pkK W' M (Js l))=>Qa Wq Tryz.underlying233 (et:=242) (z:= .pointer Ae) (λw=>Cm) h p false;rw[hR,←hpk]at hlk;simp only[Bool.false_eq_true,if_false]at hlk;obtain⟨⟨q0,q1,q2,q3,q4,q5⟩,-⟩:=Wa (H4.blk 2 _ _ _ rfl)
  obtain⟨S,hSd⟩:∃S:Aj→Prop,S=λW'=>W'.cell? ⟨B,6,Ae⟩=Af (.map (Af M))∧(W'.cell? ⟨Q,0,Ae⟩=Af (Aa Ab u0)∧W'.cell? ⟨Q,1,Ae⟩=Af (Aa Ab u1)∧W'.cell? ⟨Q,2,Ae⟩=Af (Aa Ac u2)∧W'.cell? ⟨Q,3,Ae⟩=Af (Aa Ab v0)∧W'.cell? ⟨Q,4,Ae⟩=Af (Aa Ab v1)∧W'.cell? ⟨Q,5,Ae⟩=Af (Aa Ac v2))∧
   (Instr.lookup 233 (.map (Af M)) (.agg #[Aa Ab u0,Aa Ab u1,Aa Ac u2,Aa Ab v0,Aa Ab v1,Aa Ac v2]) false).run Tryz.prog W'= .ok R W':=⟨_,rfl⟩
  have HSO:Hid (∀W',S W'→W'.cell? ⟨B,6,Ae⟩=Af (.map (Af M))∧(W'.cell? ⟨Q,0,Ae⟩=Af (Aa Ab u0)∧W'.cell? ⟨Q,1,Ae⟩=Af (Aa Ab u1)∧W'.cell? ⟨Q,2,Ae⟩=Af (Aa Ac u2)∧W'.cell? ⟨Q,3,Ae⟩=Af (Aa Ab v0)∧W'.cell? ⟨Q,4,Ae⟩=Af (Aa Ab v1)∧W'.cell? ⟨Q,5,Ae⟩=Af (Aa Ac v2))∧
   (Instr.lookup 233 (.map (Af M)) (.agg #[Aa Ab u0,Aa Ab u1,Aa Ac u2,Aa Ab v0,Aa Ab v1,Aa Ac v2]) false).run Tryz.prog W'= .ok R W'):=Ah λW' h=>by subst hSd;exact h
  have HSA:Hid (∀W',Below W.heap.size W W'→S W'):=Ah λW' h=>by
   subst hSd;exact⟨Cj h m6,⟨Cj h q0,Cj h q1,Cj h q2,Cj h q3,Cj h q4,Cj h q5⟩,hlk W' (e3.below h e3.lt)⟩
  have HPK:=Ah hpk;clear hlk m6 m7 q0 q1 q2 q3 q4 q5 hSd hpk;have hget:=lG p l;refine Ao (S:=S) Cm (HSA.out _ (Ag _ _).drew) (λhS=>?_);have hb:Below W.heap.size W W.drew:=(Ag _ _).drew;obtain⟨X0,hX0⟩:=ez W.drew;rw[←hX0]at hb hS⊢;clear hX0;refine Ck 0 ?_;refine Ck 1 ?_;refine Ck 2 ?_;refine Ck 3 ?_;refine Ck 4 ?_;refine Ck 5 ?_;rcases hget with⟨l1,x,l2,rfl,hxk,hg,hg1⟩|⟨hg1,hg⟩
  ·obtain rfl:x.ptr=R:=by rw[←hR,hg];rfl
   unfold SmB.ptr at HSO⊢;refine Ck 6 ?_;refine An Cm ?_ _;go_wp2_with fail;refine Ao (S:=S) Cm (HSA.out _ hb.drew) (λhS=>?_);have hb2:Below W.heap.size W X0.drew:=hb.drew;obtain⟨X1,hX1⟩:=ez X0.drew;rw[←hX1]at hb2 hS⊢;clear hX1;refine Ck 0 ?_;refine Ck 1 ?_;refine Ck 2 ?_;refine Ck 3 ?_;refine Ck 4 ?_;refine Ck 5 ?_;refine Ck 6 ?_;refine An Cm ?_ _;go_wp2;go_ret;exact⟨l1,x,l2,rfl,hxk,.inl rfl,HB.out.below hb2,(H.out.frm H4.below).trans (HB.out.frm hb2)⟩
  ·obtain rfl:Value.pointer Ae=R:=by rw[←hR,hg];rfl
   refine Ck 6 ?_;refine An Cm ?_ _;go_wp2_with fail;clear hS HSO HSA S;have H5:=H4.call hb;obtain⟨⟨q0,q1,q2,q3,q4,q5⟩,-⟩:=Wa (H5.blk 2 _ _ _ rfl);obtain⟨⟨a0,a1,a2⟩,-⟩:=Cv (H5.blk 0 _ _ _ rfl);obtain⟨⟨b0,b1,b2⟩,-⟩:=Cv (H5.blk 1 _ _ _ rfl);have hBl:=(Au.1 e2).1;obtain⟨m6,-,-,-,-⟩:=Hu e1 (kept hb e2 hBl);have hMW:=e3.lt
   obtain⟨hMw,hBw,hkw⟩:M<w.heap.size∧B<w.heap.size∧∀g,kv.ownBlock=Af g→g<w.heap.size:=by
    obtain⟨M9,kv9,g1,g2,g3,g4,-⟩:=H.out;obtain⟨n6,n7,-⟩:=Hu g1 (kept (H4.below) g2 (Au.1 g2).1);obtain⟨m6,m7,-⟩:=Hu e1 e2;rw[n6]at m6;rw[n7]at m7;obtain rfl:M9=M:=by simpa using m6
    obtain rfl:kv9=kv:=by simpa using m7
    exact⟨g3.lt,(Au.1 g2).1,λg hg=>(g4.lt g hg).2⟩
   have hBM:B≠M:=by
    unfold Cz at e7;simp only[List.nodup_cons,Bk,not_or]at e7;exact e7.1.1
   have hNw:=H4.lo 0 _ _ _ rfl;have hPw:=H4.lo 1 _ _ _ rfl;have hQw:=H4.lo 2 _ _ _ rfl
   obtain⟨S,hSd⟩:∃S:Aj→Prop,S=λW'=>W'.cell? ⟨B,6,Ae⟩=Af (.map (Af M))∧(W'.cell? ⟨Q,0,Ae⟩=Af (Aa Ab u0)∧W'.cell? ⟨Q,1,Ae⟩=Af (Aa Ab u1)∧W'.cell? ⟨Q,2,Ae⟩=Af (Aa Ac u2)∧W'.cell? ⟨Q,3,Ae⟩=Af (Aa Ab v0)∧W'.cell? ⟨Q,4,Ae⟩=Af (Aa Ab v1)∧W'.cell? ⟨Q,5,Ae⟩=Af (Aa Ac v2))∧
    (W'.cell? ⟨N,0,Ae⟩=Af (Aa Ab u0)∧W'.cell? ⟨N,1,Ae⟩=Af (Aa Ab u1)∧W'.cell? ⟨N,2,Ae⟩=Af (Aa Ac u2))∧W'.cell? ⟨P,0,Ae⟩=Af (Aa Ab v0)∧W'.cell? ⟨P,1,Ae⟩=Af (Aa Ab v1)∧W'.cell? ⟨P,2,Ae⟩=Af (Aa Ac v2):=⟨_,rfl⟩
   have HSO:Hid (∀W',S W'→W'.cell? ⟨B,6,Ae⟩=Af (.map (Af M))∧(W'.cell? ⟨Q,0,Ae⟩=Af (Aa Ab u0)∧W'.cell? ⟨Q,1,Ae⟩=Af (Aa Ab u1)∧W'.cell? ⟨Q,2,Ae⟩=Af (Aa Ac u2)∧W'.cell? ⟨Q,3,Ae⟩=Af (Aa Ab v0)∧W'.cell? ⟨Q,4,Ae⟩=Af (Aa Ab v1)∧W'.cell? ⟨Q,5,Ae⟩=Af (Aa Ac v2))∧
    (W'.cell? ⟨N,0,Ae⟩=Af (Aa Ab u0)∧W'.cell? ⟨N,1,Ae⟩=Af (Aa Ab u1)∧W'.cell? ⟨N,2,Ae⟩=Af (Aa Ac u2))∧W'.cell? ⟨P,0,Ae⟩=Af (Aa Ab v0)∧W'.cell? ⟨P,1,Ae⟩=Af (Aa Ab v1)∧W'.cell? ⟨P,2,Ae⟩=Af (Aa Ac v2)):=Ah λW' h=>by subst hSd;exact h
   have HSA:Hid (∀W',(∀g,g<X0.heap.size→g≠M→W'.heap[g]? =X0.heap[g]?)→S W'):=Ah λW' h=>by
    have hc:∀g j v,X0.cell? ⟨g,j,Ae⟩=Af v→g<X0.heap.size→g≠M→W'.cell? ⟨g,j,Ae⟩=Af v:=λg j v hv h1 h2=>by
     unfold World.cell? at hv⊢;rw[h g h1 h2];exact hv
    have z1:=H5.lt 0 rfl;have z2:=H5.lt 1 rfl;have z3:=H5.lt 2 rfl;subst hSd;exact⟨hc _ _ _ m6 (by have:=hb.size;omega) hBM,⟨hc _ _ _ q0 z3 Ci,hc _ _ _ q1 z3 Ci,hc _ _ _ q2 z3 Ci,hc _ _ _ q3 z3 Ci,hc _ _ _ q4 z3 Ci,hc _ _ _ q5 z3 Ci⟩,⟨hc _ _ _ a0 z1 Ci,hc _ _ _ a1 z1 Ci,hc _ _ _ a2 z1 Ci⟩,hc _ _ _ b0 z2 Ci,hc _ _ _ b1 z2 Ci,hc _ _ _ b2 z2 Ci⟩
   clear q0 q1 q2 q3 q4 q5 a0 a1 a2 b0 b1 b2 m6 hSd;refine Ao (S:=S) Cm (HSA.out _ λ_ _ _=>rfl) (λhS=>?_);have hb2:Below W.heap.size W X0.drew:=hb.drew;have HSX:Hid (X0.drew.heap=X0.heap):=Ah rfl;obtain⟨Y0,hY0⟩:=ez X0.drew;rw[←hY0]at hb2 hS HSX⊢;clear hY0;refine Ck 0 ?_;refine Ck 1 ?_;refine Ck 2 ?_;refine Ck 3 ?_;refine Ck 4 ?_;refine Ck 5 ?_;refine Ck 6 ?_;refine Ck 7 ?_;refine rdy 8 (λK hK=>?_);go_simp;have hM1:Fq pkK (Y0.alloc (.cells ((Sm.none p.1 p.2).cells Kg Kg Kg) 173)) M (Js l):=(e3.below hb2 e3.lt).below ((Ag Y0.heap.size Y0).alloc (Am _) _) (Bq e3.lt hb2.size);obtain⟨Y2,hrun,hM2,hg2⟩:=zI Wq Tryz.underlying233 hM1 p (.pointer (Af ⟨Y0.heap.size,0,Ae⟩));obtain⟨A,c,hkv,k7,A',c',Y5,happ,z5,c5,hg5,hBn,hFn⟩:=Ag6 e1 e2 e3 e4 e5 e6 e7 e8 e9 e10 HL.out hb2 hg1 hM2 hg2;have hcell:(Sm.none p.1 p.2).cells Kg Kg Kg= #[Aa Ab u0,Aa Ab u1,Aa Ac u2,Aa Ab v0,Aa Ab v1,Aa Ac v2,Ad Ae 0 0,Ad Ae 0 0,Ad Ae 0 0]:=by rw[←hp];rfl
   rw[hcell]at hrun hg2;rw[←HPK.out]at hrun
   have hyz:∀g,g<X0.heap.size→g<(Y0.alloc (.cells #[Aa Ab u0,Aa Ab u1,Aa Ac u2,Aa Ab v0,Aa Ab v1,Aa Ac v2,Ad Ae 0 0,Ad Ae 0 0,Ad Ae 0 0] 173)).heap.size:=λg hg=>by
    have:Y0.heap.size=X0.heap.size:=by rw[HSX.out]
    simp;omega
   have HS1:S (Y0.alloc (.cells #[Aa Ab u0,Aa Ab u1,Aa Ac u2,Aa Ab v0,Aa Ab v1,Aa Ac v2,Ad Ae 0 0,Ad Ae 0 0,Ad Ae 0 0] 173)):=HSA.out _ λg hg _=>(Below.heap_alloc Y0 _ g (by rw[HSX.out];exact hg)).trans (by rw[HSX.out]);have HS2:Hid (S Y2):=Ah (HSA.out _ λg hg hgM=>(hg2.block g (hyz g hg) (λe=>hgM (by injection e))).trans ((Below.heap_alloc Y0 _ g (by rw[HSX.out];exact hg)).trans (by rw[HSX.out])));refine hK.out _ _ HS1 (λhS=>?_);clear hK K HS1;obtain⟨Y1,hY1⟩:=ez (Y0.alloc (.cells #[Aa Ab u0,Aa Ab u1,Aa Ac u2,Aa Ab v0,Aa Ab v1,Aa Ac v2,Ad Ae 0 0,Ad Ae 0 0,Ad Ae 0 0] 173));rw[←hY1]at hS hrun hg2⊢;clear hY1;have HAP:=Ah happ;have HBN:=Ah hBn;have HFN:=Ah hFn;clear happ hBn hFn hM1 hcell;refine rdy 9 (λK hK=>?_);go_simp;refine hK.out _ _ HS2.out (λhS=>?_);clear hK K hrun;refine An Cm ?_ _;go_wp2_with fail;obtain⟨-,⟨q0,q1,q2,q3,q4,q5⟩,-⟩:=HSO.out _ HS2.out;clear hS HSO HS2 HSA hyz;have hpkc:(pkC p).toArray= #[Aa Ab u0,Aa Ab u1,Aa Ac u2,Aa Ab v0,Aa Ab v1,Aa Ac v2]:=by rw[←hp];rfl
   obtain⟨S6,hSd⟩:∃S6:Aj→Prop,S6=λW'=>W'.cell? ⟨Q,0,Ae⟩=Af (Aa Ab u0)∧W'.cell? ⟨Q,1,Ae⟩=Af (Aa Ab u1)∧W'.cell? ⟨Q,2,Ae⟩=Af (Aa Ac u2)∧W'.cell? ⟨Q,3,Ae⟩=Af (Aa Ab v0)∧W'.cell? ⟨Q,4,Ae⟩=Af (Aa Ab v1)∧W'.cell? ⟨Q,5,Ae⟩=Af (Aa Ac v2):=⟨_,rfl⟩;have HSO:Hid (∀W',S6 W'→W'.cell? ⟨Q,0,Ae⟩=Af (Aa Ab u0)∧W'.cell? ⟨Q,1,Ae⟩=Af (Aa Ab u1)∧W'.cell? ⟨Q,2,Ae⟩=Af (Aa Ac u2)∧W'.cell? ⟨Q,3,Ae⟩=Af (Aa Ab v0)∧W'.cell? ⟨Q,4,Ae⟩=Af (Aa Ab v1)∧W'.cell? ⟨Q,5,Ae⟩=Af (Aa Ac v2)):=Ah λW' h=>by subst hSd;exact h
   have HSA:Hid (∀W',W'.heap[Q]? =Y2.heap[Q]? →S6 W'):=Ah λW' h=>by
    have hc:∀j v,Y2.cell? ⟨Q,j,Ae⟩=Af v→W'.cell? ⟨Q,j,Ae⟩=Af v:=λj v hv=>by
     unfold World.cell? at hv⊢;rw[h];exact hv
    subst hSd;exact⟨hc _ _ q0,hc _ _ q1,hc _ _ q2,hc _ _ q3,hc _ _ q4,hc _ _ q5⟩
   have hQ2:Q<Y2.heap.size:=by
    have hz:(Y2.cell? ⟨Q,0,Ae⟩).isSome=true:=by rw[q0];rfl
    unfold World.cell? at hz
    cases hh:Y2.heap[Q]? with
    |none=>rw[hh]at hz;cases hz
    |some o=>exact(Au.1 hh).1
   clear q0 q1 q2 q3 q4 q5 hSd;refine Ao (S:=S6) Cm (HSA.out _ rfl) (λhS=>?_);have HS4:Hid (S6 (Y2.drew.alloc (.cells #[Aa Ab u0,Aa Ab u1,Aa Ac u2,Aa Ab v0,Aa Ab v1,Aa Ac v2] 239))):=Ah (HSA.out _ ((Below.heap_alloc Y2.drew _ Q hQ2).trans rfl));have hS5:Y5.heap[Q]? =Y2.heap[Q]? :=(hg5.block Q hQ2 (λe=>by have:=hkw Q e.symm;omega)).trans rfl;have HS5:Hid (S6 Y5):=Ah (HSA.out _ hS5);have HS6:Hid (S6 (Y5.setCell ⟨B,7,Ae⟩ (Ad A' (l.length+1) c'))):=Ah (HSA.out _ ((Below.heap_setCell Y5 ⟨B,7,Ae⟩ _ Q (by show Q≠B;omega)).trans hS5));have happ:=HAP.out;rw[hpkc]at happ;have hk7:Y2.drew.cell? ⟨B,7,Ae⟩=Af (Ad A l.length c):=k7;have hB7:B<Y2.heap.size:=by have:=hb2.size;have:Q<Y2.heap.size:=hQ2;omega
   obtain⟨Z,hZ⟩:=ez Y2.drew;rw[←hZ]at hS HS4 happ hk7⊢;clear hZ;have hk8:(Z.alloc (.cells #[Aa Ab u0,Aa Ab u1,Aa Ac u2,Aa Ab v0,Aa Ab v1,Aa Ac v2] 239)).cell? ⟨B,7,Ae⟩=Af (Ad A l.length c):=Cj ((Ag Z.heap.size Z).alloc (Am _) _) hk7;have HAP:=Ah happ;have hQ5:=Ah hS5;clear happ k7 hS5 hg5 hg2 hM2;obtain⟨M7,kv7,f1,f2,f3,-⟩:=HBN.out;obtain⟨f6,-⟩:=Hu f1 f2
   have hmp:Js (l++[⟨Sm.none p.1 p.2,Y0.heap.size,Kg,Kg,Kg⟩])=Ma p (.pointer (Af ⟨Y0.heap.size,0,Ae⟩)) (Js l):=by
    rw[Aa4 p _ l hg1];unfold Js;rw[List.map_append];rfl
   have hlk:=Qa Wq Tryz.underlying233 (et:=242) (z:= .pointer Ae) (λw=>Cm) (f3.same (w':=(Y5.setCell ⟨B,7,Ae⟩ (Ad A' (l.length+1) c')).drew) rfl) p false;rw[hmp,Xl,if_pos rfl,←HPK.out]at hlk;simp only[Bool.false_eq_true,if_false,Option.getD_some]at hlk
   obtain⟨S7,hS7d⟩:∃S7:Aj→Prop,S7=λW'=>W'.cell? ⟨B,6,Ae⟩=Af (.map (Af M7))∧S6 W'∧
    (Instr.lookup 233 (.map (Af M7)) (.agg #[Aa Ab u0,Aa Ab u1,Aa Ac u2,Aa Ab v0,Aa Ab v1,Aa Ac v2]) false).run Tryz.prog W'= .ok (.pointer (Af ⟨Y0.heap.size,0,Ae⟩)) W':=⟨_,rfl⟩
   have HSO7:Hid (∀W',S7 W'→W'.cell? ⟨B,6,Ae⟩=Af (.map (Af M7))∧(W'.cell? ⟨Q,0,Ae⟩=Af (Aa Ab u0)∧W'.cell? ⟨Q,1,Ae⟩=Af (Aa Ab u1)∧W'.cell? ⟨Q,2,Ae⟩=Af (Aa Ac u2)∧W'.cell? ⟨Q,3,Ae⟩=Af (Aa Ab v0)∧W'.cell? ⟨Q,4,Ae⟩=Af (Aa Ab v1)∧W'.cell? ⟨Q,5,Ae⟩=Af (Aa Ac v2))∧
    (Instr.lookup 233 (.map (Af M7)) (.agg #[Aa Ab u0,Aa Ab u1,Aa Ac u2,Aa Ab v0,Aa Ab v1,Aa Ac v2]) false).run Tryz.prog W'= .ok (.pointer (Af ⟨Y0.heap.size,0,Ae⟩)) W'):=Ah λW' h=>by subst hS7d;exact⟨h.1,HSO.out _ h.2.1,h.2.2⟩
   have HS7:Hid (S7 (Y5.setCell ⟨B,7,Ae⟩ (Ad A' (l.length+1) c')).drew):=Ah (by
    subst hS7d;exact⟨f6,HSA.out _ ((Below.heap_setCell Y5 ⟨B,7,Ae⟩ _ Q (by show Q≠B;omega)).trans hQ5.out),hlk⟩)
   clear hS7d f1 f2 f3 f6 hmp hlk;refine Ck 0 ?_;refine Ck 1 ?_;refine Ck 2 ?_;refine Ck 3 ?_;refine Ck 5 ?_;refine Ap (rs:=[4,6]) Cm Cn (Aq rfl (λK hK=>?_) (Aq rfl (λK hK=>?_) Ar))
   ·clear hk8;go_simp;refine hK.out _ _ hS (λhS=>?_);clear hK K;refine rdy 6 (λK hK=>?_);go_simp;refine hK.out _ _ HS4.out (λhS=>?_);clear hK K;refine rdy 7 (λK hK=>?_);refine Dq (by simp[Region.wanted]) (.tmp 37) (.tmp 39) 234 rfl _ _ (by simp[Act.eval]) (by simp[Act.eval]) _ _ HAP.out ?_;refine hK.out _ _ HS5.out (λhS=>?_);clear hK K;refine Ck 8 ?_;refine Ck 9 ?_;refine rdy 10 (λK hK=>?_);go_simp;refine hK.out _ _ HS6.out (λhS=>?_);clear hK K hS;refine An Cm ?_ _;go_wp2_with fail;obtain⟨Z6,hZ6⟩:=ez (Y5.setCell ⟨B,7,Ae⟩ (Ad A' (l.length+1) c'));rw[←hZ6]at HBN HFN HS6 HS7⊢;clear hZ6;clear HS6 HS5 HS4 HAP;refine Ao (S:=S7) Cm (HS7.out) (λhS=>?_);have HBN:=Ah (HBN.out.below (Ag Z6.heap.size Z6).drew);have HFN:=Ah (HFN.out.trans (⟨(Ag O Z6).drew,λ_ _=>rfl⟩:Frm O F Z6 Z6.drew));obtain⟨Z7,hZ7⟩:=ez Z6.drew;rw[←hZ7]at HBN HFN hS⊢;clear hZ7;have HSO:=HSO7;refine Ck 0 ?_;refine Ck 1 ?_;refine Ck 2 ?_;refine Ck 3 ?_;refine Ck 4 ?_;refine Ck 5 ?_;refine Ck 6 ?_;refine An Cm ?_ _;go_wp2;go_ret;exact⟨l,_,[],rfl,rfl,.inr ⟨rfl,rfl,hg1,rfl⟩,HBN.out,(H.out.frm H4.below).trans HFN.out⟩
   ·go_simp;refine hK.out _ _ HS4.out (λhS=>?_);clear hK K;refine rdy 4 (λK hK=>?_);go_simp;refine hK.out _ _ HS4.out (λhS=>?_);clear hK K;refine rdy 7 (λK hK=>?_);refine Dq (by simp[Region.wanted]) (.tmp 37) (.tmp 39) 234 rfl _ _ (by simp[Act.eval]) (by simp[Act.eval]) _ _ HAP.out ?_;refine hK.out _ _ HS5.out (λhS=>?_);clear hK K;refine Ck 8 ?_;refine Ck 9 ?_;refine rdy 10 (λK hK=>?_);go_simp;refine hK.out _ _ HS6.out (λhS=>?_);clear hK K hS;refine An Cm ?_ _;go_wp2_with fail;obtain⟨Z6,hZ6⟩:=ez (Y5.setCell ⟨B,7,Ae⟩ (Ad A' (l.length+1) c'));rw[←hZ6]at HBN HFN HS6 HS7⊢;clear hZ6;clear HS6 HS5 HS4 HAP;refine Ao (S:=S7) Cm (HS7.out) (λhS=>?_);have HBN:=Ah (HBN.out.below (Ag Z6.heap.size Z6).drew);have HFN:=Ah (HFN.out.trans (⟨(Ag O Z6).drew,λ_ _=>rfl⟩:Frm O F Z6 Z6.drew));obtain⟨Z7,hZ7⟩:=ez Z6.drew;rw[←hZ7]at HBN HFN hS⊢;clear hZ7;have HSO:=HSO7;refine Ck 0 ?_;refine Ck 1 ?_;refine Ck 2 ?_;refine Ck 3 ?_;refine Ck 4 ?_;refine Ck 5 ?_;refine Ck 6 ?_;refine An Cm ?_ _;go_wp2;go_ret;exact⟨l,_,[],rfl,rfl,.inr ⟨rfl,rfl,hg1,rfl⟩,HBN.out,(H.out.frm H4.below).trans HFN.out⟩
end Go.Proofs.YthpcfeifmdbhnaaGreatDoor
