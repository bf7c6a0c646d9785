import Derived.Test.YtlgkpdfieaadaaaGreatDoorQPim
import Derived.Test.YtlgkpdfieaadaaaGreatDoorQLkm
import Derived.Test.YtlgkpdfieaadaaaGreatDoorQSog
import Derived.Test.YtlgkpdfieaadaaaGreatDoorQStk
set_option linter.all false
open Array renaming getElem?_eq_some_iff->Au
open Bool renaming and_eq_true->El,false_eq_true->Ej
open Go renaming Addr->Ci,Calls->Al,TypeId->Cj,Value->Ak,World->Aj,cell_of_row->By,heap_alloc_new->Bz,wpAnyH_done->An,wpAnyH_ready->Ap,wp_region_held_drew->Ao
open Go.AllReadyH renaming cons->Aq,nil->Ar
open Go.IntKind renaming i64->Ab,u8->Ac
open Go.Lib renaming hid->Ah,wpList_append_run->As
open Go.Obj renaming cells->Cn
open Go.Proofs.Tryz renaming prog->Do,underlying38->Dk
open Go.RowKit.Below renaming heap_alloc->Eg,heap_setCell->Dp,refl->Ag
open Go.Value renaming int->Aa,slice->Ad,oneCell'->Dn,ownBlock->Dv
open Go.World renaming frozen?->Dz
open Int renaming toNat_natCast->Eu
open List renaming append_nil->Fe,flatMap_append->Bi,flatMap_cons->Bf,getD_eq_getElem?_getD->Ds,getElem?_append_left->Fj,getElem?_append_right->Ee,getElem?_eq_getElem->Aw,getElem?_eq_none->Ei,getElem?_toArray->Fu,getElem_cons_succ->Cd,getElem_cons_zero->Cc,getElem_mem->Ay,getElem_toArray->Ce,length_append->Bh,length_map->Bo,length_replicate->Ff,map_append->Ey,map_cons->Er,map_map->Fs,mem_append->Bl,mem_cons->Bk,mem_cons_of_mem->Ex,mem_flatMap->Eb,mem_map->Dq,mem_singleton->Ge,nodup_append->Bp,nodup_cons->Eh,pairwise_cons->Gf,pairwise_map->Ez,replicate->Ba,setIfInBounds_toArray->Ch,set_cons_succ->Cg,set_cons_zero->Cf,take_of_length_le->Bg,take_succ_eq_append_getElem->Bc
open Nat renaming le_refl->Am,le_succ_of_le->Ga,le_trans->Br,lt_of_lt_of_le->Bq,sub_self->Fk,zero_add->Bt
open Option renaming none->Ae,some->Af
set_option maxHeartbeats 8000000
set_option maxRecDepth 100000
namespace Go.Proofs
open Go.Shelf Go.RowKit
def Tryz.laysSortCr_ren:Go.Shelf.Ren:=⟨fun|6=>131|15=>85|14=>175|28=>149|29=>150|20=>230|21=>231|22=>232|23=>233|24=>234|25=>235|26=>236|27=>237|46=>279|47=>189|48=>190|49=>280|50=>281|57=>305|n=>n,fun|22=>26|24=>192|25=>238|3=>3|39=>176|0=>0|53=>251|55=>253|4=>4|46=>245|45=>244|50=>208|5=>5|9=>9|66=>307|70=>109|76=>369|77=>225|n=>n,fun|n=>n⟩
open Tryz in
theorem Tryz.laysSortCr:Go.Proofs.SlLaysF0.n6 Do Tryz.laysSortCr_ren:={
 mixed:=Gw,f6:=lyb func131,f14:=lyb func175,f15:=lyf func85,f20:=lyb func230,f21:=lyb func231,f22:=lyb func232,f23:=lyb func233,f24:=lyb func234,f25:=lyb func235,f26:=lyb func236,f27:=lyb func237,f28:=lyf func149,f29:=lyf func150,f46:=lyb func279,f47:=lyf func189,f48:=lyf func190,f49:=lyb func280,f50:=lyb func281,f57:=lyb func305,t0:=underlying0,a0:=isAgg0,z0:=sizeOf0,v0:=zeroValue0,t3:=underlying3,a3:=isAgg3,z3:=sizeOf3,v3:=zeroValue3,t4:=underlying4,a4:=isAgg4,z4:=sizeOf4,v4:=zeroValue4,t5:=underlying5,a5:=isAgg5,z5:=sizeOf5,v5:=zeroValue5,t9:=underlying9,a9:=isAgg9,z9:=sizeOf9,v9:=zeroValue9,t22:=underlying26,a22:=isAgg26,z22:=sizeOf26,v22:=zeroValue26,t25:=underlying238,a25:=isAgg238,z25:=sizeOf238,v25:=zeroValue238,t39:=underlying176,a39:=isAgg176,z39:=sizeOf176,v39:=zeroValue176,t45:=underlying244,a45:=isAgg244,z45:=sizeOf244,v45:=zeroValue244,t46:=underlying245,a46:=isAgg245,z46:=sizeOf245,v46:=zeroValue245,t50:=underlying208,a50:=isAgg208,z50:=sizeOf208,v50:=zeroValue208,t53:=underlying251,a53:=isAgg251,z53:=sizeOf251,v53:=zeroValue251,t55:=underlying253,a55:=isAgg253,z55:=sizeOf253,v55:=zeroValue253,t66:=underlying307,a66:=isAgg307,z66:=sizeOf307,v66:=zeroValue307,t70:=underlying109,a70:=isAgg109,z70:=sizeOf109,v70:=zeroValue109,t76:=underlying369,a76:=isAgg369,z76:=sizeOf369,v76:=zeroValue369,t77:=underlying225,a77:=isAgg225,z77:=sizeOf225,v77:=zeroValue225}
end Go.Proofs
namespace Go.Proofs.YtlgkpdfieaadaaaGreatDoor
open Go.RowKit Go.Sort
abbrev CrE:=Int×Int×Int
def crI (x:CrE):List Ak:=[Aa Ab x.1,Aa Ac x.2.1,Aa Ac x.2.2]
def kE (x y:CrE):Int:=orI (Ih x.1 y.1) (Ih x.2.1 y.2.1)
theorem kH (x y:CrE) (w:Aj):Al Do 132 #[.agg (crI x).toArray,.agg (crI y).toArray] w (Uv (Aa Ab (kE x y)) w):=by
 obtain⟨x0,x1,x2⟩:=x;obtain⟨y0,y1,y2⟩:=y;unfold crI kE;dsimp only;have sj:=Ah (λw'=>Nf x0 y0 w');have CA:=Ah (λw'=>mX x1 y1 w');obtain⟨p,hp⟩:=ey (Ih x0 y0);obtain⟨q,hq⟩:=ey (Ih x1 y1);rw[hp]at sj⊢;rw[hq]at CA⊢;have dm:Bd w ((w.alloc (.cells #[x0,Aa Ac x1,Aa Ac x2] 192)).alloc (.cells #[y0,Aa Ac y1,Aa Ac y2] 192)):=((Bd.refl w).alloc _).alloc _;have HB:=((Bx.start w).new #[x0,Aa Ac x1,Aa Ac x2] 192 rfl).new #[y0,Aa Ac y1,Aa Ac y2] 192 (N:=w.heap.size+1) Gx;clear hp hq;go_enter Tryz.func132,Tryz.ntmps132;go_upto_region 1 with fail;generalize (w.alloc _).alloc _=W at HB dm⊢;obtain⟨N,hN⟩:=ez w.heap.size;rw[<-hN]at HB⊢;have db:=Ah hN;clear hN;generalize N+1=P at HB⊢;obtain⟨⟨a0,a1,-⟩,-⟩:=He (HB.b 0);obtain⟨⟨b0,b1,-⟩,-⟩:=He (HB.b 1);have dx:=Ah dm.drew;obtain⟨S,an,HSO⟩:=Og λW'=>(W'.cell? ⟨N,0,Ae⟩=Af (Aa Ab x0)/\W'.cell? ⟨N,1,Ae⟩=Af (Aa Ac x1))/\W'.cell? ⟨P,0,Ae⟩=Af (Aa Ab y0)/\W'.cell? ⟨P,1,Ae⟩=Af (Aa Ac y1)
 have ae:Hid (∀W',Below W.heap.size W W'->S W'):=Ah λW' h=>by
  subst an;exact⟨⟨Gv h a0,Gv h a1⟩,Gv h b0,Gv h b1⟩
 clear an a0 a1 b0 b1 dm HB;refine Ao (S:=S) Gw (ae.out _ (Ag _ _).drew) (λhS=>?_);have hb:Below W.heap.size W W.drew:=(Ag _ _).drew;generalize W.drew=X0 at hb hS dx⊢;refine Hh 0 1 2 3 ?_;refine Hh 5 6 7 8 ?_;refine rdy 4 (λK hK=>?_);go_simp;refine(sj.out _).mono ?_;rintro e X1 ⟨rfl,ac⟩;have dx:=Ah (dx.out.trans ac);have hb:=hb.trans (ac.b.mono hb.size);refine hK.o (ae.out _ hb) (λhS=>?_);clear hK K ac;refine rdy 9 (λK hK=>?_);go_simp;refine(CA.out _).mono ?_;rintro e X2 ⟨rfl,ac⟩;have dx:=Ah (dx.out.trans ac);have hb:=hb.trans (ac.b.mono hb.size);refine hK.o (ae.out _ hb) (λhS=>?_);clear hK K ac
 have hr:(X2.alloc (.cells #[p,q] 3)).rangeAt X2.heap.size 0 [Aa Ab p,Aa Ab q]:=λj v hj=>by
  rw[Bt,By _ _ j _ _ (0,0) (Bz X2 _)];simpa using hj
 have r_:=Ah (uQ X2.heap.size 2 p q _ hr);have dx:=Ah (dx.out.alloc (.cells #[p,q] 3));have hb:=hb.alloc hb.size (.cells #[p,q] 3);clear hr;refine rdy 10 (λK hK=>?_);go_simp;refine hK.o (ae.out _ hb) (λhS=>?_);clear hK K;refine rdy 11 (λK hK=>?_);go_simp;refine r_.out.mono ?_;rintro e X3 ⟨rfl,ac⟩;have dx:=Ah (dx.out.trans ac);have hb:=hb.trans (ac.b.mono hb.size);refine hK.o (ae.out _ hb) (λhS=>?_);clear hK K ac;refine Kg 12 ?_;refine An Gw ?_ _;go_wp2;go_ret;exact⟨rfl,dx.out⟩
theorem Bj3 (x y:CrE):ltOf kE x y=decide (x.1<y.1∨(x.1=y.1/\x.2.1<y.2.1)):=by
 unfold ltOf kE;rw[decide_eq_decide,Zj,Mx,Je,Mx]
theorem Cc6:SWO (ltOf kE) where
 irrefl x:=by rw[Bj3,Rt];omega
 trans x y z h1 h2:=by rw[Bj3,decide_eq_true_iff]at*;omega
 ntrans x y z h1 h2:=by rw[Bj3,Rt]at*;omega
theorem Bh8 (w:Aj):(isAgg 192).run Do w= .ok true w:=Gw
theorem Bx0 (w:Aj):(Go.sizeOf 192).run Do w= .ok 3 w:=Gw
theorem wB {O m c:Nat} {B:Option Ci} (l:List CrE) (w:Aj) (h:w.ownsRow O 192 3 (Ad B m c) m (l.flatMap crI)) (hm:m<=1000000):
  Al Do 131 #[Ad B m c,.func (.func 132) #[] #[]] w (Lo crI kE l O 192 3 m (Ad B m c) w):=
 Tp Tryz.laysSortCr 3 Ha Bh8 Bx0 crI (λ_=>rfl) (λx v hv=>by
  simp[crI]at hv;rcases hv with rfl|rfl|rfl<;>rfl) kE Cc6 132 #[] (enters_of Tryz.func132 Gw rfl) l w h hm (λW' _ x y=>kH x y W')
theorem Nb {a b:Int}:∀{j:Nat} {u:Nat×Nat},u∈Ka a b j->u.2<3/\3*u.1+u.2<j/\isU a b u.1 u.2=true
 |0,u,h=>by simp[Ka]at h
 |j+1,u,h=>by
  unfold Ka at h;rcases Bl.1 h with h|h
  ·obtain⟨h1,h2,h3⟩:=Nb h;exact⟨h1,Gu,h3⟩
  ·unfold Ul at h
   split at h
   ·rename_i hu;simp at h;subst h;exact⟨by show j%3<3;omega,by show 3*(j/3)+j%3<j+1;omega,hu⟩
   ·simp at h
theorem cL (a b:Int):∀j,(Ka a b j).Pairwise λu v=>3*u.1+u.2<3*v.1+v.2
 |0=> .nil
 |j+1=>by
  unfold Ka;rw[List.pairwise_append];refine⟨cL a b j,?_,λu hu v hv=>?_⟩
  ·unfold Ul
   split
   ·exact List.pairwise_singleton _ _
   ·exact .nil
  ·have h1:=(Nb hu).2.1;unfold Ul at hv
   split at hv
   ·simp at hv;subst hv;show 3*u.1+u.2<3*(j/3)+j%3;omega
   ·simp at hv
theorem oO {a b:Int} {i e:Nat} (h:isU a b i e=true):Ig a b i e=((i:Int),(e:Int),0):=by
 unfold isU at h;simp only[El,Lg]at h;unfold Ig;rw[Hd h.1];have:min (i:Int) (nbI a b i e).1=i:=Gu;rw[this]
theorem xE:∀(l:List Int) (lo hi:Int),l.Pairwise (· <·)->(∀x∈l,lo<=x/\x<hi)->lo<=hi->(l.length:Int)<=hi-lo
 |[],lo,hi,_,_,h=>Hu
 |x::r,lo,hi,hp,hb,h=>by
  rw[Gf]at hp;have hx:=hb x Gx;have:=xE r (x+1) hi hp.2 (λy hy=>⟨by have:=hp.1 y hy;omega,(hb y (by simp[hy])).2⟩) Gu;simp only[List.length_cons];omega
theorem aN {l:List Cr} (hf:∀r∈l,r.fit) (ha:l.Pairwise λr q=>Kv r.c r.e q.c q.e<0):l.length<=262400:=by
 have h1:(l.map λr=>r.c*256+r.e).Pairwise (· <·):=by
  rw[Ez];refine ha.imp_of_mem λ{r q} hr hq h=>?_;have f1:=hf r hr;have f2:=hf q hq;unfold Cr.fit at f1 f2;unfold Kv at h
  split at h
  ·rename_i e;omega
  ·omega
 have h2:=xE _ 0 262400 h1 (λx hx=>by
  obtain⟨r,hr,rfl⟩:=Dq.1 hx;have f1:=hf r hr;unfold Cr.fit at f1;omega) Ha
 simp at h2;omega
theorem iI (x:Cr) (l:List Cr):(Ad6 x l).Perm (x::l):=by
 induction l with
 |nil=>exact .refl _
 |cons y r ih=>
  unfold Ad6
  split
  ·exact .refl _
  ·exact(ih.cons y).trans (List.Perm.swap x y r)
theorem Na (l:List Cr):(Oc l).Perm l:=by
 induction l with
 |nil=>exact .refl _
 |cons x r ih=>exact(iI x _).trans (ih.cons x)
theorem Zk {c e c' e':Int}:Kv c e c' e'<=0↔c<c'∨(c=c'/\e<=e'):=by
 unfold Kv
 split
 ·omega
 ·omega
theorem yS {c e c' e':Int}:Kv c e c' e'<0↔c<c'∨(c=c'/\e<e'):=by
 unfold Kv
 split
 ·omega
 ·omega
theorem Bh6 (x:Cr) (l:List Cr) (h:l.Pairwise λp q=>Kv p.c p.e q.c q.e<=0):(Ad6 x l).Pairwise λp q=>Kv p.c p.e q.c q.e<=0:=by
 induction l with
 |nil=>exact List.pairwise_singleton _ _
 |cons y r ih=>
  unfold Ad6;have hh:=h;rw[Gf]at h
  split
  ·rename_i hc;rw[Gf];refine⟨λz hz=>?_,hh⟩;rcases Bk.1 hz with rfl|hz
   ·exact hc
   ·have h2:=h.1 z hz;rw[Zk]at*;omega
  ·rename_i hc;rw[Gf];refine⟨λz hz=>?_,ih h.2⟩;rcases Bk.1 ((iI x r).mem_iff.1 hz)with rfl|hz
   ·rw[Zk]at*;omega
   ·exact h.1 z hz
theorem qS (l:List Cr):(Oc l).Pairwise λp q=>Kv p.c p.e q.c q.e<=0:=by
 induction l with
 |nil=>exact .nil
 |cons x r ih=>exact Bh6 x _ ih
def crU (r:Cr):Int×Int:=(r.c,r.e)
theorem lG {l:List Cr} (h:l.Pairwise λp q=>Kv p.c p.e q.c q.e<=0) (hn:(l.map crU).Nodup):l.Pairwise λp q=>Kv p.c p.e q.c q.e<0:=by
 unfold List.Nodup at hn;rw[Ez]at hn;refine(h.and hn).imp λ{p q} hh=>?_;obtain⟨h1,h2⟩:=hh;rw[Zk]at h1;rw[yS];unfold crU at h2;have:¬(p.c=q.c/\p.e=q.e):=λe=>h2 (by rw[e.1,e.2]);omega
theorem Zw {l:List Cr} (h:l.Pairwise λp q=>Kv p.c p.e q.c q.e<0):(l.map crU).Nodup:=by
 unfold List.Nodup;rw[Ez];refine h.imp λ{p q} hh=>?_;rw[yS]at hh;unfold crU;intro e;simp at e;omega
theorem kF:∀{l:List Cr},(l.map crU).Nodup->∀a∈l,∀b∈l,crU a=crU b->a=b
 |[],_,a,ha,_,_,_=>absurd ha Gx
 |y::r,h,a,ha0,b,lw,e=>by
  rw[Er,Eh]at h;rcases Bk.1 ha0 with e1|ha
  ·rcases Bk.1 lw with e2|hb
   ·rw[e1,e2]
   ·exact absurd (Dq.2 ⟨b,hb,by rw[<-e,e1]⟩) h.1
  ·rcases Bk.1 lw with e2|hb
   ·exact absurd (Dq.2 ⟨a,ha,by rw[e,e2]⟩) h.1
   ·exact kF h.2 a ha b hb e
theorem lY {L l':List Cr} (hp:l'.Perm L) (hs:l'.Pairwise λp q=>Kv p.c p.e q.c q.e<=0) (hn:(L.map crU).Nodup):l'=Oc L:=by
 refine Wq _ l' (Oc L) (hp.trans (Na L).symm) hs (qS L) λa ha b hb h1 h2=>?_;refine kF hn a (hp.mem_iff.1 ha) b (hp.mem_iff.1 hb) ?_;rw[Zk]at h1 h2;unfold crU;have e1:a.c=b.c:=Gu;have e2:a.e=b.e:=Gu;rw[e1,e2]
theorem tQ {l:List Cr} {c e:Int} (hk:∀r∈l,isK r.k=true) (h:Hm l c e=0):(c,e)∉l.map crU:=by
 intro hm;obtain⟨r,hr,hu⟩:=Dq.1 hm;unfold crU at hu;simp at hu;unfold Hm at h
 split at h
 ·rename_i q hq;have h1:=hk q (List.mem_of_find?_eq_some hq);rw[h]at h1;exact absurd h1 Ha
 ·rename_i hq;have:=List.find?_eq_none.1 hq r hr;simp[hu.1,hu.2]at this
def Ma (l:List (Nat×Nat)) (k:Nat->Int):List Cr:=l.map λu=>⟨u.1,u.2,k u.1⟩
theorem Qz {s:St} {k c:Int} {u:Nat×Nat} (h:u∈Lv s k c):u∈Kq s.a s.b/\Hm s.cr u.1 u.2=0:=by
 unfold Lv at h;obtain⟨h1,h2⟩:=List.mem_filter.1 h;simp only[El,Lg]at h2;exact⟨h1,h2.2⟩
theorem bP {a b:Int} (hs:okS a b=true) {u:Nat×Nat} (h:u∈Kq a b):u.2<3/\u.1<1024/\isU a b u.1 u.2=true:=by
 obtain⟨h1,h2,h3⟩:=Nb h;have:=Sw hs;exact⟨h1,Gu,h3⟩
theorem iP {s:St} (hp:Lq s.a s.b s.cr) (k c:Int) (kf:Nat->Int):((s.cr++Ma (Lv s k c) kf).map crU).Nodup:=by
 rw[Ey,Bp];refine⟨Zw hp.asc,?_,λx hx y hy e=>?_⟩
 ·unfold Ma List.Nodup;rw[Fs,Ez]
  have h1:(Lv s k c).Pairwise λu v=>3*u.1+u.2<3*v.1+v.2:=by
   unfold Lv;exact(cL s.a s.b _).filter _
  refine h1.imp λ{u v} h e=>?_;simp[crU]at e;omega
 ·subst e;unfold Ma at hy;rw[Fs]at hy;obtain⟨u,hu,rfl⟩:=Dq.1 hy;exact tQ hp.kind (Qz hu).2 hx
theorem Ag4 {s:St} (hp:Lq s.a s.b s.cr) (k c:Int) (kf:Nat->Int) (hk:∀i,kf i=1∨kf i=2):Lq s.a s.b (Oc (s.cr++Ma (Lv s k c) kf)):=by
 have zw:=Na (s.cr++Ma (Lv s k c) kf)
 have bp:∀r∈Oc (s.cr++Ma (Lv s k c) kf),r∈s.cr∨∃u∈Lv s k c,r=⟨u.1,u.2,kf u.1⟩:=λr hr=>by
  rcases Bl.1 (zw.mem_iff.1 hr)with h|h
  ·exact .inl h
  ·obtain⟨u,hu,e⟩:=Dq.1 h;exact .inr ⟨u,hu,e.symm⟩
 have nv:∀r∈Oc (s.cr++Ma (Lv s k c) kf),r.fit:=λr hr=>by
  rcases bp r hr with h|⟨u,hu,rfl⟩
  ·exact hp.fit r h
  ·obtain⟨b1,b2,-⟩:=bP hp.sheet (Qz hu).1;have h12:=hk u.1;unfold Cr.fit;dsimp only;omega
 have zd:(Oc (s.cr++Ma (Lv s k c) kf)).Pairwise λr q=>Kv r.c r.e q.c q.e<0:=lG (qS _) ((zw.map crU).nodup_iff.2 (iP hp k c kf));refine⟨hp.sheet,λr hr=>?_,λr hr=>?_,nv,zd,by have:=aN nv zd;omega⟩
 ·rcases bp r hr with h|⟨u,hu,rfl⟩
  ·exact hp.kind r h
  ·dsimp only;rcases hk u.1 with e|e<;>rw[e]<;>decide
 ·rcases bp r hr with h|⟨u,hu,rfl⟩
  ·exact hp.name r h
  ·exact oO (bP hp.sheet (Qz hu).1).2.2
def crT (r:Cr):CrE:=(r.c,r.e,r.k)
theorem Bz5 (l:List Cr):crs l=(l.map crT).flatMap crI:=by
 unfold crs;rw[List.flatMap_map];rfl
def crB (x:CrE):Cr:=⟨x.1,x.2.1,x.2.2⟩
theorem Bz4 (l:List CrE):crs (l.map crB)=l.flatMap crI:=by
 unfold crs;rw[List.flatMap_map];rfl
theorem Ba0 {L:List Cr} {l':List CrE} (hp:l'.Perm (L.map crT)) (hs:l'.Pairwise λp q=>ltOf kE q p=false) (hn:(L.map crU).Nodup):l'.map crB=Oc L:=by
 refine lY ?_ ?_ hn
 ·have h:=hp.map crB;rw[Fs]at h;have e:(crB∘crT)=id:=by funext r;rfl
  rwa [e,List.map_id]at h
 ·rw[Ez];refine hs.imp λ{p q} h=>?_;rw[Bj3,Rt]at h;rw[Zk];unfold crB;dsimp only;omega
theorem Pd {O:Nat} {w:Aj} {l1 l2:List SmB} {x:SmB} (h:Oi O w (l1++x::l2)):x.blks.Nodup:=by
 have:=h.2;simp only[Bi,Bf,Bp]at this;exact this.2.1.1
theorem Ac9 (l:List Nat) (x:Nat):If (l++[x])=If l++[Aa Ab (x:Int)]:=by simp[If]
theorem Bs0 {O B:Nat} {F:List Nat} {fix:List Ak} {w:Aj} {l1 l2:List SmB} {x:SmB} (h:Ii O B F fix w (l1++x::l2)) (hl:x.s.es.length<=1000000) (id:Nat):
  ∃A c,x.ve= Ad A x.s.es.length c/\w.cell? ⟨x.p,8,Ae⟩=Af (Ad A x.s.es.length c)/\
   ∃A' c' w6,(Builtin.append_ #[38,38] 38 #[Ad A x.s.es.length c,Ad (Af ⟨w.heap.size,0,Ae⟩) 1 1]).run Do (w.alloc (.cells ([Aa Ab (id:Int)]:List Ak).toArray 3))= .ok (Ad A' (x.s.es.length+1) c') w6/\
    w6.frozen? ⟨x.p,8,Ae⟩=false/\w6.cell? ⟨x.p,8,Ae⟩=Af (Ad A x.s.es.length c)/\
    Ii O B F fix (w6.setCell ⟨x.p,8,Ae⟩ (Ad A' (x.s.es.length+1) c')) (l1++(⟨{x.s with es:=x.s.es++[id]},x.p,x.vp,x.vl,Ad A' (x.s.es.length+1) c'⟩:SmB)::l2)/\Frm O F w (w6.setCell ⟨x.p,8,Ae⟩ (Ad A' (x.s.es.length+1) c')):=by
 have la:=h.sms
 have hO:O<=w.heap.size:=by
  obtain⟨M,kv,_,h2,_,_,_,_,_,h8,_⟩:=h;have:=(Au.1 h2).1;omega
 have el:=la.1 x Gx;have ad:=el.lt;have bj:=Pd la;obtain⟨h0,h1,h2,h3,h4⟩:=el;obtain⟨A,c,hv,-,-⟩:=Hw h4;obtain⟨A',c',w6,ah,vz,ba,EZ,ru,-,-,xn⟩:=Yk (sl:=38) Dk Ns rfl Ha Ha w O x.s.es.length x.ve _ h4 hO Gu [Aa Ab (id:Int)] rfl (by simp[Dn]);have gq:=bj;unfold SmB.blks at gq;simp only[Eh,Bp,Bl,Option.mem_toList,not_or]at gq;obtain⟨⟨⟨PB,PC⟩,PD⟩,⟨-,-,n12⟩,-,n3⟩:=gq;have dw:x.p<w.heap.size:=(Au.1 h1).1;have BS:w6.heap[x.p]? =Af (.cells (x.s.cells x.vp x.vl x.ve) 263 (0,0)):=(EZ.block x.p dw (Ne.symm PD)).trans h1;have hb:=Be4 (s:={x.s with es:=x.s.es++[id]}) (v:= Ad A' (x.s.es.length+1) c') (N:=w.heap.size) bj (λg hg=>(ad g hg).2) xn
 have jo:∀g,(Dv (Ad A' (x.s.es.length+1) c'))=Af g->g≠x.p:=by
  intro g hg e;subst e;rcases xn with e|⟨g,e,ju⟩
  ·rw[e]at hg;exact PD hg
  ·rw[e]at hg;injection hg with hg;omega
 have bn:∀g,g<w.heap.size->g≠x.p->x.ve.ownBlock≠Af g->(w6.setCell ⟨x.p,8,Ae⟩ (Ad A' (x.s.es.length+1) c')).heap[g]? =w.heap[g]? :=λg hg hp ND=>
  (Dp w6 ⟨x.p,8,Ae⟩ _ g (by show g≠x.p;exact hp)).trans (EZ.block g hg (Ne.symm ND))
 have hy:(⟨{x.s with es:=x.s.es++[id]},x.p,x.vp,x.vl,Ad A' (x.s.es.length+1) c'⟩:SmB).ok O (w6.setCell ⟨x.p,8,Ae⟩ (Ad A' (x.s.es.length+1) c')):=by
  refine⟨h0,?_,?_,?_,?_⟩
  ·rw[Jv _ BS];rfl
  ·exact Il h2 λg hg=>bn g (h2.lt g hg).2 (λe=>PB (e▸hg)) λe=>n3 g (.inl hg) g e rfl
  ·exact Il h3 λg hg=>bn g (h3.lt g hg).2 (λe=>PC (e▸hg)) λe=>n3 g (.inr hg) g e rfl
  ·rw[Ac9,Bh];exact Il vz λg hg=>Dp w6 ⟨x.p,8,Ae⟩ _ g (by show g≠x.p;exact jo g hg)
 have ir:w.heap.size<=(w6.setCell ⟨x.p,8,Ae⟩ (Ad A' (x.s.es.length+1) c')).heap.size:=by
  have:=EZ.size;simpa using this
 obtain⟨r1,r2⟩:=h.change (y:=⟨{x.s with es:=x.s.es++[id]},x.p,x.vp,x.vl,Ad A' (x.s.es.length+1) c'⟩) hy rfl rfl hb.1 hb.2 (λg hg hx=>bn g hg (λe=>hx (by rw[e];simp[SmB.blks])) (λe=>hx (by unfold SmB.blks;simp[e]))) ir;refine⟨A,c,hv,?_,A',c',w6,by rw[<-hv];exact ah,by simp[Dz,BS],?_,r1,ba.setCell (p:=⟨x.p,8,Ae⟩) h0 _,r2⟩
 ·rw[By w x.p 8 _ _ (0,0) h1,<-hv];rfl
 ·rw[By w6 x.p 8 _ _ (0,0) BS,<-hv];rfl
theorem jS {O B:Nat} {F:List Nat} {fix:List Ak} {w:Aj} {l1 l2:List SmB} {x:SmB} (h:Ii O B F fix w (l1++x::l2)) (hl:x.s.ls.length<=1000000) (z:Nat×Nat×Nat):
  ∃A c,x.vl= Ad A x.s.ls.length c/\w.cell? ⟨x.p,7,Ae⟩=Af (Ad A x.s.ls.length c)/\
   ∃A' c' w6,(Builtin.append_ #[261,261] 261 #[Ad A x.s.ls.length c,Ad (Af ⟨w.heap.size,0,Ae⟩) 1 1]).run Do (w.alloc (.cells ([Aa Ac (z.1:Int),Aa Ab (z.2.1:Int),Aa Ab (z.2.2:Int)]:List Ak).toArray 266))= .ok (Ad A' (x.s.ls.length+1) c') w6/\
    w6.frozen? ⟨x.p,7,Ae⟩=false/\w6.cell? ⟨x.p,7,Ae⟩=Af (Ad A x.s.ls.length c)/\
    Ii O B F fix (w6.setCell ⟨x.p,7,Ae⟩ (Ad A' (x.s.ls.length+1) c')) (l1++(⟨{x.s with ls:=x.s.ls++[z]},x.p,x.vp,Ad A' (x.s.ls.length+1) c',x.ve⟩:SmB)::l2)/\Frm O F w (w6.setCell ⟨x.p,7,Ae⟩ (Ad A' (x.s.ls.length+1) c')):=by
 have la:=h.sms
 have hO:O<=w.heap.size:=by
  obtain⟨M,kv,_,h2,_,_,_,_,_,h8,_⟩:=h;have:=(Au.1 h2).1;omega
 have el:=la.1 x Gx;have ad:=el.lt;have bj:=Pd la;obtain⟨h0,h1,h2,h3,h4⟩:=el;obtain⟨A,c,hv,-,-⟩:=Hw h3;obtain⟨A',c',w6,ah,vz,ba,EZ,ru,-,-,xn⟩:=Yk (sl:=261) Tryz.underlying261 oL rfl Ha Ha w O x.s.ls.length x.vl _ h3 hO Gu [Aa Ac (z.1:Int),Aa Ab (z.2.1:Int),Aa Ab (z.2.2:Int)] rfl (by simp[Dn]);have gq:=bj;unfold SmB.blks at gq;simp only[Eh,Bp,Bl,Option.mem_toList,not_or]at gq;obtain⟨⟨⟨PB,PC⟩,PD⟩,⟨-,-,n12⟩,-,n3⟩:=gq;have dw:x.p<w.heap.size:=(Au.1 h1).1;have BS:w6.heap[x.p]? =Af (.cells (x.s.cells x.vp x.vl x.ve) 263 (0,0)):=(EZ.block x.p dw (Ne.symm PC)).trans h1;have hb:=Be5 (s:={x.s with ls:=x.s.ls++[z]}) (v:= Ad A' (x.s.ls.length+1) c') (N:=w.heap.size) bj (λg hg=>(ad g hg).2) xn
 have jo:∀g,(Dv (Ad A' (x.s.ls.length+1) c'))=Af g->g≠x.p:=by
  intro g hg e;subst e;rcases xn with e|⟨g,e,ju⟩
  ·rw[e]at hg;exact PC hg
  ·rw[e]at hg;injection hg with hg;omega
 have bn:∀g,g<w.heap.size->g≠x.p->x.vl.ownBlock≠Af g->(w6.setCell ⟨x.p,7,Ae⟩ (Ad A' (x.s.ls.length+1) c')).heap[g]? =w.heap[g]? :=λg hg hp ND=>
  (Dp w6 ⟨x.p,7,Ae⟩ _ g (by show g≠x.p;exact hp)).trans (EZ.block g hg (Ne.symm ND))
 have hy:(⟨{x.s with ls:=x.s.ls++[z]},x.p,x.vp,Ad A' (x.s.ls.length+1) c',x.ve⟩:SmB).ok O (w6.setCell ⟨x.p,7,Ae⟩ (Ad A' (x.s.ls.length+1) c')):=by
  refine⟨h0,?_,?_,?_,?_⟩
  ·rw[Jv _ BS];rfl
  ·exact Il h2 λg hg=>bn g (h2.lt g hg).2 (λe=>PB (e▸hg)) λe=>n12 g hg g e rfl
  ·rw[tV,Bh];exact Il vz λg hg=>Dp w6 ⟨x.p,7,Ae⟩ _ g (by show g≠x.p;exact jo g hg)
  ·exact Il h4 λg hg=>bn g (h4.lt g hg).2 (λe=>PD (e▸hg)) λe=>n3 g (.inr e) g hg rfl
 have ir:w.heap.size<=(w6.setCell ⟨x.p,7,Ae⟩ (Ad A' (x.s.ls.length+1) c')).heap.size:=by
  have:=EZ.size;simpa using this
 obtain⟨r1,r2⟩:=h.change (y:=⟨{x.s with ls:=x.s.ls++[z]},x.p,x.vp,Ad A' (x.s.ls.length+1) c',x.ve⟩) hy rfl rfl hb.1 hb.2 (λg hg hx=>bn g hg (λe=>hx (by rw[e];simp[SmB.blks])) (λe=>hx (by unfold SmB.blks;simp[e]))) ir;refine⟨A,c,hv,?_,A',c',w6,by rw[<-hv];exact ah,by simp[Dz,BS],?_,r1,ba.setCell (p:=⟨x.p,7,Ae⟩) h0 _,r2⟩
 ·rw[By w x.p 7 _ _ (0,0) h1,<-hv];rfl
 ·rw[By w6 x.p 7 _ _ (0,0) BS,<-hv];rfl
theorem An3 {O B:Nat} {F:List Nat} {fix:List Ak} {w:Aj} {l1 l2:List SmB} {x:SmB} (h:Ii O B F fix w (l1++x::l2)) (hl:x.s.ps.length<=1000000) (z:Nat×Nat):
  ∃A c,x.vp= Ad A x.s.ps.length c/\w.cell? ⟨x.p,6,Ae⟩=Af (Ad A x.s.ps.length c)/\
   ∃A' c' w6,(Builtin.append_ #[260,260] 260 #[Ad A x.s.ps.length c,Ad (Af ⟨w.heap.size,0,Ae⟩) 1 1]).run Do (w.alloc (.cells ([Aa Ab (z.1:Int),Aa Ab (z.2:Int)]:List Ak).toArray 377))= .ok (Ad A' (x.s.ps.length+1) c') w6/\
    w6.frozen? ⟨x.p,6,Ae⟩=false/\w6.cell? ⟨x.p,6,Ae⟩=Af (Ad A x.s.ps.length c)/\
    Ii O B F fix (w6.setCell ⟨x.p,6,Ae⟩ (Ad A' (x.s.ps.length+1) c')) (l1++(⟨{x.s with ps:=x.s.ps++[z]},x.p,Ad A' (x.s.ps.length+1) c',x.vl,x.ve⟩:SmB)::l2)/\Frm O F w (w6.setCell ⟨x.p,6,Ae⟩ (Ad A' (x.s.ps.length+1) c')):=by
 have la:=h.sms
 have hO:O<=w.heap.size:=by
  obtain⟨M,kv,_,h2,_,_,_,_,_,h8,_⟩:=h;have:=(Au.1 h2).1;omega
 have el:=la.1 x Gx;have ad:=el.lt;have bj:=Pd la;obtain⟨h0,h1,h2,h3,h4⟩:=el;obtain⟨A,c,hv,-,-⟩:=Hw h2;obtain⟨A',c',w6,ah,vz,ba,EZ,ru,-,-,xn⟩:=Yk (sl:=260) Tryz.underlying260 oM rfl Ha Ha w O x.s.ps.length x.vp _ h2 hO Gu [Aa Ab (z.1:Int),Aa Ab (z.2:Int)] rfl (by simp[Dn]);have gq:=bj;unfold SmB.blks at gq;simp only[Eh,Bp,Bl,Option.mem_toList,not_or]at gq;obtain⟨⟨⟨PB,PC⟩,PD⟩,⟨-,-,n12⟩,-,n3⟩:=gq;have dw:x.p<w.heap.size:=(Au.1 h1).1;have BS:w6.heap[x.p]? =Af (.cells (x.s.cells x.vp x.vl x.ve) 263 (0,0)):=(EZ.block x.p dw (Ne.symm PB)).trans h1;have hb:=Be6 (s:={x.s with ps:=x.s.ps++[z]}) (v:= Ad A' (x.s.ps.length+1) c') (N:=w.heap.size) bj (λg hg=>(ad g hg).2) xn
 have jo:∀g,(Dv (Ad A' (x.s.ps.length+1) c'))=Af g->g≠x.p:=by
  intro g hg e;subst e;rcases xn with e|⟨g,e,ju⟩
  ·rw[e]at hg;exact PB hg
  ·rw[e]at hg;injection hg with hg;omega
 have bn:∀g,g<w.heap.size->g≠x.p->x.vp.ownBlock≠Af g->(w6.setCell ⟨x.p,6,Ae⟩ (Ad A' (x.s.ps.length+1) c')).heap[g]? =w.heap[g]? :=λg hg hp ND=>
  (Dp w6 ⟨x.p,6,Ae⟩ _ g (by show g≠x.p;exact hp)).trans (EZ.block g hg (Ne.symm ND))
 have hy:(⟨{x.s with ps:=x.s.ps++[z]},x.p,Ad A' (x.s.ps.length+1) c',x.vl,x.ve⟩:SmB).ok O (w6.setCell ⟨x.p,6,Ae⟩ (Ad A' (x.s.ps.length+1) c')):=by
  refine⟨h0,?_,?_,?_,?_⟩
  ·rw[Jv _ BS];rfl
  ·rw[uZ,Bh];exact Il vz λg hg=>Dp w6 ⟨x.p,6,Ae⟩ _ g (by show g≠x.p;exact jo g hg)
  ·exact Il h3 λg hg=>bn g (h3.lt g hg).2 (λe=>PC (e▸hg)) λe=>n12 g e g hg rfl
  ·exact Il h4 λg hg=>bn g (h4.lt g hg).2 (λe=>PD (e▸hg)) λe=>n3 g (.inl e) g hg rfl
 have ir:w.heap.size<=(w6.setCell ⟨x.p,6,Ae⟩ (Ad A' (x.s.ps.length+1) c')).heap.size:=by
  have:=EZ.size;simpa using this
 obtain⟨r1,r2⟩:=h.change (y:=⟨{x.s with ps:=x.s.ps++[z]},x.p,Ad A' (x.s.ps.length+1) c',x.vl,x.ve⟩) hy rfl rfl hb.1 hb.2 (λg hg hx=>bn g hg (λe=>hx (by rw[e];simp[SmB.blks])) (λe=>hx (by unfold SmB.blks;simp[e]))) ir;refine⟨A,c,hv,?_,A',c',w6,by rw[<-hv];exact ah,by simp[Dz,BS],?_,r1,ba.setCell (p:=⟨x.p,6,Ae⟩) h0 _,r2⟩
 ·rw[By w x.p 6 _ _ (0,0) h1,<-hv];rfl
 ·rw[By w6 x.p 6 _ _ (0,0) BS,<-hv];rfl
theorem Bt8:(Tryz.prog.info? 329).map (λi=>(i.zero,i.size,i.bytes))=Af (Af (.agg #[Aa Ab 0,Aa Ab 0,Aa Ac 0,Aa Ab 0,Aa Ab 0,Aa Ac 0]),6,48):=Gw
theorem Km.same {κ:Type} {K:κ->Ak} {w w':Aj} {M:Nat} {l:List (κ×Ak)} (h:Km K w M l) (hb:w'.heap[M]? =w.heap[M]?):Km K w' M l:=by
 obtain⟨es,clock,h1,h2⟩:=h;exact⟨es,clock,hb.trans h1,h2⟩
def Pj:Ak:= Ad Ae 0 0
theorem Be0 {O B M:Nat} {F:List Nat} {fix:List Ak} {W Y0 Y2:Aj} {l:List SmB} {kv:Ak} {p:Cl×Cl} (e1:fix.length=6) (e2:W.heap[B]? =Af (.cells (fix++[.map (Af M),kv]).toArray 326 (0,0))) (e3:Km pkK W M (Ou l))
  (e4:Pa O W kv l) (e5:Oi O W l) (e6:(l.map SmB.key).Nodup) (e7:(Hs B M kv l).Nodup) (e8:O<=B) (e9:O<=M) (UN:∀g∈F,g<W.heap.size/\g∉Hs B M kv l)
  (hl:l.length<=900000000) (hb:Below W.heap.size W Y0) (jo:p∉l.map SmB.key)
  (h1:Km pkK Y2 M (Ro p (.pointer (Af ⟨Y0.heap.size,0,Ae⟩)) (Ou l))) (h2:(Y0.alloc (.cells ((Sm.none p.1 p.2).cells Pj Pj Pj) 263)).grownBy Y2 (Af M)):
  ∃A c,kv= Ad A l.length c/\Y2.cell? ⟨B,7,Ae⟩=Af (Ad A l.length c)/\
   ∃A' c' Y5,(Builtin.append_ #[324,324] 324 #[Ad A l.length c,Ad (Af ⟨Y2.drew.heap.size,0,Ae⟩) 1 1]).run Do (Y2.drew.alloc (.cells (pkC p).toArray 329))= .ok (Ad A' (l.length+1) c') Y5/\
    Y5.frozen? ⟨B,7,Ae⟩=false/\Y5.cell? ⟨B,7,Ae⟩=Af (Ad A l.length c)/\Y2.drew.grownBy Y5 kv.ownBlock/\
    Ii O B F fix (Y5.setCell ⟨B,7,Ae⟩ (Ad A' (l.length+1) c')) (l++[⟨Sm.none p.1 p.2,Y0.heap.size,Pj,Pj,Pj⟩])/\Frm O F W (Y5.setCell ⟨B,7,Ae⟩ (Ad A' (l.length+1) c')):=by
 obtain⟨y,hy⟩:∃z:SmB,(⟨Sm.none p.1 p.2,Y0.heap.size,Pj,Pj,Pj⟩:SmB)=z:=⟨_,rfl⟩;have ad:=aI e2 e3 e4 e5 e8 e9;have Q7:B<W.heap.size:=(Au.1 e2).1;have KS:=e3.lt;have bj:=e7;unfold Hs at bj;simp only[Eh,Bp,Bk,Bl,Option.mem_toList,not_or]at bj;obtain⟨⟨b1,b2,b3⟩,⟨m1,m2⟩,k1,k2,k3⟩:=bj;have hW0:=hb.size
 have st2:∀g,g<W.heap.size->g≠M->Y2.heap[g]? =W.heap[g]? :=λg hg hM=>by
  have GT:g<Y0.heap.size:=Gu;refine(h2.block g Hu (λe=>hM (by injection e))).trans ?_;exact(Eg Y0 _ g GT).trans (hb.block g hg)
 have je:Y0.heap.size+1<=Y2.heap.size:=by have:=h2.size;simpa using this
 have e2':Y2.heap[B]? =Af (.cells (fix++[.map (Af M),kv]).toArray 326 (0,0)):=(st2 B Q7 b1).trans e2;obtain⟨ks,lu,S_⟩:=e4;have e4:Pa O W kv l:=⟨ks,lu,S_⟩;have bc:ks.length=l.length:=by rw[lu.length_eq,Bo]
 rw[bc]at S_;have ID:Y2.drew.ownsRow O 329 6 kv l.length (ks.flatMap pkC):=Il S_ λg hg=>st2 g (S_.lt g hg).2 (λe=>m1 (e▸hg));obtain⟨A,c,hv,-,-⟩:=Hw S_;have hO:O<=Y2.drew.heap.size:=by show O<=Y2.heap.size;omega
 obtain⟨A',c',Y5,ah,JP,da,VJ,qi,-,-,xn⟩:=Yk (sl:=324) Tryz.underlying324 Bt8 rfl Ha Ha Y2.drew O l.length kv _ ID hO Gu (pkC p) rfl (by simp[pkC,Dn]);obtain⟨kv',RT⟩:=ey (Value.slice A' (l.length+1) c');rw[RT]at ah JP xn;have IJ:Y2.heap.size<=Y5.heap.size:=VJ.size
 have st5:∀g,g<W.heap.size->g≠M->kv.ownBlock≠Af g->Y5.heap[g]? =W.heap[g]? :=λg hg hM hk=>
  (VJ.block g (by show g<Y2.heap.size;omega) (Ne.symm hk)).trans (st2 g hg hM)
 have e5':Y5.heap[B]? =Af (.cells (fix++[.map (Af M),kv]).toArray 326 (0,0)):=(st5 B Q7 b1 b2).trans e2;obtain⟨-,c7,cz,cset,-⟩:=Mn e1 e5';obtain⟨-,c7',-,-,-⟩:=Mn e1 e2'
 have hseam:Y5.heap[Y0.heap.size]? =Af (.cells ((Sm.none p.1 p.2).cells Pj Pj Pj) 263 (0,0)):=by
  refine(VJ.block _ (by show Y0.heap.size<Y2.heap.size;omega) (λe=>?_)).trans ?_
  ·have:=(e4.lt _ e.symm).2;omega
  ·refine(h2.block _ Gx (λe=>?_)).trans (Bz Y0 _);injection e with e;omega
 have stS:∀g,g≠B->(Y5.setCell ⟨B,7,Ae⟩ kv').heap[g]? =Y5.heap[g]? :=λg hg=>Dp Y5 ⟨B,7,Ae⟩ kv' g (by show g≠B;exact hg);have IM:y.key=p:=by subst hy;rfl
 have hyp:y.p=Y0.heap.size:=by subst hy;rfl
 have hyok:y.ok O (Y5.setCell ⟨B,7,Ae⟩ kv'):=by
  subst hy;refine⟨by show O<=Y0.heap.size;omega,(stS _ (by show Y0.heap.size≠B;omega)).trans hseam,⟨rfl,.inl ⟨rfl,rfl⟩⟩,⟨rfl,.inl ⟨rfl,rfl⟩⟩,⟨rfl,.inl ⟨rfl,rfl⟩⟩⟩
 have AD:y.blks=[Y0.heap.size]:=by subst hy;rfl
 have xv:∀g,kv'.ownBlock=Af g->g≠B/\g≠M/\g≠Y0.heap.size:=λg hg=>by
  rcases xn with h|⟨g',h,ju⟩
  ·rw[h]at hg;refine⟨λe=>b2 (e▸hg),λe=>m1 (e▸hg),λe=>?_⟩;have:=(e4.lt g hg).2;omega
  ·rw[h]at hg;injection hg with hg;have:Y2.drew.heap.size=Y2.heap.size:=rfl;refine⟨?_,?_,?_⟩<;>omega
 have hbW:Below O W (Y5.setCell ⟨B,7,Ae⟩ kv'):=by
  have q1:Below O W Y0:=hb.mono Gu;have q2:Below O W (Y0.alloc (.cells ((Sm.none p.1 p.2).cells Pj Pj Pj) 263)):=q1.alloc Gu _;have q3:Below O W Y2:=q2.grown h2 Hu (λk hk=>by injection hk with hk;omega);exact((q3.drew).trans da).setCell (p:=⟨B,7,Ae⟩) e8 kv'
 have hh:Ii O B F fix (Y5.setCell ⟨B,7,Ae⟩ kv') (l++[y])/\∀g∈F,(Y5.setCell ⟨B,7,Ae⟩ kv').heap[g]? =W.heap[g]? :=by
  refine Ao0 (w':=Y5.setCell ⟨B,7,Ae⟩ kv') (y:=y) (kv':=kv') e1 e5 e6 e7 e8 e9 UN ad (cset kv') ?_ ?_ hyok (by rw[IM];exact jo) ?_ (by rw[AD];simp) (λg hg=>?_) (λg hg hgB hgM DK=>(stS g hgB).trans (st5 g hg hgM DK)) ?_
  ·have h3:Km pkK Y5 M (Ro p (.pointer (Af ⟨Y0.heap.size,0,Ae⟩)) (Ou l)):=h1.same (VJ.block M (by show M<Y2.heap.size;omega) (λe=>m1 e.symm));have h4:=h3.same (w':=Y5.setCell ⟨B,7,Ae⟩ kv') (stS M (Ne.symm b1))
   have e:Ou (l++[y])=Ro p (.pointer (Af ⟨Y0.heap.size,0,Ae⟩)) (Ou l):=by
    rw[Ax3 p _ l jo];unfold Ou;rw[Ey];subst hy;rfl
   rw[e];exact h4
  ·have h5:=Il (w':=Y5.setCell ⟨B,7,Ae⟩ kv') JP λg hg=>stS g (xv g hg).1;refine⟨ks++[p],?_,?_⟩
   ·rw[Ey,Er,List.map_nil,IM];exact lu.append_right _
   ·rw[Bi,Bh,Bf,List.flatMap_nil,Fe,bc];exact h5
  ·exact xn.imp id λ⟨g,hg,ju⟩=>⟨g,hg,by have:Y2.drew.heap.size=Y2.heap.size:=rfl;omega⟩
  ·rw[AD,Ge]at hg;subst hg;exact⟨hW0,λe=>(xv _ e).2.2 rfl⟩
  ·have:(Y5.setCell ⟨B,7,Ae⟩ kv').heap.size=Y5.heap.size:=Gx;omega
 obtain⟨r1,r2⟩:=hh;refine⟨A,c,hv,by rw[<-hv];exact c7',A',c',Y5,by rw[<-hv,RT];exact ah,cz 7,by rw[<-hv];exact c7,VJ,by rw[RT,hy];exact r1,by rw[RT];exact⟨hbW,r2⟩⟩
theorem Bs3 (O B:Nat) (F:List Nat) (fix:List Ak) (x y:Cl) (l:List SmB) (w:Aj) (hx:x.q<=255) (hy:y.q<=255) (h:Ii O B F fix w l) (hl:l.length<=900000000):
  Al Do 247 #[.pointer (Af ⟨B,0,Ae⟩),clK x,clK y] w (Br2 O B F fix (yE x y) l w):=by
 have HC:=Ah (λw'=>Tv x y w' hx hy);have H:=Ah h;have HL:=Ah hl;obtain⟨K,hK⟩:=ey (yE x y);rw[hK];obtain⟨r,hr⟩:=ey (Kc x y);unfold yE at hK;rw[hr]at HC hK;obtain⟨x0,x1,x2⟩:=x;obtain⟨y0,y1,y2⟩:=y;have HK:=Ah hK;dsimp only at HC HK hx hy;unfold clK;dsimp only;have HB:=((Bx.start w).new #[x0,x1,Aa Ac x2] 90 rfl).new #[y0,y1,Aa Ac y2] 90 (N:=w.heap.size+1) Gx;clear h hl hK hr hx hy;go_enter Tryz.func247,Tryz.ntmps247;go_upto_region 1 with fail;obtain⟨N,hN⟩:=ez w.heap.size;rw[<-hN]at HB⊢;have db:=Ah hN;clear hN;obtain⟨P,hP⟩:=ey (N+1);rw[hP]at HB⊢;have n1:N≠P:=Gu;have n2:P≠N:=Gu;clear hP;obtain⟨⟨a0,a1,a2⟩,ax,ay,az⟩:=He (HB.b 0);obtain⟨⟨b0,b1,b2⟩,bx,nm,bz⟩:=He (HB.b 1);go_wp2_with fail;refine(HC.out _).mono ?_;rintro e w2 ⟨rfl,hb⟩;have H2:=HB.call hb.b;clear HB a0 a1 a2 ax ay az b0 b1 b2 bx nm bz hb;obtain⟨⟨a0,a1,a2⟩,ax,ay,az⟩:=He (H2.b 0);obtain⟨⟨b0,b1,b2⟩,bx,nm,bz⟩:=He (H2.b 1);go_upto_if 11 with fail;go_cut [12,13] (λ_ _ wx=>∃u v:Cl,Hid ((u,v)=K)/\Hid (Bx w [(N,#[Aa Ab u.x,Aa Ab u.y,Aa Ac (u.q:Int)],90),(P,#[Aa Ab v.x,Aa Ab v.y,Aa Ac (v.q:Int)],90)] wx))
 case first=>
  by_cases hr:0<r
  ·go_wp2;go_meet;exact⟨⟨y0,y1,y2⟩,⟨x0,x1,x2⟩,Ah (by rw[<-HK.out,Hd hr]),Ah ((((((H2.set 0 0 rfl (Aa Ab y0)).set 0 1 rfl (Aa Ab y1)).set 0 2 rfl (Aa Ac y2)).set 1 0 rfl (Aa Ab x0)).set 1 1 rfl (Aa Ab x1)).set 1 2 rfl (Aa Ac x2))⟩
  ·go_wp2;go_meet;exact⟨⟨x0,x1,x2⟩,⟨y0,y1,y2⟩,Ah (by rw[<-HK.out,Gz Gu]),Ah H2⟩
 clear a0 a1 a2 ax ay az b0 b1 b2 bx nm bz H2;obtain⟨⟨u0,u1,u2⟩,⟨v0,v1,v2⟩,vo,si⟩:=hcut;dsimp only at si;obtain⟨⟨a0,a1,a2⟩,-⟩:=He (si.out.b 0);obtain⟨⟨b0,b1,b2⟩,-⟩:=He (si.out.b 1);obtain⟨Q,hQ⟩:=ey wc.heap.size;have H4:=si.out.new #[u0,u1,Aa Ac u2,v0,v1,Aa Ac v2] 329 hQ;go_upto_region 4 with fail;generalize wc.alloc _=W at H4⊢;clear hQ a0 a1 a2 b0 b1 b2 si;obtain⟨p,hp⟩:∃z:Cl×Cl,(⟨u0,u1,u2⟩,⟨v0,v1,v2⟩)=z:=⟨_,rfl⟩;have hpk:Value.agg #[u0,u1,Aa Ac u2,v0,v1,Aa Ac v2]=pkK p:=by rw[<-hp];rfl
 obtain rfl:p=K:=hp.symm.trans vo.out;have hB:=H.out.below H4.below;have HB:=Ah hB;obtain⟨M,kv,e1,e2,e3,e4,e5,e6,e7,e8,e9,UN⟩:=hB;obtain⟨m6,m7,mz,uF,-⟩:=Mn e1 e2;obtain⟨R,hR⟩:=ey ((Of p (Ou l)).getD (.pointer Ae));have dy:=λW' (h:Km pkK W' M (Ou l))=>Wf dF Tryz.underlying323 (et:=332) (z:= .pointer Ae) (λw=>Gw) h p false;rw[hR,<-hpk]at dy;simp only[Ej,if_false]at dy;obtain⟨⟨q0,q1,q2,q3,q4,q5⟩,-⟩:=cU (H4.b 2)
 obtain⟨S,an⟩:∃S:Aj->Prop,S=λW'=>W'.cell? ⟨B,6,Ae⟩=Af (.map (Af M))/\(W'.cell? ⟨Q,0,Ae⟩=Af (Aa Ab u0)/\W'.cell? ⟨Q,1,Ae⟩=Af (Aa Ab u1)/\W'.cell? ⟨Q,2,Ae⟩=Af (Aa Ac u2)/\W'.cell? ⟨Q,3,Ae⟩=Af (Aa Ab v0)/\W'.cell? ⟨Q,4,Ae⟩=Af (Aa Ab v1)/\W'.cell? ⟨Q,5,Ae⟩=Af (Aa Ac v2))/\
  (Instr.lookup 323 (.map (Af M)) (.agg #[u0,u1,Aa Ac u2,v0,v1,Aa Ac v2]) false).run Do W'= .ok R W':=⟨_,rfl⟩
 have HSO:Hid (∀W',S W'->W'.cell? ⟨B,6,Ae⟩=Af (.map (Af M))/\(W'.cell? ⟨Q,0,Ae⟩=Af (Aa Ab u0)/\W'.cell? ⟨Q,1,Ae⟩=Af (Aa Ab u1)/\W'.cell? ⟨Q,2,Ae⟩=Af (Aa Ac u2)/\W'.cell? ⟨Q,3,Ae⟩=Af (Aa Ab v0)/\W'.cell? ⟨Q,4,Ae⟩=Af (Aa Ab v1)/\W'.cell? ⟨Q,5,Ae⟩=Af (Aa Ac v2))/\
  (Instr.lookup 323 (.map (Af M)) (.agg #[u0,u1,Aa Ac u2,v0,v1,Aa Ac v2]) false).run Do W'= .ok R W'):=Ah λW' h=>by subst an;exact h
 have ae:Hid (∀W',Below W.heap.size W W'->S W'):=Ah λW' h=>by
  subst an;exact⟨Gv h m6,⟨Gv h q0,Gv h q1,Gv h q2,Gv h q3,Gv h q4,Gv h q5⟩,dy W' (e3.below h e3.lt)⟩
 have HPK:=Ah hpk;clear dy m6 m7 q0 q1 q2 q3 q4 q5 an hpk;have GV:=tB p l;refine Ao (S:=S) Gw (ae.out _ (Ag _ _).drew) (λhS=>?_);have hb:Below W.heap.size W W.drew:=(Ag _ _).drew;generalize W.drew=X0 at hb hS⊢;refine Hh 0 1 2 3 ?_;refine Qp 4 5 ?_;rcases GV with⟨l1,x,l2,rfl,WM,hg,mu⟩|⟨mu,hg⟩
 ·obtain rfl:x.ptr=R:=by rw[<-hR,hg];rfl
  unfold SmB.ptr at HSO⊢;refine Kg 6 ?_;refine An Gw ?_ _;go_wp2_with fail;refine Ao (S:=S) Gw (ae.out _ hb.drew) (λhS=>?_);have aj:Below W.heap.size W X0.drew:=hb.drew;generalize X0.drew=X1 at aj hS⊢;refine Hh 0 1 2 3 ?_;refine Oe 4 5 6 ?_;refine An Gw ?_ _;go_wp2;go_ret;exact⟨l1,x,l2,rfl,WM,.inl rfl,HB.out.below aj,(H.out.frm H4.below).trans (HB.out.frm aj)⟩
 ·obtain rfl:Value.pointer Ae=R:=by rw[<-hR,hg];rfl
  refine Kg 6 ?_;refine An Gw ?_ _;go_wp2_with fail;clear hS HSO ae S;have H5:=H4.call hb;obtain⟨⟨q0,q1,q2,q3,q4,q5⟩,-⟩:=cU (H5.b 2);obtain⟨⟨a0,a1,a2⟩,-⟩:=He (H5.b 0);obtain⟨⟨b0,b1,b2⟩,-⟩:=He (H5.b 1);have Q7:=(Au.1 e2).1;obtain⟨m6,-,-,-,-⟩:=Mn e1 (kept hb e2 Q7);have QP:=e3.lt
  obtain⟨jz,hBw,hkw⟩:M<w.heap.size/\B<w.heap.size/\∀g,kv.ownBlock=Af g->g<w.heap.size:=by
   obtain⟨M9,kv9,g1,g2,g3,g4,-⟩:=H.out;obtain⟨n6,n7,-⟩:=Mn g1 (kept (H4.below) g2 (Au.1 g2).1);obtain⟨m6,m7,-⟩:=Mn e1 e2;rw[n6]at m6;rw[n7]at m7;obtain rfl:M9=M:=by simpa using m6
   obtain rfl:kv9=kv:=by simpa using m7
   exact⟨g3.lt,(Au.1 g2).1,λg hg=>(g4.lt g hg).2⟩
  have hBM:B≠M:=by
   unfold Hs at e7;simp only[Eh,Bk,not_or]at e7;exact e7.1.1
  have hNw:=H4.lo 0 _ _ _ rfl;have R7:=H4.lo 1 _ _ _ rfl;have hQw:=H4.lo 2 _ _ _ rfl
  obtain⟨S,an⟩:∃S:Aj->Prop,S=λW'=>W'.cell? ⟨B,6,Ae⟩=Af (.map (Af M))/\(W'.cell? ⟨Q,0,Ae⟩=Af (Aa Ab u0)/\W'.cell? ⟨Q,1,Ae⟩=Af (Aa Ab u1)/\W'.cell? ⟨Q,2,Ae⟩=Af (Aa Ac u2)/\W'.cell? ⟨Q,3,Ae⟩=Af (Aa Ab v0)/\W'.cell? ⟨Q,4,Ae⟩=Af (Aa Ab v1)/\W'.cell? ⟨Q,5,Ae⟩=Af (Aa Ac v2))/\
   (W'.cell? ⟨N,0,Ae⟩=Af (Aa Ab u0)/\W'.cell? ⟨N,1,Ae⟩=Af (Aa Ab u1)/\W'.cell? ⟨N,2,Ae⟩=Af (Aa Ac u2))/\W'.cell? ⟨P,0,Ae⟩=Af (Aa Ab v0)/\W'.cell? ⟨P,1,Ae⟩=Af (Aa Ab v1)/\W'.cell? ⟨P,2,Ae⟩=Af (Aa Ac v2):=⟨_,rfl⟩
  have HSO:Hid (∀W',S W'->W'.cell? ⟨B,6,Ae⟩=Af (.map (Af M))/\(W'.cell? ⟨Q,0,Ae⟩=Af (Aa Ab u0)/\W'.cell? ⟨Q,1,Ae⟩=Af (Aa Ab u1)/\W'.cell? ⟨Q,2,Ae⟩=Af (Aa Ac u2)/\W'.cell? ⟨Q,3,Ae⟩=Af (Aa Ab v0)/\W'.cell? ⟨Q,4,Ae⟩=Af (Aa Ab v1)/\W'.cell? ⟨Q,5,Ae⟩=Af (Aa Ac v2))/\
   (W'.cell? ⟨N,0,Ae⟩=Af (Aa Ab u0)/\W'.cell? ⟨N,1,Ae⟩=Af (Aa Ab u1)/\W'.cell? ⟨N,2,Ae⟩=Af (Aa Ac u2))/\W'.cell? ⟨P,0,Ae⟩=Af (Aa Ab v0)/\W'.cell? ⟨P,1,Ae⟩=Af (Aa Ab v1)/\W'.cell? ⟨P,2,Ae⟩=Af (Aa Ac v2)):=Ah λW' h=>by subst an;exact h
  have ae:Hid (∀W',(∀g,g<X0.heap.size->g≠M->W'.heap[g]? =X0.heap[g]?)->S W'):=Ah λW' h=>by
   have hc:∀g j v,X0.cell? ⟨g,j,Ae⟩=Af v->g<X0.heap.size->g≠M->W'.cell? ⟨g,j,Ae⟩=Af v:=λg j v hv h1 h2=>by
    unfold World.cell? at hv⊢;rw[h g h1 h2];exact hv
   have z1:=H5.lt 0 rfl;have z2:=H5.lt 1 rfl;have z3:=H5.lt 2 rfl;subst an;exact⟨hc _ _ _ m6 (oHx hb.size) hBM,⟨hc _ _ _ q0 z3 Gu,hc _ _ _ q1 z3 Gu,hc _ _ _ q2 z3 Gu,hc _ _ _ q3 z3 Gu,hc _ _ _ q4 z3 Gu,hc _ _ _ q5 z3 Gu⟩,⟨hc _ _ _ a0 z1 Gu,hc _ _ _ a1 z1 Gu,hc _ _ _ a2 z1 Gu⟩,hc _ _ _ b0 z2 Gu,hc _ _ _ b1 z2 Gu,hc _ _ _ b2 z2 Gu⟩
  clear q0 q1 q2 q3 q4 q5 a0 a1 a2 b0 b1 b2 m6 an;refine Ao (S:=S) Gw (ae.out _ λ_ _ _=>rfl) (λhS=>?_);have aj:Below W.heap.size W X0.drew:=hb.drew;have O9:Hid (X0.drew.heap=X0.heap):=Ah rfl;generalize X0.drew=Y0 at aj hS O9⊢;refine Hh 0 1 2 3 ?_;refine Hh 4 5 6 7 ?_;refine rdy 8 (λK hK=>?_);go_simp;have GI:Km pkK (Y0.alloc (.cells ((Sm.none p.1 p.2).cells Pj Pj Pj) 263)) M (Ou l):=(e3.below aj e3.lt).below ((Ag Y0.heap.size Y0).alloc (Am _) _) (Bq e3.lt aj.size);obtain⟨Y2,ah,yi,du⟩:=Av2 dF Tryz.underlying323 GI p (.pointer (Af ⟨Y0.heap.size,0,Ae⟩));obtain⟨A,c,hkv,k7,A',c',Y5,DC,z5,c5,VJ,js,xg⟩:=Be0 e1 e2 e3 e4 e5 e6 e7 e8 e9 UN HL.out aj mu yi du;have bt:(Sm.none p.1 p.2).cells Pj Pj Pj= #[Aa Ab u0,Aa Ab u1,Aa Ac u2,Aa Ab v0,Aa Ab v1,Aa Ac v2,Ad Ae 0 0,Ad Ae 0 0,Ad Ae 0 0]:=by rw[<-hp];rfl
  rw[bt]at ah du;rw[<-HPK.out]at ah
  have hyz:∀g,g<X0.heap.size->g<(Y0.alloc (.cells #[u0,u1,Aa Ac u2,v0,v1,Aa Ac v2,Ad Ae 0 0,Ad Ae 0 0,Ad Ae 0 0] 263)).heap.size:=λg hg=>by
   have:Y0.heap.size=X0.heap.size:=by rw[O9.out]
   simp;omega
  have wy:S (Y0.alloc (.cells #[u0,u1,Aa Ac u2,v0,v1,Aa Ac v2,Ad Ae 0 0,Ad Ae 0 0,Ad Ae 0 0] 263)):=ae.out _ λg hg _=>(Eg Y0 _ g (by rw[O9.out];exact hg)).trans (by rw[O9.out]);have pa:Hid (S Y2):=Ah (ae.out _ λg hg hgM=>(du.block g (hyz g hg) (λe=>hgM (by injection e))).trans ((Eg Y0 _ g (by rw[O9.out];exact hg)).trans (by rw[O9.out])));refine hK.o wy (λhS=>?_);clear hK K wy;generalize Y0.alloc _=Y1 at hS ah du⊢;have XF:=Ah DC;have IQ:=Ah js;have FV:=Ah xg;clear DC js xg GI bt;refine rdy 9 (λK hK=>?_);go_simp;refine hK.o pa.out (λhS=>?_);clear hK K ah;refine An Gw ?_ _;go_wp2_with fail;obtain⟨-,⟨q0,q1,q2,q3,q4,q5⟩,-⟩:=HSO.out _ pa.out;clear hS HSO pa ae hyz;have hpkc:(pkC p).toArray= #[Aa Ab u0,Aa Ab u1,Aa Ac u2,Aa Ab v0,Aa Ab v1,Aa Ac v2]:=by rw[<-hp];rfl
  obtain⟨S6,an⟩:∃S6:Aj->Prop,S6=λW'=>W'.cell? ⟨Q,0,Ae⟩=Af (Aa Ab u0)/\W'.cell? ⟨Q,1,Ae⟩=Af (Aa Ab u1)/\W'.cell? ⟨Q,2,Ae⟩=Af (Aa Ac u2)/\W'.cell? ⟨Q,3,Ae⟩=Af (Aa Ab v0)/\W'.cell? ⟨Q,4,Ae⟩=Af (Aa Ab v1)/\W'.cell? ⟨Q,5,Ae⟩=Af (Aa Ac v2):=⟨_,rfl⟩;have HSO:Hid (∀W',S6 W'->W'.cell? ⟨Q,0,Ae⟩=Af (Aa Ab u0)/\W'.cell? ⟨Q,1,Ae⟩=Af (Aa Ab u1)/\W'.cell? ⟨Q,2,Ae⟩=Af (Aa Ac u2)/\W'.cell? ⟨Q,3,Ae⟩=Af (Aa Ab v0)/\W'.cell? ⟨Q,4,Ae⟩=Af (Aa Ab v1)/\W'.cell? ⟨Q,5,Ae⟩=Af (Aa Ac v2)):=Ah λW' h=>by subst an;exact h
  have ae:Hid (∀W',W'.heap[Q]? =Y2.heap[Q]? ->S6 W'):=Ah λW' h=>by
   have hc:∀j v,Y2.cell? ⟨Q,j,Ae⟩=Af v->W'.cell? ⟨Q,j,Ae⟩=Af v:=λj v hv=>by
    unfold World.cell? at hv⊢;rw[h];exact hv
   subst an;exact⟨hc _ _ q0,hc _ _ q1,hc _ _ q2,hc _ _ q3,hc _ _ q4,hc _ _ q5⟩
  have sc:Q<Y2.heap.size:=by
   have hz:(Y2.cell? ⟨Q,0,Ae⟩).isSome=true:=by rw[q0];rfl
   unfold World.cell? at hz
   cases hh:Y2.heap[Q]? with
   |none=>rw[hh]at hz;cases hz
   |some o=>exact(Au.1 hh).1
  clear q0 q1 q2 q3 q4 q5 an;refine Ao (S:=S6) Gw (ae.out _ rfl) (λhS=>?_);have CP:Hid (S6 (Y2.drew.alloc (.cells #[u0,u1,Aa Ac u2,v0,v1,Aa Ac v2] 329))):=Ah (ae.out _ ((Eg Y2.drew _ Q sc).trans rfl));have R8:Y5.heap[Q]? =Y2.heap[Q]? :=(VJ.block Q sc (λe=>by have:=hkw Q e.symm;omega)).trans rfl;have O8:Hid (S6 Y5):=Ah (ae.out _ R8);have HS6:Hid (S6 (Y5.setCell ⟨B,7,Ae⟩ (Ad A' (l.length+1) c'))):=Ah (ae.out _ ((Dp Y5 ⟨B,7,Ae⟩ _ Q (by show Q≠B;omega)).trans R8));have DC:=XF.out;rw[hpkc]at DC;have hk7:Y2.drew.cell? ⟨B,7,Ae⟩=Af (Ad A l.length c):=k7;have hB7:B<Y2.heap.size:=by have:=aj.size;have:Q<Y2.heap.size:=sc;omega
  generalize Y2.drew=Z at hS CP DC hk7⊢;have hk8:(Z.alloc (.cells #[u0,u1,Aa Ac u2,v0,v1,Aa Ac v2] 329)).cell? ⟨B,7,Ae⟩=Af (Ad A l.length c):=Gv ((Ag Z.heap.size Z).alloc (Am _) _) hk7;have XF:=Ah DC;have hQ5:=Ah R8;clear DC k7 R8 VJ du yi;obtain⟨M7,kv7,f1,f2,f3,-⟩:=IQ.out;obtain⟨f6,-⟩:=Mn f1 f2
  have SD:Ou (l++[⟨Sm.none p.1 p.2,Y0.heap.size,Pj,Pj,Pj⟩])=Ro p (.pointer (Af ⟨Y0.heap.size,0,Ae⟩)) (Ou l):=by
   rw[Ax3 p _ l mu];unfold Ou;rw[Ey];rfl
  have dy:=Wf dF Tryz.underlying323 (et:=332) (z:= .pointer Ae) (λw=>Gw) (f3.same (w':=(Y5.setCell ⟨B,7,Ae⟩ (Ad A' (l.length+1) c')).drew) rfl) p false;rw[SD,dX,Hd rfl,<-HPK.out]at dy;simp only[Ej,if_false,Option.getD_some]at dy
  obtain⟨S7,ZS⟩:∃S7:Aj->Prop,S7=λW'=>W'.cell? ⟨B,6,Ae⟩=Af (.map (Af M7))/\S6 W'/\
   (Instr.lookup 323 (.map (Af M7)) (.agg #[u0,u1,Aa Ac u2,v0,v1,Aa Ac v2]) false).run Do W'= .ok (.pointer (Af ⟨Y0.heap.size,0,Ae⟩)) W':=⟨_,rfl⟩
  have HSO7:Hid (∀W',S7 W'->W'.cell? ⟨B,6,Ae⟩=Af (.map (Af M7))/\(W'.cell? ⟨Q,0,Ae⟩=Af (Aa Ab u0)/\W'.cell? ⟨Q,1,Ae⟩=Af (Aa Ab u1)/\W'.cell? ⟨Q,2,Ae⟩=Af (Aa Ac u2)/\W'.cell? ⟨Q,3,Ae⟩=Af (Aa Ab v0)/\W'.cell? ⟨Q,4,Ae⟩=Af (Aa Ab v1)/\W'.cell? ⟨Q,5,Ae⟩=Af (Aa Ac v2))/\
   (Instr.lookup 323 (.map (Af M7)) (.agg #[u0,u1,Aa Ac u2,v0,v1,Aa Ac v2]) false).run Do W'= .ok (.pointer (Af ⟨Y0.heap.size,0,Ae⟩)) W'):=Ah λW' h=>by subst ZS;exact⟨h.1,HSO.out _ h.2.1,h.2.2⟩
  have QC:Hid (S7 (Y5.setCell ⟨B,7,Ae⟩ (Ad A' (l.length+1) c')).drew):=Ah (by
   subst ZS;exact⟨f6,ae.out _ ((Dp Y5 ⟨B,7,Ae⟩ _ Q (by show Q≠B;omega)).trans hQ5.out),dy⟩)
  clear ZS f1 f2 f3 f6 SD dy;refine Hh 0 1 2 3 ?_;refine Kg 5 ?_;refine Ap (rs:=[4,6]) Gw Gx (Aq rfl (λK hK=>?_) (Aq rfl (λK hK=>?_) Ar));clear hk8;go_simp;refine hK.o hS (λhS=>?_);clear hK K;refine rdy 6 (λK hK=>?_);rotate_left;go_simp;refine hK.o CP.out (λhS=>?_);clear hK K;refine rdy 4 (λK hK=>?_)
  all_goals
   go_simp;refine hK.o CP.out (λhS=>?_);clear hK K;refine rdy 7 (λK hK=>?_);refine Jw (by simp[Region.wanted]) (.tmp 37) (.tmp 39) 324 rfl _ _ Qs Qs _ _ XF.out ?_;refine hK.o O8.out (λhS=>?_);clear hK K;refine Qp 8 9 ?_;refine rdy 10 (λK hK=>?_);go_simp;refine hK.o HS6.out (λhS=>?_);clear hK K hS;refine An Gw ?_ _;go_wp2_with fail;generalize Y5.setCell _ _=Z6 at IQ FV HS6 QC⊢;clear HS6 O8 CP XF;refine Ao (S:=S7) Gw (QC.out) (λhS=>?_);have IQ:=Ah (IQ.out.below (Ag Z6.heap.size Z6).drew);have FV:=Ah (FV.out.trans (⟨(Ag O Z6).drew,λ_ _=>rfl⟩:Frm O F Z6 Z6.drew));generalize Z6.drew=Z7 at IQ FV hS⊢;have HSO:=HSO7;refine Hh 0 1 2 3 ?_;refine Oe 4 5 6 ?_;refine An Gw ?_ _;go_wp2;go_ret;exact⟨l,_,[],rfl,rfl,.inr ⟨rfl,rfl,mu,rfl⟩,IQ.out,(H.out.frm H4.below).trans FV.out⟩
theorem Pn {O B N:Nat} {F:List Nat} {v:LkV} {k:Lk} {w:Aj} {l:List SmB} (h:Ii O B F (v.fix k N) w l):
  w.cell? ⟨B,0,Ae⟩=Af (Aa Ab k.a)/\w.cell? ⟨B,1,Ae⟩=Af (Aa Ab k.b)/\w.cell? ⟨B,2,Ae⟩=Af (Ad v.cA v.nc v.cc)/\w.cell? ⟨B,3,Ae⟩=Af (Ad v.pA N v.pc)/\w.cell? ⟨B,4,Ae⟩=Af (Ad v.iA N v.ic)/\w.cell? ⟨B,5,Ae⟩=Af (Ad v.hA N v.hc):=by
 obtain⟨M,kv,e1,e2,-⟩:=h;obtain⟨-,-,-,-,hc⟩:=Mn e1 e2;exact⟨hc 0 _ rfl,hc 1 _ rfl,hc 2 _ rfl,hc 3 _ rfl,hc 4 _ rfl,hc 5 _ rfl⟩
theorem Br4 {k:Lk} {id e:Nat} {s:Sm} (h:(nbI k.a k.b id e).2≠0):k.add id e s={s with es:=s.es++[id]}:=by
 unfold Lk.add;rw[Hd h]
theorem Br6 {k:Lk} {id e:Nat} {s:Sm} (h:(nbI k.a k.b id e).2=0) (h2:(nbI k.a k.b id e).1<id):k.add id e s=s:=by
 unfold Lk.add;rw[Gz (λg=>g h),Hd h2]
theorem Br8 {k:Lk} {id e n:Nat} {s:Sm} (h:(nbI k.a k.b id e).2=0) (h2:¬(nbI k.a k.b id e).1<id) (hn:(nbI k.a k.b id e).1=(n:Int)) (hk:Hm k.cr id e=0):
  k.add id e s={s with ps:=s.ps++[if k.img id=s.b then (n,id)else (id,n)]}:=by
 unfold Lk.add;rw[Gz (λg=>g h),Gz h2,Hd hk,hn];by_cases hb:k.img id=s.b
 ·simp only[hb,if_true,Eu];simp
 ·simp only[hb,if_false,Eu];simp
theorem Br5 {k:Lk} {id e n:Nat} {s:Sm} (h:(nbI k.a k.b id e).2=0) (h2:¬(nbI k.a k.b id e).1<id) (hn:(nbI k.a k.b id e).1=(n:Int)) (hk:Hm k.cr id e≠0):
  k.add id e s={s with ls:=s.ls++[if k.hs.getD id 0<k.hs.getD n 0 then (if k.img id=s.b then 1 else 0,id,n)else (if k.img id=s.b then 1 else 0,n,id)]}:=by
 unfold Lk.add;rw[Gz (λg=>g h),Gz h2,Gz hk,hn];simp only[Eu]
theorem Ao1 {O B:Nat} {F:List Nat} {fix:List Ak} {w:Aj} {l1 l2:List SmB} {x:SmB} (h:Ii O B F fix w (l1++x::l2)):
  w.cell? ⟨x.p,3,Ae⟩=Af (Aa Ab x.s.b.x)/\w.cell? ⟨x.p,4,Ae⟩=Af (Aa Ab x.s.b.y)/\w.cell? ⟨x.p,5,Ae⟩=Af (Aa Ac x.s.b.q):=by
 obtain⟨-,h1,-⟩:=h.sms.1 x Gx;have hc:=λj=>By w x.p j _ _ (0,0) h1;exact⟨(hc 3).trans rfl,(hc 4).trans rfl,(hc 5).trans rfl⟩
theorem Au6 (O B N id e:Nat) (F:List Nat) (k:Lk) (v:LkV) (l:List SmB) (w:Aj) (hk:rM k N) (hid:id<N) (he:e<=2) (hm:Yj O F w k N v) (h:Ii O B F (v.fix k N) w l) (hl:l.length<=1000000)
  (hx:∀x∈l,x.s.ps.length<=1000000/\x.s.ls.length<=1000000/\x.s.es.length<=1000000):
  Al Do 203 #[.pointer (Af ⟨B,0,Ae⟩),id,Aa Ac e] w (wW O B F (v.fix k N) (k.meet id e (l.map (·.s))) w):=by
 have hs:=hk.pat.sheet;have LT:id<Hg k.a k.b:=hk.n▸hid;have hN:N<=1024:=by rw[hk.n];exact Sw hs
 have H1:=λw'=>Sj k.a k.b id w' hs;rw[Ao4 LT]at H1;unfold Nj at H1;obtain⟨ff,kr⟩:=Bv6 hs LT he;have H2:=λw' (hQ:Qt w')=>Sh (Hf k.a id).x (Hf k.a id).y (Hf k.a id).q e w' Gu Gu hQ;rw[ff]at H2;unfold Nj at H2;have ig:id<k.ms.length:=by rw[hk.ms];exact hid
 have bv:id<k.is.length:=by rw[hk.is];exact hid
 have vg:=hk.mok _ (Ay ig);have jb:=hk.cok _ (Ay bv);have H3:=λw' (hQ:Qf w') (hT:Tn w')=>Ux lE k.ms[id] (Sg (Hf k.a id) e).1 w' vg kr hQ hT;unfold clR at H3
 have jc:k.other id e=(Li k.ms[id] (Sg (Hf k.a id) e).1).1:=by
  unfold Lk.other;rw[Ds,Aw ig];unfold Pv;simp only[Option.getD_some,vg,kr,Bool.and_self,if_true]
 have DN:k.img id=k.is[id]:=by
  unfold Lk.img;rw[Ds,Aw bv];rfl
 have hoq:(k.other id e).q<=255:=by
  rw[jc];have:=yL k.ms[id] (Sg (Hf k.a id) e).1;omega
 have hiq:(k.img id).q<=255:=by
  rw[DN];unfold Cl.ok at jb;have:=(Jt.1 jb).2.2.2.2;omega
 rw[<-jc]at H3;obtain⟨⟨c0,c1,c2⟩,hc⟩:=ey (Hf k.a id);rw[hc]at H1 H2 H3;obtain⟨⟨d0,d1,d2⟩,hd⟩:=ey ((Sg (⟨c0,c1,c2⟩:Cl) e).1);rw[hd]at H2 H3;obtain⟨oe,hoe⟩:=ey ((Li k.ms[id] ⟨d0,d1,d2⟩).2);rw[hoe]at H3;have H4:=λw' (hQ:Qt w')=>Ji k.a k.b id e w' hs Gu hQ;have zu:=hk.pat
 have SH:(nbI k.a k.b id e).2=0->0<=(nbI k.a k.b id e).1/\(nbI k.a k.b id e).1<N:=λh=>by
  have:=fF hs h;have hn:=hk.n;unfold Hg at hn;omega
 have Q':=λ(h0:(nbI k.a k.b id e).2=0) (h1:(id:Int)<=(nbI k.a k.b id e).1) (w':Aj) (hf:Frm O F w w')=>yG k.a k.b v.cA k.cr v.nc v.cc id e id w' (hm w' hf).1 (hm w' hf).2.1 hk.pat (hm w' hf).2.2.2.2.2.1.qt (Bk9 h0 h1) Gu Gu;have hAE:=λ(s:Sm)=>@Br4 k id e s;have hAN:=λ(s:Sm)=>@Br6 k id e s;have f':=λ(s:Sm) (n:Nat)=>@Br8 k id e n s;have YT:=λ(s:Sm) (n:Nat)=>@Br5 k id e n s;obtain⟨⟨nn,ne⟩,fd⟩:=ey (nbI k.a k.b id e);rw[fd]at H4 SH Q' hAE hAN f' YT;obtain⟨kk,jn⟩:=ey (Hm k.cr id e);rw[jn]at Q' f' YT;dsimp only at Q' SH hAE hAN f' YT;unfold eQ at H4;have YU:=λ(w':Aj) (h:Ii O B F (v.fix k N) w' l)=>Bs3 O B F (v.fix k N) (k.img id) (k.other id e) l w' hiq hoq h Gu;rw[show yE (k.img id) (k.other id e)=k.key id e from rfl]at YU;have hRM:=λ(w':Aj) (hf:Frm O F w w')=>Cb4 (hm w' hf).2.2.1 id ig;have hRI:=λ(w':Aj) (hf:Frm O F w w')=>Ax4 (hm w' hf).2.2.2.1 id bv;rw[<-DN]at hRI;obtain⟨⟨mt,mx,my⟩,pr⟩:=ey (k.ms[id]);rw[pr]at hRM H3;obtain⟨⟨i0,i1,i2⟩,hig⟩:=ey (k.img id);obtain⟨⟨o0,o1,o2⟩,hog⟩:=ey (k.other id e);rw[hog]at H3 YU;rw[hig]at YU hRI;unfold clK at YU;dsimp only at H1 H2 H3 YU hRM hRI H4;have HC5:=Ah Q';have HAE:=Ah hAE;have HAN:=Ah hAN;have XF:=Ah f';have HAL:=Ah YT;have lv:=Ah SH;clear Q' hAE hAN f' YT SH fd jn zu;have sj:=Ah H1;have CA:=Ah H2;have XH:=Ah H3;have TO:=Ah H4;have EE:=Ah YU;have HRM:=Ah hRM;have YA:=Ah hRI;have HM:=Ah hm;have HB:=Ah h;have HX:=Ah hx;have HIG:=Ah hig;have HK:=Ah hk;have HL:=Ah hl;have q0:(id:Int)<(N:Int):=Gu;clear YU hRM hRI H1 H2 H3 H4 ff kr ig bv vg jb jc DN hoq hiq hc hd hoe pr hig hog hm hx hs LT h hk hl;obtain⟨f0,f1,-,f3,f4,-⟩:=Pn HB.out;go_enter Tryz.func203,Tryz.ntmps203;go_wp2_with fail;refine(sj.out _).mono ?_;rintro ee w1 ⟨rfl,hb⟩
 have H1:=(Bx.start w).call hb;clear f0 f1 f3 f4;obtain⟨C1,Q8⟩:=ey w1.heap.size;have H2:=H1.new #[c0,c1,Aa Ac c2] 90 Q8;go_upto_region 1 with fail;generalize w1.alloc _=W1 at H2⊢;clear H1 hb Q8;obtain⟨⟨a0,a1,a2⟩,-⟩:=He (H2.b 0);go_wp2_with fail;refine(CA.out _ (HM.out _ (HB.out.frm H2.below)).2.2.2.2.2.1.qt).mono ?_;rintro ee w2 ⟨rfl,hb⟩;have H3:=H2.call hb;clear a0 a1 a2 H2;obtain⟨C2,z'⟩:=ey w2.heap.size;have H4:=H3.new #[d0,d1,Aa Ac d2] 90 z';go_upto_region 2 with fail;generalize w2.alloc _=W2 at H4⊢;clear H3 hb z';have hF:=HB.out.frm H4.below;obtain⟨-,-,-,f3,-,-⟩:=Pn (HB.out.below H4.below);obtain⟨pb,po,VX,dw,p0,p1,p2⟩:=HRM.out _ hF;rw[VX]at f3;obtain⟨⟨a0,a1,a2⟩,-⟩:=He (H4.b 1);have AV:Hid (∀W',Below W2.heap.size W2 W'->Qf W'/\Tn W'):=Ah λW' hb=>(HM.out _ (HB.out.frm (H4.below.trans (hb.mono H4.below.size)))).2.2.2.2.2
 obtain⟨S,an⟩:∃S:Aj->Prop,S=λW'=>W'.cell? ⟨B,3,Ae⟩=Af (Ad (Af ⟨pb,po,Ae⟩) N v.pc)/\(W'.cell? ⟨pb,po+id*3,Ae⟩=Af (Aa Ac mt)/\W'.cell? ⟨pb,po+id*3+1,Ae⟩=Af (Aa Ab mx)/\W'.cell? ⟨pb,po+id*3+2,Ae⟩=Af (Aa Ab my))/\
  W'.cell? ⟨C2,0,Ae⟩=Af (Aa Ab d0)/\W'.cell? ⟨C2,1,Ae⟩=Af (Aa Ab d1)/\W'.cell? ⟨C2,2,Ae⟩=Af (Aa Ac d2):=⟨_,rfl⟩
 have HSO:Hid (∀W',S W'->W'.cell? ⟨B,3,Ae⟩=Af (Ad (Af ⟨pb,po,Ae⟩) N v.pc)/\(W'.cell? ⟨pb,po+id*3,Ae⟩=Af (Aa Ac mt)/\W'.cell? ⟨pb,po+id*3+1,Ae⟩=Af (Aa Ab mx)/\W'.cell? ⟨pb,po+id*3+2,Ae⟩=Af (Aa Ab my))/\
  W'.cell? ⟨C2,0,Ae⟩=Af (Aa Ab d0)/\W'.cell? ⟨C2,1,Ae⟩=Af (Aa Ab d1)/\W'.cell? ⟨C2,2,Ae⟩=Af (Aa Ac d2)):=Ah λW' h=>by subst an;exact h
 have ae:Hid (∀W',Below W2.heap.size W2 W'->S W'):=Ah λW' h=>by
  subst an;exact⟨Gv h f3,⟨Gv h p0,Gv h p1,Gv h p2⟩,Gv h a0,Gv h a1,Gv h a2⟩
 clear f3 p0 p1 p2 a0 a1 a2 an hF;go_cut [10] (λTE wx=>∃C3,TE= .pointer (Af ⟨C3,0,Ae⟩)/\Bx w [(C1,#[c0,c1,Aa Ac c2],90),(C2,#[d0,d1,Aa Ac d2],90),(C3,#[o0,o1,Aa Ac o2],90)] wx)
 case first=>
  refine Ao (S:=S) Gw (ae.out _ (Ag _ _).drew) (λhS=>?_);have hb:Below W2.heap.size W2 W2.drew:=(Ag _ _).drew;have H:=H4.drew;generalize W2.drew=X0 at hb hS H⊢;clear H4;refine Hh 0 1 2 3 ?_;refine Hh 4 5 6 7 ?_;refine Ap (rs:=[8,12]) Gw Gx (Aq rfl (λK hK=>?_) (Aq rfl (λK hK=>?_) Ar));go_simp;refine(XH.out _ (AV.out _ hb).1 (AV.out _ hb).2).mono ?_;rintro ee X1 ⟨rfl,ac⟩;have hb:=hb.trans (ac.mono hb.size);have H:=H.call ac;refine hK.o (ae.out _ hb) (λhS=>?_);clear hK K ac;refine Oe 9 10 11 ?_;refine rdy 12 (λK hK=>?_);obtain⟨C3,ZB⟩:=ey X1.heap.size;have H:=H.new #[Aa Ab 0,Aa Ab 0,Aa Ac 0] 90 ZB;have QM:W2.heap.size<=C3:=ZB▸hb.size;have hb:=hb.alloc hb.size (.cells #[Aa Ab 0,Aa Ab 0,Aa Ac 0] 90);go_simp;refine hK.o (ae.out _ hb) (λhS=>?_);clear hK K ZB;generalize X1.alloc _=X2 at H hb hS⊢;rotate_left;obtain⟨C3,ZB⟩:=ey X0.heap.size;have H:=H.new #[Aa Ab 0,Aa Ab 0,Aa Ac 0] 90 ZB;have QM:W2.heap.size<=C3:=ZB▸hb.size;have hb:=hb.alloc hb.size (.cells #[Aa Ab 0,Aa Ab 0,Aa Ac 0] 90);go_simp;refine hK.o (ae.out _ hb) (λhS=>?_);clear hK K ZB;generalize X0.alloc _=X2 at H hb hS⊢;refine rdy 8 (λK hK=>?_);go_simp;refine(XH.out _ (AV.out _ hb).1 (AV.out _ hb).2).mono ?_;rintro ee X1 ⟨rfl,ac⟩;have hb:=hb.trans (ac.mono hb.size);have H:=H.call ac;refine hK.o (ae.out _ hb) (λhS=>?_);clear hK K ac;refine Oe 9 10 11 ?_
  all_goals
   obtain⟨⟨y0,y1,y2⟩,z0,z1,z2⟩:=He (H.b 2);have H:=((H.set 2 0 rfl (Aa Ab o0)).set 2 1 rfl (Aa Ab o1)).set 2 2 rfl (Aa Ac o2);have hb:=((hb.setCell (p:=⟨C3,0,Ae⟩) QM (Aa Ab o0)).setCell (p:=⟨C3,1,Ae⟩) QM (Aa Ab o1)).setCell (p:=⟨C3,2,Ae⟩) QM (Aa Ac o2);refine rdy 13 (λK hK=>?_);go_simp;refine hK.o (ae.out _ hb) (λhS=>?_);clear hK K z0 z1 z2 y0 y1 y2;refine Kg 14 ?_;refine An Gw ?_ _;go_wp2;go_meet;exact⟨C3,rfl,H⟩
 obtain⟨C3,rfl,H5⟩:=hcut;clear HSO ae AV VX dw H4 sj CA XH HRM;have AF:=Ah (HB.out.below H5.below);obtain⟨-,-,-,-,f4,-⟩:=Pn AF.out;obtain⟨ib,io,hiA,bv,j0,j1,j2⟩:=YA.out _ (HB.out.frm H5.below);rw[hiA]at f4;obtain⟨S3,an⟩:∃S3:Aj->Prop,S3=λW'=>W'.cell? ⟨B,4,Ae⟩=Af (Ad (Af ⟨ib,io,Ae⟩) N v.ic)/\W'.cell? ⟨ib,io+id*3,Ae⟩=Af (Aa Ab i0)/\W'.cell? ⟨ib,io+id*3+1,Ae⟩=Af (Aa Ab i1)/\W'.cell? ⟨ib,io+id*3+2,Ae⟩=Af (Aa Ac i2):=⟨_,rfl⟩;have HSO:Hid (∀W',S3 W'->W'.cell? ⟨B,4,Ae⟩=Af (Ad (Af ⟨ib,io,Ae⟩) N v.ic)/\W'.cell? ⟨ib,io+id*3,Ae⟩=Af (Aa Ab i0)/\W'.cell? ⟨ib,io+id*3+1,Ae⟩=Af (Aa Ab i1)/\W'.cell? ⟨ib,io+id*3+2,Ae⟩=Af (Aa Ac i2)):=Ah λW' h=>by subst an;exact h
 have ae:Hid (∀W' l',Ii O B F (v.fix k N) W' l'->Frm O F w W'->S3 W'):=Ah λW' l' h hF=>by
  obtain⟨-,-,-,-,f4,-⟩:=Pn h;obtain⟨ib',io',e,-,j0,j1,j2⟩:=YA.out _ hF;rw[hiA]at e f4;obtain⟨rfl,rfl⟩:ib=ib'/\io=io':=by simpa using e
  subst an;exact⟨f4,j0,j1,j2⟩
 clear f4 bv j0 j1 j2 an;go_upto_region 3 with fail;refine Ao (S:=S3) Gw (ae.out _ _ (HB.out.below H5.drew.below) (HB.out.frm H5.drew.below)) (λhS=>?_);have H6:=H5.drew;generalize wc.drew=X0 at hS H6⊢;clear H5 AF;refine Hh 0 1 2 3 ?_;refine Hh 4 5 6 7 ?_;obtain⟨⟨a0,a1,a2⟩,-⟩:=He (H6.b 2);refine rdy 8 (λK hK=>?_);go_simp;refine hK.o hS (λhS=>?_);clear hK K a0 a1 a2;refine rdy 9 (λK hK=>?_);go_simp;refine(EE.out _ (HB.out.below H6.below)).mono ?_;rintro ee w4 ⟨l1,x,l2,rfl,WM,DH,P8,hF4⟩;have hF5:=(HB.out.frm H6.below).trans hF4;refine hK.o (ae.out _ _ P8 hF5) (λhS=>?_);clear hK K;refine Kg 10 ?_;refine An Gw ?_ _;clear hS HSO ae hF4 H6 EE;obtain⟨f0,f1,-⟩:=Pn P8
 have aw:Hid (∀(y:SmB) w',y.s=k.add id e x.s->Ii O B F (v.fix k N) w' (l1++y::l2)->Frm O F w w'->wW O B F (v.fix k N) (k.meet id e (l.map (·.s))) w (.returned (.tuple #[])) w'):=Ah λy w' hy hB hF=>
  ⟨rfl,_,Bk0 WM DH P8.keys hy,hB,hF⟩
 have YI:Hid (x.s.ps.length<=1000000/\x.s.ls.length<=1000000/\x.s.es.length<=1000000):=Ah (by
  rcases DH with rfl|⟨-,-,-,h⟩
  ·exact HX.out x Gx
  ·rw[h];simp[Sm.none])
 clear WM DH HX HL;go_wp2_with fail;refine(TO.out _ (HM.out _ hF5).2.2.2.2.2.1.qt).mono ?_;rintro ee w5 ⟨rfl,hb⟩;have hF6:=hF5.trans (P8.frm hb);have EQ:=P8.below hb;unfold SmB.ptr;have Z4:=Ah hF6;have AF:=Ah EQ;clear f0 f1 hb P8 hF5 hF6 TO w4;by_cases hne:ne=0
 ·subst hne;obtain⟨n0,nN⟩:=lv.out rfl;obtain⟨n,rfl⟩:∃z:Nat,nn=z:=⟨nn.toNat,Gu⟩;by_cases ad:(n:Int)<(id:Int)
  ·have AI:=Ah (aw.out x _ (HAN.out x.s rfl ad).symm EQ Z4.out);clear EQ
   as_aux_lemma=>
    go_wp2_with fail
    go_end0
    exact AI.out
  ·obtain⟨f0,f1,f2,-⟩:=Pn EQ;have hle:(id:Int)<=(n:Int):=Gu;have HC6:=Ah (HC5.out rfl hle);have yh:=Ah (XF.out x.s n rfl Gu rfl);have KA:=Ah (HAL.out x.s n rfl Gu rfl);clear HC5 XF HAL HAN HAE;go_wp2_with fail;refine(HC6.out _ Z4.out).mono ?_;rintro ee w6 ⟨rfl,hb⟩;have HF7:=Ah (Z4.out.trans (EQ.frm hb));have ep:=Ah (EQ.below hb);clear f0 f1 f2 hb EQ AF Z4 HC6 w5;obtain⟨-,-,-,-,f4,-⟩:=Pn ep.out;obtain⟨ib,io,hiA,-,j0,j1,j2⟩:=YA.out _ HF7.out;rw[hiA]at f4;obtain⟨s3,s4,s5⟩:=Ao1 ep.out;obtain⟨⟨b0,b1,b2⟩,BX⟩:=ey x.s.b;rw[BX]at s3 s4 s5;obtain⟨r,hr⟩:=ey (decide ((⟨i0,i1,i2⟩:Cl)=⟨b0,b1,b2⟩))
   have qc:Hid (r=decide (i0=b0/\i1=b1/\(i2:Int)=(b2:Int))):=Ah (by
    rw[<-hr];simp only[Cl.mk.injEq]
    congr 1
    apply propext;omega)
   dsimp only at s3 s4 s5;have jq:Hid (decide (k.img id=x.s.b)=r):=Ah (by rw[HIG.out,BX];exact hr);clear hr BX YA HIG
   obtain⟨S4,an⟩:∃S4:Aj->Prop,S4=λW'=>W'.cell? ⟨B,4,Ae⟩=Af (Ad (Af ⟨ib,io,Ae⟩) N v.ic)/\(W'.cell? ⟨ib,io+id*3,Ae⟩=Af (Aa Ab i0)/\W'.cell? ⟨ib,io+id*3+1,Ae⟩=Af (Aa Ab i1)/\W'.cell? ⟨ib,io+id*3+2,Ae⟩=Af (Aa Ac i2))/\
    (W'.cell? ⟨x.p,3,Ae⟩=Af (Aa Ab b0)/\W'.cell? ⟨x.p,4,Ae⟩=Af (Aa Ab b1)/\W'.cell? ⟨x.p,5,Ae⟩=Af (Aa Ac b2)):=⟨_,rfl⟩
   have HSO:Hid (∀W',S4 W'->W'.cell? ⟨B,4,Ae⟩=Af (Ad (Af ⟨ib,io,Ae⟩) N v.ic)/\(W'.cell? ⟨ib,io+id*3,Ae⟩=Af (Aa Ab i0)/\W'.cell? ⟨ib,io+id*3+1,Ae⟩=Af (Aa Ab i1)/\W'.cell? ⟨ib,io+id*3+2,Ae⟩=Af (Aa Ac i2))/\
    (W'.cell? ⟨x.p,3,Ae⟩=Af (Aa Ab b0)/\W'.cell? ⟨x.p,4,Ae⟩=Af (Aa Ab b1)/\W'.cell? ⟨x.p,5,Ae⟩=Af (Aa Ac b2))):=Ah λW' h=>by subst an;exact h
   have qr:S4 w6.drew:=by subst an;exact⟨f4,⟨j0,j1,j2⟩,s3,s4,s5⟩
   clear f4 j0 j1 j2 s3 s4 s5 an;go_upto_region 10 with fail;refine Ao (S:=S4) Gw qr (λhS=>?_);have wm:=Ah (HF7.out.trans (ep.out.frm (Ag w6.heap.size w6).drew));have vm:=Ah (ep.out.below (Ag w6.heap.size w6).drew);generalize w6.drew=X1 at hS wm vm⊢;clear qr HF7 ep;refine Hh 0 1 2 3 ?_;refine Hh 4 5 6 7 ?_;refine Oe 8 9 10 ?_;refine wpAnyH_take (i:=11) (v:= .bool r) rfl Gw Gw Gw (λ_ _ _ h=>h) (Or.inl ⟨by rfl,?_⟩) hS ?_
   ·intro w0 _;go_simp;rw[qc.out];by_cases g0:i0=b0
    ·by_cases g1:i1=b1
     ·by_cases g2:(i2:Int)=(b2:Int)
      ·simp[g0,g1,g2]
      ·simp[g0,g1,g2]
     ·simp[g0,g1]
    ·simp[g0]
   try simp only[Act.put,Ce,Cc,Cd,Ch,Cf,Cg]
   refine An Gw ?_ _;clear HSO qc;obtain⟨f0,f1,f2,f3,-,f5⟩:=Pn vm.out;have R':=(HM.out _ wm.out).2.2.2.2.1;have C5:id<k.hs.length:=by rw[HK.out.hs];exact hid
   have hnh:n<k.hs.length:=by rw[HK.out.hs];omega
   obtain⟨gb,go',hgA,-,g0⟩:=Rp R' id C5;obtain⟨gb',go'',y8,-,g1⟩:=Rp R' n hnh;rw[hgA]at y8 f5;obtain⟨rfl,rfl⟩:gb=gb'/\go'=go'':=by simpa using y8
   have VF:=yh.out;have jl:=KA.out;have e1:k.hs.getD id 0=k.hs[id]:=by rw[Ds,Aw C5];rfl
   have e2:k.hs.getD n 0=k.hs[n]:=by rw[Ds,Aw hnh];rfl
   rw[e1,e2]at jl;obtain⟨hi,xq⟩:=ey (k.hs[id]);obtain⟨hn,hhn⟩:=ey (k.hs[n]);rw[xq]at g0 jl;rw[hhn]at g1 jl;have jd:=jq.out;clear HM HB HK jq R' C5 hnh hgA y8 hiA e1 e2 xq hhn
   cases r with
   |true=>
    have ft:k.img id=x.s.b:=Rl jd;rw[Hd ft]at VF jl;clear jd ft;by_cases di:kk=0
    ·subst di;have fh:=VF rfl;obtain⟨A,c,hv,k6,A',c',w9,ah,z6,c6,js,xg⟩:=An3 vm.out YI.out.1 (n,id);have bg:=Ah ah;have AI:=Ah (aw.out _ _ fh.symm js (wm.out.trans xg));obtain⟨m,qz⟩:=ey x.s.ps.length;rw[qz]at k6 bg AI;clear hv ah js xg qz VF jl fh f0 f1 f2 f3 f5 g0 g1
     as_aux_lemma=>
      go_wp2_with (at_builtin;refine As _ rfl _ _ _ _ rfl _ _ rfl rfl _ _ bg.out ?_)
      go_end0
      exact AI.out
    ·have q3:(kk==0)=false:=by simpa using di
     have fh:=jl di;clear VF jl di;obtain⟨S5,an⟩:∃S5:Aj->Prop,S5=λW'=>W'.cell? ⟨B,5,Ae⟩=Af (Ad (Af ⟨gb,go',Ae⟩) N v.hc)/\W'.cell? ⟨gb,go'+id,Ae⟩=Af (Aa Ab hi)/\W'.cell? ⟨gb,go'+n,Ae⟩=Af (Aa Ab hn):=⟨_,rfl⟩;have HSO:Hid (∀W',S5 W'->W'.cell? ⟨B,5,Ae⟩=Af (Ad (Af ⟨gb,go',Ae⟩) N v.hc)/\W'.cell? ⟨gb,go'+id,Ae⟩=Af (Aa Ab hi)/\W'.cell? ⟨gb,go'+n,Ae⟩=Af (Aa Ab hn)):=Ah λW' h=>by subst an;exact h
     have qr:S5 X1.drew:=by subst an;exact⟨f5,g0,g1⟩
     clear an f0 f1 f2 f3 f5 g0 g1;go_upto_region 17 with fail;refine Ao (S:=S5) Gw qr (λhS=>?_);have FU:=Ah (wm.out.trans (vm.out.frm (Ag X1.heap.size X1).drew));have EF:=Ah (vm.out.below (Ag X1.heap.size X1).drew);generalize X1.drew=X2 at hS FU EF⊢;clear qr wm vm;refine Hh 0 1 2 3 ?_;refine Hh 4 5 6 7 ?_;refine Hh 8 9 10 11 ?_;refine Hh 12 13 14 15 ?_;refine An Gw ?_ _;clear hS HSO;by_cases hh:hi<hn;have q4:(hi:Int)<(hn:Int):=Gu;rw[Hd hh]at fh;obtain⟨A,c,hv,k7,A',c',w9,ah,z7,c7,js,xg⟩:=jS EF.out YI.out.2.1 (1,id,n);rotate_left;have q4:¬(hi:Int)<(hn:Int):=Gu;rw[Gz hh]at fh;obtain⟨A,c,hv,k7,A',c',w9,ah,z7,c7,js,xg⟩:=jS EF.out YI.out.2.1 (1,n,id)
     all_goals
      have bg:=Ah ah;have AI:=Ah (aw.out _ _ fh.symm js (FU.out.trans xg));obtain⟨m,qz⟩:=ey x.s.ls.length;rw[qz]at k7 bg AI;clear hv ah js xg qz fh hh
      as_aux_lemma=>
       go_wp2_with (at_builtin;refine As _ rfl _ _ _ _ rfl _ _ rfl rfl _ _ bg.out ?_)
       go_end0
       exact AI.out
   |false=>
    have ft:¬k.img id=x.s.b:=of_decide_eq_false jd;rw[Gz ft]at VF jl;clear jd ft;by_cases di:kk=0
    ·subst di;have fh:=VF rfl;obtain⟨A,c,hv,k6,A',c',w9,ah,z6,c6,js,xg⟩:=An3 vm.out YI.out.1 (id,n);have bg:=Ah ah;have AI:=Ah (aw.out _ _ fh.symm js (wm.out.trans xg));obtain⟨m,qz⟩:=ey x.s.ps.length;rw[qz]at k6 bg AI;clear hv ah js xg qz VF jl fh f0 f1 f2 f3 f5 g0 g1
     as_aux_lemma=>
      go_wp2_with (at_builtin;refine As _ rfl _ _ _ _ rfl _ _ rfl rfl _ _ bg.out ?_)
      go_end0
      exact AI.out
    ·have q3:(kk==0)=false:=by simpa using di
     have fh:=jl di;clear VF jl di;obtain⟨S5,an⟩:∃S5:Aj->Prop,S5=λW'=>W'.cell? ⟨B,5,Ae⟩=Af (Ad (Af ⟨gb,go',Ae⟩) N v.hc)/\W'.cell? ⟨gb,go'+id,Ae⟩=Af (Aa Ab hi)/\W'.cell? ⟨gb,go'+n,Ae⟩=Af (Aa Ab hn):=⟨_,rfl⟩;have HSO:Hid (∀W',S5 W'->W'.cell? ⟨B,5,Ae⟩=Af (Ad (Af ⟨gb,go',Ae⟩) N v.hc)/\W'.cell? ⟨gb,go'+id,Ae⟩=Af (Aa Ab hi)/\W'.cell? ⟨gb,go'+n,Ae⟩=Af (Aa Ab hn)):=Ah λW' h=>by subst an;exact h
     have qr:S5 X1.drew:=by subst an;exact⟨f5,g0,g1⟩
     clear an f0 f1 f2 f3 f5 g0 g1;go_upto_region 17 with fail;refine Ao (S:=S5) Gw qr (λhS=>?_);have FU:=Ah (wm.out.trans (vm.out.frm (Ag X1.heap.size X1).drew));have EF:=Ah (vm.out.below (Ag X1.heap.size X1).drew);generalize X1.drew=X2 at hS FU EF⊢;clear qr wm vm;refine Hh 0 1 2 3 ?_;refine Hh 4 5 6 7 ?_;refine Hh 8 9 10 11 ?_;refine Hh 12 13 14 15 ?_;refine An Gw ?_ _;clear hS HSO;by_cases hh:hi<hn;have q4:(hi:Int)<(hn:Int):=Gu;rw[Hd hh]at fh;obtain⟨A,c,hv,k7,A',c',w9,ah,z7,c7,js,xg⟩:=jS EF.out YI.out.2.1 (0,id,n);rotate_left;have q4:¬(hi:Int)<(hn:Int):=Gu;rw[Gz hh]at fh;obtain⟨A,c,hv,k7,A',c',w9,ah,z7,c7,js,xg⟩:=jS EF.out YI.out.2.1 (0,n,id)
     all_goals
      have bg:=Ah ah;have AI:=Ah (aw.out _ _ fh.symm js (FU.out.trans xg));obtain⟨m,qz⟩:=ey x.s.ls.length;rw[qz]at k7 bg AI;clear hv ah js xg qz fh hh
      as_aux_lemma=>
       go_wp2_with (at_builtin;refine As _ rfl _ _ _ _ rfl _ _ rfl rfl _ _ bg.out ?_)
       go_end0
       exact AI.out
 ·have q1:(ne != 0)=true:=by simpa using hne
  obtain⟨A,c,hv,k8,A',c',w6,ah,z8,c8,js,xg⟩:=Bs0 EQ YI.out.2.2 id;have bg:=Ah ah;have AI:=Ah (aw.out _ _ (HAE.out x.s hne).symm js (Z4.out.trans xg));obtain⟨m,qz⟩:=ey x.s.es.length;rw[qz]at k8 bg AI;clear hv ah js xg EQ qz hne
  as_aux_lemma=>
   go_wp2_with (at_builtin;refine As _ rfl _ _ _ _ rfl _ _ rfl rfl _ _ bg.out ?_)
   go_end0
   exact AI.out
theorem Bx6 {O B:Nat} {F:List Nat} {fix:List Ak} {w w':Aj} {l1 l2:List SmB} {x:SmB} (h:Ii O B F fix w (l1++x::l2)) {r:List Nat} (ho:w'.ownsRow O 3 1 x.ve r.length (If r)) (hg:w.grownBy w' x.ve.ownBlock):
  Ii O B F fix w' (l1++(⟨{x.s with es:=r},x.p,x.vp,x.vl,x.ve⟩:SmB)::l2)/\Frm O F w w':=by
 have la:=h.sms
 have hO:O<=w.heap.size:=by
  obtain⟨M,kv,_,h2,_,_,_,_,_,h8,_⟩:=h;have:=(Au.1 h2).1;omega
 have el:=la.1 x Gx;have bj:=Pd la;obtain⟨h0,h1,h2,h3,h4⟩:=el;have gq:=bj;unfold SmB.blks at gq;simp only[Eh,Bp,Bl,Option.mem_toList,not_or]at gq;obtain⟨⟨⟨PB,PC⟩,PD⟩,⟨-,-,n12⟩,-,n3⟩:=gq;have dw:x.p<w.heap.size:=(Au.1 h1).1;have bn:∀g,g<w.heap.size->x.ve.ownBlock≠Af g->w'.heap[g]? =w.heap[g]? :=λg GT ND=>hg.block g GT (Ne.symm ND)
 have hy:(⟨{x.s with es:=r},x.p,x.vp,x.vl,x.ve⟩:SmB).ok O w':=by
  refine⟨h0,(bn x.p dw PD).trans h1,?_,?_,?_⟩
  ·exact Il h2 λg hg=>bn g (h2.lt g hg).2 λe=>n3 g (.inl hg) g e rfl
  ·exact Il h3 λg hg=>bn g (h3.lt g hg).2 λe=>n3 g (.inr hg) g e rfl
  ·exact ho
 have hr:=h.change (y:=⟨{x.s with es:=r},x.p,x.vp,x.vl,x.ve⟩) hy rfl rfl bj (λg hg=> .inl hg) (λg GT hx=>bn g GT λe=>hx (by unfold SmB.blks;simp[e])) hg.size;exact⟨hr.1,(Ag O w).grown hg hO (λk hk=>(h4.lt k hk).1),hr.2⟩
theorem Bx7 {O B:Nat} {F:List Nat} {fix:List Ak} {w w':Aj} {l1 l2:List SmB} {x:SmB} (h:Ii O B F fix w (l1++x::l2)) {r:List (Nat×Nat×Nat)} (ho:w'.ownsRow O 266 3 x.vl r.length (Nn r)) (hg:w.grownBy w' x.vl.ownBlock):
  Ii O B F fix w' (l1++(⟨{x.s with ls:=r},x.p,x.vp,x.vl,x.ve⟩:SmB)::l2)/\Frm O F w w':=by
 have la:=h.sms
 have hO:O<=w.heap.size:=by
  obtain⟨M,kv,_,h2,_,_,_,_,_,h8,_⟩:=h;have:=(Au.1 h2).1;omega
 have el:=la.1 x Gx;have bj:=Pd la;obtain⟨h0,h1,h2,h3,h4⟩:=el;have gq:=bj;unfold SmB.blks at gq;simp only[Eh,Bp,Bl,Option.mem_toList,not_or]at gq;obtain⟨⟨⟨PB,PC⟩,PD⟩,⟨-,-,n12⟩,-,n3⟩:=gq;have dw:x.p<w.heap.size:=(Au.1 h1).1;have bn:∀g,g<w.heap.size->x.vl.ownBlock≠Af g->w'.heap[g]? =w.heap[g]? :=λg GT ND=>hg.block g GT (Ne.symm ND)
 have hy:(⟨{x.s with ls:=r},x.p,x.vp,x.vl,x.ve⟩:SmB).ok O w':=by
  refine⟨h0,(bn x.p dw PC).trans h1,?_,?_,?_⟩
  ·exact Il h2 λg hg=>bn g (h2.lt g hg).2 λe=>n12 g hg g e rfl
  ·exact ho
  ·exact Il h4 λg hg=>bn g (h4.lt g hg).2 λe=>n3 g (.inr e) g hg rfl
 have hr:=h.change (y:=⟨{x.s with ls:=r},x.p,x.vp,x.vl,x.ve⟩) hy rfl rfl bj (λg hg=> .inl hg) (λg GT hx=>bn g GT λe=>hx (by unfold SmB.blks;simp[e])) hg.size;exact⟨hr.1,(Ag O w).grown hg hO (λk hk=>(h3.lt k hk).1),hr.2⟩
theorem Bx8 {O B:Nat} {F:List Nat} {fix:List Ak} {w w':Aj} {l1 l2:List SmB} {x:SmB} (h:Ii O B F fix w (l1++x::l2)) {r:List (Nat×Nat)} (ho:w'.ownsRow O 377 2 x.vp r.length (Qa r)) (hg:w.grownBy w' x.vp.ownBlock):
  Ii O B F fix w' (l1++(⟨{x.s with ps:=r},x.p,x.vp,x.vl,x.ve⟩:SmB)::l2)/\Frm O F w w':=by
 have la:=h.sms
 have hO:O<=w.heap.size:=by
  obtain⟨M,kv,_,h2,_,_,_,_,_,h8,_⟩:=h;have:=(Au.1 h2).1;omega
 have el:=la.1 x Gx;have bj:=Pd la;obtain⟨h0,h1,h2,h3,h4⟩:=el;have gq:=bj;unfold SmB.blks at gq;simp only[Eh,Bp,Bl,Option.mem_toList,not_or]at gq;obtain⟨⟨⟨PB,PC⟩,PD⟩,⟨-,-,n12⟩,-,n3⟩:=gq;have dw:x.p<w.heap.size:=(Au.1 h1).1;have bn:∀g,g<w.heap.size->x.vp.ownBlock≠Af g->w'.heap[g]? =w.heap[g]? :=λg GT ND=>hg.block g GT (Ne.symm ND)
 have hy:(⟨{x.s with ps:=r},x.p,x.vp,x.vl,x.ve⟩:SmB).ok O w':=by
  refine⟨h0,(bn x.p dw PB).trans h1,?_,?_,?_⟩
  ·exact ho
  ·exact Il h3 λg hg=>bn g (h3.lt g hg).2 λe=>n12 g e g hg rfl
  ·exact Il h4 λg hg=>bn g (h4.lt g hg).2 λe=>n3 g (.inl e) g hg rfl
 have hr:=h.change (y:=⟨{x.s with ps:=r},x.p,x.vp,x.vl,x.ve⟩) hy rfl rfl bj (λg hg=> .inl hg) (λg GT hx=>bn g GT λe=>hx (by unfold SmB.blks;simp[e])) hg.size;exact⟨hr.1,(Ag O w).grown hg hO (λk hk=>(h2.lt k hk).1),hr.2⟩
theorem mA {α:Type} {P:α->Prop} (l:List α) (h:∀x∈l,P x):(l.attach.map λx=>(⟨x.1,h x.1 x.2⟩:{x:α//P x})).map (·.1)=l:=by
 rw[Fs]
 conv=>rhs;rw[<-List.attach_map_subtype_val l]
 rfl
theorem gC {α:Type} {P:α->Prop} (f:α->List Ak) (l:List {x:α//P x}):(l.flatMap λx=>f x.1)=(l.map (·.1)).flatMap f:=by
 rw[List.flatMap_map]
def Am7 {α:Type} (enc:List α->List Ak) (l:List α) (O e k m:Nat) (v:Ak) (w:Aj) (en:Ending) (w':Aj):Prop:=
 en= .returned (.tuple #[])/\∃r:List α,r.Perm l/\w'.ownsRow O e k v m (enc r)/\w.grownBy w' v.ownBlock
theorem wG (Pb Bb:Nat) (hs:List Nat) (hn:0<hs.length) {O m c:Nat} {A:Option Ci} (l:List (Nat×Nat)) (hl:∀p∈l,p.1<hs.length) (w:Aj) (h:w.ownsRow O 377 2 (Ad A m c) m (Qa l)) (hm:m<=1000000)
  (hg:∀W',w.grownBy W' (Value.slice A m c).ownBlock->rK Pb Bb hs W'):
  Al Do 249 #[Ad A m c,.func (.func 250) #[] #[.pointer (Af ⟨Pb,0,Ae⟩)]] w (Am7 Qa l O 377 2 m (Ad A m c) w):=by
 have hv:=mA l hl;obtain⟨l',D3⟩:∃z:List (PsE hs.length),(l.attach.map λx=>(⟨x.1,hl x.1 x.2⟩:PsE hs.length))=z:=⟨_,rfl⟩;rw[D3]at hv;have e:∀z:List (PsE hs.length),z.flatMap psV=Qa (z.map (·.1)):=λz=>gC Xh z;refine(wF Pb Bb hs hn l' w (by rw[e,hv];exact h) hm hg).mono ?_;rintro en w' ⟨rfl,r,hp,-,ho,fj⟩;rw[e]at ho;exact⟨rfl,r.map (·.1),hv▸hp.map _,ho,fj⟩
theorem wD (Pb Bb:Nat) (hs:List Nat) (hn:0<hs.length) {O m c:Nat} {A:Option Ci} (l:List (Nat×Nat×Nat)) (hl:∀p∈l,p.2.1<hs.length) (w:Aj) (h:w.ownsRow O 266 3 (Ad A m c) m (Nn l)) (hm:m<=1000000)
  (hg:∀W',w.grownBy W' (Value.slice A m c).ownBlock->rK Pb Bb hs W'):
  Al Do 251 #[Ad A m c,.func (.func 252) #[] #[.pointer (Af ⟨Pb,0,Ae⟩)]] w (Am7 Nn l O 266 3 m (Ad A m c) w):=by
 have hv:=mA l hl;obtain⟨l',D3⟩:∃z:List (LpE hs.length),(l.attach.map λx=>(⟨x.1,hl x.1 x.2⟩:LpE hs.length))=z:=⟨_,rfl⟩;rw[D3]at hv;have e:∀z:List (LpE hs.length),z.flatMap lpV=Nn (z.map (·.1)):=λz=>gC Xd z;refine(wC Pb Bb hs hn l' w (by rw[e,hv];exact h) hm hg).mono ?_;rintro en w' ⟨rfl,r,hp,-,ho,fj⟩;rw[e]at ho;exact⟨rfl,r.map (·.1),hv▸hp.map _,ho,fj⟩
theorem Be3 {O B:Nat} {F:List Nat} {fix:List Ak} {w w':Aj} {l1 l2:List SmB} {x:SmB} (h:Ii O B F fix w (l1++x::l2)) {o:Option Nat} (ho:∀g,o=Af g->g∈x.blks) (hg:w.grownBy w' o):Frm O F w w'/\w'.heap[B]? =w.heap[B]? :=by
 have la:=h.sms;have ad:=(la.1 x Gx).lt;obtain⟨M,kv,h1,h2,h3,h4,h5,h6,h7,h8,h9,BC⟩:=h;have hB:=(Au.1 h2).1
 have bp:∀g∈x.blks,g∈Hs B M kv (l1++x::l2):=λg hg=>by
  unfold Hs;simp only[Bk,Bl,Bi,Bf];exact .inr (.inr (.inr (.inr (.inl hg))))
 refine⟨⟨(Ag O w).grown hg Gu λk hk=>(ad k (ho k hk)).1,λg VK=>hg.block g (BC g VK).1 λe=>(BC g VK).2 (bp g (ho g e.symm))⟩,hg.block B hB λe=>?_⟩;have hx:=ho B e.symm;unfold Hs at h7;simp only[Eh,Bk,Bl,Bi,Bf,not_or]at h7;exact h7.1.2.2.2.1 hx
structure SmP (s t:Sm):Prop where
 a:s.a=t.a
 b:s.b=t.b
 ps:s.ps.Perm t.ps
 ls:s.ls.Perm t.ls
 es:s.es.Perm t.es
theorem SmP.refl (s:Sm):SmP s s:=⟨rfl,rfl,.refl _,.refl _,.refl _⟩
theorem SmP.trans {s t u:Sm} (h:SmP s t) (k:SmP t u):SmP s u:=⟨h.a.trans k.a,h.b.trans k.b,h.ps.trans k.ps,h.ls.trans k.ls,h.es.trans k.es⟩
def Am9 (l r:List Sm):Prop:=∃z:List (Sm×Sm),l.Perm (z.map (·.1))/\r=z.map (·.2)/\∀p∈z,SmP p.1 p.2
theorem mG {P:Sm->Bool} (hP:∀s t,SmP s t->P s=P t) {l r:List Sm} (h:Am9 l r):l.any P=r.any P:=by
 obtain⟨z,h1,rfl,h2⟩:=h;rw[h1.any_eq,List.any_map,List.any_map];clear h1
 induction z with
 |nil=>rfl
 |cons p z ih=>
  rw[List.any_cons,List.any_cons,ih λq hq=>h2 q (Ex _ hq)];simp only[Function.comp];rw[hP _ _ (h2 p Gx)]
theorem Yh {l:List Nat} {s t:Sm} (h:SmP s t) (side:Nat):(Ik l s side).Perm (Ik l t side):=h.ps.map _
theorem eW {l:List Nat} {s t:Sm} (h:SmP s t) (side:Nat):(iM l s side).Perm (iM l t side):=(h.ls.filter _).map _
theorem eX {l:List Nat} {s t:Sm} (h:SmP s t) (side:Nat):(Te l s side).Perm (Te l t side):=(eW h side).map _
theorem dY {l:List Nat} {s t:Sm} (h:SmP s t) (side:Nat):Oq l s side=Oq l t side:=by
 unfold Oq;rw[(Yh h side).all_eq,(eW h side).all_eq]
theorem bW {t t':List Int} {l l':List (Int×Int)} (ht:t.Perm t') (hl:l.Perm l'):Mz t l=Mz t' l':=by
 unfold Mz;rw[hl.any_eq]
 congr 1
 funext x
 rw[ht.any_eq,hl.any_eq]
theorem nA {l m:List Nat} {s t:Sm} (h:SmP s t):Qe (Ik l s 0) (Ik m s 1)=Qe (Ik l t 0) (Ik m t 1):=by
 have e:∀u:Sm,(Ik l u 0).zip (Ik m u 1)=u.ps.map λp=>(Jg l (lN 0 p),Jg m (lN 1 p)):=λu=>by
  unfold Ik;rw[List.zip_map']
 have hp:((Ik l s 0).zip (Ik m s 1)).Perm ((Ik l t 0).zip (Ik m t 1)):=by rw[e,e];exact h.ps.map _
 unfold Qe;rw[hp.any_eq]
 congr 1
 funext x
 rw[hp.any_eq]
theorem nD (l:List Stk) (s t:Sm) (h:SmP s t):Ke l s=Ke l t:=by
 unfold Ke;rw[h.a,h.b,dY h,dY h,h.ls.any_eq,bW (Yh h 0) (eX h 0),bW (Yh h 1) (eX h 1),nA h]
theorem wU {f:Nat×Nat×Nat->Bool} (s t:Sm) (h:SmP s t):s.ls.any f=t.ls.any f:=h.ls.any_eq
def iL (k:Cl×Cl) (l:List Sm):Sm:=(l.find? λs=>decide (k=(s.a,s.b))).getD (Sm.none k.1 k.2)
theorem Ze {l:List Sm} {s:Sm} (hn:(l.map λs=>(s.a,s.b)).Nodup) (h:s∈l):iL (s.a,s.b) l=s:=by
 induction l with
 |nil=>simp at h
 |cons t r ih=>
  unfold iL at ih⊢;rw[Er,Eh]at hn;rcases Bk.1 h with rfl|h
  ·simp
  ·have hne:¬(s.a,s.b)=(t.a,t.b):=λe=>hn.1 (by rw[<-e];exact Dq.2 ⟨s,h,rfl⟩);rw[List.find?_cons];simp only[hne,decide_false];exact ih hn.2 h
theorem Af2 {l:List Sm} (hn:(l.map λs=>(s.a,s.b)).Nodup):((l.map λs=>(s.a,s.b)).map λk=>iL k l)=l:=by
 rw[Fs]
 conv=>rhs;rw[<-List.map_id l]
 exact List.map_congr_left λs hs=>Ze hn hs
def Oh (w:Aj) (O:Nat) (t:Sm) (A1 A2 A3:Option Ci):Prop:=
 (AOk A1 t.ps.length t.ps.length/\Jj w O 377 2 A1 t.ps.length (Qa t.ps))/\(AOk A2 t.ls.length t.ls.length/\Jj w O 266 3 A2 t.ls.length (Nn t.ls))/\AOk A3 t.es.length t.es.length/\Jj w O 3 1 A3 t.es.length (If t.es)
def Sm.val (t:Sm) (A1 A2 A3:Option Ci):Ak:= .agg (t.cells (Ad A1 t.ps.length t.ps.length) (Ad A2 t.ls.length t.ls.length) (Ad A3 t.es.length t.es.length))
def Am8 (O B:Nat) (F:List Nat) (fix:List Ak) (l1 l2:List SmB) (x:SmB) (w:Aj) (e:Ending) (w':Aj):Prop:=
 ∃(y:SmB) (A1 A2 A3:Option Ci),e= .returned (y.s.val A1 A2 A3)/\SmP x.s y.s/\y.p=x.p/\y.key=x.key/\Ii O B F fix w' (l1++y::l2)/\Frm O F w w'/\Oh w' w.heap.size y.s A1 A2 A3/\y.blks=x.blks/\∀g,g<w.heap.size->g∉x.blks->w'.heap[g]? =w.heap[g]?
theorem Su {O B:Nat} {F:List Nat} {fix:List Ak} {w:Aj} {l1 l2:List SmB} {x:SmB} (h:Ii O B F fix w (l1++x::l2)):w.heap[x.p]? =Af (.cells (x.s.cells x.vp x.vl x.ve) 263 (0,0)):=(h.sms.1 x Gx).2.1
theorem Ii.more {O B P:Nat} {F:List Nat} {fix:List Ak} {w w':Aj} {l:List SmB} (h:Ii O B F fix w l) (hb:Below w.heap.size w w') (h1:w.heap.size<=P) (h2:P<w'.heap.size):Ii O B (P::F) fix w' l:=by
 obtain⟨M,kv,a1,a2,a3,a4,a5,a6,a7,a8,a9,qd⟩:=h;have ad:=aI a2 a3 a4 a5 a8 a9;have hB:Ii O B F fix w l:=⟨M,kv,a1,a2,a3,a4,a5,a6,a7,a8,a9,qd⟩
 exact⟨M,kv,a1,kept hb a2 (Au.1 a2).1,a3.below hb a3.lt,a4.same λg hg=>hb.block g (a4.lt g hg).2,a5.same λg hg=>hb.block g (a5.lt g hg).2,a6,a7,a8,a9,λg hg=>by
  rcases Bk.1 hg with rfl|hg
  ·exact⟨h2,λh=>by have:=(ad g h).2;omega⟩
  ·exact⟨Bq (qd g hg).1 hb.size,(qd g hg).2⟩⟩
theorem Ii.poke {O B P:Nat} {F:List Nat} {fix:List Ak} {w w':Aj} {l:List SmB} (h:Ii O B (P::F) fix w l) (hs:∀g,g<w.heap.size->g≠P->w'.heap[g]? =w.heap[g]?) (hz:w.heap.size<=w'.heap.size):Ii O B F fix w' l:=by
 obtain⟨M,kv,a1,a2,a3,a4,a5,a6,a7,a8,a9,qd⟩:=h;have ad:=aI a2 a3 a4 a5 a8 a9;have hP:=(qd P Gx).2;have hk:∀g∈Hs B M kv l,w'.heap[g]? =w.heap[g]? :=λg hg=>hs g (ad g hg).2 λe=>hP (e▸hg);refine⟨M,kv,a1,(hk B (by simp[Hs])).trans a2,a3.same (hk M (by simp[Hs])),a4.same λg hg=>hk g (by simp[Hs,hg]),a5.same λg hg=>hk g ?_,a6,a7,a8,a9,λg hg=>⟨Bq (qd g (by simp[hg])).1 hz,(qd g (by simp[hg])).2⟩⟩;unfold Hs;simp only[Bk,Bl];exact .inr (.inr (.inr hg))
theorem Yj.more {O P:Nat} {F:List Nat} {w:Aj} {k:Lk} {N:Nat} {v:LkV} (h:Yj O F w k N v):Yj O (P::F) w k N v:=λw' hf=>h w' ⟨hf.1,λg hg=>hf.2 g (Ex _ hg)⟩
theorem wH (O B zn:Nat) (F:List Nat) (k:Lk) (v:LkV) (l1 l2:List SmB) (x:SmB) (w:Aj) (hk:rM k zn) (hm:Yj O F w k zn v) (h:Ii O B F (v.fix k zn) w (l1++x::l2)) (h0:0<zn) (lh:∀p∈x.s.ps,p.1<zn) (ij:∀p∈x.s.ls,p.2.1<zn)
  (hx:x.s.ps.length<=1000000/\x.s.ls.length<=1000000/\x.s.es.length<=1000000):
  Al Do 206 #[.pointer (Af ⟨B,0,Ae⟩),x.ptr] w (Am8 O B F (v.fix k zn) l1 l2 x w):=by
 have HM:=Ah hm;have HB:=Ah h;have HH:=Ah (show 0<k.hs.length by rw[hk.hs];exact h0);have CM:=Ah (show∀p∈x.s.ps,p.1<k.hs.length by rw[hk.hs];exact lh);have uq:=Ah (show∀p∈x.s.ls,p.2.1<k.hs.length by rw[hk.hs];exact ij);have HX:=Ah hx;have o_:=Ah hk.hs;have H:=((Bx.start w).new #[.pointer (Af ⟨B,0,Ae⟩)] 321 rfl).new #[Aa Ab 0,Aa Ab 0,Aa Ac 0,Aa Ab 0,Aa Ab 0,Aa Ac 0,Ad Ae 0 0,Ad Ae 0 0,Ad Ae 0 0] 263 (N:=w.heap.size+1) Gx;unfold SmB.ptr;clear hm h hk h0 lh ij hx;go_enter Tryz.func206,Tryz.ntmps206;go_upto_region 1 with fail;obtain⟨N,hN⟩:=ez w.heap.size;rw[<-hN]at H⊢;have db:=Ah hN;clear hN;obtain⟨P,hP⟩:=ey (N+1);rw[hP]at H⊢;generalize (w.alloc _).alloc _=W0 at H⊢;have hNx:∀g∈x.blks,g<w.heap.size:=λg hg=>((HB.out.sms.1 x Gx).lt g hg).2;have hNw:=H.lo 0 _ _ _ rfl;have R7:=H.lo 1 _ _ _ rfl;have GA:=Ah ((HM.out.frm (HB.out.frm H.below)).more (P:=P))
 have HG:Hid (∀(W1 W':Aj) (y:SmB) (o:Option Nat),Ii O B (P::F) (v.fix k zn) W1 (l1++y::l2)->y.blks=x.blks->Frm O (P::F) W0 W1->(W1.heap[N]? =Af (.cells #[.pointer (Af ⟨B,0,Ae⟩)] 321 (0,0))/\W1.heap[P]? =Af (.cells #[Aa Ab 0,Aa Ab 0,Aa Ac 0,Aa Ab 0,Aa Ab 0,Aa Ac 0,Ad Ae 0 0,Ad Ae 0 0,Ad Ae 0 0] 263 (0,0)))->
   (∀g,o=Af g->g∈x.blks)->W1.grownBy W' o->rK N B k.hs W'/\(W'.heap[N]? =Af (.cells #[.pointer (Af ⟨B,0,Ae⟩)] 321 (0,0))/\W'.heap[P]? =Af (.cells #[Aa Ab 0,Aa Ab 0,Aa Ac 0,Aa Ab 0,Aa Ab 0,Aa Ac 0,Ad Ae 0 0,Ad Ae 0 0,Ad Ae 0 0] 263 (0,0)))):=Ah (by
  intro W1 W' y o hB AD hF hh ho hg;obtain⟨hf,hbB⟩:=Be3 hB (o:=o) (λg e=>by rw[AD];exact ho g e) hg
  have hoN:∀q,w.heap.size<=q->Af q≠o:=λq hq e=>by
   have:=hNx q (ho q e.symm);omega
  have h1:=(hg.block N (Au.1 hh.1).1 (hoN N hNw)).trans hh.1;have h2:=(hg.block P (Au.1 hh.2).1 (hoN P R7)).trans hh.2;refine⟨⟨pR h1,v.hA,v.hc,?_,?_⟩,h1,h2⟩
  ·obtain⟨-,-,-,-,-,f5⟩:=Pn hB;rw[o_.out];unfold World.cell? at f5⊢;rw[hbB];exact f5
  ·rw[o_.out];exact(GA.out W' (hF.trans hf)).2.2.2.2.1)
 have U0:=Ah (⟨H.b 0,H.b 1⟩:W0.heap[N]? =_/\W0.heap[P]? =_);have HFW:=Ah (HB.out.frm H.below);have ZC:=Ah (Frm.refl O (P::F) W0);have EP:=Ah (HB.out.more H.below R7 (H.lt 1 rfl));have hW0:=H.below.size;have XV:Hid (∀g,g<w.heap.size->g∉x.blks->W0.heap[g]? =w.heap[g]?):=Ah λg hg _=>H.below.block g hg;have HWZ:=Ah hW0;obtain⟨A1,c1,km,ok1,kh,mw⟩:=Mi (EP.out.sms.1 x Gx).2.2.1;obtain⟨A2,c2,tr,ok2,va,MA⟩:=Mi (EP.out.sms.1 x Gx).2.2.2.1;obtain⟨A3,c3,hv3,ok3,hc3,hm3⟩:=Mi (EP.out.sms.1 x Gx).2.2.2.2;have NX:=Ah km;have NY:=Ah tr;have QG:=Ah hv3;have NV:=Ah R7;clear hP hNw R7 H km tr hv3;have bh:=Su EP.out;have T0:W0.cell? ⟨x.p,6,Ae⟩=Af (Ad A1 x.s.ps.length c1):=by rw[By W0 x.p 6 _ _ (0,0) bh,<-NX.out];rfl
 have ug:=(EP.out.sms.1 x Gx).2.2.1;rw[NX.out]at ug;have wy:=Ah (wG N B k.hs HH.out x.s.ps CM.out W0 ug HX.out.1 (λW' hg=>(HG.out W0 W' x _ EP.out rfl ZC.out U0.out (λg hg=>by rw[<-NX.out]at hg;unfold SmB.blks;simp[hg]) hg).1));obtain⟨n1,ff⟩:=ey x.s.ps.length;have VZ:n1<=1000000:=by rw[<-ff];exact HX.out.1
 rw[ff]at T0 wy NX ok1 kh;clear bh ug;go_wp2_with fail;refine wy.out.mono ?_;rintro ee w1 ⟨rfl,r1,sg,ug,mu⟩;have gn:r1.length=n1:=sg.length_eq.trans ff;obtain⟨it,KP⟩:=Bx8 EP.out (r:=r1) (by rw[NX.out,gn];exact ug) (by rw[NX.out];exact mu);have FC:=Ah (HG.out W0 w1 x _ EP.out rfl ZC.out U0.out (λg hg=>by rw[<-NX.out]at hg;unfold SmB.blks;simp[hg]) mu).2;have KP:=Ah (ZC.out.trans KP);have mj:Hid (∀g,g<w.heap.size->g∉x.blks->w1.heap[g]? =w.heap[g]?):=Ah λg hg hx=>(mu.block g (Bq hg HWZ.out) (λe=>hx (by rw[<-NX.out]at e;unfold SmB.blks;simp[<-e]))).trans (XV.out g hg hx);have it:=Ah it;have EN:=Ah sg;have PO:=Ah gn;clear T0 wy ug mu sg gn ff EP ZC U0 CM;have bh:=Su it.out;have OL:w1.cell? ⟨x.p,7,Ae⟩=Af (Ad A2 x.s.ls.length c2):=by rw[By w1 x.p 7 _ _ (0,0) bh,<-NY.out];rfl
 have ug:=(it.out.sms.1 (⟨{x.s with ps:=r1},x.p,x.vp,x.vl,x.ve⟩:SmB) Gx).2.2.2.1;dsimp only at ug;rw[NY.out]at ug;have wy:=Ah (wD N B k.hs HH.out x.s.ls uq.out w1 ug HX.out.2.1 (λW' hg=>(HG.out w1 W' _ _ it.out rfl KP.out FC.out (λg hg=>by rw[<-NY.out]at hg;unfold SmB.blks;simp[hg]) hg).1));obtain⟨n2,kr⟩:=ey x.s.ls.length;have uh:n2<=1000000:=by rw[<-kr];exact HX.out.2.1
 rw[kr]at OL wy NY ok2 va;clear bh ug;go_wp2_with fail;refine wy.out.mono ?_;rintro ee w2 ⟨rfl,r2,lx,ug,mu⟩;have oa:r2.length=n2:=lx.length_eq.trans kr;obtain⟨dl,BF⟩:=Bx7 it.out (r:=r2) (by dsimp only;rw[NY.out,oa];exact ug) (by dsimp only;rw[NY.out];exact mu);have U1:=Ah (HG.out w1 w2 _ _ it.out rfl KP.out FC.out (λg hg=>by rw[<-NY.out]at hg;unfold SmB.blks;simp[hg]) mu).2;have BF:=Ah (KP.out.trans BF);have jg:Hid (∀g,g<w.heap.size->g∉x.blks->w2.heap[g]? =w.heap[g]?):=Ah λg hg hx=>(mu.block g (by have:=KP.out.1.size;have:=HWZ.out;omega) (λe=>hx (by rw[<-NY.out]at e;unfold SmB.blks;simp[<-e]))).trans (mj.out g hg hx);have dl:=Ah dl;have yh:=Ah lx;have KA:=Ah oa;clear OL wy ug mu lx oa kr it KP FC uq;dsimp only at dl;have bh:=Su dl.out;have LI:w2.cell? ⟨x.p,8,Ae⟩=Af (Ad A3 x.s.es.length c3):=by rw[By w2 x.p 8 _ _ (0,0) bh,<-QG.out];rfl
 have ug:=(dl.out.sms.1 (⟨{x.s with ps:=r1,ls:=r2},x.p,x.vp,x.vl,x.ve⟩:SmB) Gx).2.2.2.2;dsimp only at ug;rw[QG.out]at ug;have wy:=Ah (Aj4 x.s.es w2 ug HX.out.2.2);obtain⟨n3,hn3⟩:=ey x.s.es.length;have hq3:n3<=1000000:=by rw[<-hn3];exact HX.out.2.2
 rw[hn3]at LI wy QG ok3 hc3;clear bh ug;go_wp2_with fail;refine wy.out.mono ?_;rintro ee w3 ⟨rfl,r3,FK,ug,mu⟩;have BP:r3.length=n3:=FK.length_eq.trans hn3;obtain⟨KO,ZE⟩:=Bx6 dl.out (r:=r3) (by dsimp only;rw[QG.out,BP];exact ug) (by dsimp only;rw[QG.out];exact mu);have hh3:=Ah (HG.out w2 w3 _ _ dl.out rfl BF.out U1.out (λg hg=>by rw[<-QG.out]at hg;unfold SmB.blks;simp[hg]) mu).2;have ZE:=Ah (BF.out.trans ZE);have TX:Hid (∀g,g<w.heap.size->g∉x.blks->w3.heap[g]? =w.heap[g]?):=Ah λg hg hx=>(mu.block g (by have:=BF.out.1.size;have:=HWZ.out;omega) (λe=>hx (by rw[<-QG.out]at e;unfold SmB.blks;simp[<-e]))).trans (jg.out g hg hx);have KO:=Ah KO;dsimp only at KO;have HP3:=Ah FK;have HL3:=Ah BP;clear LI wy ug mu FK BP hn3 dl BF U1 HG HH o_ HM GA HX;have bh:=Su KO.out;have MM:=KO.out.sms.1 (⟨{x.s with ps:=r1,ls:=r2,es:=r3},x.p,x.vp,x.vl,x.ve⟩:SmB) Gx;obtain⟨-,-,o1,o2,o3⟩:=MM;dsimp only at o1 o2 o3;rw[NX.out,PO.out]at o1;rw[NY.out,KA.out]at o2;rw[QG.out,HL3.out]at o3;have HRD1:Hid (∀W',Below w3.heap.size w3 W'->Rd W' A1 2 n1 (Qa r1)):=Ah λW' h=>(Rd.of_own o1).below h;have HRD2:Hid (∀W',Below w3.heap.size w3 W'->Rd W' A2 3 n2 (Nn r2)):=Ah λW' h=>(Rd.of_own o2).below h;have HRD3:Hid (∀W',Below w3.heap.size w3 W'->Rd W' A3 1 n3 (If r3)):=Ah λW' h=>(Rd.of_own o3).below h
 have HON1:Hid (∀u∈Qa r1,u.oneCell'=true):=Ah (by
  intro u hu;obtain⟨p,-,hp⟩:=Eb.1 hu;simp[Xh]at hp;rcases hp with rfl|rfl<;>rfl)
 have HON2:Hid (∀u∈Nn r2,u.oneCell'=true):=Ah (by
  intro u hu;obtain⟨p,-,hp⟩:=Eb.1 hu;simp[Xd]at hp;rcases hp with rfl|rfl|rfl<;>rfl)
 have HON3:Hid (∀u∈If r3,u.oneCell'=true):=Ah (Yy r3);have fy:=λj=>By w3 x.p j _ _ (0,0) bh;obtain⟨⟨s0,s1,s2⟩,BW⟩:=ey x.s.a;obtain⟨⟨t0,t1,t2⟩,BX⟩:=ey x.s.b
 obtain⟨S,an⟩:∃S:Aj->Prop,S=λW'=>(W'.cell? ⟨x.p,0,Ae⟩=Af (Aa Ab s0)/\W'.cell? ⟨x.p,1,Ae⟩=Af (Aa Ab s1)/\W'.cell? ⟨x.p,2,Ae⟩=Af (Aa Ac s2))/\(W'.cell? ⟨x.p,3,Ae⟩=Af (Aa Ab t0)/\W'.cell? ⟨x.p,4,Ae⟩=Af (Aa Ab t1)/\W'.cell? ⟨x.p,5,Ae⟩=Af (Aa Ac t2))/\
  W'.cell? ⟨x.p,6,Ae⟩=Af (Ad A1 n1 c1)/\W'.cell? ⟨x.p,7,Ae⟩=Af (Ad A2 n2 c2)/\W'.cell? ⟨x.p,8,Ae⟩=Af (Ad A3 n3 c3):=⟨_,rfl⟩
 have HSO:Hid (∀W',S W'->(W'.cell? ⟨x.p,0,Ae⟩=Af (Aa Ab s0)/\W'.cell? ⟨x.p,1,Ae⟩=Af (Aa Ab s1)/\W'.cell? ⟨x.p,2,Ae⟩=Af (Aa Ac s2))/\(W'.cell? ⟨x.p,3,Ae⟩=Af (Aa Ab t0)/\W'.cell? ⟨x.p,4,Ae⟩=Af (Aa Ab t1)/\W'.cell? ⟨x.p,5,Ae⟩=Af (Aa Ac t2))/\
  W'.cell? ⟨x.p,6,Ae⟩=Af (Ad A1 n1 c1)/\W'.cell? ⟨x.p,7,Ae⟩=Af (Ad A2 n2 c2)/\W'.cell? ⟨x.p,8,Ae⟩=Af (Ad A3 n3 c3)):=Ah λW' h=>by subst an;exact h
 have ae:Hid (∀W',Below w3.heap.size w3 W'->S W'):=Ah λW' h=>by
  subst an;refine⟨⟨Gv h ?_,Gv h ?_,Gv h ?_⟩,⟨Gv h ?_,Gv h ?_,Gv h ?_⟩,Gv h ?_,Gv h ?_,Gv h ?_⟩
  ·rw[fy 0];simp[Sm.cells,BW]
  ·rw[fy 1];simp[Sm.cells,BW]
  ·rw[fy 2];simp[Sm.cells,BW]
  ·rw[fy 3];simp[Sm.cells,BX]
  ·rw[fy 4];simp[Sm.cells,BX]
  ·rw[fy 5];simp[Sm.cells,BX]
  ·rw[fy 6];simp[Sm.cells,NX.out]
  ·rw[fy 7];simp[Sm.cells,NY.out]
  ·rw[fy 8];simp[Sm.cells,QG.out]
 have HSA1:=Ah BW;have HSB1:=Ah BX;clear bh fy BW BX o1 o2 o3;go_upto_region 4 with fail;refine Ao (S:=S) Gw (ae.out _ (Ag _ _).drew) (λhS=>?_);have hb:Below w3.heap.size w3 w3.drew:=(Ag _ _).drew;generalize w3.drew=X0 at hb hS⊢;refine Hh 0 1 2 3 ?_;refine Hh 4 5 6 7 ?_;refine Hh 8 9 10 11 ?_;refine Hh 14 15 16 17 ?_;refine Hh 20 21 22 23 ?_;refine rdy 12 (λK hK=>?_);go_simp;refine(Ab1 A1 n1 c1 (Qa r1) _ ok1 (HRD1.out _ hb) (HON1.out) VZ).mono ?_;rintro ee Y ⟨vv,rfl,aa,ac⟩;obtain⟨a1,k1,rfl,zq,hle1,hmx1⟩:=Mi aa;have bw:=Jj.of_own aa;have ir:=hb.size;have bw:=bw.base ir;have hb:=hb.trans (ac.mono hb.size);refine hK.o (ae.out _ hb) (λhS=>?_);clear hK K ac aa ir;refine rdy 13 (λK hK=>?_);go_simp;refine(Ap1 _ _ _ _ hle1 hmx1).mono ?_;rintro ee Z ⟨rfl,ac⟩;have bw:=bw.below ac;have zq:=zq.clip;have hb:=hb.trans (ac.mono hb.size);refine hK.o (ae.out _ hb) (λhS=>?_);clear hK K ac;generalize Z=X1 at hb hS bw⊢;refine rdy 18 (λK hK=>?_);go_simp;refine(Ab0 A2 n2 c2 (Nn r2) _ ok2 (HRD2.out _ hb) (HON2.out) uh).mono ?_;rintro ee Y ⟨vv,rfl,aa,ac⟩;obtain⟨a2,k2,rfl,IF,DR,hmx2⟩:=Mi aa;have ik:=Jj.of_own aa;have ir:=hb.size;have ik:=ik.base ir;have hb:=hb.trans (ac.mono hb.size);have bw:=bw.below ac;refine hK.o (ae.out _ hb) (λhS=>?_);clear hK K ac aa ir;refine rdy 19 (λK hK=>?_);go_simp;refine(Ap0 _ _ _ _ DR hmx2).mono ?_;rintro ee Z ⟨rfl,ac⟩;have bw:=bw.below ac;have ik:=ik.below ac;have IF:=IF.clip;have hb:=hb.trans (ac.mono hb.size);refine hK.o (ae.out _ hb) (λhS=>?_);clear hK K ac;generalize Z=X2 at hb hS bw ik⊢;refine rdy 24 (λK hK=>?_);go_simp;refine(Uz A3 n3 c3 (If r3) _ ok3 (HRD3.out _ hb) (HON3.out) hq3).mono ?_;rintro ee Y ⟨vv,rfl,aa,ac⟩;obtain⟨a3,k3,rfl,MM,hle3,hmx3⟩:=Mi aa;have tq:=Jj.of_own aa
 have ir:=hb.size;have tq:=tq.base ir;have hb:=hb.trans (ac.mono hb.size);have bw:=bw.below ac;have ik:=ik.below ac;refine hK.o (ae.out _ hb) (λhS=>?_);clear hK K ac aa ir;refine rdy 25 (λK hK=>?_);go_simp;refine(Yp _ _ _ _ hle3 hmx3).mono ?_;rintro ee Z ⟨rfl,ac⟩;have bw:=bw.below ac;have ik:=ik.below ac;have tq:=tq.below ac;have MM:=MM.clip;have hb:=hb.trans (ac.mono hb.size);refine hK.o (ae.out _ hb) (λhS=>?_);clear hK K ac;generalize Z=X3 at hb hS bw ik tq⊢;refine Kg 26 ?_;have hP3:=kept hb hh3.out.2 (Au.1 hh3.out.2).1;have HP9:=Ah hP3;have OM:=λj=>By X3 P j _ _ (0,0) hP3;have c0:=OM 0;have c1':=OM 1;have P4:=OM 2;have c3':=OM 3;have c4:=OM 4;have c5:=OM 5;have c6:=OM 6;have c7:=OM 7;have c8:=OM 8;have hz:∀j,X3.frozen? ⟨P,j,Ae⟩=false:=λj=>by simp[Dz,hP3]
 have z0:=hz 0;have z1:=hz 1;have z2:=hz 2;have z3:=hz 3;have z4:=hz 4;have z5:=hz 5;have z6:=hz 6;have z7:=hz 7;have z8:=hz 8;simp only[Fu,List.getElem?_cons_zero,List.getElem?_cons_succ]at c0 c1' P4 c3' c4 c5 c6 c7 c8;clear OM hz hP3
 have hne:x.p≠P:=λe=>by
  have:=KO.out;obtain⟨M,kv,a1,a2,a3,a4,a5,a6,a7,a8,a9,qd⟩:=this;refine(qd P Gx).2 ?_;unfold Hs;simp only[Bk,Bl,Bi,Bf];exact .inr (.inr (.inr (.inr (.inl (by unfold SmB.blks;simp[e])))))
 have nk:Hid (∀W',W'.heap[x.p]? =X3.heap[x.p]? ->S W'):=Ah λW' h=>by
  obtain⟨⟨b0,b1,b2⟩,⟨b3,b4,b5⟩,b6,b7,b8⟩:=HSO.out _ hS
  have hc:∀j u,X3.cell? ⟨x.p,j,Ae⟩=Af u->W'.cell? ⟨x.p,j,Ae⟩=Af u:=λj u hu=>by
   unfold World.cell? at hu⊢;rw[h];exact hu
  rw[an];exact⟨⟨hc _ _ b0,hc _ _ b1,hc _ _ b2⟩,⟨hc _ _ b3,hc _ _ b4,hc _ _ b5⟩,hc _ _ b6,hc _ _ b7,hc _ _ b8⟩
 have jc:∀g,g<X3.heap.size->g≠P->(X3.setCells P 0 [Aa Ab s0,Aa Ab s1,Aa Ac s2,Aa Ab t0,Aa Ab t1,Aa Ac t2,Ad a1 n1 n1,Ad a2 n2 n2,Ad a3 n3 n3]).heap[g]? =X3.heap[g]? :=λg hg hgP=>World.heap_setCells_other X3 P 0 _ hg hgP
 have hxX:x.p<X3.heap.size:=by
  have h9:x.p<w3.heap.size:=(Au.1 (Su KO.out)).1;have:=hb.size;omega
 have JJ:=nk.out _ (jc x.p hxX hne);have fe:=Zr HP9.out [Aa Ab s0,Aa Ab s1,Aa Ac s2,Aa Ab t0,Aa Ab t1,Aa Ac t2,Ad a1 n1 n1,Ad a2 n2 n2,Ad a3 n3 n3] rfl;have SR:X3.heap.size<=(X3.setCells P 0 [Aa Ab s0,Aa Ab s1,Aa Ac s2,Aa Ab t0,Aa Ab t1,Aa Ac t2,Ad a1 n1 n1,Ad a2 n2 n2,Ad a3 n3 n3]).heap.size:=by simp[World.setCells]
 refine rdy 27 (λK hK=>?_);go_simp;refine hK.o JJ (λhS=>?_);clear hK K c0 c1' P4 c3' c4 c5 c6 c7 c8 z0 z1 z2 z3 z4 z5 z6 z7 z8;have JD:=KO.out.below hb;have hFX:=ZE.out.trans (KO.out.frm hb);have GY:=bw.lt;have gp:=ik.lt;have LZ:=tq.lt;have hP3l:=(Au.1 hh3.out.2).1;have hw03:=hFX.1.size;have hbX:=hb.size;have hF03:=ZE.out.1.size;obtain⟨W9,QX⟩:=ey (X3.setCells P 0 [Aa Ab s0,Aa Ab s1,Aa Ac s2,Aa Ab t0,Aa Ab t1,Aa Ac t2,Ad a1 n1 n1,Ad a2 n2 n2,Ad a3 n3 n3]);rw[QX]at jc fe SR;have uu:=JD.poke (w':=W9) jc SR;have ui:=bw.same (w':=W9) λg hg=>jc g (GY g hg).2.1 (oHx ((GY g hg).1));have ii:=ik.same (w':=W9) λg hg=>jc g (gp g hg).2.1 (oHx ((gp g hg).1));have FO:=tq.same (w':=W9) λg hg=>jc g (LZ g hg).2.1 (oHx ((LZ g hg).1));have hFW:=HFW.out;have R7:=NV.out
 have hrg:W9.rangeAt P 0 [Aa Ab s0,Aa Ab s1,Aa Ac s2,Aa Ab t0,Aa Ab t1,Aa Ac t2,Ad a1 n1 n1,Ad a2 n2 n2,Ad a3 n3 n3]:=λj u hj=>by
  rw[Bt,By W9 P j _ _ (0,0) fe];simpa using hj
 have NB:(⟨x.s.a,x.s.b,r1,r2,r3⟩:Sm).val a1 a2 a3= .agg #[s0,s1,Aa Ac s2,t0,t1,Aa Ac t2,Ad a1 n1 n1,Ad a2 n2 n2,Ad a3 n3 n3]:=by
  unfold Sm.val Sm.cells;simp only[HSA1.out,HSB1.out,PO.out,KA.out,HL3.out]
 have HW0:=hw03
 have wb:Oh W9 w.heap.size ⟨x.s.a,x.s.b,r1,r2,r3⟩ a1 a2 a3:=by
  unfold Oh;dsimp only;rw[PO.out,KA.out,HL3.out];exact⟨⟨zq,ui.base Gu⟩,⟨IF,ii.base Gu⟩,MM,FO.base Gu⟩
 have LD:Below O W0 W9:=by
  have hPO:O<=P:=by
   obtain⟨M,kv,a1,a2,a3,a4,a5,a6,a7,a8,a9,qd⟩:=HB.out;have:=(Au.1 a2).1;omega
  rw[<-QX];exact Oj hFX.1 hPO _ 0
 have F':Frm O F w W9:=hFW.trans ⟨LD,λg hg=>by
  have LP:=hFX.2 g (Ex _ hg)
  have GW:g<w.heap.size:=by
   obtain⟨M,kv,a1,a2,a3,a4,a5,a6,a7,a8,a9,qd⟩:=HB.out;exact(qd g hg).1
  exact(jc g Gu Gu).trans LP⟩
 have hOnly:∀g,g<w.heap.size->g∉x.blks->W9.heap[g]? =w.heap[g]? :=λg hg hx=>(jc g Gu Gu).trans ((hb.block g Gu).trans (TX.out g hg hx));simp only[World.setCells,Bt,Nat.reduceAdd]at QX;refine An Gw ?_ _;rw[QX]
 have aw:Hid (Am8 O B F (v.fix k zn) l1 l2 x w (.returned (.agg #[s0,s1,Aa Ac s2,t0,t1,Aa Ac t2,Ad a1 n1 n1,Ad a2 n2 n2,Ad a3 n3 n3])) W9):=Ah
  ⟨⟨{x.s with ps:=r1,ls:=r2,es:=r3},x.p,x.vp,x.vl,x.ve⟩,a1,a2,a3,by rw[<-NB],⟨rfl,rfl,EN.out.symm,yh.out.symm,HP3.out.symm⟩,rfl,rfl,uu,F',wb,rfl,hOnly⟩
 have HRG:=Ah hrg;clear wb F' LD NB hrg uu ui ii FO JD hFX hFW QX fe jc hS;go_wp2_with fail;exact bodyPost_ret (Mm rfl rfl HRG.out Tryz.underlying263 rfl Gw) rfl aw.out
theorem dZ (n:Nat) (p:List (Nat×Nat)):(Yv n p).length=n:=by
 have:∀(p:List (Nat×Nat)) (h:List Nat),(p.foldl (λh q=>h.set q.1 q.2) h).length=h.length:=by
  intro p
  induction p with
  |nil=>intro h;rfl
  |cons q p ih=>intro h;rw[List.foldl_cons,ih,List.length_set]
 unfold Yv;rw[this,Ff]
theorem Ac4 (n:Nat) (p:List (Nat×Nat)) (q:Nat×Nat):Yv n (p++[q])=(Yv n p).set q.1 q.2:=by
 unfold Yv;rw[List.foldl_append];rfl
def hTo (l:List Stk) (i j:Nat):List (Nat×Nat):=Qh (l.take i)++(match l[i]? with|some x=>x.ls.zipIdx.take j|none=>[])
theorem eC (l:List Stk) (i:Nat):hTo l i 0=Qh (l.take i):=by
 unfold hTo
 cases l[i]? <;>simp
theorem Ar3 (l:List Stk) (i j:Nat) (hi:i<l.length) (hj:j<l[i].ls.length):hTo l i (j+1)=hTo l i j++[(l[i].ls[j],j)]:=by
 unfold hTo;rw[Aw hi];dsimp only;rw[Bc (by simpa using hj),<-List.append_assoc];simp
theorem Ar2 (l:List Stk) (i:Nat) (hi:i<l.length):hTo l i l[i].ls.length=hTo l (i+1) 0:=by
 rw[eC];unfold hTo;rw[Aw hi];dsimp only;have e:l[i].ls.zipIdx.take l[i].ls.length=l[i].ls.zipIdx:=Bg Gx;rw[e,Bc hi];unfold Qh;rw[Bi,Bf,List.flatMap_nil,Fe]
theorem Bh0 (l:List Stk):hTo l l.length 0=Qh l:=by
 rw[eC,List.take_length]
structure aD (N j:Nat) (s:Sm):Prop where
 qa:s.a.q<=255
 qb:s.b.q<=255
 ps:∀p∈s.ps,p.1<N/\p.2<N
 ls:∀p∈s.ls,p.1<=1/\p.2.1<N/\p.2.2<N
 lp:s.ps.length<=j
 ll:s.ls.length<=j
 le:s.es.length<=j
theorem aD.next {N j:Nat} {s:Sm} (h:aD N j s):aD N (j+1) s:=⟨h.qa,h.qb,h.ps,h.ls,Ga h.lp,Ga h.ll,Ga h.le⟩
theorem Br7 {k:Lk} {N j id e:Nat} {s:Sm} (hk:rM k N) (hid:id<N) (h:aD N j s):aD N (j+1) (k.add id e s):=by
 have hn:(nbI k.a k.b id e).2=0->(nbI k.a k.b id e).1.toNat<N:=λh0=>by
  have:=fF hk.pat.sheet h0;have hn:=hk.n;unfold Hg at hn;omega
 unfold Lk.add
 split
 ·exact⟨h.qa,h.qb,h.ps,h.ls,Ga h.lp,Ga h.ll,by simp;exact h.le⟩
 ·rename_i h0;have h0:=Classical.not_not.1 h0;have hn:=hn h0
  split
  ·exact h.next
  ·dsimp only
   split
   ·refine⟨h.qa,h.qb,λp hp=>?_,h.ls,by simp;exact h.lp,Ga h.ll,Ga h.le⟩;rcases Bl.1 hp with hp|hp
    ·exact h.ps p hp
    ·obtain rfl:=Ge.1 hp;by_cases hb:k.img id=s.b
     ·simp only[hb,if_true];rw[Gz Ha];exact⟨hn,hid⟩
     ·simp only[hb,if_false,if_true];exact⟨hid,hn⟩
   ·refine⟨h.qa,h.qb,h.ps,λp hp=>?_,Ga h.lp,by simp;exact h.ll,Ga h.le⟩;rcases Bl.1 hp with hp|hp
    ·exact h.ls p hp
    ·obtain rfl:=Ge.1 hp
     split
     ·exact⟨by dsimp only;split<;>omega,hid,hn⟩
     ·exact⟨by dsimp only;split<;>omega,hn,hid⟩
theorem rC {P Q:Sm->Prop} {a b:Cl} {f:Sm->Sm} (hf:∀s,P s->Q (f s)) (hQ:∀s,P s->Q s) (h0:P (Sm.none a b)):∀{l:List Sm},(∀s∈l,P s)->(∀s∈Qw a b f l,Q s)/\(Qw a b f l).length<=l.length+1
 |[],_=>⟨λs hs=>by obtain rfl:=Ge.1 hs;exact hf _ h0,by simp[Qw]⟩
 |t::l,hl=>by
  unfold Qw
  split
  ·refine⟨λs hs=>?_,Gx⟩;rcases Bk.1 hs with rfl|hs
   ·exact hf _ (hl t Gx)
   ·exact hQ _ (hl s (by simp[hs]))
  ·obtain⟨h1,h2⟩:=rC hf hQ h0 (l:=l) λs hs=>hl s (by simp[hs]);refine⟨λs hs=>?_,by simp;exact h2⟩;rcases Bk.1 hs with rfl|hs
   ·exact hQ _ (hl s Gx)
   ·exact h1 s hs
theorem Bp1 {k:Lk} {N id:Nat} (hk:rM k N):(k.img id).q<=255:=by
 unfold Lk.img;rw[Ds];by_cases h:id<k.is.length
 ·rw[Aw h];have:=hk.cok _ (Ay h);unfold Cl.ok at this;have:=(Jt.1 this).2.2.2.2;show(k.is[id]).q<=255;omega
 ·rw[Ei Gu]
  decide
theorem yT (k:Lk) (id e:Nat):(k.other id e).q<=255:=by
 unfold Lk.other Pv
 split
 ·have:=yL (k.ms.getD id mv0) (Sg (Hf k.a id) e).1;omega
 ·decide
theorem Uk {k:Lk} {N:Nat} (hk:rM k N):∀j,j<=3*N->(∀s∈k.seamsTo j,aD N j s)/\(k.seamsTo j).length<=j
 |0,_=>⟨by simp[Lk.seamsTo],by simp[Lk.seamsTo]⟩
 |j+1,hj=>by
  obtain⟨h1,h2⟩:=Uk hk j Gu;have hid:j/3<N:=Gu
  have U7:(k.key (j/3) (j%3)).1.q<=255/\(k.key (j/3) (j%3)).2.q<=255:=by
   unfold Lk.key
   split
   ·exact⟨yT _ _ _,Bp1 hk⟩
   ·exact⟨Bp1 hk,yT _ _ _⟩
  have:=rC (a:=(k.key (j/3) (j%3)).1) (b:=(k.key (j/3) (j%3)).2) (λs hs=>Br7 (e:=j%3) hk hid hs) (λs hs=>hs.next) ⟨U7.1,U7.2,by simp[Sm.none],by simp[Sm.none],by simp[Sm.none],by simp[Sm.none],by simp[Sm.none]⟩ h1;exact⟨this.1,Br this.2 Gu⟩
theorem Zg (k:Nat) (hk:k<=1024) (W:Aj):(Instr.makeSlice 38 (Aa Ab k) (Aa Ab k)).run Do W= .ok (Ad (Af ⟨W.heap.size,0,Ae⟩) k k) (W.alloc (.cells (If (Ba k 0)).toArray 3)):=by
 obtain⟨i,hi,hz,hs,hb⟩:=info_parts Ns;have h:=run_make (P:=Do) W 38 3 i _ Dk hi hz .i64 .i64 k k Gu Gu (by rw[hb];omega) Gu;rw[h];simp only[Eu,hs,Nat.mul_one]
 have e:madeCells (Value.int .i64 0).cells k=(If (Ba k 0)).toArray:=by
  apply Array.ext';refine(toList_madeCells_one (Aa Ab 0) k).trans ?_;simp[If]
 rw[e]
def smC (x:Sm×(Option Ci×Option Ci×Option Ci)):List Ak:=(x.1.cells (Ad x.2.1 x.1.ps.length x.1.ps.length) (Ad x.2.2.1 x.1.ls.length x.1.ls.length) (Ad x.2.2.2 x.1.es.length x.1.es.length)).toList
theorem Qu (x:Sm×(Option Ci×Option Ci×Option Ci)):(smC x).length=9:=rfl
def Lm (w:Aj) (O:Nat) (A:Option Ci) (l:List Sm):Prop:=∃z:List (Sm×(Option Ci×Option Ci×Option Ci)),z.map (·.1)=l/\Jj w O 263 9 A z.length (z.flatMap smC)/\∀x∈z,Oh w O x.1 x.2.1 x.2.2.1 x.2.2.2
def Am4 (er:Int) (ss:List Sm) (w:Aj) (e:Ending) (w':Aj):Prop:=
 Below w.heap.size w w'/\((er≠0/\e= .returned (.tuple #[Ad Ae 0 0,er]))∨(er=0/\∃A r,e= .returned (.tuple #[Ad A r.length r.length,Aa Ab 0])/\Am9 ss r/\Lm w' w.heap.size A r))
theorem Bx.join {w w1 w2:Aj} {l:List (Nat×Array Ak×Cj)} {g:Nat} {cs:Array Ak} {t:Cj} (h:Bx w l w1) (hb:Below w1.heap.size w1 w2) (ju:w1.heap.size<=g) (hg:w2.heap[g]? =Af (Cn cs t (0,0))):Bx w (l++[(g,cs,t)]) w2:=by
 have h2:=h.call hb
 have hk:∀(i g':Nat) (ds:Array Ak) (u:Cj),(l++[(g,cs,t)])[i]? =Af (g',ds,u)->(i<l.length/\l[i]? =Af (g',ds,u))∨(i=l.length/\g'=g/\ds=cs/\u=t):=by
  intro i g' ds u hi;by_cases hl:i<l.length
  ·rw[Fj hl]at hi;exact .inl ⟨hl,hi⟩
  ·have se:i<(l++[(g,cs,t)]).length:=(List.getElem?_eq_some_iff.1 hi).1;simp at se;have:i=l.length:=Gu;subst this;rw[Ee (Am _),Fk]at hi;simp at hi;exact .inr ⟨rfl,hi.1.symm,hi.2.1.symm,hi.2.2.symm⟩
 refine⟨h2.below,?_,?_,?_⟩
 ·intro i g' ds u hi;rcases hk i g' ds u hi with⟨_,h1⟩|⟨_,rfl,rfl,rfl⟩
  ·exact h2.blk i g' ds u h1
  ·exact hg
 ·intro i g' ds u hi;rcases hk i g' ds u hi with⟨_,h1⟩|⟨_,rfl,rfl,rfl⟩
  ·exact h2.lo i g' ds u h1
  ·exact Br h.below.size ju
 ·intro i j g' ds u es v hi hj;rcases hk i g' ds u hi with⟨_,h1⟩|⟨h1,rfl,_,_⟩
  ·rcases hk j g' es v hj with⟨_,h2⟩|⟨_,rfl,_,_⟩
   ·exact h.inj i j g' ds u es v h1 h2
   ·exact absurd (h.lt i h1) Gu
  ·rcases hk j _ es v hj with⟨_,h2⟩|⟨h2,_,_,_⟩
   ·exact absurd (h.lt j h2) Gu
   ·omega
def osL (a b:Int) (pA:Option Ci) (pn pc:Nat) (rt:Nat) (rx ry:Int) (N P Hb B G1 G2 M cnt:Nat) (ms:List Mv) (is:List Cl) (hh:List Nat):List (Nat×Array Ak×Cj):=
 [(N,#[a,b,Ad pA pn pc],28),(P,#[Aa Ac rt,rx,ry],30),(Hb,(If hh).toArray,3),
  (B,#[a,b,Ad pA pn pc,Ad (Af ⟨G1,0,Ae⟩) cnt cnt,Ad (Af ⟨G2,0,Ae⟩) cnt cnt,Ad (Af ⟨Hb,0,Ae⟩) cnt cnt,.map (Af M),Ad Ae 0 0],326),(G1,(No ms).toArray,30),(G2,(Nx is).toArray,90)]
theorem xZ (h:List Nat) (i v:Nat):(If h).toArray.setIfInBounds i (Aa Ab (v:Int))=(If (h.set i v)).toArray:=by
 simp[If,List.map_set]
theorem Ug {w:Aj} {g n sz:Nat} {t:Cj} {xs:List Ak} (h:w.heap[g]? =Af (Cn xs.toArray t (0,0))) (hl:xs.length=n*sz):Rd w (Af ⟨g,0,Ae⟩) sz n xs:=by
 refine⟨hl,λ_=>⟨g,0,rfl,(Au.1 h).1,λj u hu=>?_⟩⟩;rw[Bt,By w g j _ t (0,0) h,Fu];exact hu
def osV (pA:Option Ci) (pn pc Hb G1 G2 cnt:Nat):LkV:=⟨pA,pn,pc,Af ⟨G1,0,Ae⟩,cnt,Af ⟨G2,0,Ae⟩,cnt,Af ⟨Hb,0,Ae⟩,cnt⟩
theorem Av8 {a b:Int} {pA:Option Ci} {pn pc rt N P Hb B G1 G2 M cnt:Nat} {rx ry:Int} {ms:List Mv} {is:List Cl} {hh:List Nat} {cr:List Cr} {w wr:Aj} (hB:Bx w (osL a b pA pn pc rt rx ry N P Hb B G1 G2 M cnt ms is hh) wr) (hM:Km pkK wr M []) (jz:w.heap.size<=M)
  (ig:ms.length=cnt) (bv:is.length=cnt) (RM:hh.length=cnt) (qz:∀w',Below w.heap.size w w'->pn=cr.length/\Rd w' pA 3 pn (crs cr)/\Qf w'/\Tn w'):
  Ii w.heap.size B [G1,G2,Hb] ((osV pA pn pc Hb G1 G2 cnt).fix ⟨a,b,cr,ms,is,hh⟩ cnt) wr []/\Yj w.heap.size [G1,G2,Hb] wr ⟨a,b,cr,ms,is,hh⟩ cnt (osV pA pn pc Hb G1 G2 cnt):=by
 have Q6:=hB.b 3;have CX:=hB.b 2;have H':=hB.b 4;have KQ:=hB.b 5
 have QQ:∀(g:Nat) (c:Array Ak) (t:Cj),wr.heap[g]? =Af (Cn c t (0,0))->g≠M:=λg c t hg e=>by
  obtain⟨es,clock,hm,-⟩:=hM;rw[e,hm]at hg
  cases hg
 have n1:G1≠B:=λe=>by
  subst e;have:=hB.inj 3 4 _ _ _ _ _ rfl rfl;omega
 have n2:G2≠B:=λe=>by
  subst e;have:=hB.inj 3 5 _ _ _ _ _ rfl rfl;omega
 have n3:Hb≠B:=λe=>by
  subst e;have:=hB.inj 3 2 _ _ _ _ _ rfl rfl;omega
 refine⟨⟨M,Pj,rfl,Q6,hM,⟨[],.refl _,rfl,.inl ⟨rfl,rfl⟩⟩,⟨Gx,Gx⟩,Gx,?_,hB.lo 3 _ _ _ rfl,jz,?_⟩,λw' hf=>?_⟩
 ·unfold Hs Pj;simp[Dv];exact QQ B _ _ Q6
 ·intro g hg;have hq:g=G1∨g=G2∨g=Hb:=by simpa using hg
  unfold Hs Pj;rcases hq with rfl|rfl|rfl
  ·exact⟨hB.lt 4 rfl,by simp[Dv];exact⟨n1,QQ _ _ _ H'⟩⟩
  ·exact⟨hB.lt 5 rfl,by simp[Dv];exact⟨n2,QQ _ _ _ KQ⟩⟩
  ·exact⟨hB.lt 2 rfl,by simp[Dv];exact⟨n3,QQ _ _ _ CX⟩⟩
 ·obtain⟨q1,q2,q3,q4⟩:=qz w' (hB.below.trans hf.1);exact⟨q1,q2,Ug ((hf.2 G1 Gx).trans H') (by rw[Vg,ig]),Ug ((hf.2 G2 Gx).trans KQ) (by rw[Om,bv]),Ug ((hf.2 Hb Gx).trans CX) (by simp[If,RM]),q3,q4⟩
theorem Ca5 {a b:Int} {cnt:Nat} {ms:List Mv} {is:List Cl} {hh:List Nat} {cr:List Cr} (hc:Hg a b=cnt) (ig:ms.length=cnt) (bv:is.length=cnt) (RM:hh.length=cnt) (vg:∀m∈ms,m.ok=true) (jb:∀c∈is,c.ok=true) (hp:Lq a b cr):rM ⟨a,b,cr,ms,is,hh⟩ cnt:=
 ⟨hc.symm,ig,bv,RM,vg,jb,hp⟩
theorem An9 {O B:Nat} {F:List Nat} {fix:List Ak} {w:Aj} {l:List SmB} (h:Ii O B F fix w l) (hq:∀x∈l,x.s.a.q<=255/\x.s.b.q<=255) (hl:l.length<=1000000):
  ∃A c,w.cell? ⟨B,7,Ae⟩=Af (Ad A l.length c)/\
   Al Do 204 #[Ad A l.length c,.func (.func 205) #[] #[]] w (λe w'=>e= .returned (.tuple #[])/\Ii O B F fix w' l/\Frm O F w w'):=by
 obtain⟨M,kv,a1,a2,a3,⟨ks,lu,a4⟩,a5,a6,a7,a8,a9,qd⟩:=h;have ad:=aI a2 a3 ⟨ks,lu,a4⟩ a5 a8 a9;have bc:ks.length=l.length:=by rw[lu.length_eq,Bo]
 have a4':=a4;rw[bc]at a4';obtain⟨A,c,hv,-,-⟩:=Hw a4';subst hv;obtain⟨-,m7,-,-,-⟩:=Mn a1 a2
 have DQ:∀p∈ks,p.1.q<=255/\p.2.q<=255:=λp hp=>by
  obtain⟨x,hx,rfl⟩:=Dq.1 (lu.mem_iff.1 hp);exact hq x hx
 have J8:=mA ks DQ;obtain⟨l',D3⟩:∃z:List PkE,(ks.attach.map λx=>(⟨x.1,DQ x.1 x.2⟩:PkE))=z:=⟨_,rfl⟩;rw[D3]at J8;have e:∀z:List PkE,z.flatMap pkV=(z.map (·.1)).flatMap pkC:=λz=>gC pkC z;refine⟨A,c,m7,(wE l' w (by rw[e,J8];exact a4') hl).mono ?_⟩;rintro en w' ⟨rfl,r,hp,-,ho,hg⟩;have bj:=a7;unfold Hs at bj;simp only[Eh,Bp,Bk,Bl,Option.mem_toList,not_or]at bj;obtain⟨⟨b1,b2,b3⟩,⟨m1,m2⟩,k1,k2,k3⟩:=bj;have hrk:(r.map (·.1)).Perm ks:=J8▸hp.map _;have na:(r.map (·.1)).length=l.length:=hrk.length_eq.trans bc;have Q7:=(Au.1 a2).1;refine⟨rfl,⟨M,_,a1,(hg.block B Q7 (Ne.symm b2)).trans a2,a3.same (hg.block M a3.lt (Ne.symm m1)),⟨r.map (·.1),hrk.trans lu,?_⟩,a5.same λg ud=>hg.block g (a5.lt g ud).2 (λe=>k3 g e.symm g ud rfl),a6,a7,a8,a9,λg VK=>⟨Bq (qd g VK).1 hg.size,(qd g VK).2⟩⟩,?_,?_⟩
 ·rw[na,<-e];exact ho
 ·exact(Ag O w).grown hg Gu (λk hk=>(a4.lt k hk).1)
 ·intro g VK;refine hg.block g (qd g VK).1 λe=>(qd g VK).2 ?_;unfold Hs;simp only[Bk,Bl,Option.mem_toList];exact .inr (.inr (.inl e.symm))
abbrev SmZ:=Sm×(Option Ci×Option Ci×Option Ci)
def Vr:SmZ:=(Sm.none cl0 cl0,(Ae,Ae,Ae))
theorem Bt9:(Tryz.prog.info? 263).map (λi=>(i.zero,i.size,i.bytes))=Af (Af (.agg #[Aa Ab 0,Aa Ab 0,Aa Ac 0,Aa Ab 0,Aa Ab 0,Aa Ac 0,Ad Ae 0 0,Ad Ae 0 0,Ad Ae 0 0]),9,120):=Gw
theorem Bj7 (k:Nat):madeCells #[Aa Ab 0,Aa Ab 0,Aa Ac 0,Aa Ab 0,Aa Ab 0,Aa Ac 0,Ad Ae 0 0,Ad Ae 0 0,Ad Ae 0 0] (k*9)=((Ba k Vr).flatMap smC).toArray:=by
 have hlen:((Ba k Vr).flatMap smC).length=k*9:=by rw[Ks smC 9 Qu,Ff]
 apply Array.ext';apply List.ext_getElem?;intro j;by_cases hj:j<k*9
 ·obtain⟨i,f,hf,rfl⟩:∃i f,f<9/\j=i*9+f:=⟨j/9,j%9,Gu,Gu⟩;have hi:i<k:=Gu;have h1:((Ba k Vr).flatMap smC)[i*9+f]? =(smC ((Ba k Vr)[i]'(by simpa using hi)))[f]? :=Iv smC 9 Qu _ i f (by simpa using hi) hf;rw[h1];have h3:f=0∨f=1∨f=2∨f=3∨f=4∨f=5∨f=6∨f=7∨f=8:=Gu;have hm:(i*9+f)%9=f:=Gu;simp[madeCells,hj,hm];rcases h3 with rfl|rfl|rfl|rfl|rfl|rfl|rfl|rfl|rfl<;>rfl
 ·rw[Ei (by simp[madeCells];omega),Ei (by rw[hlen];omega)]
theorem Au5 (k:Nat) (hk:k<=100000) (W:Aj):(Instr.makeSlice 184 (Aa Ab k) (Aa Ab k)).run Do W= .ok (Ad (Af ⟨W.heap.size,0,Ae⟩) k k) (W.alloc (.cells ((Ba k Vr).flatMap smC).toArray 263)):=by
 obtain⟨i,hi,hz,hs,hb⟩:=info_parts Bt9;have h:=run_make (P:=Do) W 184 263 i _ Tryz.underlying184 hi hz .i64 .i64 k k Gu Gu (by rw[hb];omega) Gu;rw[h];simp only[Eu,hs];have e:(Value.agg #[Aa Ab 0,Aa Ab 0,Aa Ac 0,Aa Ab 0,Aa Ab 0,Aa Ac 0,Ad Ae 0 0,Ad Ae 0 0,Ad Ae 0 0]).cells= #[Aa Ab 0,Aa Ab 0,Aa Ac 0,Aa Ab 0,Aa Ab 0,Aa Ac 0,Ad Ae 0 0,Ad Ae 0 0,Ad Ae 0 0]:=by rfl
 rw[e,Bj7]
theorem pS {W:Aj} {GO n i:Nat} {zs:List SmZ} (x:SmZ) (h:W.heap[GO]? =Af (Cn ((zs++Ba (n-i) Vr).flatMap smC).toArray 263 (0,0))) (hz:zs.length=i) (hi:i<n):
  (∀f,f<9->∃u,W.cell? ⟨GO,i*9+f,Ae⟩=Af u)/\(∀j,W.frozen? ⟨GO,j,Ae⟩=false)/\
   (W.setCells GO (i*9) (smC x)).heap[GO]? =Af (Cn ((zs++[x]++Ba (n-(i+1)) Vr).flatMap smC).toArray 263 (0,0)):=by
 have hlen:∀l:List SmZ,(l.flatMap smC).length=l.length*9:=λl=>Ks smC 9 Qu l
 have hrep:Ba (n-i) Vr=Vr::Ba (n-(i+1)) Vr:=by
  rw[<-List.replicate_succ]
  congr 1
  omega
 refine⟨λf hf=>?_,λj=>by simp[Dz,h],?_⟩
 ·have hb:i*9+f<((zs++Ba (n-i) Vr).flatMap smC).length:=by
   rw[hlen,Bh,Ff,hz];omega
  exact⟨_,by rw[By W GO (i*9+f) _ _ (0,0) h,Fu,Aw hb]⟩
 ·rw[Qm (smC x) (i*9) W _ h (by
   rw[Qu];simp only[List.size_toArray,hlen,Bh,Ff,hz];omega)]
  congr 2
  apply Array.ext';have h9:(zs.flatMap smC).length=i*9:=by rw[hlen,hz]
  rw[hrep];simp only[Bi,Bf,List.flatMap_nil,Fe];rw[Qu,List.take_append_of_le_length Gu,Bg Gu]
  congr 1
  rw[show i*9+9=(zs.flatMap smC).length+(smC Vr).length by rw[h9,Qu]];rw[List.drop_append,List.drop_append];simp
structure Cd7 (x y:SmB):Prop where
 p:y.p=x.p
 key:y.key=x.key
 blks:y.blks=x.blks
 s:SmP x.s y.s
structure gV (O B GO n:Nat) (F:List Nat) (fix:List Ak) (l0:List SmB) (ks:List (Cl×Cl)) (WL wr:Aj) (i:Nat) (zz:List (SmB×SmB)) (zs:List SmZ):Prop where
 len:zs.length=i
 fst:zz.map (·.1)=l0
 rel:∀q∈zz,Cd7 q.1 q.2
 bld:Ii O B (GO::F) fix wr (zz.map (·.2))
 same:∀g,g<WL.heap.size->g∉l0.flatMap SmB.blks->g≠GO->wr.heap[g]? =WL.heap[g]?
 size:WL.heap.size<=wr.heap.size
 frm:Below O WL wr
 out:wr.heap[GO]? =Af (Cn ((zs++Ba (n-i) Vr).flatMap smC).toArray 263 (0,0))
 rows:∀x∈zs,Oh wr WL.heap.size x.1 x.2.1 x.2.2.1 x.2.2.2
 spec:∀(j:Nat) (k:Cl×Cl) (x:SmZ),ks[j]? =Af k->zs[j]? =Af x->SmP (iL k (l0.map (·.s))) x.1
theorem Oh.same {w w':Aj} {O:Nat} {t:Sm} {A1 A2 A3:Option Ci} (h:Oh w O t A1 A2 A3) (hb:∀g,O<=g->g<w.heap.size->w'.heap[g]? =w.heap[g]?):Oh w' O t A1 A2 A3:=by
 obtain⟨⟨h1,h2⟩,⟨h3,h4⟩,h5,h6⟩:=h;exact⟨⟨h1,h2.same λg hg=>hb g (h2.lt g hg).1 (h2.lt g hg).2.1⟩,⟨h3,h4.same λg hg=>hb g (h4.lt g hg).1 (h4.lt g hg).2.1⟩,h5,h6.same λg hg=>hb g (h6.lt g hg).1 (h6.lt g hg).2.1⟩
theorem Oh.base {w:Aj} {O O':Nat} {t:Sm} {A1 A2 A3:Option Ci} (h:Oh w O t A1 A2 A3) (hO:O'<=O):Oh w O' t A1 A2 A3:=⟨⟨h.1.1,h.1.2.base hO⟩,⟨h.2.1.1,h.2.1.2.base hO⟩,h.2.2.1,h.2.2.2.base hO⟩
theorem Bl7 {O B GO n i:Nat} {F:List Nat} {fix:List Ak} {l0:List SmB} {ks:List (Cl×Cl)} {WL wr:Aj} {zz:List (SmB×SmB)} {zs:List SmZ} (h:gV O B GO n F fix l0 ks WL wr i zz zs) (hi:i<n) (DQ:ks.Perm (l0.map SmB.key)) (hn:ks.length=n) (bj:(l0.map SmB.key).Nodup)
  (pj:GO<WL.heap.size) (hOG:O<=GO) (ad:∀g∈l0.flatMap SmB.blks,g<WL.heap.size/\g≠GO):
  ∃(k:Cl×Cl) (x0 x:SmB) (b1 b2:List SmB),ks[i]? =Af k/\Of k (Ou l0)=Af x.ptr/\x0∈l0/\SmP x0.s x.s/\zz.map (·.2)=b1++x::b2/\
   ∀(XC w2:Aj) (y:SmB) (A1 A2 A3:Option Ci),Below wr.heap.size wr XC->SmP x.s y.s->y.p=x.p->y.key=x.key->y.blks=x.blks->Ii O B (GO::F) fix w2 (b1++y::b2)->Frm O (GO::F) XC w2->Oh w2 XC.heap.size y.s A1 A2 A3->
    (∀g,g<XC.heap.size->g∉x.blks->w2.heap[g]? =XC.heap[g]?)->
    ∃zz',gV O B GO n F fix l0 ks WL (w2.setCells GO (i*9) (smC (y.s,A1,A2,A3))) (i+1) zz' (zs++[(y.s,A1,A2,A3)]):=by
 have xt:i<ks.length:=Gu;obtain⟨k,hk⟩:=ey (ks[i]);have hkm:k∈l0.map SmB.key:=DQ.mem_iff.1 (hk▸Ay xt)
 obtain⟨m1,x0,m2,GX,NE,GV⟩:∃m1 x0 m2,l0=m1++x0::m2/\x0.key=k/\Of k (Ou l0)=Af x0.ptr:=by
  rcases tB k l0 with⟨m1,x0,m2,h1,h2,h3,-⟩|⟨oz,-⟩
  ·exact⟨m1,x0,m2,h1,h2,h3⟩
  ·exact absurd hkm oz
 have hf:=h.fst;rw[GX]at hf;obtain⟨z1,z2,rfl,ap,ca⟩:=List.map_eq_append_iff.1 hf;obtain⟨q,z3,rfl,hq,od⟩:=List.map_eq_cons_iff.1 ca;have hr:=h.rel q Gx;rw[hq]at hr;have SX:x0∈l0:=by rw[GX];simp
 refine⟨k,x0,q.2,z1.map (·.2),z3.map (·.2),by rw[Aw xt,hk],by rw[GV];unfold SmB.ptr;rw[hr.p],SX,hr.s,Gx,?_⟩;intro XC w2 y A1 A2 A3 hb WO hyp IM AD dl BF zy qm
 have JT:∀g∈q.2.blks,g<WL.heap.size/\g≠GO:=λg hg=>by
  rw[hr.blks]at hg;exact ad g (Eb.2 ⟨x0,SX,hg⟩)
 have hGx:GO∉q.2.blks:=λhg=>(JT GO hg).2 rfl;have hszb:=hb.size;have ir:=h.size;have SQ:=BF.1.size;obtain⟨u1,u2,u3⟩:=pS (W:=w2) (y.s,A1,A2,A3) ((qm GO Gu hGx).trans ((hb.block GO Gu).trans h.out)) h.len hi;have jc:∀g,g<w2.heap.size->g≠GO->(w2.setCells GO (i*9) (smC (y.s,A1,A2,A3))).heap[g]? =w2.heap[g]? :=λg hg ki=>World.heap_setCells_other w2 GO (i*9) _ hg ki;have SR:w2.heap.size<=(w2.setCells GO (i*9) (smC (y.s,A1,A2,A3))).heap.size:=(Oj (Ag O w2) hOG (smC (y.s,A1,A2,A3)) (i*9)).size;refine⟨z1++(q.1,y)::z3,by simp[h.len],by rw[GX];simp[ap,hq,od],λr F9=>?_,?_,λg hg xp ki=>?_,Gu,?_,u3,λx hx=>?_,λj kk x hj hx=>?_⟩
 ·rcases Bl.1 F9 with F9|F9
  ·exact h.rel r (by simp[F9])
  ·rcases Bk.1 F9 with rfl|F9
   ·rw[hq];exact⟨hyp.trans hr.p,IM.trans hr.key,AD.trans hr.blks,hr.s.trans WO⟩
   ·exact h.rel r (by simp[F9])
 ·have RZ:(z1++(q.1,y)::z3).map (·.2)=z1.map (·.2)++y::z3.map (·.2):=Gx;rw[RZ];obtain⟨M,kv,a1,a2,a3,a4,a5,a6,a7,a8,a9,qd⟩:=dl;have gp:=aI a2 a3 a4 a5 a8 a9;have hP:=(qd GO Gx).2;have jn:∀g∈Hs B M kv (z1.map (·.2)++y::z3.map (·.2)),(w2.setCells GO (i*9) (smC (y.s,A1,A2,A3))).heap[g]? =w2.heap[g]? :=λg hg=>jc g (gp g hg).2 λe=>hP (e▸hg);refine⟨M,kv,a1,(jn B (by simp[Hs])).trans a2,a3.same (jn M (by simp[Hs])),a4.same λg hg=>jn g (by simp[Hs,hg]),a5.same λg hg=>jn g ?_,a6,a7,a8,a9,λg hg=>⟨Bq (qd g hg).1 SR,(qd g hg).2⟩⟩;unfold Hs;simp only[Bk,Bl];exact .inr (.inr (.inr hg))
 ·exact(jc g Gu ki).trans ((qm g Gu (λhx=>xp (Eb.2 ⟨x0,SX,hr.blks▸hx⟩))).trans ((hb.block g Gu).trans (h.same g hg xp ki)))
 ·have hO:O<=WL.heap.size:=Gu;exact Oj ((h.frm.trans (hb.mono Gu)).trans BF.1) hOG _ _
 ·have br:∀g,WL.heap.size<=g->g<XC.heap.size->(w2.setCells GO (i*9) (smC (y.s,A1,A2,A3))).heap[g]? =XC.heap[g]? :=λg hg mu=>(jc g Gu Gu).trans (qm g mu (λhx=>by have:=(JT g hx).1;omega));rcases Bl.1 hx with hx|hx
  ·refine(h.rows x hx).same λg hg mu=>?_;exact(br g hg Gu).trans (hb.block g mu)
  ·obtain rfl:=Ge.1 hx;exact(zy.same λg hg mu=>jc g mu Gu).base Gu
 ·rcases Nat.lt_trichotomy j i with BO|rfl|BO
  ·rw[Fj (by rw[h.len];exact BO)]at hx;exact h.spec j kk x hj hx
  ·have J9:(y.s,A1,A2,A3)=x:=by
    rw[Ee (by rw[h.len];exact Am _),h.len,Fk]at hx;simpa using hx
   subst J9
   have jn:k=kk:=by
    rw[Aw xt,hk]at hj;simpa using hj
   subst jn
   have kr:((l0.map (·.s)).map λs=>(s.a,s.b)).Nodup:=by
    rw[Fs];exact bj
   have:=Ze kr (Dq.2 ⟨x0,SX,rfl⟩);have e:(x0.s.a,x0.s.b)=k:=NE;rw[e]at this;rw[this];exact hr.s.trans WO
  ·rw[Ei (by simp[h.len];omega)]at hx
   cases hx
theorem Bv8 {O B GO n:Nat} {F:List Nat} {fix:List Ak} {l0:List SmB} {ks:List (Cl×Cl)} {WL wr:Aj} {zz:List (SmB×SmB)} {zs:List SmZ} (h:gV O B GO n F fix l0 ks WL wr n zz zs) (DQ:ks.Perm (l0.map SmB.key)) (hn:ks.length=n) (bj:(l0.map SmB.key).Nodup) {O':Nat} (ET:O'<=GO) (OH:O'<=WL.heap.size):
  Am9 (l0.map (·.s)) (zs.map (·.1))/\Lm wr O' (Af ⟨GO,0,Ae⟩) (zs.map (·.1)):=by
 have hnd2:((l0.map (·.s)).map λs=>(s.a,s.b)).Nodup:=by
  rw[Fs];exact bj
 have D6:(ks.map λk=>iL k (l0.map (·.s))).length=(zs.map (·.1)).length:=by simp[h.len,hn]
 refine⟨⟨(ks.map λk=>iL k (l0.map (·.s))).zip (zs.map (·.1)),?_,?_,?_⟩,zs,rfl,?_,?_⟩
 ·rw[List.map_fst_zip Gu];have e:=Af2 hnd2;have e2:(l0.map (·.s)).map (λs=>(s.a,s.b))=l0.map SmB.key:=by rw[Fs];rfl
  rw[e2]at e
  conv=>lhs;rw[<-e]
  exact(DQ.map _).symm
 ·rw[List.map_snd_zip Gu]
 ·intro p hp;obtain⟨j,hj,rfl⟩:=List.mem_iff_getElem.1 hp;have U4:j<ks.length:=by simp at hj;omega
  have U5:j<zs.length:=by simp at hj;omega
  have:=h.spec j ks[j] zs[j] (Aw U4) (Aw U5);simpa using this
 ·have ho:=h.out;rw[Fk,List.replicate_zero,Fe]at ho;have ji:=Ks smC 9 Qu zs;exact⟨ji,.inr ⟨GO,_,rfl,ET,ho,by simp[ji],by rw[<-ji];exact List.take_length⟩⟩
 ·intro x hx;exact(h.rows x hx).base OH
end Go.Proofs.YtlgkpdfieaadaaaGreatDoor
