import Derived.Test.YtlgkpdfieaadaaaGreatDoorRLkm
set_option linter.all false
open Array renaming getElem?_eq_some_iff->Au
open Bool renaming and_eq_true->Em,false_eq_true->Ek
open Go renaming Addr->Cj,Calls->Al,TypeId->Ck,Value->Ak,World->Aj,cell_of_row->Bz,heap_alloc_new->Ca,wpAnyH_done->An,wpAnyH_ready->Ap,wp_region_held_drew->Ao
open Go.AllReadyH renaming cons->Aq,nil->Ar
open Go.IntKind renaming i64->Ab,u8->Ac
open Go.Lib renaming hid->Ah,wpList_append_run->As
open Go.Obj renaming cells->Co
open Go.Proofs.Tryz renaming prog->Dp,underlying38->Dl
open Go.RowKit.Below renaming heap_alloc->Eh,heap_setCell->Dq,refl->Ag
open Go.Value renaming int->Aa,slice->Ad,oneCell'->Do,ownBlock->Dx
open Go.World renaming frozen?->Ea
open Int renaming toNat_natCast->Ev
open List renaming append_nil->Ff,flatMap_append->Bi,flatMap_cons->Bf,getD_eq_getElem?_getD->Dt,getElem?_append_left->Fk,getElem?_append_right->Eg,getElem?_eq_getElem->Aw,getElem?_eq_none->Ej,getElem?_toArray->Fv,getElem_cons_succ->Ce,getElem_cons_zero->Cd,getElem_mem->Ay,getElem_toArray->Cf,length_append->Bh,length_map->Bp,length_replicate->Fg,map_append->Ez,map_cons->Es,map_map->Ft,mem_append->Bl,mem_cons->Bk,mem_cons_of_mem->Ey,mem_flatMap->Ec,mem_map->Dr,mem_singleton->Gf,nodup_append->Bq,nodup_cons->Ei,pairwise_cons->Gg,pairwise_map->Fc,replicate->Ba,setIfInBounds_toArray->Ci,set_cons_succ->Ch,set_cons_zero->Cg,take_of_length_le->Bg,take_succ_eq_append_getElem->Bc
open Nat renaming le_refl->Am,le_succ_of_le->Gb,le_trans->Bt,lt_of_lt_of_le->Br,sub_self->Fo,zero_add->Bu
open Option renaming none->Ae,some->Af
set_option maxHeartbeats 8000000
set_option maxRecDepth 100000
namespace Go.Proofs
open Go.Shelf Go.RowKit
def Tryz.laysSortCr_ren:Go.Shelf.Ren:=⟨fun|6=>131|15=>85|14=>175|28=>149|29=>150|20=>230|21=>231|22=>232|23=>233|24=>234|25=>235|26=>236|27=>237|46=>279|47=>189|48=>190|49=>280|50=>281|57=>305|n=>n,fun|22=>26|24=>192|25=>238|3=>3|39=>176|0=>0|53=>251|55=>253|4=>4|46=>245|45=>244|50=>208|5=>5|9=>9|66=>307|70=>109|76=>369|77=>225|n=>n,fun|n=>n⟩
open Tryz in
def Tryz.laysSortCr:Go.Proofs.SlLaysF0.n6 Dp Tryz.laysSortCr_ren:={
 mixed:=Gx,f6:=lyb func131,f14:=lyb func175,f15:=lyf func85,f20:=lyb func230,f21:=lyb func231,f22:=lyb func232,f23:=lyb func233,f24:=lyb func234,f25:=lyb func235,f26:=lyb func236,f27:=lyb func237,f28:=lyf func149,f29:=lyf func150,f46:=lyb func279,f47:=lyf func189,f48:=lyf func190,f49:=lyb func280,f50:=lyb func281,f57:=lyb func305,t0:=underlying0,a0:=isAgg0,z0:=sizeOf0,v0:=zeroValue0,t3:=underlying3,a3:=isAgg3,z3:=sizeOf3,v3:=zeroValue3,t4:=underlying4,a4:=isAgg4,z4:=sizeOf4,v4:=zeroValue4,t5:=underlying5,a5:=isAgg5,z5:=sizeOf5,v5:=zeroValue5,t9:=underlying9,a9:=isAgg9,z9:=sizeOf9,v9:=zeroValue9,t22:=underlying26,a22:=isAgg26,z22:=sizeOf26,v22:=zeroValue26,t25:=underlying238,a25:=isAgg238,z25:=sizeOf238,v25:=zeroValue238,t39:=underlying176,a39:=isAgg176,z39:=sizeOf176,v39:=zeroValue176,t45:=underlying244,a45:=isAgg244,z45:=sizeOf244,v45:=zeroValue244,t46:=underlying245,a46:=isAgg245,z46:=sizeOf245,v46:=zeroValue245,t50:=underlying208,a50:=isAgg208,z50:=sizeOf208,v50:=zeroValue208,t53:=underlying251,a53:=isAgg251,z53:=sizeOf251,v53:=zeroValue251,t55:=underlying253,a55:=isAgg253,z55:=sizeOf253,v55:=zeroValue253,t66:=underlying307,a66:=isAgg307,z66:=sizeOf307,v66:=zeroValue307,t70:=underlying109,a70:=isAgg109,z70:=sizeOf109,v70:=zeroValue109,t76:=underlying369,a76:=isAgg369,z76:=sizeOf369,v76:=zeroValue369,t77:=underlying225,a77:=isAgg225,z77:=sizeOf225,v77:=zeroValue225}
end Go.Proofs
namespace Go.Proofs.YtlgkpdfieaadaaaGreatDoor
open Go.RowKit Go.Sort
variable {a b c e c' e' rx ry:Int} {L l' cr:List Cr} {u:Nat×Nat} {O B M N P j g n sz cnt GO i O':Nat} {w w' W Y0 Y2 w1 w2 wr WL:Aj} {l1 l2 l l0:List SmB} {x:SmB} {F r hh:List Nat} {fix xs:List Ak} {κ α:Type} {v:LkV} {k:Lk} {A pA A1 A2 A3:Option Cj} {s t:Sm} {ms:List Mv} {is:List Cl} {ks:List (Cl×Cl)} {zz:List (SmB×SmB)}
abbrev CrE:=Int×Int×Int
def crI (x:CrE):List Ak:=[Aa Ab x.1,Aa Ac x.2.1,Aa Ac x.2.2]
def lD (x y:CrE):Int:=orI (Ik x.1 y.1) (Ik x.2.1 y.2.1)
def lG (x y:CrE) (w:Aj):Al Dp 132 #[.agg (crI x).toArray,.agg (crI y).toArray] w (Uw (Aa Ab (lD x y)) w):=by
 obtain⟨x0,x1,x2⟩:=x;obtain⟨y0,y1,y2⟩:=y;unfold crI lD;dsimp only;have pa:=Ah (λw'=>Nf x0 y0 w');have DR:=Ah (λw'=>oA x1 y1 w');obtain⟨p,hp⟩:=ey (Ik x0 y0);obtain⟨q,hq⟩:=ey (Ik x1 y1);rw[hp]at pa⊢;rw[hq]at DR⊢;have dh:Bd w ((w.alloc (.cells #[x0,Aa Ac x1,Aa Ac x2] 192)).alloc (.cells #[y0,Aa Ac y1,Aa Ac y2] 192)):=((Bd.refl w).alloc _).alloc _;have HB:=((Bx.start w).new #[x0,Aa Ac x1,Aa Ac x2] 192 rfl).new #[y0,Aa Ac y1,Aa Ac y2] 192 (N:=w.heap.size+1) Gy;clear hp hq;go_in;go_upto_region 1 with fail;generalize (w.alloc _).alloc _=W at HB dh⊢;obtain⟨N,ct⟩:=Tw w.heap.size;rw[<-ct.out]at HB⊢;generalize N+1=P at HB⊢;obtain⟨⟨a0,a1,-⟩,-⟩:=Hg (HB.b 0);obtain⟨⟨b0,b1,-⟩,-⟩:=Hg (HB.b 1);have fa:=Ah dh.drew;obtain⟨S,an,HSO⟩:=Og λW'=>(W'.cell? ⟨N,0,Ae⟩=Af (Aa Ab x0)/\W'.cell? ⟨N,1,Ae⟩=Af (Aa Ac x1))/\W'.cell? ⟨P,0,Ae⟩=Af (Aa Ab y0)/\W'.cell? ⟨P,1,Ae⟩=Af (Aa Ac y1)
 have ag:Hid (∀W',Below W.heap.size W W'->S W'):=Ah λW' h=>by
  subst an;exact⟨⟨Gw h a0,Gw h a1⟩,Gw h b0,Gw h b1⟩
 clear an a0 a1 b0 b1 dh HB;refine Ao (S:=S) Gx (ag.out _ (Ag _ _).drew) (λhS=>?_);have hb:Below W.heap.size W W.drew:=(Ag _ _).drew;generalize W.drew=X0 at hb hS fa⊢;refine Hk 0 1 2 3 ?_;refine Hk 5 6 7 8 ?_;refine rdy 4 (λK hK=>?_);go_simp;refine(pa.out _).mono ?_;rintro e X1 ⟨rfl,ad⟩;have fa:=Ah (fa.out.trans ad);have hb:=Up hb ad.b;refine hK.o (ag.out _ hb) (λhS=>?_);clear hK K ad;refine rdy 9 (λK hK=>?_);go_simp;refine(DR.out _).mono ?_;rintro e X2 ⟨rfl,ad⟩;have fa:=Ah (fa.out.trans ad);have hb:=Up hb ad.b;refine hK.o (ag.out _ hb) (λhS=>?_);clear hK K ad
 have hr:(X2.alloc (.cells #[p,q] 3)).rangeAt X2.heap.size 0 [Aa Ab p,Aa Ab q]:=λj v hj=>by
  rw[Bu,Bz _ _ j _ _ (0,0) (Ca X2 _)];simpa using hj
 have HOR:=Ah (vR X2.heap.size 2 p q _ hr);have fa:=Ah (fa.out.alloc (.cells #[p,q] 3));have hb:=hb.alloc hb.size (.cells #[p,q] 3);clear hr;refine rdy 10 (λK hK=>?_);go_simp;refine hK.o (ag.out _ hb) (λhS=>?_);clear hK K;refine rdy 11 (λK hK=>?_);go_simp;refine HOR.out.mono ?_;rintro e X3 ⟨rfl,ad⟩;have fa:=Ah (fa.out.trans ad);have hb:=Up hb ad.b;refine hK.o (ag.out _ hb) (λhS=>?_);clear hK K ad;refine Ke 12 ?_;refine An Gx ?_ _;go_wp2;go_ret;exact⟨rfl,fa.out⟩
def Bl7 (x y:CrE):ltOf lD x y=decide (x.1<y.1∨(x.1=y.1/\x.2.1<y.2.1)):=by
 unfold ltOf lD;rw[decide_eq_decide,Zi,Mx,Jf,Mx]
def Cg1:SWO (ltOf lD) where
 irrefl x:=by rw[Bl7,Rt];omega
 trans x y z h1 h2:=by rw[Bl7,decide_eq_true_iff]at*;omega
 ntrans x y z h1 h2:=by rw[Bl7,Rt]at*;omega
def Bk2 (w:Aj):(isAgg 192).run Dp w= .ok true w:=Gx
def Ca2 (w:Aj):(Go.sizeOf 192).run Dp w= .ok 3 w:=Gx
def xD {O m c:Nat} {B:Option Cj} (l:List CrE) (w:Aj) (h:w.ownsRow O 192 3 (Ad B m c) m (l.flatMap crI)) (hm:m<=1000000):
  Al Dp 131 #[Ad B m c,.func (.func 132) #[] #[]] w (Lm crI lD l O 192 3 m (Ad B m c) w):=
 Tq Tryz.laysSortCr 3 He Bk2 Ca2 crI (λ_=>rfl) (λx v hv=>by
  simp[crI]at hv;rcases hv with rfl|rfl|rfl<;>rfl) lD Cg1 132 #[] (enters_of Tryz.func132 Gx rfl) l w h hm (λW' _ x y=>lG x y W')
def Nb:∀{j:Nat} {u:Nat×Nat},u∈Jz a b j->u.2<3/\3*u.1+u.2<j/\isU a b u.1 u.2=true
 |0,u,h=>by simp[Jz]at h
 |j+1,u,h=>by
  unfold Jz at h;rcases Bl.1 h with h|h
  ·obtain⟨h1,h2,h3⟩:=Nb h;exact⟨h1,Gv,h3⟩
  ·unfold Ul at h
   split at h
   ·rename_i hu;simp at h;subst h;exact⟨by show j%3<3;omega,by show 3*(j/3)+j%3<j+1;omega,hu⟩
   ·simp at h
def cU (a b:Int):∀j,(Jz a b j).Pairwise λu v=>3*u.1+u.2<3*v.1+v.2
 |0=> .nil
 |j+1=>by
  unfold Jz;rw[List.pairwise_append];refine⟨cU a b j,?_,λu hu v hv=>?_⟩
  ·unfold Ul
   split
   ·exact List.pairwise_singleton _ _
   ·exact .nil
  ·have h1:=(Nb hu).2.1;unfold Ul at hv
   split at hv
   ·simp at hv;subst hv;show 3*u.1+u.2<3*(j/3)+j%3;omega
   ·simp at hv
def pK {i e:Nat} (h:isU a b i e=true):Ij a b i e=((i:Int),(e:Int),0):=by
 unfold isU at h;simp only[Em,Li]at h;unfold Ij;rw[Hc h.1];have:min (i:Int) (nbI a b i e).1=i:=Gv;rw[this]
def yE:∀(l:List Int) (lo hi:Int),l.Pairwise (· <·)->(∀x∈l,lo<=x/\x<hi)->lo<=hi->(l.length:Int)<=hi-lo
 |[],lo,hi,_,_,h=>Hv
 |x::r,lo,hi,hp,hb,h=>by
  rw[Gg]at hp;have hx:=hb x Gy;have:=yE r (x+1) hi hp.2 (λy hy=>⟨by have:=hp.1 y hy;omega,(hb y (by simp[hy])).2⟩) Gv;simp only[List.length_cons];omega
def aL {l:List Cr} (hf:∀r∈l,r.fit) (ha:l.Pairwise λr q=>Kv r.c r.e q.c q.e<0):l.length<=262400:=by
 have h1:(l.map λr=>r.c*256+r.e).Pairwise (· <·):=by
  rw[Fc];refine ha.imp_of_mem λ{r q} hr hq h=>?_;have f1:=hf r hr;have f2:=hf q hq;unfold Cr.fit at f1 f2;unfold Kv at h
  split at h
  ·rename_i e;omega
  ·omega
 have h2:=yE _ 0 262400 h1 (λx hx=>by
  obtain⟨r,hr,rfl⟩:=Dr.1 hx;have f1:=hf r hr;unfold Cr.fit at f1;omega) He
 simp at h2;omega
def jB (x:Cr) (l:List Cr):(Af8 x l).Perm (x::l):=by
 induction l with
 |nil=>exact .refl _
 |cons y r ih=>
  unfold Af8
  split
  ·exact .refl _
  ·exact(ih.cons y).trans (List.Perm.swap x y r)
def Na (l:List Cr):(Oc l).Perm l:=by
 induction l with
 |nil=>exact .refl _
 |cons x r ih=>exact(jB x _).trans (ih.cons x)
def Zj:Kv c e c' e'<=0↔c<c'∨(c=c'/\e<=e'):=by
 unfold Kv
 split
 ·omega
 ·omega
def zV:Kv c e c' e'<0↔c<c'∨(c=c'/\e<e'):=by
 unfold Kv
 split
 ·omega
 ·omega
def Bk0 (x:Cr) (l:List Cr) (h:l.Pairwise λp q=>Kv p.c p.e q.c q.e<=0):(Af8 x l).Pairwise λp q=>Kv p.c p.e q.c q.e<=0:=by
 induction l with
 |nil=>exact List.pairwise_singleton _ _
 |cons y r ih=>
  unfold Af8;have hh:=h;rw[Gg]at h
  split
  ·rename_i hc;rw[Gg];refine⟨λz hz=>?_,hh⟩;rcases Bk.1 hz with rfl|hz
   ·exact hc
   ·have h2:=h.1 z hz;rw[Zj]at*;omega
  ·rename_i hc;rw[Gg];refine⟨λz hz=>?_,ih h.2⟩;rcases Bk.1 ((jB x r).mem_iff.1 hz)with rfl|hz
   ·rw[Zj]at*;omega
   ·exact h.1 z hz
def rT (l:List Cr):(Oc l).Pairwise λp q=>Kv p.c p.e q.c q.e<=0:=by
 induction l with
 |nil=>exact .nil
 |cons x r ih=>exact Bk0 x _ ih
def crU (r:Cr):Int×Int:=(r.c,r.e)
def mC {l:List Cr} (h:l.Pairwise λp q=>Kv p.c p.e q.c q.e<=0) (hn:(l.map crU).Nodup):l.Pairwise λp q=>Kv p.c p.e q.c q.e<0:=by
 unfold List.Nodup at hn;rw[Fc]at hn;refine(h.and hn).imp λ{p q} hh=>?_;obtain⟨h1,h2⟩:=hh;rw[Zj]at h1;rw[zV];unfold crU at h2;have:¬(p.c=q.c/\p.e=q.e):=λe=>h2 (by rw[e.1,e.2]);omega
def Zu {l:List Cr} (h:l.Pairwise λp q=>Kv p.c p.e q.c q.e<0):(l.map crU).Nodup:=by
 unfold List.Nodup;rw[Fc];refine h.imp λ{p q} hh=>?_;rw[zV]at hh;unfold crU;intro e;simp at e;omega
def lE:∀{l:List Cr},(l.map crU).Nodup->∀a∈l,∀b∈l,crU a=crU b->a=b
 |[],_,a,ha,_,_,_=>absurd ha Gy
 |y::r,h,a,ha0,b,lh,e=>by
  rw[Es,Ei]at h;rcases Bk.1 ha0 with e1|ha
  ·rcases Bk.1 lh with e2|hb
   ·rw[e1,e2]
   ·exact absurd (Dr.2 ⟨b,hb,by rw[<-e,e1]⟩) h.1
  ·rcases Bk.1 lh with e2|hb
   ·exact absurd (Dr.2 ⟨a,ha,by rw[e,e2]⟩) h.1
   ·exact lE h.2 a ha b hb e
def mU (hp:l'.Perm L) (hs:l'.Pairwise λp q=>Kv p.c p.e q.c q.e<=0) (hn:(L.map crU).Nodup):l'=Oc L:=by
 refine Wo _ l' (Oc L) (hp.trans (Na L).symm) hs (rT L) λa ha b hb h1 h2=>?_;refine lE hn a (hp.mem_iff.1 ha) b (hp.mem_iff.1 hb) ?_;rw[Zj]at h1 h2;unfold crU;have e1:a.c=b.c:=Gv;have e2:a.e=b.e:=Gv;rw[e1,e2]
def uS {l:List Cr} (hk:∀r∈l,isK r.k=true) (h:Ho l c e=0):(c,e)∉l.map crU:=by
 intro hm;obtain⟨r,hr,hu⟩:=Dr.1 hm;unfold crU at hu;simp at hu;unfold Ho at h
 split at h
 ·rename_i q hq;have h1:=hk q (List.mem_of_find?_eq_some hq);rw[h]at h1;exact absurd h1 He
 ·rename_i hq;have:=List.find?_eq_none.1 hq r hr;simp[hu.1,hu.2]at this
def Lz (l:List (Nat×Nat)) (k:Nat->Int):List Cr:=l.map λu=>⟨u.1,u.2,k u.1⟩
def Qw {s:St} {k c:Int} (h:u∈Lt s k c):u∈Ko s.a s.b/\Ho s.cr u.1 u.2=0:=by
 unfold Lt at h;obtain⟨h1,h2⟩:=List.mem_filter.1 h;simp only[Em,Li]at h2;exact⟨h1,h2.2⟩
def bQ (hs:okS a b=true) (h:u∈Ko a b):u.2<3/\u.1<1024/\isU a b u.1 u.2=true:=by
 obtain⟨h1,h2,h3⟩:=Nb h;have:=Sx hs;exact⟨h1,Gv,h3⟩
def jI {s:St} (hp:Lo s.a s.b s.cr) (k c:Int) (kf:Nat->Int):((s.cr++Lz (Lt s k c) kf).map crU).Nodup:=by
 rw[Ez,Bq];refine⟨Zu hp.asc,?_,λx hx y hy e=>?_⟩
 ·unfold Lz List.Nodup;rw[Ft,Fc]
  have h1:(Lt s k c).Pairwise λu v=>3*u.1+u.2<3*v.1+v.2:=by
   unfold Lt;exact(cU s.a s.b _).filter _
  refine h1.imp λ{u v} h e=>?_;simp[crU]at e;omega
 ·subst e;unfold Lz at hy;rw[Ft]at hy;obtain⟨u,hu,rfl⟩:=Dr.1 hy;exact uS hp.kind (Qw hu).2 hx
def Ai1 {s:St} (hp:Lo s.a s.b s.cr) (k c:Int) (kf:Nat->Int) (hk:∀i,kf i=1∨kf i=2):Lo s.a s.b (Oc (s.cr++Lz (Lt s k c) kf)):=by
 have IK:=Na (s.cr++Lz (Lt s k c) kf)
 have br:∀r∈Oc (s.cr++Lz (Lt s k c) kf),r∈s.cr∨∃u∈Lt s k c,r=⟨u.1,u.2,kf u.1⟩:=λr hr=>by
  rcases Bl.1 (IK.mem_iff.1 hr)with h|h
  ·exact .inl h
  ·obtain⟨u,hu,e⟩:=Dr.1 h;exact .inr ⟨u,hu,e.symm⟩
 have mc:∀r∈Oc (s.cr++Lz (Lt s k c) kf),r.fit:=λr hr=>by
  rcases br r hr with h|⟨u,hu,rfl⟩
  ·exact hp.fit r h
  ·obtain⟨b1,b2,-⟩:=bQ hp.sheet (Qw hu).1;have h12:=hk u.1;unfold Cr.fit;dsimp only;omega
 have BN:(Oc (s.cr++Lz (Lt s k c) kf)).Pairwise λr q=>Kv r.c r.e q.c q.e<0:=mC (rT _) ((IK.map crU).nodup_iff.2 (jI hp k c kf));refine⟨hp.sheet,λr hr=>?_,λr hr=>?_,mc,BN,by have:=aL mc BN;omega⟩
 ·rcases br r hr with h|⟨u,hu,rfl⟩
  ·exact hp.kind r h
  ·dsimp only;rcases hk u.1 with e|e<;>rw[e]<;>decide
 ·rcases br r hr with h|⟨u,hu,rfl⟩
  ·exact hp.name r h
  ·exact pK (bQ hp.sheet (Qw hu).1).2.2
def crT (r:Cr):CrE:=(r.c,r.e,r.k)
def Cd0 (l:List Cr):crs l=(l.map crT).flatMap crI:=by
 unfold crs;rw[List.flatMap_map];rfl
def crB (x:CrE):Cr:=⟨x.1,x.2.1,x.2.2⟩
def Cc9 (l:List CrE):crs (l.map crB)=l.flatMap crI:=by
 unfold crs;rw[List.flatMap_map];rfl
def Bc6 {l':List CrE} (hp:l'.Perm (L.map crT)) (hs:l'.Pairwise λp q=>ltOf lD q p=false) (hn:(L.map crU).Nodup):l'.map crB=Oc L:=by
 refine mU ?_ ?_ hn
 ·have h:=hp.map crB;rw[Ft]at h;have e:(crB∘crT)=id:=by funext r;rfl
  rwa [e,List.map_id]at h
 ·rw[Fc];refine hs.imp λ{p q} h=>?_;rw[Bl7,Rt]at h;rw[Zj];unfold crB;dsimp only;omega
def Pa (h:Oi O w (l1++x::l2)):x.blks.Nodup:=by
 have:=h.2;simp only[Bi,Bf,Bq]at this;exact this.2.1.1
def Af3 (l:List Nat) (x:Nat):Ih (l++[x])=Ih l++[Aa Ab (x:Int)]:=by simp[Ih]
def Bv0 (h:Il O B F fix w (l1++x::l2)) (hl:x.s.es.length<=1000000) (id:Nat):
  ∃A c,x.ve= Ad A x.s.es.length c/\w.cell? ⟨x.p,8,Ae⟩=Af (Ad A x.s.es.length c)/\
   ∃A' c' w6,(Builtin.append_ #[38,38] 38 #[Ad A x.s.es.length c,Ad (Af ⟨w.heap.size,0,Ae⟩) 1 1]).run Dp (w.alloc (.cells ([Aa Ab (id:Int)]:List Ak).toArray 3))= .ok (Ad A' (x.s.es.length+1) c') w6/\
    w6.frozen? ⟨x.p,8,Ae⟩=false/\w6.cell? ⟨x.p,8,Ae⟩=Af (Ad A x.s.es.length c)/\
    Il O B F fix (w6.setCell ⟨x.p,8,Ae⟩ (Ad A' (x.s.es.length+1) c')) (l1++(⟨{x.s with es:=x.s.es++[id]},x.p,x.vp,x.vl,Ad A' (x.s.es.length+1) c'⟩:SmB)::l2)/\Frm O F w (w6.setCell ⟨x.p,8,Ae⟩ (Ad A' (x.s.es.length+1) c')):=by
 have mj:=h.sms
 have hO:O<=w.heap.size:=by
  obtain⟨M,kv,_,h2,_,_,_,_,_,h8,_⟩:=h;have:=(Au.1 h2).1;omega
 have dw:=mj.1 x Gy;have ac:=dw.lt;have ca:=Pa mj;obtain⟨h0,h1,h2,h3,h4⟩:=dw;obtain⟨A,c,hv,-,-⟩:=Hy h4;obtain⟨A',c',w6,ah,yh,bc,GY,ul,-,-,un⟩:=Yi (sl:=38) Dl Nq rfl He He w O x.s.es.length x.ve _ h4 hO Gv [Aa Ab (id:Int)] rfl (by simp[Do]);have ii:=ca;unfold SmB.blks at ii;simp only[Ei,Bq,Bl,Option.mem_toList,not_or]at ii;obtain⟨⟨⟨RJ,RK⟩,RM⟩,⟨-,-,n12⟩,-,n3⟩:=ii;have dr:x.p<w.heap.size:=(Au.1 h1).1;have xv:w6.heap[x.p]? =Af (.cells (x.s.cells x.vp x.vl x.ve) 263 (0,0)):=(GY.block x.p dr (Ne.symm RM)).trans h1;have hb:=Bg9 (s:={x.s with es:=x.s.es++[id]}) (v:= Ad A' (x.s.es.length+1) c') (N:=w.heap.size) ca (λg hg=>(ac g hg).2) un
 have jr:∀g,(Dx (Ad A' (x.s.es.length+1) c'))=Af g->g≠x.p:=by
  intro g hg e;subst e;rcases un with e|⟨g,e,jz⟩
  ·rw[e]at hg;exact RM hg
  ·rw[e]at hg;injection hg with hg;omega
 have bm:∀g,g<w.heap.size->g≠x.p->x.ve.ownBlock≠Af g->(w6.setCell ⟨x.p,8,Ae⟩ (Ad A' (x.s.es.length+1) c')).heap[g]? =w.heap[g]? :=λg hg hp PC=>
  (Dq w6 ⟨x.p,8,Ae⟩ _ g (by show g≠x.p;exact hp)).trans (GY.block g hg (Ne.symm PC))
 have hy:(⟨{x.s with es:=x.s.es++[id]},x.p,x.vp,x.vl,Ad A' (x.s.es.length+1) c'⟩:SmB).ok O (w6.setCell ⟨x.p,8,Ae⟩ (Ad A' (x.s.es.length+1) c')):=by
  refine⟨h0,?_,?_,?_,?_⟩
  ·rw[Ju _ xv];rfl
  ·exact Io h2 λg hg=>bm g (h2.lt g hg).2 (λe=>RJ (e▸hg)) λe=>n3 g (.inl hg) g e rfl
  ·exact Io h3 λg hg=>bm g (h3.lt g hg).2 (λe=>RK (e▸hg)) λe=>n3 g (.inr hg) g e rfl
  ·rw[Af3,Bh];exact Io yh λg hg=>Dq w6 ⟨x.p,8,Ae⟩ _ g (by show g≠x.p;exact jr g hg)
 have gg:w.heap.size<=(w6.setCell ⟨x.p,8,Ae⟩ (Ad A' (x.s.es.length+1) c')).heap.size:=by
  have:=GY.size;simpa using this
 obtain⟨r1,r2⟩:=h.change (y:=⟨{x.s with es:=x.s.es++[id]},x.p,x.vp,x.vl,Ad A' (x.s.es.length+1) c'⟩) hy rfl rfl hb.1 hb.2 (λg hg hx=>bm g hg (λe=>hx (by rw[e];simp[SmB.blks])) (λe=>hx (by unfold SmB.blks;simp[e]))) gg;refine⟨A,c,hv,?_,A',c',w6,by rw[<-hv];exact ah,by simp[Ea,xv],?_,r1,bc.setCell (p:=⟨x.p,8,Ae⟩) h0 _,r2⟩
 ·rw[Bz w x.p 8 _ _ (0,0) h1,<-hv];rfl
 ·rw[Bz w6 x.p 8 _ _ (0,0) xv,<-hv];rfl
def kO (h:Il O B F fix w (l1++x::l2)) (hl:x.s.ls.length<=1000000) (z:Nat×Nat×Nat):
  ∃A c,x.vl= Ad A x.s.ls.length c/\w.cell? ⟨x.p,7,Ae⟩=Af (Ad A x.s.ls.length c)/\
   ∃A' c' w6,(Builtin.append_ #[261,261] 261 #[Ad A x.s.ls.length c,Ad (Af ⟨w.heap.size,0,Ae⟩) 1 1]).run Dp (w.alloc (.cells ([Aa Ac (z.1:Int),Aa Ab (z.2.1:Int),Aa Ab (z.2.2:Int)]:List Ak).toArray 266))= .ok (Ad A' (x.s.ls.length+1) c') w6/\
    w6.frozen? ⟨x.p,7,Ae⟩=false/\w6.cell? ⟨x.p,7,Ae⟩=Af (Ad A x.s.ls.length c)/\
    Il O B F fix (w6.setCell ⟨x.p,7,Ae⟩ (Ad A' (x.s.ls.length+1) c')) (l1++(⟨{x.s with ls:=x.s.ls++[z]},x.p,x.vp,Ad A' (x.s.ls.length+1) c',x.ve⟩:SmB)::l2)/\Frm O F w (w6.setCell ⟨x.p,7,Ae⟩ (Ad A' (x.s.ls.length+1) c')):=by
 have mj:=h.sms
 have hO:O<=w.heap.size:=by
  obtain⟨M,kv,_,h2,_,_,_,_,_,h8,_⟩:=h;have:=(Au.1 h2).1;omega
 have dw:=mj.1 x Gy;have ac:=dw.lt;have ca:=Pa mj;obtain⟨h0,h1,h2,h3,h4⟩:=dw;obtain⟨A,c,hv,-,-⟩:=Hy h3;obtain⟨A',c',w6,ah,yh,bc,GY,ul,-,-,un⟩:=Yi (sl:=261) Tryz.underlying261 pH rfl He He w O x.s.ls.length x.vl _ h3 hO Gv [Aa Ac (z.1:Int),Aa Ab (z.2.1:Int),Aa Ab (z.2.2:Int)] rfl (by simp[Do]);have ii:=ca;unfold SmB.blks at ii;simp only[Ei,Bq,Bl,Option.mem_toList,not_or]at ii;obtain⟨⟨⟨RJ,RK⟩,RM⟩,⟨-,-,n12⟩,-,n3⟩:=ii;have dr:x.p<w.heap.size:=(Au.1 h1).1;have xv:w6.heap[x.p]? =Af (.cells (x.s.cells x.vp x.vl x.ve) 263 (0,0)):=(GY.block x.p dr (Ne.symm RK)).trans h1;have hb:=Bh0 (s:={x.s with ls:=x.s.ls++[z]}) (v:= Ad A' (x.s.ls.length+1) c') (N:=w.heap.size) ca (λg hg=>(ac g hg).2) un
 have jr:∀g,(Dx (Ad A' (x.s.ls.length+1) c'))=Af g->g≠x.p:=by
  intro g hg e;subst e;rcases un with e|⟨g,e,jz⟩
  ·rw[e]at hg;exact RK hg
  ·rw[e]at hg;injection hg with hg;omega
 have bm:∀g,g<w.heap.size->g≠x.p->x.vl.ownBlock≠Af g->(w6.setCell ⟨x.p,7,Ae⟩ (Ad A' (x.s.ls.length+1) c')).heap[g]? =w.heap[g]? :=λg hg hp PC=>
  (Dq w6 ⟨x.p,7,Ae⟩ _ g (by show g≠x.p;exact hp)).trans (GY.block g hg (Ne.symm PC))
 have hy:(⟨{x.s with ls:=x.s.ls++[z]},x.p,x.vp,Ad A' (x.s.ls.length+1) c',x.ve⟩:SmB).ok O (w6.setCell ⟨x.p,7,Ae⟩ (Ad A' (x.s.ls.length+1) c')):=by
  refine⟨h0,?_,?_,?_,?_⟩
  ·rw[Ju _ xv];rfl
  ·exact Io h2 λg hg=>bm g (h2.lt g hg).2 (λe=>RJ (e▸hg)) λe=>n12 g hg g e rfl
  ·rw[uX,Bh];exact Io yh λg hg=>Dq w6 ⟨x.p,7,Ae⟩ _ g (by show g≠x.p;exact jr g hg)
  ·exact Io h4 λg hg=>bm g (h4.lt g hg).2 (λe=>RM (e▸hg)) λe=>n3 g (.inr e) g hg rfl
 have gg:w.heap.size<=(w6.setCell ⟨x.p,7,Ae⟩ (Ad A' (x.s.ls.length+1) c')).heap.size:=by
  have:=GY.size;simpa using this
 obtain⟨r1,r2⟩:=h.change (y:=⟨{x.s with ls:=x.s.ls++[z]},x.p,x.vp,Ad A' (x.s.ls.length+1) c',x.ve⟩) hy rfl rfl hb.1 hb.2 (λg hg hx=>bm g hg (λe=>hx (by rw[e];simp[SmB.blks])) (λe=>hx (by unfold SmB.blks;simp[e]))) gg;refine⟨A,c,hv,?_,A',c',w6,by rw[<-hv];exact ah,by simp[Ea,xv],?_,r1,bc.setCell (p:=⟨x.p,7,Ae⟩) h0 _,r2⟩
 ·rw[Bz w x.p 7 _ _ (0,0) h1,<-hv];rfl
 ·rw[Bz w6 x.p 7 _ _ (0,0) xv,<-hv];rfl
def Ap6 (h:Il O B F fix w (l1++x::l2)) (hl:x.s.ps.length<=1000000) (z:Nat×Nat):
  ∃A c,x.vp= Ad A x.s.ps.length c/\w.cell? ⟨x.p,6,Ae⟩=Af (Ad A x.s.ps.length c)/\
   ∃A' c' w6,(Builtin.append_ #[260,260] 260 #[Ad A x.s.ps.length c,Ad (Af ⟨w.heap.size,0,Ae⟩) 1 1]).run Dp (w.alloc (.cells ([Aa Ab (z.1:Int),Aa Ab (z.2:Int)]:List Ak).toArray 377))= .ok (Ad A' (x.s.ps.length+1) c') w6/\
    w6.frozen? ⟨x.p,6,Ae⟩=false/\w6.cell? ⟨x.p,6,Ae⟩=Af (Ad A x.s.ps.length c)/\
    Il O B F fix (w6.setCell ⟨x.p,6,Ae⟩ (Ad A' (x.s.ps.length+1) c')) (l1++(⟨{x.s with ps:=x.s.ps++[z]},x.p,Ad A' (x.s.ps.length+1) c',x.vl,x.ve⟩:SmB)::l2)/\Frm O F w (w6.setCell ⟨x.p,6,Ae⟩ (Ad A' (x.s.ps.length+1) c')):=by
 have mj:=h.sms
 have hO:O<=w.heap.size:=by
  obtain⟨M,kv,_,h2,_,_,_,_,_,h8,_⟩:=h;have:=(Au.1 h2).1;omega
 have dw:=mj.1 x Gy;have ac:=dw.lt;have ca:=Pa mj;obtain⟨h0,h1,h2,h3,h4⟩:=dw;obtain⟨A,c,hv,-,-⟩:=Hy h2;obtain⟨A',c',w6,ah,yh,bc,GY,ul,-,-,un⟩:=Yi (sl:=260) Tryz.underlying260 pI rfl He He w O x.s.ps.length x.vp _ h2 hO Gv [Aa Ab (z.1:Int),Aa Ab (z.2:Int)] rfl (by simp[Do]);have ii:=ca;unfold SmB.blks at ii;simp only[Ei,Bq,Bl,Option.mem_toList,not_or]at ii;obtain⟨⟨⟨RJ,RK⟩,RM⟩,⟨-,-,n12⟩,-,n3⟩:=ii;have dr:x.p<w.heap.size:=(Au.1 h1).1;have xv:w6.heap[x.p]? =Af (.cells (x.s.cells x.vp x.vl x.ve) 263 (0,0)):=(GY.block x.p dr (Ne.symm RJ)).trans h1;have hb:=Bh1 (s:={x.s with ps:=x.s.ps++[z]}) (v:= Ad A' (x.s.ps.length+1) c') (N:=w.heap.size) ca (λg hg=>(ac g hg).2) un
 have jr:∀g,(Dx (Ad A' (x.s.ps.length+1) c'))=Af g->g≠x.p:=by
  intro g hg e;subst e;rcases un with e|⟨g,e,jz⟩
  ·rw[e]at hg;exact RJ hg
  ·rw[e]at hg;injection hg with hg;omega
 have bm:∀g,g<w.heap.size->g≠x.p->x.vp.ownBlock≠Af g->(w6.setCell ⟨x.p,6,Ae⟩ (Ad A' (x.s.ps.length+1) c')).heap[g]? =w.heap[g]? :=λg hg hp PC=>
  (Dq w6 ⟨x.p,6,Ae⟩ _ g (by show g≠x.p;exact hp)).trans (GY.block g hg (Ne.symm PC))
 have hy:(⟨{x.s with ps:=x.s.ps++[z]},x.p,Ad A' (x.s.ps.length+1) c',x.vl,x.ve⟩:SmB).ok O (w6.setCell ⟨x.p,6,Ae⟩ (Ad A' (x.s.ps.length+1) c')):=by
  refine⟨h0,?_,?_,?_,?_⟩
  ·rw[Ju _ xv];rfl
  ·rw[vZ,Bh];exact Io yh λg hg=>Dq w6 ⟨x.p,6,Ae⟩ _ g (by show g≠x.p;exact jr g hg)
  ·exact Io h3 λg hg=>bm g (h3.lt g hg).2 (λe=>RK (e▸hg)) λe=>n12 g e g hg rfl
  ·exact Io h4 λg hg=>bm g (h4.lt g hg).2 (λe=>RM (e▸hg)) λe=>n3 g (.inl e) g hg rfl
 have gg:w.heap.size<=(w6.setCell ⟨x.p,6,Ae⟩ (Ad A' (x.s.ps.length+1) c')).heap.size:=by
  have:=GY.size;simpa using this
 obtain⟨r1,r2⟩:=h.change (y:=⟨{x.s with ps:=x.s.ps++[z]},x.p,Ad A' (x.s.ps.length+1) c',x.vl,x.ve⟩) hy rfl rfl hb.1 hb.2 (λg hg hx=>bm g hg (λe=>hx (by rw[e];simp[SmB.blks])) (λe=>hx (by unfold SmB.blks;simp[e]))) gg;refine⟨A,c,hv,?_,A',c',w6,by rw[<-hv];exact ah,by simp[Ea,xv],?_,r1,bc.setCell (p:=⟨x.p,6,Ae⟩) h0 _,r2⟩
 ·rw[Bz w x.p 6 _ _ (0,0) h1,<-hv];rfl
 ·rw[Bz w6 x.p 6 _ _ (0,0) xv,<-hv];rfl
def Bx2:(Tryz.prog.info? 329).map (λi=>(i.zero,i.size,i.bytes))=Af (Af (.agg #[Aa Ab 0,Aa Ab 0,Aa Ac 0,Aa Ab 0,Aa Ab 0,Aa Ac 0]),6,48):=Gx
def Kl.same {K:κ->Ak} {l:List (κ×Ak)} (h:Kl K w M l) (hb:w'.heap[M]? =w.heap[M]?):Kl K w' M l:=by
 obtain⟨es,clock,h1,h2⟩:=h;exact⟨es,clock,hb.trans h1,h2⟩
def Pi:Ak:= Ad Ae 0 0
def Bg5 {kv:Ak} {p:Cl×Cl} (e1:fix.length=6) (e2:W.heap[B]? =Af (.cells (fix++[.map (Af M),kv]).toArray 326 (0,0))) (e3:Kl pkK W M (Ot l))
  (e4:Oz O W kv l) (e5:Oi O W l) (e6:(l.map SmB.key).Nodup) (e7:(Hq B M kv l).Nodup) (e8:O<=B) (e9:O<=M) (XB:∀g∈F,g<W.heap.size/\g∉Hq B M kv l)
  (hl:l.length<=900000000) (hb:Below W.heap.size W Y0) (jr:p∉l.map SmB.key)
  (h1:Kl pkK Y2 M (Ro p (.pointer (Af ⟨Y0.heap.size,0,Ae⟩)) (Ot l))) (h2:(Y0.alloc (.cells ((Sm.none p.1 p.2).cells Pi Pi Pi) 263)).grownBy Y2 (Af M)):
  ∃A c,kv= Ad A l.length c/\Y2.cell? ⟨B,7,Ae⟩=Af (Ad A l.length c)/\
   ∃A' c' Y5,(Builtin.append_ #[324,324] 324 #[Ad A l.length c,Ad (Af ⟨Y2.drew.heap.size,0,Ae⟩) 1 1]).run Dp (Y2.drew.alloc (.cells (pkC p).toArray 329))= .ok (Ad A' (l.length+1) c') Y5/\
    Y5.frozen? ⟨B,7,Ae⟩=false/\Y5.cell? ⟨B,7,Ae⟩=Af (Ad A l.length c)/\Y2.drew.grownBy Y5 kv.ownBlock/\
    Il O B F fix (Y5.setCell ⟨B,7,Ae⟩ (Ad A' (l.length+1) c')) (l++[⟨Sm.none p.1 p.2,Y0.heap.size,Pi,Pi,Pi⟩])/\Frm O F W (Y5.setCell ⟨B,7,Ae⟩ (Ad A' (l.length+1) c')):=by
 obtain⟨y,hy⟩:∃z:SmB,(⟨Sm.none p.1 p.2,Y0.heap.size,Pi,Pi,Pi⟩:SmB)=z:=⟨_,rfl⟩;have ac:=aH e2 e3 e4 e5 e8 e9;have s_:B<W.heap.size:=(Au.1 e2).1;have MW:=e3.lt;have ca:=e7;unfold Hq at ca;simp only[Ei,Bq,Bk,Bl,Option.mem_toList,not_or]at ca;obtain⟨⟨b1,b2,b3⟩,⟨m1,m2⟩,k1,k2,k3⟩:=ca;have hW0:=hb.size
 have st2:∀g,g<W.heap.size->g≠M->Y2.heap[g]? =W.heap[g]? :=λg hg hM=>by
  have JS:g<Y0.heap.size:=Gv;refine(h2.block g Hv (λe=>hM (by injection e))).trans ?_;exact(Eh Y0 _ g JS).trans (hb.block g hg)
 have jl:Y0.heap.size+1<=Y2.heap.size:=by have:=h2.size;simpa using this
 have e2':Y2.heap[B]? =Af (.cells (fix++[.map (Af M),kv]).toArray 326 (0,0)):=(st2 B s_ b1).trans e2;obtain⟨ks,mh,e4r⟩:=e4;have e4:Oz O W kv l:=⟨ks,mh,e4r⟩;have be:ks.length=l.length:=by rw[mh.length_eq,Bp]
 rw[be]at e4r;have KB:Y2.drew.ownsRow O 329 6 kv l.length (ks.flatMap pkC):=Io e4r λg hg=>st2 g (e4r.lt g hg).2 (λe=>m1 (e▸hg));obtain⟨A,c,hv,-,-⟩:=Hy e4r;have hO:O<=Y2.drew.heap.size:=by show O<=Y2.heap.size;omega
 obtain⟨A',c',Y5,ah,LR,db,XV,td,-,-,un⟩:=Yi (sl:=324) Tryz.underlying324 Bx2 rfl He He Y2.drew O l.length kv _ KB hO Gv (pkC p) rfl (by simp[pkC,Do]);obtain⟨kv',UQ⟩:=ey (Value.slice A' (l.length+1) c');rw[UQ]at ah LR un;have KI:Y2.heap.size<=Y5.heap.size:=XV.size
 have st5:∀g,g<W.heap.size->g≠M->kv.ownBlock≠Af g->Y5.heap[g]? =W.heap[g]? :=λg hg hM hk=>
  (XV.block g (by show g<Y2.heap.size;omega) (Ne.symm hk)).trans (st2 g hg hM)
 have e5':Y5.heap[B]? =Af (.cells (fix++[.map (Af M),kv]).toArray 326 (0,0)):=(st5 B s_ b1 b2).trans e2;obtain⟨-,c7,cz,cset,-⟩:=Mm e1 e5';obtain⟨-,c7',-,-,-⟩:=Mm e1 e2'
 have hseam:Y5.heap[Y0.heap.size]? =Af (.cells ((Sm.none p.1 p.2).cells Pi Pi Pi) 263 (0,0)):=by
  refine(XV.block _ (by show Y0.heap.size<Y2.heap.size;omega) (λe=>?_)).trans ?_
  ·have:=(e4.lt _ e.symm).2;omega
  ·refine(h2.block _ Gy (λe=>?_)).trans (Ca Y0 _);injection e with e;omega
 have stS:∀g,g≠B->(Y5.setCell ⟨B,7,Ae⟩ kv').heap[g]? =Y5.heap[g]? :=λg hg=>Dq Y5 ⟨B,7,Ae⟩ kv' g (by show g≠B;exact hg);have KM:y.key=p:=by subst hy;rfl
 have hyp:y.p=Y0.heap.size:=by subst hy;rfl
 have hyok:y.ok O (Y5.setCell ⟨B,7,Ae⟩ kv'):=by
  subst hy;refine⟨by show O<=Y0.heap.size;omega,(stS _ (by show Y0.heap.size≠B;omega)).trans hseam,⟨rfl,.inl ⟨rfl,rfl⟩⟩,⟨rfl,.inl ⟨rfl,rfl⟩⟩,⟨rfl,.inl ⟨rfl,rfl⟩⟩⟩
 have ym:y.blks=[Y0.heap.size]:=by subst hy;rfl
 have zw:∀g,kv'.ownBlock=Af g->g≠B/\g≠M/\g≠Y0.heap.size:=λg hg=>by
  rcases un with h|⟨g',h,jz⟩
  ·rw[h]at hg;refine⟨λe=>b2 (e▸hg),λe=>m1 (e▸hg),λe=>?_⟩;have:=(e4.lt g hg).2;omega
  ·rw[h]at hg;injection hg with hg;have:Y2.drew.heap.size=Y2.heap.size:=rfl;refine⟨?_,?_,?_⟩<;>omega
 have hbW:Below O W (Y5.setCell ⟨B,7,Ae⟩ kv'):=by
  have q1:Below O W Y0:=hb.mono Gv;have q2:Below O W (Y0.alloc (.cells ((Sm.none p.1 p.2).cells Pi Pi Pi) 263)):=q1.alloc Gv _;have q3:Below O W Y2:=q2.grown h2 Hv (λk hk=>by injection hk with hk;omega);exact((q3.drew).trans db).setCell (p:=⟨B,7,Ae⟩) e8 kv'
 have hh:Il O B F fix (Y5.setCell ⟨B,7,Ae⟩ kv') (l++[y])/\∀g∈F,(Y5.setCell ⟨B,7,Ae⟩ kv').heap[g]? =W.heap[g]? :=by
  refine Aq4 (w':=Y5.setCell ⟨B,7,Ae⟩ kv') (y:=y) (kv':=kv') e1 e5 e6 e7 e8 e9 XB ac (cset kv') ?_ ?_ hyok (by rw[KM];exact jr) ?_ (by rw[ym];simp) (λg hg=>?_) (λg hg QQ hgM xn=>(stS g QQ).trans (st5 g hg hgM xn)) ?_
  ·have h3:Kl pkK Y5 M (Ro p (.pointer (Af ⟨Y0.heap.size,0,Ae⟩)) (Ot l)):=h1.same (XV.block M (by show M<Y2.heap.size;omega) (λe=>m1 e.symm));have h4:=h3.same (w':=Y5.setCell ⟨B,7,Ae⟩ kv') (stS M (Ne.symm b1))
   have e:Ot (l++[y])=Ro p (.pointer (Af ⟨Y0.heap.size,0,Ae⟩)) (Ot l):=by
    rw[Az8 p _ l jr];unfold Ot;rw[Ez];subst hy;rfl
   rw[e];exact h4
  ·have h5:=Io (w':=Y5.setCell ⟨B,7,Ae⟩ kv') LR λg hg=>stS g (zw g hg).1;refine⟨ks++[p],?_,?_⟩
   ·rw[Ez,Es,List.map_nil,KM];exact mh.append_right _
   ·rw[Bi,Bh,Bf,List.flatMap_nil,Ff,be];exact h5
  ·exact un.imp id λ⟨g,hg,jz⟩=>⟨g,hg,by have:Y2.drew.heap.size=Y2.heap.size:=rfl;omega⟩
  ·rw[ym,Gf]at hg;subst hg;exact⟨hW0,λe=>(zw _ e).2.2 rfl⟩
  ·have:(Y5.setCell ⟨B,7,Ae⟩ kv').heap.size=Y5.heap.size:=Gy;omega
 obtain⟨r1,r2⟩:=hh;refine⟨A,c,hv,by rw[<-hv];exact c7',A',c',Y5,by rw[<-hv,UQ];exact ah,cz 7,by rw[<-hv];exact c7,XV,by rw[UQ,hy];exact r1,by rw[UQ];exact⟨hbW,r2⟩⟩
def Bv3 (O B:Nat) (F:List Nat) (fix:List Ak) (x y:Cl) (l:List SmB) (w:Aj) (hx:x.q<=255) (hy:y.q<=255) (h:Il O B F fix w l) (hl:l.length<=900000000):
  Al Dp 247 #[.pointer (Af ⟨B,0,Ae⟩),clK x,clK y] w (Bu1 O B F fix (zD x y) l w):=by
 have HC:=Ah (λw'=>Tx x y w' hx hy);have H:=Ah h;have HL:=Ah hl;obtain⟨K,hK⟩:=ey (zD x y);rw[hK];obtain⟨r,hr⟩:=ey (Ka x y);unfold zD at hK;rw[hr]at HC hK;obtain⟨x0,x1,x2⟩:=x;obtain⟨y0,y1,y2⟩:=y;have HK:=Ah hK;dsimp only at HC HK hx hy;unfold clK;dsimp only;have HB:=((Bx.start w).new #[x0,x1,Aa Ac x2] 90 rfl).new #[y0,y1,Aa Ac y2] 90 (N:=w.heap.size+1) Gy;clear h hl hK hr hx hy;go_in;go_upto_region 1 with fail;obtain⟨N,ct⟩:=Tw w.heap.size;rw[<-ct.out]at HB⊢;obtain⟨P,hP⟩:=ey (N+1);rw[hP]at HB⊢;have n1:N≠P:=Gv;have n2:P≠N:=Gv;clear hP;obtain⟨⟨a0,a1,a2⟩,ax,ay,az⟩:=Hg (HB.b 0);obtain⟨⟨b0,b1,b2⟩,bx,qd,bz⟩:=Hg (HB.b 1);go_wp2_with fail;refine(HC.out _).mono ?_;rintro e w2 ⟨rfl,hb⟩;have H2:=HB.call hb.b;clear HB a0 a1 a2 ax ay az b0 b1 b2 bx qd bz hb;obtain⟨⟨a0,a1,a2⟩,ax,ay,az⟩:=Hg (H2.b 0);obtain⟨⟨b0,b1,b2⟩,bx,qd,bz⟩:=Hg (H2.b 1);go_upto_if 11 with fail;go_cut [12,13] (λ_ _ wx=>∃u v:Cl,Hid ((u,v)=K)/\Hid (Bx w [(N,#[Aa Ab u.x,Aa Ab u.y,Aa Ac (u.q:Int)],90),(P,#[Aa Ab v.x,Aa Ab v.y,Aa Ac (v.q:Int)],90)] wx))
 case first=>
  by_cases hr:0<r
  ·go_wp2;go_meet;exact⟨⟨y0,y1,y2⟩,⟨x0,x1,x2⟩,Ah (by rw[<-HK.out,Hc hr]),Ah ((((((H2.set 0 0 rfl (Aa Ab y0)).set 0 1 rfl (Aa Ab y1)).set 0 2 rfl (Aa Ac y2)).set 1 0 rfl (Aa Ab x0)).set 1 1 rfl (Aa Ab x1)).set 1 2 rfl (Aa Ac x2))⟩
  ·go_wp2;go_meet;exact⟨⟨x0,x1,x2⟩,⟨y0,y1,y2⟩,Ah (by rw[<-HK.out,Ha Gv]),Ah H2⟩
 clear a0 a1 a2 ax ay az b0 b1 b2 bx qd bz H2;obtain⟨⟨u0,u1,u2⟩,⟨v0,v1,v2⟩,CL,sh⟩:=hcut;dsimp only at sh;obtain⟨⟨a0,a1,a2⟩,-⟩:=Hg (sh.out.b 0);obtain⟨⟨b0,b1,b2⟩,-⟩:=Hg (sh.out.b 1);obtain⟨Q,hQ⟩:=ey wc.heap.size;have H4:=sh.out.new #[u0,u1,Aa Ac u2,v0,v1,Aa Ac v2] 329 hQ;go_upto_region 4 with fail;generalize wc.alloc _=W at H4⊢;clear hQ a0 a1 a2 b0 b1 b2 sh;obtain⟨p,hp⟩:∃z:Cl×Cl,(⟨u0,u1,u2⟩,⟨v0,v1,v2⟩)=z:=⟨_,rfl⟩;have YL:Value.agg #[u0,u1,Aa Ac u2,v0,v1,Aa Ac v2]=pkK p:=by rw[<-hp];rfl
 obtain rfl:p=K:=hp.symm.trans CL.out;have hB:=H.out.below H4.below;have HB:=Ah hB;obtain⟨M,kv,e1,e2,e3,e4,e5,e6,e7,e8,e9,XB⟩:=hB;obtain⟨m6,m7,mz,vF,-⟩:=Mm e1 e2;obtain⟨R,hR⟩:=ey ((Of p (Ot l)).getD (.pointer Ae));have dq:=λW' (h:Kl pkK W' M (Ot l))=>We dM Tryz.underlying323 (et:=332) (z:= .pointer Ae) (λw=>Gx) h p false;rw[hR,<-YL]at dq;simp only[Ek,if_false]at dq;obtain⟨⟨q0,q1,q2,q3,q4,q5⟩,-⟩:=cY (H4.b 2)
 obtain⟨S,an⟩:∃S:Aj->Prop,S=λW'=>W'.cell? ⟨B,6,Ae⟩=Af (.map (Af M))/\(W'.cell? ⟨Q,0,Ae⟩=Af (Aa Ab u0)/\W'.cell? ⟨Q,1,Ae⟩=Af (Aa Ab u1)/\W'.cell? ⟨Q,2,Ae⟩=Af (Aa Ac u2)/\W'.cell? ⟨Q,3,Ae⟩=Af (Aa Ab v0)/\W'.cell? ⟨Q,4,Ae⟩=Af (Aa Ab v1)/\W'.cell? ⟨Q,5,Ae⟩=Af (Aa Ac v2))/\
  (Instr.lookup 323 (.map (Af M)) (.agg #[u0,u1,Aa Ac u2,v0,v1,Aa Ac v2]) false).run Dp W'= .ok R W':=⟨_,rfl⟩
 have HSO:Hid (∀W',S W'->W'.cell? ⟨B,6,Ae⟩=Af (.map (Af M))/\(W'.cell? ⟨Q,0,Ae⟩=Af (Aa Ab u0)/\W'.cell? ⟨Q,1,Ae⟩=Af (Aa Ab u1)/\W'.cell? ⟨Q,2,Ae⟩=Af (Aa Ac u2)/\W'.cell? ⟨Q,3,Ae⟩=Af (Aa Ab v0)/\W'.cell? ⟨Q,4,Ae⟩=Af (Aa Ab v1)/\W'.cell? ⟨Q,5,Ae⟩=Af (Aa Ac v2))/\
  (Instr.lookup 323 (.map (Af M)) (.agg #[u0,u1,Aa Ac u2,v0,v1,Aa Ac v2]) false).run Dp W'= .ok R W'):=Ah λW' h=>by subst an;exact h
 have ag:Hid (∀W',Below W.heap.size W W'->S W'):=Ah λW' h=>by
  subst an;exact⟨Gw h m6,⟨Gw h q0,Gw h q1,Gw h q2,Gw h q3,Gw h q4,Gw h q5⟩,dq W' (e3.below h e3.lt)⟩
 have GJ:=Ah YL;clear dq m6 m7 q0 q1 q2 q3 q4 q5 an YL;have JT:=tZ p l;refine Ao (S:=S) Gx (ag.out _ (Ag _ _).drew) (λhS=>?_);have hb:Below W.heap.size W W.drew:=(Ag _ _).drew;generalize W.drew=X0 at hb hS⊢;refine Hk 0 1 2 3 ?_;refine Ql 4 5 ?_;rcases JT with⟨l1,x,l2,rfl,ZA,hg,nj⟩|⟨nj,hg⟩
 ·obtain rfl:x.ptr=R:=by rw[<-hR,hg];rfl
  unfold SmB.ptr at HSO⊢;refine Ke 6 ?_;refine An Gx ?_ _;go_wp2_with fail;refine Ao (S:=S) Gx (ag.out _ hb.drew) (λhS=>?_);have aj:Below W.heap.size W X0.drew:=hb.drew;generalize X0.drew=X1 at aj hS⊢;refine Hk 0 1 2 3 ?_;refine Oe 4 5 6 ?_;refine An Gx ?_ _;go_wp2;go_ret;exact⟨l1,x,l2,rfl,ZA,.inl rfl,HB.out.below aj,(H.out.frm H4.below).trans (HB.out.frm aj)⟩
 ·obtain rfl:Value.pointer Ae=R:=by rw[<-hR,hg];rfl
  refine Ke 6 ?_;refine An Gx ?_ _;go_wp2_with fail;clear hS HSO ag S;have H5:=H4.call hb;obtain⟨⟨q0,q1,q2,q3,q4,q5⟩,-⟩:=cY (H5.b 2);obtain⟨⟨a0,a1,a2⟩,-⟩:=Hg (H5.b 0);obtain⟨⟨b0,b1,b2⟩,-⟩:=Hg (H5.b 1);have s_:=(Au.1 e2).1;obtain⟨m6,-,-,-,-⟩:=Mm e1 (kept hb e2 s_);have TK:=e3.lt
  obtain⟨kx,hBw,hkw⟩:M<w.heap.size/\B<w.heap.size/\∀g,kv.ownBlock=Af g->g<w.heap.size:=by
   obtain⟨M9,kv9,g1,g2,g3,g4,-⟩:=H.out;obtain⟨n6,n7,-⟩:=Mm g1 (kept (H4.below) g2 (Au.1 g2).1);obtain⟨m6,m7,-⟩:=Mm e1 e2;rw[n6]at m6;rw[n7]at m7;obtain rfl:M9=M:=by simpa using m6
   obtain rfl:kv9=kv:=by simpa using m7
   exact⟨g3.lt,(Au.1 g2).1,λg hg=>(g4.lt g hg).2⟩
  have hBM:B≠M:=by
   unfold Hq at e7;simp only[Ei,Bk,not_or]at e7;exact e7.1.1
  have hNw:=H4.lo 0 _ _ _ rfl;have B_:=H4.lo 1 _ _ _ rfl;have hQw:=H4.lo 2 _ _ _ rfl
  obtain⟨S,an⟩:∃S:Aj->Prop,S=λW'=>W'.cell? ⟨B,6,Ae⟩=Af (.map (Af M))/\(W'.cell? ⟨Q,0,Ae⟩=Af (Aa Ab u0)/\W'.cell? ⟨Q,1,Ae⟩=Af (Aa Ab u1)/\W'.cell? ⟨Q,2,Ae⟩=Af (Aa Ac u2)/\W'.cell? ⟨Q,3,Ae⟩=Af (Aa Ab v0)/\W'.cell? ⟨Q,4,Ae⟩=Af (Aa Ab v1)/\W'.cell? ⟨Q,5,Ae⟩=Af (Aa Ac v2))/\
   (W'.cell? ⟨N,0,Ae⟩=Af (Aa Ab u0)/\W'.cell? ⟨N,1,Ae⟩=Af (Aa Ab u1)/\W'.cell? ⟨N,2,Ae⟩=Af (Aa Ac u2))/\W'.cell? ⟨P,0,Ae⟩=Af (Aa Ab v0)/\W'.cell? ⟨P,1,Ae⟩=Af (Aa Ab v1)/\W'.cell? ⟨P,2,Ae⟩=Af (Aa Ac v2):=⟨_,rfl⟩
  have HSO:Hid (∀W',S W'->W'.cell? ⟨B,6,Ae⟩=Af (.map (Af M))/\(W'.cell? ⟨Q,0,Ae⟩=Af (Aa Ab u0)/\W'.cell? ⟨Q,1,Ae⟩=Af (Aa Ab u1)/\W'.cell? ⟨Q,2,Ae⟩=Af (Aa Ac u2)/\W'.cell? ⟨Q,3,Ae⟩=Af (Aa Ab v0)/\W'.cell? ⟨Q,4,Ae⟩=Af (Aa Ab v1)/\W'.cell? ⟨Q,5,Ae⟩=Af (Aa Ac v2))/\
   (W'.cell? ⟨N,0,Ae⟩=Af (Aa Ab u0)/\W'.cell? ⟨N,1,Ae⟩=Af (Aa Ab u1)/\W'.cell? ⟨N,2,Ae⟩=Af (Aa Ac u2))/\W'.cell? ⟨P,0,Ae⟩=Af (Aa Ab v0)/\W'.cell? ⟨P,1,Ae⟩=Af (Aa Ab v1)/\W'.cell? ⟨P,2,Ae⟩=Af (Aa Ac v2)):=Ah λW' h=>by subst an;exact h
  have ag:Hid (∀W',(∀g,g<X0.heap.size->g≠M->W'.heap[g]? =X0.heap[g]?)->S W'):=Ah λW' h=>by
   have hc:∀g j v,X0.cell? ⟨g,j,Ae⟩=Af v->g<X0.heap.size->g≠M->W'.cell? ⟨g,j,Ae⟩=Af v:=λg j v hv h1 h2=>by
    unfold World.cell? at hv⊢;rw[h g h1 h2];exact hv
   have z1:=H5.lt 0 rfl;have z2:=H5.lt 1 rfl;have z3:=H5.lt 2 rfl;subst an;exact⟨hc _ _ _ m6 (oHx hb.size) hBM,⟨hc _ _ _ q0 z3 Gv,hc _ _ _ q1 z3 Gv,hc _ _ _ q2 z3 Gv,hc _ _ _ q3 z3 Gv,hc _ _ _ q4 z3 Gv,hc _ _ _ q5 z3 Gv⟩,⟨hc _ _ _ a0 z1 Gv,hc _ _ _ a1 z1 Gv,hc _ _ _ a2 z1 Gv⟩,hc _ _ _ b0 z2 Gv,hc _ _ _ b1 z2 Gv,hc _ _ _ b2 z2 Gv⟩
  clear q0 q1 q2 q3 q4 q5 a0 a1 a2 b0 b1 b2 m6 an;refine Ao (S:=S) Gx (ag.out _ λ_ _ _=>rfl) (λhS=>?_);have aj:Below W.heap.size W X0.drew:=hb.drew;have j_:Hid (X0.drew.heap=X0.heap):=Ah rfl;generalize X0.drew=Y0 at aj hS j_⊢;refine Hk 0 1 2 3 ?_;refine Hk 4 5 6 7 ?_;refine rdy 8 (λK hK=>?_);go_simp;have JK:Kl pkK (Y0.alloc (.cells ((Sm.none p.1 p.2).cells Pi Pi Pi) 263)) M (Ot l):=(e3.below aj e3.lt).below ((Ag Y0.heap.size Y0).alloc (Am _) _) (Br e3.lt aj.size);obtain⟨Y2,ah,AQ,ef⟩:=Ax7 dM Tryz.underlying323 JK p (.pointer (Af ⟨Y0.heap.size,0,Ae⟩));obtain⟨A,c,hkv,k7,A',c',Y5,ES,z5,c5,XV,jv,zi⟩:=Bg5 e1 e2 e3 e4 e5 e6 e7 e8 e9 XB HL.out aj nj AQ ef;have bj:(Sm.none p.1 p.2).cells Pi Pi Pi= #[Aa Ab u0,Aa Ab u1,Aa Ac u2,Aa Ab v0,Aa Ab v1,Aa Ac v2,Ad Ae 0 0,Ad Ae 0 0,Ad Ae 0 0]:=by rw[<-hp];rfl
  rw[bj]at ah ef;rw[<-GJ.out]at ah
  have hyz:∀g,g<X0.heap.size->g<(Y0.alloc (.cells #[u0,u1,Aa Ac u2,v0,v1,Aa Ac v2,Ad Ae 0 0,Ad Ae 0 0,Ad Ae 0 0] 263)).heap.size:=λg hg=>by
   have:Y0.heap.size=X0.heap.size:=by rw[j_.out]
   simp;omega
  have zb:S (Y0.alloc (.cells #[u0,u1,Aa Ac u2,v0,v1,Aa Ac v2,Ad Ae 0 0,Ad Ae 0 0,Ad Ae 0 0] 263)):=ag.out _ λg hg _=>(Eh Y0 _ g (by rw[j_.out];exact hg)).trans (by rw[j_.out]);have qw:Hid (S Y2):=Ah (ag.out _ λg hg hgM=>(ef.block g (hyz g hg) (λe=>hgM (by injection e))).trans ((Eh Y0 _ g (by rw[j_.out];exact hg)).trans (by rw[j_.out])));refine hK.o zb (λhS=>?_);clear hK K zb;generalize Y0.alloc _=Y1 at hS ah ef⊢;have ZO:=Ah ES;have KQ:=Ah jv;have IW:=Ah zi;clear ES jv zi JK bj;refine rdy 9 (λK hK=>?_);go_simp;refine hK.o qw.out (λhS=>?_);clear hK K ah;refine An Gx ?_ _;go_wp2_with fail;obtain⟨-,⟨q0,q1,q2,q3,q4,q5⟩,-⟩:=HSO.out _ qw.out;clear hS HSO qw ag hyz;have hpkc:(pkC p).toArray= #[Aa Ab u0,Aa Ab u1,Aa Ac u2,Aa Ab v0,Aa Ab v1,Aa Ac v2]:=by rw[<-hp];rfl
  obtain⟨S6,an⟩:∃S6:Aj->Prop,S6=λW'=>W'.cell? ⟨Q,0,Ae⟩=Af (Aa Ab u0)/\W'.cell? ⟨Q,1,Ae⟩=Af (Aa Ab u1)/\W'.cell? ⟨Q,2,Ae⟩=Af (Aa Ac u2)/\W'.cell? ⟨Q,3,Ae⟩=Af (Aa Ab v0)/\W'.cell? ⟨Q,4,Ae⟩=Af (Aa Ab v1)/\W'.cell? ⟨Q,5,Ae⟩=Af (Aa Ac v2):=⟨_,rfl⟩;have HSO:Hid (∀W',S6 W'->W'.cell? ⟨Q,0,Ae⟩=Af (Aa Ab u0)/\W'.cell? ⟨Q,1,Ae⟩=Af (Aa Ab u1)/\W'.cell? ⟨Q,2,Ae⟩=Af (Aa Ac u2)/\W'.cell? ⟨Q,3,Ae⟩=Af (Aa Ab v0)/\W'.cell? ⟨Q,4,Ae⟩=Af (Aa Ab v1)/\W'.cell? ⟨Q,5,Ae⟩=Af (Aa Ac v2)):=Ah λW' h=>by subst an;exact h
  have ag:Hid (∀W',W'.heap[Q]? =Y2.heap[Q]? ->S6 W'):=Ah λW' h=>by
   have hc:∀j v,Y2.cell? ⟨Q,j,Ae⟩=Af v->W'.cell? ⟨Q,j,Ae⟩=Af v:=λj v hv=>by
    unfold World.cell? at hv⊢;rw[h];exact hv
   subst an;exact⟨hc _ _ q0,hc _ _ q1,hc _ _ q2,hc _ _ q3,hc _ _ q4,hc _ _ q5⟩
  have rn:Q<Y2.heap.size:=by
   have hz:(Y2.cell? ⟨Q,0,Ae⟩).isSome=true:=by rw[q0];rfl
   unfold World.cell? at hz
   cases hh:Y2.heap[Q]? with
   |none=>rw[hh]at hz;cases hz
   |some o=>exact(Au.1 hh).1
  clear q0 q1 q2 q3 q4 q5 an;refine Ao (S:=S6) Gx (ag.out _ rfl) (λhS=>?_);have EE:Hid (S6 (Y2.drew.alloc (.cells #[u0,u1,Aa Ac u2,v0,v1,Aa Ac v2] 329))):=Ah (ag.out _ ((Eh Y2.drew _ Q rn).trans rfl));have D_:Y5.heap[Q]? =Y2.heap[Q]? :=(XV.block Q rn (λe=>by have:=hkw Q e.symm;omega)).trans rfl;have i_:Hid (S6 Y5):=Ah (ag.out _ D_);have HS6:Hid (S6 (Y5.setCell ⟨B,7,Ae⟩ (Ad A' (l.length+1) c'))):=Ah (ag.out _ ((Dq Y5 ⟨B,7,Ae⟩ _ Q (by show Q≠B;omega)).trans D_));have ES:=ZO.out;rw[hpkc]at ES;have hk7:Y2.drew.cell? ⟨B,7,Ae⟩=Af (Ad A l.length c):=k7;have hB7:B<Y2.heap.size:=by have:=aj.size;have:Q<Y2.heap.size:=rn;omega
  generalize Y2.drew=Z at hS EE ES hk7⊢;have hk8:(Z.alloc (.cells #[u0,u1,Aa Ac u2,v0,v1,Aa Ac v2] 329)).cell? ⟨B,7,Ae⟩=Af (Ad A l.length c):=Gw ((Ag Z.heap.size Z).alloc (Am _) _) hk7;have ZO:=Ah ES;have hQ5:=Ah D_;clear ES k7 D_ XV ef AQ;obtain⟨M7,kv7,f1,f2,f3,-⟩:=KQ.out;obtain⟨f6,-⟩:=Mm f1 f2
  have UV:Ot (l++[⟨Sm.none p.1 p.2,Y0.heap.size,Pi,Pi,Pi⟩])=Ro p (.pointer (Af ⟨Y0.heap.size,0,Ae⟩)) (Ot l):=by
   rw[Az8 p _ l nj];unfold Ot;rw[Ez];rfl
  have dq:=We dM Tryz.underlying323 (et:=332) (z:= .pointer Ae) (λw=>Gx) (f3.same (w':=(Y5.setCell ⟨B,7,Ae⟩ (Ad A' (l.length+1) c')).drew) rfl) p false;rw[UV,eJ,Hc rfl,<-GJ.out]at dq;simp only[Ek,if_false,Option.getD_some]at dq
  obtain⟨S7,I0⟩:∃S7:Aj->Prop,S7=λW'=>W'.cell? ⟨B,6,Ae⟩=Af (.map (Af M7))/\S6 W'/\
   (Instr.lookup 323 (.map (Af M7)) (.agg #[u0,u1,Aa Ac u2,v0,v1,Aa Ac v2]) false).run Dp W'= .ok (.pointer (Af ⟨Y0.heap.size,0,Ae⟩)) W':=⟨_,rfl⟩
  have HSO7:Hid (∀W',S7 W'->W'.cell? ⟨B,6,Ae⟩=Af (.map (Af M7))/\(W'.cell? ⟨Q,0,Ae⟩=Af (Aa Ab u0)/\W'.cell? ⟨Q,1,Ae⟩=Af (Aa Ab u1)/\W'.cell? ⟨Q,2,Ae⟩=Af (Aa Ac u2)/\W'.cell? ⟨Q,3,Ae⟩=Af (Aa Ab v0)/\W'.cell? ⟨Q,4,Ae⟩=Af (Aa Ab v1)/\W'.cell? ⟨Q,5,Ae⟩=Af (Aa Ac v2))/\
   (Instr.lookup 323 (.map (Af M7)) (.agg #[u0,u1,Aa Ac u2,v0,v1,Aa Ac v2]) false).run Dp W'= .ok (.pointer (Af ⟨Y0.heap.size,0,Ae⟩)) W'):=Ah λW' h=>by subst I0;exact⟨h.1,HSO.out _ h.2.1,h.2.2⟩
  have SV:Hid (S7 (Y5.setCell ⟨B,7,Ae⟩ (Ad A' (l.length+1) c')).drew):=Ah (by
   subst I0;exact⟨f6,ag.out _ ((Dq Y5 ⟨B,7,Ae⟩ _ Q (by show Q≠B;omega)).trans hQ5.out),dq⟩)
  clear I0 f1 f2 f3 f6 UV dq;refine Hk 0 1 2 3 ?_;refine Ke 5 ?_;refine Ap (rs:=[4,6]) Gx Gy (Aq rfl (λK hK=>?_) (Aq rfl (λK hK=>?_) Ar));clear hk8;go_simp;refine hK.o hS (λhS=>?_);clear hK K;refine rdy 6 (λK hK=>?_);rotate_left;go_simp;refine hK.o EE.out (λhS=>?_);clear hK K;refine rdy 4 (λK hK=>?_)
  all_goals
   go_simp;refine hK.o EE.out (λhS=>?_);clear hK K;refine rdy 7 (λK hK=>?_);refine Jv (by simp[Region.wanted]) (.tmp 37) (.tmp 39) 324 rfl _ _ Qo Qo _ _ ZO.out ?_;refine hK.o i_.out (λhS=>?_);clear hK K;refine Ql 8 9 ?_;refine rdy 10 (λK hK=>?_);go_simp;refine hK.o HS6.out (λhS=>?_);clear hK K hS;refine An Gx ?_ _;go_wp2_with fail;generalize Y5.setCell _ _=Z6 at KQ IW HS6 SV⊢;clear HS6 i_ EE ZO;refine Ao (S:=S7) Gx (SV.out) (λhS=>?_);have KQ:=Ah (KQ.out.below (Ag Z6.heap.size Z6).drew);have IW:=Ah (IW.out.trans (⟨(Ag O Z6).drew,λ_ _=>rfl⟩:Frm O F Z6 Z6.drew));generalize Z6.drew=Z7 at KQ IW hS⊢;have HSO:=HSO7;refine Hk 0 1 2 3 ?_;refine Oe 4 5 6 ?_;refine An Gx ?_ _;go_wp2;go_ret;exact⟨l,_,[],rfl,rfl,.inr ⟨rfl,rfl,nj,rfl⟩,KQ.out,(H.out.frm H4.below).trans IW.out⟩
def Pl (h:Il O B F (v.fix k N) w l):
  w.cell? ⟨B,0,Ae⟩=Af (Aa Ab k.a)/\w.cell? ⟨B,1,Ae⟩=Af (Aa Ab k.b)/\w.cell? ⟨B,2,Ae⟩=Af (Ad v.cA v.nc v.cc)/\w.cell? ⟨B,3,Ae⟩=Af (Ad v.pA N v.pc)/\w.cell? ⟨B,4,Ae⟩=Af (Ad v.iA N v.ic)/\w.cell? ⟨B,5,Ae⟩=Af (Ad v.hA N v.hc):=by
 obtain⟨M,kv,e1,e2,-⟩:=h;obtain⟨-,-,-,-,hc⟩:=Mm e1 e2;exact⟨hc 0 _ rfl,hc 1 _ rfl,hc 2 _ rfl,hc 3 _ rfl,hc 4 _ rfl,hc 5 _ rfl⟩
def Bu4 {k:Lk} {id e:Nat} {s:Sm} (h:(nbI k.a k.b id e).2≠0):k.add id e s={s with es:=s.es++[id]}:=by
 unfold Lk.add;rw[Hc h]
def Bu6 {k:Lk} {id e:Nat} {s:Sm} (h:(nbI k.a k.b id e).2=0) (h2:(nbI k.a k.b id e).1<id):k.add id e s=s:=by
 unfold Lk.add;rw[Ha (λg=>g h),Hc h2]
def Bu8 {k:Lk} {id e n:Nat} {s:Sm} (h:(nbI k.a k.b id e).2=0) (h2:¬(nbI k.a k.b id e).1<id) (hn:(nbI k.a k.b id e).1=(n:Int)) (hk:Ho k.cr id e=0):
  k.add id e s={s with ps:=s.ps++[if k.img id=s.b then (n,id)else (id,n)]}:=by
 unfold Lk.add;rw[Ha (λg=>g h),Ha h2,Hc hk,hn];by_cases hb:k.img id=s.b
 ·simp only[hb,if_true,Ev];simp
 ·simp only[hb,if_false,Ev];simp
def Bu5 {k:Lk} {id e n:Nat} {s:Sm} (h:(nbI k.a k.b id e).2=0) (h2:¬(nbI k.a k.b id e).1<id) (hn:(nbI k.a k.b id e).1=(n:Int)) (hk:Ho k.cr id e≠0):
  k.add id e s={s with ls:=s.ls++[if k.hs.getD id 0<k.hs.getD n 0 then (if k.img id=s.b then 1 else 0,id,n)else (if k.img id=s.b then 1 else 0,n,id)]}:=by
 unfold Lk.add;rw[Ha (λg=>g h),Ha h2,Ha hk,hn];simp only[Ev]
def Aq5 (h:Il O B F fix w (l1++x::l2)):
  w.cell? ⟨x.p,3,Ae⟩=Af (Aa Ab x.s.b.x)/\w.cell? ⟨x.p,4,Ae⟩=Af (Aa Ab x.s.b.y)/\w.cell? ⟨x.p,5,Ae⟩=Af (Aa Ac x.s.b.q):=by
 obtain⟨-,h1,-⟩:=h.sms.1 x Gy;have hc:=λj=>Bz w x.p j _ _ (0,0) h1;exact⟨(hc 3).trans rfl,(hc 4).trans rfl,(hc 5).trans rfl⟩
def Ax0 (O B N id e:Nat) (F:List Nat) (k:Lk) (v:LkV) (l:List SmB) (w:Aj) (hk:sO k N) (hid:id<N) (he:e<=2) (hm:Yh O F w k N v) (h:Il O B F (v.fix k N) w l) (hl:l.length<=1000000)
  (hx:∀x∈l,x.s.ps.length<=1000000/\x.s.ls.length<=1000000/\x.s.es.length<=1000000):
  Al Dp 203 #[.pointer (Af ⟨B,0,Ae⟩),id,Aa Ac e] w (xY O B F (v.fix k N) (k.meet id e (l.map (·.s))) w):=by
 have hs:=hk.pat.sheet;have NV:id<Hh k.a k.b:=hk.n▸hid;have hN:N<=1024:=by rw[hk.n];exact Sx hs
 have H1:=λw'=>Sj k.a k.b id w' hs;rw[Aq9 NV]at H1;unfold Nh at H1;obtain⟨fk,nt⟩:=By8 hs NV he;have H2:=λw' (hQ:Qt w')=>Sg (Hf k.a id).x (Hf k.a id).y (Hf k.a id).q e w' Gv Gv hQ;rw[fk]at H2;unfold Nh at H2;have jc:id<k.ms.length:=by rw[hk.ms];exact hid
 have bv:id<k.is.length:=by rw[hk.is];exact hid
 have xt:=hk.mok _ (Ay jc);have jj:=hk.cok _ (Ay bv);have H3:=λw' (hQ:Qf w') (hT:Tn w')=>Uy mA k.ms[id] (Sf (Hf k.a id) e).1 w' xt nt hQ hT;unfold clR at H3
 have jk:k.other id e=(Lj k.ms[id] (Sf (Hf k.a id) e).1).1:=by
  unfold Lk.other;rw[Dt,Aw jc];unfold Pr;simp only[Option.getD_some,xt,nt,Bool.and_self,if_true]
 have FD:k.img id=k.is[id]:=by
  unfold Lk.img;rw[Dt,Aw bv];rfl
 have hoq:(k.other id e).q<=255:=by
  rw[jk];have:=zL k.ms[id] (Sf (Hf k.a id) e).1;omega
 have hiq:(k.img id).q<=255:=by
  rw[FD];unfold Cl.ok at jj;have:=(Jq.1 jj).2.2.2.2;omega
 rw[<-jk]at H3;obtain⟨⟨c0,c1,c2⟩,hc⟩:=ey (Hf k.a id);rw[hc]at H1 H2 H3;obtain⟨⟨d0,d1,d2⟩,hd⟩:=ey ((Sf (⟨c0,c1,c2⟩:Cl) e).1);rw[hd]at H2 H3;obtain⟨oe,hoe⟩:=ey ((Lj k.ms[id] ⟨d0,d1,d2⟩).2);rw[hoe]at H3;have H4:=λw' (hQ:Qt w')=>Jj k.a k.b id e w' hs Gv hQ;have CB:=hk.pat
 have UY:(nbI k.a k.b id e).2=0->0<=(nbI k.a k.b id e).1/\(nbI k.a k.b id e).1<N:=λh=>by
  have:=fR hs h;have hn:=hk.n;unfold Hh at hn;omega
 have hH5:=λ(h0:(nbI k.a k.b id e).2=0) (h1:(id:Int)<=(nbI k.a k.b id e).1) (w':Aj) (hf:Frm O F w w')=>zG k.a k.b v.cA k.cr v.nc v.cc id e id w' (hm w' hf).1 (hm w' hf).2.1 hk.pat (hm w' hf).2.2.2.2.2.1.qt (Bn2 h0 h1) Gv Gv;have hAE:=λ(s:Sm)=>@Bu4 k id e s;have hAN:=λ(s:Sm)=>@Bu6 k id e s;have hAP:=λ(s:Sm) (n:Nat)=>@Bu8 k id e n s;have D5:=λ(s:Sm) (n:Nat)=>@Bu5 k id e n s;obtain⟨⟨nn,ne⟩,eh⟩:=ey (nbI k.a k.b id e);rw[eh]at H4 UY hH5 hAE hAN hAP D5;obtain⟨kk,iz⟩:=ey (Ho k.cr id e);rw[iz]at hH5 hAP D5;dsimp only at hH5 UY hAE hAN hAP D5;unfold fD at H4;have D6:=λ(w':Aj) (h:Il O B F (v.fix k N) w' l)=>Bv3 O B F (v.fix k N) (k.img id) (k.other id e) l w' hiq hoq h Gv;rw[show zD (k.img id) (k.other id e)=k.key id e from rfl]at D6;have hRM:=λ(w':Aj) (hf:Frm O F w w')=>Cf0 (hm w' hf).2.2.1 id jc;have hRI:=λ(w':Aj) (hf:Frm O F w w')=>Az9 (hm w' hf).2.2.2.1 id bv;rw[<-FD]at hRI;obtain⟨⟨mt,mx,my⟩,rp⟩:=ey (k.ms[id]);rw[rp]at hRM H3;obtain⟨⟨i0,i1,i2⟩,hig⟩:=ey (k.img id);obtain⟨⟨o0,o1,o2⟩,hog⟩:=ey (k.other id e);rw[hog]at H3 D6;rw[hig]at D6 hRI;unfold clK at D6;dsimp only at H1 H2 H3 D6 hRM hRI H4;have RZ:=Ah hH5;have HAE:=Ah hAE;have HAN:=Ah hAN;have ZO:=Ah hAP;have HAL:=Ah D5;have qk:=Ah UY;clear hH5 hAE hAN hAP D5 UY eh iz CB;have pa:=Ah H1;have DR:=Ah H2;have ZQ:=Ah H3;have VX:=Ah H4;have ww:=Ah D6;have HRM:=Ah hRM;have r8:=Ah hRI;have HM:=Ah hm;have HB:=Ah h;have HX:=Ah hx;have HIG:=Ah hig;have HK:=Ah hk;have HL:=Ah hl;have q0:(id:Int)<(N:Int):=Gv;clear D6 hRM hRI H1 H2 H3 H4 fk nt jc bv xt jj jk FD hoq hiq hc hd hoe rp hig hog hm hx hs NV h hk hl;obtain⟨f0,f1,-,f3,f4,-⟩:=Pl HB.out;go_in;go_wp2_with fail;refine(pa.out _).mono ?_;rintro ee w1 ⟨rfl,hb⟩
 have H1:=(Bx.start w).call hb;clear f0 f1 f3 f4;obtain⟨C1,t_⟩:=ey w1.heap.size;have H2:=H1.new #[c0,c1,Aa Ac c2] 90 t_;go_upto_region 1 with fail;generalize w1.alloc _=W1 at H2⊢;clear H1 hb t_;obtain⟨⟨a0,a1,a2⟩,-⟩:=Hg (H2.b 0);go_wp2_with fail;refine(DR.out _ (HM.out _ (HB.out.frm H2.below)).2.2.2.2.2.1.qt).mono ?_;rintro ee w2 ⟨rfl,hb⟩;have H3:=H2.call hb;clear a0 a1 a2 H2;obtain⟨C2,hC2⟩:=ey w2.heap.size;have H4:=H3.new #[d0,d1,Aa Ac d2] 90 hC2;go_upto_region 2 with fail;generalize w2.alloc _=W2 at H4⊢;clear H3 hb hC2;have hF:=HB.out.frm H4.below;obtain⟨-,-,-,f3,-,-⟩:=Pl (HB.out.below H4.below);obtain⟨pb,po,YJ,dr,p0,p1,p2⟩:=HRM.out _ hF;rw[YJ]at f3;obtain⟨⟨a0,a1,a2⟩,-⟩:=Hg (H4.b 1);have sj:Hid (∀W',Below W2.heap.size W2 W'->Qf W'/\Tn W'):=Ah λW' hb=>(HM.out _ (HB.out.frm (Up H4.below hb))).2.2.2.2.2
 obtain⟨S,an⟩:∃S:Aj->Prop,S=λW'=>W'.cell? ⟨B,3,Ae⟩=Af (Ad (Af ⟨pb,po,Ae⟩) N v.pc)/\(W'.cell? ⟨pb,po+id*3,Ae⟩=Af (Aa Ac mt)/\W'.cell? ⟨pb,po+id*3+1,Ae⟩=Af (Aa Ab mx)/\W'.cell? ⟨pb,po+id*3+2,Ae⟩=Af (Aa Ab my))/\
  W'.cell? ⟨C2,0,Ae⟩=Af (Aa Ab d0)/\W'.cell? ⟨C2,1,Ae⟩=Af (Aa Ab d1)/\W'.cell? ⟨C2,2,Ae⟩=Af (Aa Ac d2):=⟨_,rfl⟩
 have HSO:Hid (∀W',S W'->W'.cell? ⟨B,3,Ae⟩=Af (Ad (Af ⟨pb,po,Ae⟩) N v.pc)/\(W'.cell? ⟨pb,po+id*3,Ae⟩=Af (Aa Ac mt)/\W'.cell? ⟨pb,po+id*3+1,Ae⟩=Af (Aa Ab mx)/\W'.cell? ⟨pb,po+id*3+2,Ae⟩=Af (Aa Ab my))/\
  W'.cell? ⟨C2,0,Ae⟩=Af (Aa Ab d0)/\W'.cell? ⟨C2,1,Ae⟩=Af (Aa Ab d1)/\W'.cell? ⟨C2,2,Ae⟩=Af (Aa Ac d2)):=Ah λW' h=>by subst an;exact h
 have ag:Hid (∀W',Below W2.heap.size W2 W'->S W'):=Ah λW' h=>by
  subst an;exact⟨Gw h f3,⟨Gw h p0,Gw h p1,Gw h p2⟩,Gw h a0,Gw h a1,Gw h a2⟩
 clear f3 p0 p1 p2 a0 a1 a2 an hF;go_cut [10] (λVR wx=>∃C3,VR= .pointer (Af ⟨C3,0,Ae⟩)/\Bx w [(C1,#[c0,c1,Aa Ac c2],90),(C2,#[d0,d1,Aa Ac d2],90),(C3,#[o0,o1,Aa Ac o2],90)] wx)
 case first=>
  refine Ao (S:=S) Gx (ag.out _ (Ag _ _).drew) (λhS=>?_);have hb:Below W2.heap.size W2 W2.drew:=(Ag _ _).drew;have H:=H4.drew;generalize W2.drew=X0 at hb hS H⊢;clear H4;refine Hk 0 1 2 3 ?_;refine Hk 4 5 6 7 ?_;refine Ap (rs:=[8,12]) Gx Gy (Aq rfl (λK hK=>?_) (Aq rfl (λK hK=>?_) Ar));go_simp;refine(ZQ.out _ (sj.out _ hb).1 (sj.out _ hb).2).mono ?_;rintro ee X1 ⟨rfl,ad⟩;have hb:=Up hb ad;have H:=H.call ad;refine hK.o (ag.out _ hb) (λhS=>?_);clear hK K ad;refine Oe 9 10 11 ?_;refine rdy 12 (λK hK=>?_);obtain⟨C3,E6⟩:=ey X1.heap.size;have H:=H.new #[Aa Ab 0,Aa Ab 0,Aa Ac 0] 90 E6;have TH:W2.heap.size<=C3:=E6▸hb.size;have hb:=hb.alloc hb.size (.cells #[Aa Ab 0,Aa Ab 0,Aa Ac 0] 90);go_simp;refine hK.o (ag.out _ hb) (λhS=>?_);clear hK K E6;generalize X1.alloc _=X2 at H hb hS⊢;rotate_left;obtain⟨C3,E6⟩:=ey X0.heap.size;have H:=H.new #[Aa Ab 0,Aa Ab 0,Aa Ac 0] 90 E6;have TH:W2.heap.size<=C3:=E6▸hb.size;have hb:=hb.alloc hb.size (.cells #[Aa Ab 0,Aa Ab 0,Aa Ac 0] 90);go_simp;refine hK.o (ag.out _ hb) (λhS=>?_);clear hK K E6;generalize X0.alloc _=X2 at H hb hS⊢;refine rdy 8 (λK hK=>?_);go_simp;refine(ZQ.out _ (sj.out _ hb).1 (sj.out _ hb).2).mono ?_;rintro ee X1 ⟨rfl,ad⟩;have hb:=Up hb ad;have H:=H.call ad;refine hK.o (ag.out _ hb) (λhS=>?_);clear hK K ad;refine Oe 9 10 11 ?_
  all_goals
   obtain⟨⟨y0,y1,y2⟩,z0,z1,z2⟩:=Hg (H.b 2);have H:=((H.set 2 0 rfl (Aa Ab o0)).set 2 1 rfl (Aa Ab o1)).set 2 2 rfl (Aa Ac o2);have hb:=((hb.setCell (p:=⟨C3,0,Ae⟩) TH (Aa Ab o0)).setCell (p:=⟨C3,1,Ae⟩) TH (Aa Ab o1)).setCell (p:=⟨C3,2,Ae⟩) TH (Aa Ac o2);refine rdy 13 (λK hK=>?_);go_simp;refine hK.o (ag.out _ hb) (λhS=>?_);clear hK K z0 z1 z2 y0 y1 y2;refine Ke 14 ?_;refine An Gx ?_ _;go_wp2;go_meet;exact⟨C3,rfl,H⟩
 obtain⟨C3,rfl,H5⟩:=hcut;clear HSO ag sj YJ dr H4 pa DR ZQ HRM;have yr:=Ah (HB.out.below H5.below);obtain⟨-,-,-,-,f4,-⟩:=Pl yr.out;obtain⟨ib,io,hiA,bv,j0,j1,j2⟩:=r8.out _ (HB.out.frm H5.below);rw[hiA]at f4;obtain⟨S3,an⟩:∃S3:Aj->Prop,S3=λW'=>W'.cell? ⟨B,4,Ae⟩=Af (Ad (Af ⟨ib,io,Ae⟩) N v.ic)/\W'.cell? ⟨ib,io+id*3,Ae⟩=Af (Aa Ab i0)/\W'.cell? ⟨ib,io+id*3+1,Ae⟩=Af (Aa Ab i1)/\W'.cell? ⟨ib,io+id*3+2,Ae⟩=Af (Aa Ac i2):=⟨_,rfl⟩;have HSO:Hid (∀W',S3 W'->W'.cell? ⟨B,4,Ae⟩=Af (Ad (Af ⟨ib,io,Ae⟩) N v.ic)/\W'.cell? ⟨ib,io+id*3,Ae⟩=Af (Aa Ab i0)/\W'.cell? ⟨ib,io+id*3+1,Ae⟩=Af (Aa Ab i1)/\W'.cell? ⟨ib,io+id*3+2,Ae⟩=Af (Aa Ac i2)):=Ah λW' h=>by subst an;exact h
 have ag:Hid (∀W' l',Il O B F (v.fix k N) W' l'->Frm O F w W'->S3 W'):=Ah λW' l' h hF=>by
  obtain⟨-,-,-,-,f4,-⟩:=Pl h;obtain⟨ib',io',e,-,j0,j1,j2⟩:=r8.out _ hF;rw[hiA]at e f4;obtain⟨rfl,rfl⟩:ib=ib'/\io=io':=by simpa using e
  subst an;exact⟨f4,j0,j1,j2⟩
 clear f4 bv j0 j1 j2 an;go_upto_region 3 with fail;refine Ao (S:=S3) Gx (ag.out _ _ (HB.out.below H5.drew.below) (HB.out.frm H5.drew.below)) (λhS=>?_);have H6:=H5.drew;generalize wc.drew=X0 at hS H6⊢;clear H5 yr;refine Hk 0 1 2 3 ?_;refine Hk 4 5 6 7 ?_;obtain⟨⟨a0,a1,a2⟩,-⟩:=Hg (H6.b 2);refine rdy 8 (λK hK=>?_);go_simp;refine hK.o hS (λhS=>?_);clear hK K a0 a1 a2;refine rdy 9 (λK hK=>?_);go_simp;refine(ww.out _ (HB.out.below H6.below)).mono ?_;rintro ee w4 ⟨l1,x,l2,rfl,ZA,AV,p_,hF4⟩;have hF5:=(HB.out.frm H6.below).trans hF4;refine hK.o (ag.out _ _ p_ hF5) (λhS=>?_);clear hK K;refine Ke 10 ?_;refine An Gx ?_ _;clear hS HSO ag hF4 H6 ww;obtain⟨f0,f1,-⟩:=Pl p_
 have aw:Hid (∀(y:SmB) w',y.s=k.add id e x.s->Il O B F (v.fix k N) w' (l1++y::l2)->Frm O F w w'->xY O B F (v.fix k N) (k.meet id e (l.map (·.s))) w (.returned (.tuple #[])) w'):=Ah λy w' hy hB hF=>
  ⟨rfl,_,Bm4 ZA AV p_.keys hy,hB,hF⟩
 have B4:Hid (x.s.ps.length<=1000000/\x.s.ls.length<=1000000/\x.s.es.length<=1000000):=Ah (by
  rcases AV with rfl|⟨-,-,-,h⟩
  ·exact HX.out x Gy
  ·rw[h];simp[Sm.none])
 clear ZA AV HX HL;go_wp2_with fail;refine(VX.out _ (HM.out _ hF5).2.2.2.2.2.1.qt).mono ?_;rintro ee w5 ⟨rfl,hb⟩;have hF6:=hF5.trans (p_.frm hb);have GP:=p_.below hb;unfold SmB.ptr;have T':=Ah hF6;have yr:=Ah GP;clear f0 f1 hb p_ hF5 hF6 VX w4;by_cases hne:ne=0
 ·subst hne;obtain⟨n0,nN⟩:=qk.out rfl;obtain⟨n,rfl⟩:∃z:Nat,nn=z:=⟨nn.toNat,Gv⟩;by_cases ac:(n:Int)<(id:Int)
  ·have CJ:=Ah (aw.out x _ (HAN.out x.s rfl ac).symm GP T'.out);clear GP
   as_aux_lemma=>
    go_wp2_with fail
    go_end0
    exact CJ.out
  ·obtain⟨f0,f1,f2,-⟩:=Pl GP;have hle:(id:Int)<=(n:Int):=Gv;have HC6:=Ah (RZ.out rfl hle);have AN:=Ah (ZO.out x.s n rfl Gv rfl);have MA:=Ah (HAL.out x.s n rfl Gv rfl);clear RZ ZO HAL HAN HAE;go_wp2_with fail;refine(HC6.out _ T'.out).mono ?_;rintro ee w6 ⟨rfl,hb⟩;have HF7:=Ah (T'.out.trans (GP.frm hb));have ex:=Ah (GP.below hb);clear f0 f1 f2 hb GP yr T' HC6 w5;obtain⟨-,-,-,-,f4,-⟩:=Pl ex.out;obtain⟨ib,io,hiA,-,j0,j1,j2⟩:=r8.out _ HF7.out;rw[hiA]at f4;obtain⟨s3,s4,s5⟩:=Aq5 ex.out;obtain⟨⟨b0,b1,b2⟩,qu⟩:=ey x.s.b;rw[qu]at s3 s4 s5;obtain⟨r,hr⟩:=ey (decide ((⟨i0,i1,i2⟩:Cl)=⟨b0,b1,b2⟩))
   have sk:Hid (r=decide (i0=b0/\i1=b1/\(i2:Int)=(b2:Int))):=Ah (by
    rw[<-hr];simp only[Cl.mk.injEq]
    congr 1
    apply propext;omega)
   dsimp only at s3 s4 s5;have jn:Hid (decide (k.img id=x.s.b)=r):=Ah (by rw[HIG.out,qu];exact hr);clear hr qu r8 HIG
   obtain⟨S4,an⟩:∃S4:Aj->Prop,S4=λW'=>W'.cell? ⟨B,4,Ae⟩=Af (Ad (Af ⟨ib,io,Ae⟩) N v.ic)/\(W'.cell? ⟨ib,io+id*3,Ae⟩=Af (Aa Ab i0)/\W'.cell? ⟨ib,io+id*3+1,Ae⟩=Af (Aa Ab i1)/\W'.cell? ⟨ib,io+id*3+2,Ae⟩=Af (Aa Ac i2))/\
    (W'.cell? ⟨x.p,3,Ae⟩=Af (Aa Ab b0)/\W'.cell? ⟨x.p,4,Ae⟩=Af (Aa Ab b1)/\W'.cell? ⟨x.p,5,Ae⟩=Af (Aa Ac b2)):=⟨_,rfl⟩
   have HSO:Hid (∀W',S4 W'->W'.cell? ⟨B,4,Ae⟩=Af (Ad (Af ⟨ib,io,Ae⟩) N v.ic)/\(W'.cell? ⟨ib,io+id*3,Ae⟩=Af (Aa Ab i0)/\W'.cell? ⟨ib,io+id*3+1,Ae⟩=Af (Aa Ab i1)/\W'.cell? ⟨ib,io+id*3+2,Ae⟩=Af (Aa Ac i2))/\
    (W'.cell? ⟨x.p,3,Ae⟩=Af (Aa Ab b0)/\W'.cell? ⟨x.p,4,Ae⟩=Af (Aa Ab b1)/\W'.cell? ⟨x.p,5,Ae⟩=Af (Aa Ac b2))):=Ah λW' h=>by subst an;exact h
   have tu:S4 w6.drew:=by subst an;exact⟨f4,⟨j0,j1,j2⟩,s3,s4,s5⟩
   clear f4 j0 j1 j2 s3 s4 s5 an;go_upto_region 10 with fail;refine Ao (S:=S4) Gx tu (λhS=>?_);have yu:=Ah (HF7.out.trans (ex.out.frm (Ag w6.heap.size w6).drew));have tr:=Ah (ex.out.below (Ag w6.heap.size w6).drew);generalize w6.drew=X1 at hS yu tr⊢;clear tu HF7 ex;refine Hk 0 1 2 3 ?_;refine Hk 4 5 6 7 ?_;refine Oe 8 9 10 ?_;refine wpAnyH_take (i:=11) (v:= .bool r) rfl Gx Gx Gx (λ_ _ _ h=>h) (Or.inl ⟨by rfl,?_⟩) hS ?_
   ·intro w0 _;go_simp;rw[sk.out];by_cases g0:i0=b0
    ·by_cases g1:i1=b1
     ·by_cases g2:(i2:Int)=(b2:Int)
      ·simp[g0,g1,g2]
      ·simp[g0,g1,g2]
     ·simp[g0,g1]
    ·simp[g0]
   try simp only[Act.put,Cf,Cd,Ce,Ci,Cg,Ch]
   refine An Gx ?_ _;clear HSO sk;obtain⟨f0,f1,f2,f3,-,f5⟩:=Pl tr.out;have hHS:=(HM.out _ yu.out).2.2.2.2.1;have N6:id<k.hs.length:=by rw[HK.out.hs];exact hid
   have hnh:n<k.hs.length:=by rw[HK.out.hs];omega
   obtain⟨gb,go',hgA,-,g0⟩:=Rp hHS id N6;obtain⟨gb',go'',L9,-,g1⟩:=Rp hHS n hnh;rw[hgA]at L9 f5;obtain⟨rfl,rfl⟩:gb=gb'/\go'=go'':=by simpa using L9
   have XP:=AN.out;have it:=MA.out;have e1:k.hs.getD id 0=k.hs[id]:=by rw[Dt,Aw N6];rfl
   have e2:k.hs.getD n 0=k.hs[n]:=by rw[Dt,Aw hnh];rfl
   rw[e1,e2]at it;obtain⟨hi,zr⟩:=ey (k.hs[id]);obtain⟨hn,hhn⟩:=ey (k.hs[n]);rw[zr]at g0 it;rw[hhn]at g1 it;have ja:=jn.out;clear HM HB HK jn hHS N6 hnh hgA L9 hiA e1 e2 zr hhn
   cases r with
   |true=>
    have gr:k.img id=x.s.b:=Sh ja;rw[Hc gr]at XP it;clear ja gr;by_cases di:kk=0
    ·subst di;have ft:=XP rfl;obtain⟨A,c,hv,k6,A',c',w9,ah,z6,c6,jv,zi⟩:=Ap6 tr.out B4.out.1 (n,id);have bf:=Ah ah;have CJ:=Ah (aw.out _ _ ft.symm jv (yu.out.trans zi));obtain⟨m,ju⟩:=ey x.s.ps.length;rw[ju]at k6 bf CJ;clear hv ah jv zi ju XP it ft f0 f1 f2 f3 f5 g0 g1
     as_aux_lemma=>
      go_wp2_with (at_builtin;refine As _ rfl _ _ _ _ rfl _ _ rfl rfl _ _ bf.out ?_)
      go_end0
      exact CJ.out
    ·have q3:(kk==0)=false:=by simpa using di
     have ft:=it di;clear XP it di;obtain⟨S5,an⟩:∃S5:Aj->Prop,S5=λW'=>W'.cell? ⟨B,5,Ae⟩=Af (Ad (Af ⟨gb,go',Ae⟩) N v.hc)/\W'.cell? ⟨gb,go'+id,Ae⟩=Af (Aa Ab hi)/\W'.cell? ⟨gb,go'+n,Ae⟩=Af (Aa Ab hn):=⟨_,rfl⟩;have HSO:Hid (∀W',S5 W'->W'.cell? ⟨B,5,Ae⟩=Af (Ad (Af ⟨gb,go',Ae⟩) N v.hc)/\W'.cell? ⟨gb,go'+id,Ae⟩=Af (Aa Ab hi)/\W'.cell? ⟨gb,go'+n,Ae⟩=Af (Aa Ab hn)):=Ah λW' h=>by subst an;exact h
     have tu:S5 X1.drew:=by subst an;exact⟨f5,g0,g1⟩
     clear an f0 f1 f2 f3 f5 g0 g1;go_upto_region 17 with fail;refine Ao (S:=S5) Gx tu (λhS=>?_);have IV:=Ah (yu.out.trans (tr.out.frm (Ag X1.heap.size X1).drew));have KP:=Ah (tr.out.below (Ag X1.heap.size X1).drew);generalize X1.drew=X2 at hS IV KP⊢;clear tu yu tr;refine Hk 0 1 2 3 ?_;refine Hk 4 5 6 7 ?_;refine Hk 8 9 10 11 ?_;refine Hk 12 13 14 15 ?_;refine An Gx ?_ _;clear hS HSO;by_cases hh:hi<hn;have q4:(hi:Int)<(hn:Int):=Gv;rw[Hc hh]at ft;obtain⟨A,c,hv,k7,A',c',w9,ah,z7,c7,jv,zi⟩:=kO KP.out B4.out.2.1 (1,id,n);rotate_left;have q4:¬(hi:Int)<(hn:Int):=Gv;rw[Ha hh]at ft;obtain⟨A,c,hv,k7,A',c',w9,ah,z7,c7,jv,zi⟩:=kO KP.out B4.out.2.1 (1,n,id)
     all_goals
      have bf:=Ah ah;have CJ:=Ah (aw.out _ _ ft.symm jv (IV.out.trans zi));obtain⟨m,ju⟩:=ey x.s.ls.length;rw[ju]at k7 bf CJ;clear hv ah jv zi ju ft hh
      as_aux_lemma=>
       go_wp2_with (at_builtin;refine As _ rfl _ _ _ _ rfl _ _ rfl rfl _ _ bf.out ?_)
       go_end0
       exact CJ.out
   |false=>
    have gr:¬k.img id=x.s.b:=of_decide_eq_false ja;rw[Ha gr]at XP it;clear ja gr;by_cases di:kk=0
    ·subst di;have ft:=XP rfl;obtain⟨A,c,hv,k6,A',c',w9,ah,z6,c6,jv,zi⟩:=Ap6 tr.out B4.out.1 (id,n);have bf:=Ah ah;have CJ:=Ah (aw.out _ _ ft.symm jv (yu.out.trans zi));obtain⟨m,ju⟩:=ey x.s.ps.length;rw[ju]at k6 bf CJ;clear hv ah jv zi ju XP it ft f0 f1 f2 f3 f5 g0 g1
     as_aux_lemma=>
      go_wp2_with (at_builtin;refine As _ rfl _ _ _ _ rfl _ _ rfl rfl _ _ bf.out ?_)
      go_end0
      exact CJ.out
    ·have q3:(kk==0)=false:=by simpa using di
     have ft:=it di;clear XP it di;obtain⟨S5,an⟩:∃S5:Aj->Prop,S5=λW'=>W'.cell? ⟨B,5,Ae⟩=Af (Ad (Af ⟨gb,go',Ae⟩) N v.hc)/\W'.cell? ⟨gb,go'+id,Ae⟩=Af (Aa Ab hi)/\W'.cell? ⟨gb,go'+n,Ae⟩=Af (Aa Ab hn):=⟨_,rfl⟩;have HSO:Hid (∀W',S5 W'->W'.cell? ⟨B,5,Ae⟩=Af (Ad (Af ⟨gb,go',Ae⟩) N v.hc)/\W'.cell? ⟨gb,go'+id,Ae⟩=Af (Aa Ab hi)/\W'.cell? ⟨gb,go'+n,Ae⟩=Af (Aa Ab hn)):=Ah λW' h=>by subst an;exact h
     have tu:S5 X1.drew:=by subst an;exact⟨f5,g0,g1⟩
     clear an f0 f1 f2 f3 f5 g0 g1;go_upto_region 17 with fail;refine Ao (S:=S5) Gx tu (λhS=>?_);have IV:=Ah (yu.out.trans (tr.out.frm (Ag X1.heap.size X1).drew));have KP:=Ah (tr.out.below (Ag X1.heap.size X1).drew);generalize X1.drew=X2 at hS IV KP⊢;clear tu yu tr;refine Hk 0 1 2 3 ?_;refine Hk 4 5 6 7 ?_;refine Hk 8 9 10 11 ?_;refine Hk 12 13 14 15 ?_;refine An Gx ?_ _;clear hS HSO;by_cases hh:hi<hn;have q4:(hi:Int)<(hn:Int):=Gv;rw[Hc hh]at ft;obtain⟨A,c,hv,k7,A',c',w9,ah,z7,c7,jv,zi⟩:=kO KP.out B4.out.2.1 (0,id,n);rotate_left;have q4:¬(hi:Int)<(hn:Int):=Gv;rw[Ha hh]at ft;obtain⟨A,c,hv,k7,A',c',w9,ah,z7,c7,jv,zi⟩:=kO KP.out B4.out.2.1 (0,n,id)
     all_goals
      have bf:=Ah ah;have CJ:=Ah (aw.out _ _ ft.symm jv (IV.out.trans zi));obtain⟨m,ju⟩:=ey x.s.ls.length;rw[ju]at k7 bf CJ;clear hv ah jv zi ju ft hh
      as_aux_lemma=>
       go_wp2_with (at_builtin;refine As _ rfl _ _ _ _ rfl _ _ rfl rfl _ _ bf.out ?_)
       go_end0
       exact CJ.out
 ·have q1:(ne != 0)=true:=by simpa using hne
  obtain⟨A,c,hv,k8,A',c',w6,ah,z8,c8,jv,zi⟩:=Bv0 GP B4.out.2.2 id;have bf:=Ah ah;have CJ:=Ah (aw.out _ _ (HAE.out x.s hne).symm jv (T'.out.trans zi));obtain⟨m,ju⟩:=ey x.s.es.length;rw[ju]at k8 bf CJ;clear hv ah jv zi GP ju hne
  as_aux_lemma=>
   go_wp2_with (at_builtin;refine As _ rfl _ _ _ _ rfl _ _ rfl rfl _ _ bf.out ?_)
   go_end0
   exact CJ.out
def Ca8 (h:Il O B F fix w (l1++x::l2)) (ho:w'.ownsRow O 3 1 x.ve r.length (Ih r)) (hg:w.grownBy w' x.ve.ownBlock):
  Il O B F fix w' (l1++(⟨{x.s with es:=r},x.p,x.vp,x.vl,x.ve⟩:SmB)::l2)/\Frm O F w w':=by
 have mj:=h.sms
 have hO:O<=w.heap.size:=by
  obtain⟨M,kv,_,h2,_,_,_,_,_,h8,_⟩:=h;have:=(Au.1 h2).1;omega
 have dw:=mj.1 x Gy;have ca:=Pa mj;obtain⟨h0,h1,h2,h3,h4⟩:=dw;have ii:=ca;unfold SmB.blks at ii;simp only[Ei,Bq,Bl,Option.mem_toList,not_or]at ii;obtain⟨⟨⟨RJ,RK⟩,RM⟩,⟨-,-,n12⟩,-,n3⟩:=ii;have dr:x.p<w.heap.size:=(Au.1 h1).1;have bm:∀g,g<w.heap.size->x.ve.ownBlock≠Af g->w'.heap[g]? =w.heap[g]? :=λg JS PC=>hg.block g JS (Ne.symm PC)
 have hy:(⟨{x.s with es:=r},x.p,x.vp,x.vl,x.ve⟩:SmB).ok O w':=by
  refine⟨h0,(bm x.p dr RM).trans h1,?_,?_,?_⟩
  ·exact Io h2 λg hg=>bm g (h2.lt g hg).2 λe=>n3 g (.inl hg) g e rfl
  ·exact Io h3 λg hg=>bm g (h3.lt g hg).2 λe=>n3 g (.inr hg) g e rfl
  ·exact ho
 have hr:=h.change (y:=⟨{x.s with es:=r},x.p,x.vp,x.vl,x.ve⟩) hy rfl rfl ca (λg hg=> .inl hg) (λg JS hx=>bm g JS λe=>hx (by unfold SmB.blks;simp[e])) hg.size;exact⟨hr.1,(Ag O w).grown hg hO (λk hk=>(h4.lt k hk).1),hr.2⟩
def Ca9 (h:Il O B F fix w (l1++x::l2)) {r:List (Nat×Nat×Nat)} (ho:w'.ownsRow O 266 3 x.vl r.length (Nl r)) (hg:w.grownBy w' x.vl.ownBlock):
  Il O B F fix w' (l1++(⟨{x.s with ls:=r},x.p,x.vp,x.vl,x.ve⟩:SmB)::l2)/\Frm O F w w':=by
 have mj:=h.sms
 have hO:O<=w.heap.size:=by
  obtain⟨M,kv,_,h2,_,_,_,_,_,h8,_⟩:=h;have:=(Au.1 h2).1;omega
 have dw:=mj.1 x Gy;have ca:=Pa mj;obtain⟨h0,h1,h2,h3,h4⟩:=dw;have ii:=ca;unfold SmB.blks at ii;simp only[Ei,Bq,Bl,Option.mem_toList,not_or]at ii;obtain⟨⟨⟨RJ,RK⟩,RM⟩,⟨-,-,n12⟩,-,n3⟩:=ii;have dr:x.p<w.heap.size:=(Au.1 h1).1;have bm:∀g,g<w.heap.size->x.vl.ownBlock≠Af g->w'.heap[g]? =w.heap[g]? :=λg JS PC=>hg.block g JS (Ne.symm PC)
 have hy:(⟨{x.s with ls:=r},x.p,x.vp,x.vl,x.ve⟩:SmB).ok O w':=by
  refine⟨h0,(bm x.p dr RK).trans h1,?_,?_,?_⟩
  ·exact Io h2 λg hg=>bm g (h2.lt g hg).2 λe=>n12 g hg g e rfl
  ·exact ho
  ·exact Io h4 λg hg=>bm g (h4.lt g hg).2 λe=>n3 g (.inr e) g hg rfl
 have hr:=h.change (y:=⟨{x.s with ls:=r},x.p,x.vp,x.vl,x.ve⟩) hy rfl rfl ca (λg hg=> .inl hg) (λg JS hx=>bm g JS λe=>hx (by unfold SmB.blks;simp[e])) hg.size;exact⟨hr.1,(Ag O w).grown hg hO (λk hk=>(h3.lt k hk).1),hr.2⟩
def Cb0 (h:Il O B F fix w (l1++x::l2)) {r:List (Nat×Nat)} (ho:w'.ownsRow O 377 2 x.vp r.length (Pw r)) (hg:w.grownBy w' x.vp.ownBlock):
  Il O B F fix w' (l1++(⟨{x.s with ps:=r},x.p,x.vp,x.vl,x.ve⟩:SmB)::l2)/\Frm O F w w':=by
 have mj:=h.sms
 have hO:O<=w.heap.size:=by
  obtain⟨M,kv,_,h2,_,_,_,_,_,h8,_⟩:=h;have:=(Au.1 h2).1;omega
 have dw:=mj.1 x Gy;have ca:=Pa mj;obtain⟨h0,h1,h2,h3,h4⟩:=dw;have ii:=ca;unfold SmB.blks at ii;simp only[Ei,Bq,Bl,Option.mem_toList,not_or]at ii;obtain⟨⟨⟨RJ,RK⟩,RM⟩,⟨-,-,n12⟩,-,n3⟩:=ii;have dr:x.p<w.heap.size:=(Au.1 h1).1;have bm:∀g,g<w.heap.size->x.vp.ownBlock≠Af g->w'.heap[g]? =w.heap[g]? :=λg JS PC=>hg.block g JS (Ne.symm PC)
 have hy:(⟨{x.s with ps:=r},x.p,x.vp,x.vl,x.ve⟩:SmB).ok O w':=by
  refine⟨h0,(bm x.p dr RJ).trans h1,?_,?_,?_⟩
  ·exact ho
  ·exact Io h3 λg hg=>bm g (h3.lt g hg).2 λe=>n12 g e g hg rfl
  ·exact Io h4 λg hg=>bm g (h4.lt g hg).2 λe=>n3 g (.inl e) g hg rfl
 have hr:=h.change (y:=⟨{x.s with ps:=r},x.p,x.vp,x.vl,x.ve⟩) hy rfl rfl ca (λg hg=> .inl hg) (λg JS hx=>bm g JS λe=>hx (by unfold SmB.blks;simp[e])) hg.size;exact⟨hr.1,(Ag O w).grown hg hO (λk hk=>(h2.lt k hk).1),hr.2⟩
def mW {P:α->Prop} (l:List α) (h:∀x∈l,P x):(l.attach.map λx=>(⟨x.1,h x.1 x.2⟩:{x:α//P x})).map (·.1)=l:=by
 rw[Ft]
 conv=>rhs;rw[<-List.attach_map_subtype_val l]
 rfl
def gP {P:α->Prop} (f:α->List Ak) (l:List {x:α//P x}):(l.flatMap λx=>f x.1)=(l.map (·.1)).flatMap f:=by
 rw[List.flatMap_map]
def Ao9 (enc:List α->List Ak) (l:List α) (O e k m:Nat) (v:Ak) (w:Aj) (en:Ending) (w':Aj):Prop:=
 en= .returned (.tuple #[])/\∃r:List α,r.Perm l/\w'.ownsRow O e k v m (enc r)/\w.grownBy w' v.ownBlock
def xI (Pb Bb:Nat) (hs:List Nat) (hn:0<hs.length) {O m c:Nat} (l:List (Nat×Nat)) (hl:∀p∈l,p.1<hs.length) (w:Aj) (h:w.ownsRow O 377 2 (Ad A m c) m (Pw l)) (hm:m<=1000000)
  (hg:∀W',w.grownBy W' (Value.slice A m c).ownBlock->sM Pb Bb hs W'):
  Al Dp 249 #[Ad A m c,.func (.func 250) #[] #[.pointer (Af ⟨Pb,0,Ae⟩)]] w (Ao9 Pw l O 377 2 m (Ad A m c) w):=by
 have hv:=mW l hl;obtain⟨l',O5⟩:∃z:List (PsE hs.length),(l.attach.map λx=>(⟨x.1,hl x.1 x.2⟩:PsE hs.length))=z:=⟨_,rfl⟩;rw[O5]at hv;have e:∀z:List (PsE hs.length),z.flatMap psV=Pw (z.map (·.1)):=λz=>gP Xg z;refine(xH Pb Bb hs hn l' w (by rw[e,hv];exact h) hm hg).mono ?_;rintro en w' ⟨rfl,r,hp,-,ho,gn⟩;rw[e]at ho;exact⟨rfl,r.map (·.1),hv▸hp.map _,ho,gn⟩
def xF (Pb Bb:Nat) (hs:List Nat) (hn:0<hs.length) {O m c:Nat} (l:List (Nat×Nat×Nat)) (hl:∀p∈l,p.2.1<hs.length) (w:Aj) (h:w.ownsRow O 266 3 (Ad A m c) m (Nl l)) (hm:m<=1000000)
  (hg:∀W',w.grownBy W' (Value.slice A m c).ownBlock->sM Pb Bb hs W'):
  Al Dp 251 #[Ad A m c,.func (.func 252) #[] #[.pointer (Af ⟨Pb,0,Ae⟩)]] w (Ao9 Nl l O 266 3 m (Ad A m c) w):=by
 have hv:=mW l hl;obtain⟨l',O5⟩:∃z:List (LpE hs.length),(l.attach.map λx=>(⟨x.1,hl x.1 x.2⟩:LpE hs.length))=z:=⟨_,rfl⟩;rw[O5]at hv;have e:∀z:List (LpE hs.length),z.flatMap lpV=Nl (z.map (·.1)):=λz=>gP Xd z;refine(xE Pb Bb hs hn l' w (by rw[e,hv];exact h) hm hg).mono ?_;rintro en w' ⟨rfl,r,hp,-,ho,gn⟩;rw[e]at ho;exact⟨rfl,r.map (·.1),hv▸hp.map _,ho,gn⟩
def Bg8 (h:Il O B F fix w (l1++x::l2)) {o:Option Nat} (ho:∀g,o=Af g->g∈x.blks) (hg:w.grownBy w' o):Frm O F w w'/\w'.heap[B]? =w.heap[B]? :=by
 have mj:=h.sms;have ac:=(mj.1 x Gy).lt;obtain⟨M,kv,h1,h2,h3,h4,h5,h6,h7,h8,h9,CU⟩:=h;have hB:=(Au.1 h2).1
 have br:∀g∈x.blks,g∈Hq B M kv (l1++x::l2):=λg hg=>by
  unfold Hq;simp only[Bk,Bl,Bi,Bf];exact .inr (.inr (.inr (.inr (.inl hg))))
 refine⟨⟨(Ag O w).grown hg Gv λk hk=>(ac k (ho k hk)).1,λg XW=>hg.block g (CU g XW).1 λe=>(CU g XW).2 (br g (ho g e.symm))⟩,hg.block B hB λe=>?_⟩;have hx:=ho B e.symm;unfold Hq at h7;simp only[Ei,Bk,Bl,Bi,Bf,not_or]at h7;exact h7.1.2.2.2.1 hx
structure SmP (s t:Sm):Prop where
 a:s.a=t.a
 b:s.b=t.b
 ps:s.ps.Perm t.ps
 ls:s.ls.Perm t.ls
 es:s.es.Perm t.es
def SmP.refl (s:Sm):SmP s s:=⟨rfl,rfl,.refl _,.refl _,.refl _⟩
def SmP.trans {s t u:Sm} (h:SmP s t) (k:SmP t u):SmP s u:=⟨h.a.trans k.a,h.b.trans k.b,h.ps.trans k.ps,h.ls.trans k.ls,h.es.trans k.es⟩
def Ap1 (l r:List Sm):Prop:=∃z:List (Sm×Sm),l.Perm (z.map (·.1))/\r=z.map (·.2)/\∀p∈z,SmP p.1 p.2
def nD {P:Sm->Bool} (hP:∀s t,SmP s t->P s=P t) {l r:List Sm} (h:Ap1 l r):l.any P=r.any P:=by
 obtain⟨z,h1,rfl,h2⟩:=h;rw[h1.any_eq,List.any_map,List.any_map];clear h1
 induction z with
 |nil=>rfl
 |cons p z ih=>
  rw[List.any_cons,List.any_cons,ih λq hq=>h2 q (Ey _ hq)];simp only[Function.comp];rw[hP _ _ (h2 p Gy)]
def Ye {l:List Nat} (h:SmP s t) (side:Nat):(Im l s side).Perm (Im l t side):=h.ps.map _
def fJ {l:List Nat} (h:SmP s t) (side:Nat):(jG l s side).Perm (jG l t side):=(h.ls.filter _).map _
def fK {l:List Nat} (h:SmP s t) (side:Nat):(Te l s side).Perm (Te l t side):=(fJ h side).map _
def eL {l:List Nat} (h:SmP s t) (side:Nat):Oo l s side=Oo l t side:=by
 unfold Oo;rw[(Ye h side).all_eq,(fJ h side).all_eq]
def bX {t t':List Int} {l l':List (Int×Int)} (ht:t.Perm t') (hl:l.Perm l'):Mz t l=Mz t' l':=by
 unfold Mz;rw[hl.any_eq]
 congr 1
 funext x
 rw[ht.any_eq,hl.any_eq]
def oE {l m:List Nat} (h:SmP s t):Qa (Im l s 0) (Im m s 1)=Qa (Im l t 0) (Im m t 1):=by
 have e:∀u:Sm,(Im l u 0).zip (Im m u 1)=u.ps.map λp=>(Kh l (mJ 0 p),Kh m (mJ 1 p)):=λu=>by
  unfold Im;rw[List.zip_map']
 have hp:((Im l s 0).zip (Im m s 1)).Perm ((Im l t 0).zip (Im m t 1)):=by rw[e,e];exact h.ps.map _
 unfold Qa;rw[hp.any_eq]
 congr 1
 funext x
 rw[hp.any_eq]
def oG (l:List Stk) (s t:Sm) (h:SmP s t):Kd l s=Kd l t:=by
 unfold Kd;rw[h.a,h.b,eL h,eL h,h.ls.any_eq,bX (Ye h 0) (fK h 0),bX (Ye h 1) (fK h 1),oE h]
def xW {f:Nat×Nat×Nat->Bool} (s t:Sm) (h:SmP s t):s.ls.any f=t.ls.any f:=h.ls.any_eq
def jF (k:Cl×Cl) (l:List Sm):Sm:=(l.find? λs=>decide (k=(s.a,s.b))).getD (Sm.none k.1 k.2)
def Zc {l:List Sm} (hn:(l.map λs=>(s.a,s.b)).Nodup) (h:s∈l):jF (s.a,s.b) l=s:=by
 induction l with
 |nil=>simp at h
 |cons t r ih=>
  unfold jF at ih⊢;rw[Es,Ei]at hn;rcases Bk.1 h with rfl|h
  ·simp
  ·have hne:¬(s.a,s.b)=(t.a,t.b):=λe=>hn.1 (by rw[<-e];exact Dr.2 ⟨s,h,rfl⟩);rw[List.find?_cons];simp only[hne,decide_false];exact ih hn.2 h
def Ah2 {l:List Sm} (hn:(l.map λs=>(s.a,s.b)).Nodup):((l.map λs=>(s.a,s.b)).map λk=>jF k l)=l:=by
 rw[Ft]
 conv=>rhs;rw[<-List.map_id l]
 exact List.map_congr_left λs hs=>Zc hn hs
def Oh (w:Aj) (O:Nat) (t:Sm) (A1 A2 A3:Option Cj):Prop:=
 (AOk A1 t.ps.length t.ps.length/\Jk w O 377 2 A1 t.ps.length (Pw t.ps))/\(AOk A2 t.ls.length t.ls.length/\Jk w O 266 3 A2 t.ls.length (Nl t.ls))/\AOk A3 t.es.length t.es.length/\Jk w O 3 1 A3 t.es.length (Ih t.es)
def Sm.val (t:Sm) (A1 A2 A3:Option Cj):Ak:= .agg (t.cells (Ad A1 t.ps.length t.ps.length) (Ad A2 t.ls.length t.ls.length) (Ad A3 t.es.length t.es.length))
def Ap0 (O B:Nat) (F:List Nat) (fix:List Ak) (l1 l2:List SmB) (x:SmB) (w:Aj) (e:Ending) (w':Aj):Prop:=
 ∃(y:SmB) (A1 A2 A3:Option Cj),e= .returned (y.s.val A1 A2 A3)/\SmP x.s y.s/\y.p=x.p/\y.key=x.key/\Il O B F fix w' (l1++y::l2)/\Frm O F w w'/\Oh w' w.heap.size y.s A1 A2 A3/\y.blks=x.blks/\∀g,g<w.heap.size->g∉x.blks->w'.heap[g]? =w.heap[g]?
def Sv (h:Il O B F fix w (l1++x::l2)):w.heap[x.p]? =Af (.cells (x.s.cells x.vp x.vl x.ve) 263 (0,0)):=(h.sms.1 x Gy).2.1
def Il.more (h:Il O B F fix w l) (hb:Below w.heap.size w w') (h1:w.heap.size<=P) (h2:P<w'.heap.size):Il O B (P::F) fix w' l:=by
 obtain⟨M,kv,a1,a2,a3,a4,a5,a6,a7,a8,a9,sm⟩:=h;have ac:=aH a2 a3 a4 a5 a8 a9;have hB:Il O B F fix w l:=⟨M,kv,a1,a2,a3,a4,a5,a6,a7,a8,a9,sm⟩
 exact⟨M,kv,a1,kept hb a2 (Au.1 a2).1,a3.below hb a3.lt,a4.same λg hg=>hb.block g (a4.lt g hg).2,a5.same λg hg=>hb.block g (a5.lt g hg).2,a6,a7,a8,a9,λg hg=>by
  rcases Bk.1 hg with rfl|hg
  ·exact⟨h2,λh=>by have:=(ac g h).2;omega⟩
  ·exact⟨Br (sm g hg).1 hb.size,(sm g hg).2⟩⟩
def Il.poke (h:Il O B (P::F) fix w l) (hs:∀g,g<w.heap.size->g≠P->w'.heap[g]? =w.heap[g]?) (hz:w.heap.size<=w'.heap.size):Il O B F fix w' l:=by
 obtain⟨M,kv,a1,a2,a3,a4,a5,a6,a7,a8,a9,sm⟩:=h;have ac:=aH a2 a3 a4 a5 a8 a9;have hP:=(sm P Gy).2;have hk:∀g∈Hq B M kv l,w'.heap[g]? =w.heap[g]? :=λg hg=>hs g (ac g hg).2 λe=>hP (e▸hg);refine⟨M,kv,a1,(hk B (by simp[Hq])).trans a2,a3.same (hk M (by simp[Hq])),a4.same λg hg=>hk g (by simp[Hq,hg]),a5.same λg hg=>hk g ?_,a6,a7,a8,a9,λg hg=>⟨Br (sm g (by simp[hg])).1 hz,(sm g (by simp[hg])).2⟩⟩;unfold Hq;simp only[Bk,Bl];exact .inr (.inr (.inr hg))
def Yh.more (h:Yh O F w k N v):Yh O (P::F) w k N v:=λw' hf=>h w' ⟨hf.1,λg hg=>hf.2 g (Ey _ hg)⟩
def xJ (O B zn:Nat) (F:List Nat) (k:Lk) (v:LkV) (l1 l2:List SmB) (x:SmB) (w:Aj) (hk:sO k zn) (hm:Yh O F w k zn v) (h:Il O B F (v.fix k zn) w (l1++x::l2)) (h0:0<zn) (mw:∀p∈x.s.ps,p.1<zn) (jd:∀p∈x.s.ls,p.2.1<zn)
  (hx:x.s.ps.length<=1000000/\x.s.ls.length<=1000000/\x.s.es.length<=1000000):
  Al Dp 206 #[.pointer (Af ⟨B,0,Ae⟩),x.ptr] w (Ap0 O B F (v.fix k zn) l1 l2 x w):=by
 have HM:=Ah hm;have HB:=Ah h;have HH:=Ah (show 0<k.hs.length by rw[hk.hs];exact h0);have EB:=Ah (show∀p∈x.s.ps,p.1<k.hs.length by rw[hk.hs];exact mw);have xb:=Ah (show∀p∈x.s.ls,p.2.1<k.hs.length by rw[hk.hs];exact jd);have HX:=Ah hx;have HNS:=Ah hk.hs;have H:=((Bx.start w).new #[.pointer (Af ⟨B,0,Ae⟩)] 321 rfl).new #[Aa Ab 0,Aa Ab 0,Aa Ac 0,Aa Ab 0,Aa Ab 0,Aa Ac 0,Ad Ae 0 0,Ad Ae 0 0,Ad Ae 0 0] 263 (N:=w.heap.size+1) Gy;unfold SmB.ptr;clear hm h hk h0 mw jd hx;go_in;go_upto_region 1 with fail;obtain⟨N,ct⟩:=Tw w.heap.size;rw[<-ct.out]at H⊢;obtain⟨P,hP⟩:=ey (N+1);rw[hP]at H⊢;generalize (w.alloc _).alloc _=W0 at H⊢;have hNx:∀g∈x.blks,g<w.heap.size:=λg hg=>((HB.out.sms.1 x Gy).lt g hg).2;have hNw:=H.lo 0 _ _ _ rfl;have B_:=H.lo 1 _ _ _ rfl;have JA:=Ah ((HM.out.frm (HB.out.frm H.below)).more (P:=P))
 have HG:Hid (∀(W1 W':Aj) (y:SmB) (o:Option Nat),Il O B (P::F) (v.fix k zn) W1 (l1++y::l2)->y.blks=x.blks->Frm O (P::F) W0 W1->(W1.heap[N]? =Af (.cells #[.pointer (Af ⟨B,0,Ae⟩)] 321 (0,0))/\W1.heap[P]? =Af (.cells #[Aa Ab 0,Aa Ab 0,Aa Ac 0,Aa Ab 0,Aa Ab 0,Aa Ac 0,Ad Ae 0 0,Ad Ae 0 0,Ad Ae 0 0] 263 (0,0)))->
   (∀g,o=Af g->g∈x.blks)->W1.grownBy W' o->sM N B k.hs W'/\(W'.heap[N]? =Af (.cells #[.pointer (Af ⟨B,0,Ae⟩)] 321 (0,0))/\W'.heap[P]? =Af (.cells #[Aa Ab 0,Aa Ab 0,Aa Ac 0,Aa Ab 0,Aa Ab 0,Aa Ac 0,Ad Ae 0 0,Ad Ae 0 0,Ad Ae 0 0] 263 (0,0)))):=Ah (by
  intro W1 W' y o hB ym hF hh ho hg;obtain⟨hf,hbB⟩:=Bg8 hB (o:=o) (λg e=>by rw[ym];exact ho g e) hg
  have hoN:∀q,w.heap.size<=q->Af q≠o:=λq hq e=>by
   have:=hNx q (ho q e.symm);omega
  have h1:=(hg.block N (Au.1 hh.1).1 (hoN N hNw)).trans hh.1;have h2:=(hg.block P (Au.1 hh.2).1 (hoN P B_)).trans hh.2;refine⟨⟨qJ h1,v.hA,v.hc,?_,?_⟩,h1,h2⟩
  ·obtain⟨-,-,-,-,-,f5⟩:=Pl hB;rw[HNS.out];unfold World.cell? at f5⊢;rw[hbB];exact f5
  ·rw[HNS.out];exact(JA.out W' (hF.trans hf)).2.2.2.2.1)
 have M_:=Ah (⟨H.b 0,H.b 1⟩:W0.heap[N]? =_/\W0.heap[P]? =_);have HFW:=Ah (HB.out.frm H.below);have E7:=Ah (Frm.refl O (P::F) W0);have GN:=Ah (HB.out.more H.below B_ (H.lt 1 rfl));have hW0:=H.below.size;have j6:Hid (∀g,g<w.heap.size->g∉x.blks->W0.heap[g]? =w.heap[g]?):=Ah λg hg _=>H.below.block g hg;have HWZ:=Ah hW0;obtain⟨A1,c1,lw,ok1,jy,pm⟩:=Mi (GN.out.sms.1 x Gy).2.2.1;obtain⟨A2,c2,vt,ok2,qo,OC⟩:=Mi (GN.out.sms.1 x Gy).2.2.2.1;obtain⟨A3,c3,hv3,ok3,hc3,hm3⟩:=Mi (GN.out.sms.1 x Gy).2.2.2.2;have PW:=Ah lw;have PX:=Ah vt;have SZ:=Ah hv3;have PV:=Ah B_;clear hP hNw B_ H lw vt hv3;have bg:=Sv GN.out;have I_:W0.cell? ⟨x.p,6,Ae⟩=Af (Ad A1 x.s.ps.length c1):=by rw[Bz W0 x.p 6 _ _ (0,0) bg,<-PW.out];rfl
 have wq:=(GN.out.sms.1 x Gy).2.2.1;rw[PW.out]at wq;have zb:=Ah (xI N B k.hs HH.out x.s.ps EB.out W0 wq HX.out.1 (λW' hg=>(HG.out W0 W' x _ GN.out rfl E7.out M_.out (λg hg=>by rw[<-PW.out]at hg;unfold SmB.blks;simp[hg]) hg).1));obtain⟨n1,fk⟩:=ey x.s.ps.length;have YN:n1<=1000000:=by rw[<-fk];exact HX.out.1
 rw[fk]at I_ zb PW ok1 jy;clear bg wq;go_wp2_with fail;refine zb.out.mono ?_;rintro ee w1 ⟨rfl,r1,qs,wq,nj⟩;have ig:r1.length=n1:=qs.length_eq.trans fk;obtain⟨jf,MT⟩:=Cb0 GN.out (r:=r1) (by rw[PW.out,ig];exact wq) (by rw[PW.out];exact nj);have NU:=Ah (HG.out W0 w1 x _ GN.out rfl E7.out M_.out (λg hg=>by rw[<-PW.out]at hg;unfold SmB.blks;simp[hg]) nj).2;have MT:=Ah (E7.out.trans MT);have pi:Hid (∀g,g<w.heap.size->g∉x.blks->w1.heap[g]? =w.heap[g]?):=Ah λg hg hx=>(nj.block g (Br hg HWZ.out) (λe=>hx (by rw[<-PW.out]at e;unfold SmB.blks;simp[<-e]))).trans (j6.out g hg hx);have jf:=Ah jf;have GI:=Ah qs;have SG:=Ah ig;clear I_ zb wq nj qs ig fk GN E7 M_ EB;have bg:=Sv jf.out;have QN:w1.cell? ⟨x.p,7,Ae⟩=Af (Ad A2 x.s.ls.length c2):=by rw[Bz w1 x.p 7 _ _ (0,0) bg,<-PX.out];rfl
 have wq:=(jf.out.sms.1 (⟨{x.s with ps:=r1},x.p,x.vp,x.vl,x.ve⟩:SmB) Gy).2.2.2.1;dsimp only at wq;rw[PX.out]at wq;have zb:=Ah (xF N B k.hs HH.out x.s.ls xb.out w1 wq HX.out.2.1 (λW' hg=>(HG.out w1 W' _ _ jf.out rfl MT.out NU.out (λg hg=>by rw[<-PX.out]at hg;unfold SmB.blks;simp[hg]) hg).1));obtain⟨n2,nt⟩:=ey x.s.ls.length;have uu:n2<=1000000:=by rw[<-nt];exact HX.out.2.1
 rw[nt]at QN zb PX ok2 qo;clear bg wq;go_wp2_with fail;refine zb.out.mono ?_;rintro ee w2 ⟨rfl,r2,lv,wq,nj⟩;have mo:r2.length=n2:=lv.length_eq.trans nt;obtain⟨dm,CX⟩:=Ca9 jf.out (r:=r2) (by dsimp only;rw[PX.out,mo];exact wq) (by dsimp only;rw[PX.out];exact nj);have hh2:=Ah (HG.out w1 w2 _ _ jf.out rfl MT.out NU.out (λg hg=>by rw[<-PX.out]at hg;unfold SmB.blks;simp[hg]) nj).2;have CX:=Ah (MT.out.trans CX);have jm:Hid (∀g,g<w.heap.size->g∉x.blks->w2.heap[g]? =w.heap[g]?):=Ah λg hg hx=>(nj.block g (by have:=MT.out.1.size;have:=HWZ.out;omega) (λe=>hx (by rw[<-PX.out]at e;unfold SmB.blks;simp[<-e]))).trans (pi.out g hg hx);have dm:=Ah dm;have AN:=Ah lv;have MA:=Ah mo;clear QN zb wq nj lv mo nt jf MT NU xb;dsimp only at dm;have bg:=Sv dm.out;have NL:w2.cell? ⟨x.p,8,Ae⟩=Af (Ad A3 x.s.es.length c3):=by rw[Bz w2 x.p 8 _ _ (0,0) bg,<-SZ.out];rfl
 have wq:=(dm.out.sms.1 (⟨{x.s with ps:=r1,ls:=r2},x.p,x.vp,x.vl,x.ve⟩:SmB) Gy).2.2.2.2;dsimp only at wq;rw[SZ.out]at wq;have zb:=Ah (Al5 x.s.es w2 wq HX.out.2.2);obtain⟨n3,hn3⟩:=ey x.s.es.length;have hq3:n3<=1000000:=by rw[<-hn3];exact HX.out.2.2
 rw[hn3]at NL zb SZ ok3 hc3;clear bg wq;go_wp2_with fail;refine zb.out.mono ?_;rintro ee w3 ⟨rfl,r3,II,wq,nj⟩;have DH:r3.length=n3:=II.length_eq.trans hn3;obtain⟨MS,E9⟩:=Ca8 dm.out (r:=r3) (by dsimp only;rw[SZ.out,DH];exact wq) (by dsimp only;rw[SZ.out];exact nj);have hh3:=Ah (HG.out w2 w3 _ _ dm.out rfl CX.out hh2.out (λg hg=>by rw[<-SZ.out]at hg;unfold SmB.blks;simp[hg]) nj).2;have E9:=Ah (CX.out.trans E9);have WH:Hid (∀g,g<w.heap.size->g∉x.blks->w3.heap[g]? =w.heap[g]?):=Ah λg hg hx=>(nj.block g (by have:=CX.out.1.size;have:=HWZ.out;omega) (λe=>hx (by rw[<-SZ.out]at e;unfold SmB.blks;simp[<-e]))).trans (jm.out g hg hx);have MS:=Ah MS;dsimp only at MS;have HP3:=Ah II;have HL3:=Ah DH;clear NL zb wq nj II DH hn3 dm CX hh2 HG HH HNS HM JA HX;have bg:=Sv MS.out;have OL:=MS.out.sms.1 (⟨{x.s with ps:=r1,ls:=r2,es:=r3},x.p,x.vp,x.vl,x.ve⟩:SmB) Gy;obtain⟨-,-,o1,o2,o3⟩:=OL;dsimp only at o1 o2 o3;rw[PW.out,SG.out]at o1;rw[PX.out,MA.out]at o2;rw[SZ.out,HL3.out]at o3;have HRD1:Hid (∀W',Below w3.heap.size w3 W'->Rd W' A1 2 n1 (Pw r1)):=Ah λW' h=>(Rd.of_own o1).below h;have HRD2:Hid (∀W',Below w3.heap.size w3 W'->Rd W' A2 3 n2 (Nl r2)):=Ah λW' h=>(Rd.of_own o2).below h;have HRD3:Hid (∀W',Below w3.heap.size w3 W'->Rd W' A3 1 n3 (Ih r3)):=Ah λW' h=>(Rd.of_own o3).below h
 have HON1:Hid (∀u∈Pw r1,u.oneCell'=true):=Ah (by
  intro u hu;obtain⟨p,-,hp⟩:=Ec.1 hu;simp[Xg]at hp;rcases hp with rfl|rfl<;>rfl)
 have HON2:Hid (∀u∈Nl r2,u.oneCell'=true):=Ah (by
  intro u hu;obtain⟨p,-,hp⟩:=Ec.1 hu;simp[Xd]at hp;rcases hp with rfl|rfl|rfl<;>rfl)
 have HON3:Hid (∀u∈Ih r3,u.oneCell'=true):=Ah (Yv r3);have gv:=λj=>Bz w3 x.p j _ _ (0,0) bg;obtain⟨⟨s0,s1,s2⟩,uf⟩:=ey x.s.a;obtain⟨⟨t0,t1,t2⟩,qu⟩:=ey x.s.b
 obtain⟨S,an⟩:∃S:Aj->Prop,S=λW'=>(W'.cell? ⟨x.p,0,Ae⟩=Af (Aa Ab s0)/\W'.cell? ⟨x.p,1,Ae⟩=Af (Aa Ab s1)/\W'.cell? ⟨x.p,2,Ae⟩=Af (Aa Ac s2))/\(W'.cell? ⟨x.p,3,Ae⟩=Af (Aa Ab t0)/\W'.cell? ⟨x.p,4,Ae⟩=Af (Aa Ab t1)/\W'.cell? ⟨x.p,5,Ae⟩=Af (Aa Ac t2))/\
  W'.cell? ⟨x.p,6,Ae⟩=Af (Ad A1 n1 c1)/\W'.cell? ⟨x.p,7,Ae⟩=Af (Ad A2 n2 c2)/\W'.cell? ⟨x.p,8,Ae⟩=Af (Ad A3 n3 c3):=⟨_,rfl⟩
 have HSO:Hid (∀W',S W'->(W'.cell? ⟨x.p,0,Ae⟩=Af (Aa Ab s0)/\W'.cell? ⟨x.p,1,Ae⟩=Af (Aa Ab s1)/\W'.cell? ⟨x.p,2,Ae⟩=Af (Aa Ac s2))/\(W'.cell? ⟨x.p,3,Ae⟩=Af (Aa Ab t0)/\W'.cell? ⟨x.p,4,Ae⟩=Af (Aa Ab t1)/\W'.cell? ⟨x.p,5,Ae⟩=Af (Aa Ac t2))/\
  W'.cell? ⟨x.p,6,Ae⟩=Af (Ad A1 n1 c1)/\W'.cell? ⟨x.p,7,Ae⟩=Af (Ad A2 n2 c2)/\W'.cell? ⟨x.p,8,Ae⟩=Af (Ad A3 n3 c3)):=Ah λW' h=>by subst an;exact h
 have ag:Hid (∀W',Below w3.heap.size w3 W'->S W'):=Ah λW' h=>by
  subst an;refine⟨⟨Gw h ?_,Gw h ?_,Gw h ?_⟩,⟨Gw h ?_,Gw h ?_,Gw h ?_⟩,Gw h ?_,Gw h ?_,Gw h ?_⟩
  ·rw[gv 0];simp[Sm.cells,uf]
  ·rw[gv 1];simp[Sm.cells,uf]
  ·rw[gv 2];simp[Sm.cells,uf]
  ·rw[gv 3];simp[Sm.cells,qu]
  ·rw[gv 4];simp[Sm.cells,qu]
  ·rw[gv 5];simp[Sm.cells,qu]
  ·rw[gv 6];simp[Sm.cells,PW.out]
  ·rw[gv 7];simp[Sm.cells,PX.out]
  ·rw[gv 8];simp[Sm.cells,SZ.out]
 have HSA1:=Ah uf;have HSB1:=Ah qu;clear bg gv uf qu o1 o2 o3;go_upto_region 4 with fail;refine Ao (S:=S) Gx (ag.out _ (Ag _ _).drew) (λhS=>?_);have hb:Below w3.heap.size w3 w3.drew:=(Ag _ _).drew;generalize w3.drew=X0 at hb hS⊢;refine Hk 0 1 2 3 ?_;refine Hk 4 5 6 7 ?_;refine Hk 8 9 10 11 ?_;refine Hk 14 15 16 17 ?_;refine Hk 20 21 22 23 ?_;refine rdy 12 (λK hK=>?_);go_simp;refine(Ad6 A1 n1 c1 (Pw r1) _ ok1 (HRD1.out _ hb) (HON1.out) YN).mono ?_;rintro ee Y ⟨vv,rfl,aa,ad⟩;obtain⟨a1,k1,rfl,BY,hle1,hmx1⟩:=Mi aa;have bt:=Jk.of_own aa;have gg:=hb.size;have bt:=bt.base gg;have hb:=Up hb ad;refine hK.o (ag.out _ hb) (λhS=>?_);clear hK K ad aa gg;refine rdy 13 (λK hK=>?_);go_simp;refine(Ar6 _ _ _ _ hle1 hmx1).mono ?_;rintro ee Z ⟨rfl,ad⟩;have bt:=bt.below ad;have BY:=BY.clip;have hb:=Up hb ad;refine hK.o (ag.out _ hb) (λhS=>?_);clear hK K ad;generalize Z=X1 at hb hS bt⊢;refine rdy 18 (λK hK=>?_);go_simp;refine(Ad5 A2 n2 c2 (Nl r2) _ ok2 (HRD2.out _ hb) (HON2.out) uu).mono ?_;rintro ee Y ⟨vv,rfl,aa,ad⟩;obtain⟨a2,k2,rfl,KD,AA,hmx2⟩:=Mi aa;have je:=Jk.of_own aa;have gg:=hb.size;have je:=je.base gg;have hb:=Up hb ad;have bt:=bt.below ad;refine hK.o (ag.out _ hb) (λhS=>?_);clear hK K ad aa gg;refine rdy 19 (λK hK=>?_);go_simp;refine(Ar5 _ _ _ _ AA hmx2).mono ?_;rintro ee Z ⟨rfl,ad⟩;have bt:=bt.below ad;have je:=je.below ad;have KD:=KD.clip;have hb:=Up hb ad;refine hK.o (ag.out _ hb) (λhS=>?_);clear hK K ad;generalize Z=X2 at hb hS bt je⊢;refine rdy 24 (λK hK=>?_);go_simp;refine(Va A3 n3 c3 (Ih r3) _ ok3 (HRD3.out _ hb) (HON3.out) hq3).mono ?_;rintro ee Y ⟨vv,rfl,aa,ad⟩;obtain⟨a3,k3,rfl,OL,hle3,hmx3⟩:=Mi aa;have vr:=Jk.of_own aa
 have gg:=hb.size;have vr:=vr.base gg;have hb:=Up hb ad;have bt:=bt.below ad;have je:=je.below ad;refine hK.o (ag.out _ hb) (λhS=>?_);clear hK K ad aa gg;refine rdy 25 (λK hK=>?_);go_simp;refine(Yn _ _ _ _ hle3 hmx3).mono ?_;rintro ee Z ⟨rfl,ad⟩;have bt:=bt.below ad;have je:=je.below ad;have vr:=vr.below ad;have OL:=OL.clip;have hb:=Up hb ad;refine hK.o (ag.out _ hb) (λhS=>?_);clear hK K ad;generalize Z=X3 at hb hS bt je vr⊢;refine Ke 26 ?_;have hP3:=kept hb hh3.out.2 (Au.1 hh3.out.2).1;have HP9:=Ah hP3;have QO:=λj=>Bz X3 P j _ _ (0,0) hP3;have c0:=QO 0;have c1':=QO 1;have l_:=QO 2;have c3':=QO 3;have c4:=QO 4;have c5:=QO 5;have c6:=QO 6;have c7:=QO 7;have c8:=QO 8;have hz:∀j,X3.frozen? ⟨P,j,Ae⟩=false:=λj=>by simp[Ea,hP3]
 have z0:=hz 0;have z1:=hz 1;have z2:=hz 2;have z3:=hz 3;have z4:=hz 4;have z5:=hz 5;have z6:=hz 6;have z7:=hz 7;have z8:=hz 8;simp only[Fv,List.getElem?_cons_zero,List.getElem?_cons_succ]at c0 c1' l_ c3' c4 c5 c6 c7 c8;clear QO hz hP3
 have hne:x.p≠P:=λe=>by
  have:=MS.out;obtain⟨M,kv,a1,a2,a3,a4,a5,a6,a7,a8,a9,sm⟩:=this;refine(sm P Gy).2 ?_;unfold Hq;simp only[Bk,Bl,Bi,Bf];exact .inr (.inr (.inr (.inr (.inl (by unfold SmB.blks;simp[e])))))
 have qc:Hid (∀W',W'.heap[x.p]? =X3.heap[x.p]? ->S W'):=Ah λW' h=>by
  obtain⟨⟨b0,b1,b2⟩,⟨b3,b4,b5⟩,b6,b7,b8⟩:=HSO.out _ hS
  have hc:∀j u,X3.cell? ⟨x.p,j,Ae⟩=Af u->W'.cell? ⟨x.p,j,Ae⟩=Af u:=λj u hu=>by
   unfold World.cell? at hu⊢;rw[h];exact hu
  rw[an];exact⟨⟨hc _ _ b0,hc _ _ b1,hc _ _ b2⟩,⟨hc _ _ b3,hc _ _ b4,hc _ _ b5⟩,hc _ _ b6,hc _ _ b7,hc _ _ b8⟩
 have jk:∀g,g<X3.heap.size->g≠P->(X3.setCells P 0 [Aa Ab s0,Aa Ab s1,Aa Ac s2,Aa Ab t0,Aa Ab t1,Aa Ac t2,Ad a1 n1 n1,Ad a2 n2 n2,Ad a3 n3 n3]).heap[g]? =X3.heap[g]? :=λg hg hgP=>World.heap_setCells_other X3 P 0 _ hg hgP
 have hxX:x.p<X3.heap.size:=by
  have h9:x.p<w3.heap.size:=(Au.1 (Sv MS.out)).1;have:=hb.size;omega
 have EP:=qc.out _ (jk x.p hxX hne);have fj:=Zp HP9.out [Aa Ab s0,Aa Ab s1,Aa Ac s2,Aa Ab t0,Aa Ab t1,Aa Ac t2,Ad a1 n1 n1,Ad a2 n2 n2,Ad a3 n3 n3] rfl;have VG:X3.heap.size<=(X3.setCells P 0 [Aa Ab s0,Aa Ab s1,Aa Ac s2,Aa Ab t0,Aa Ab t1,Aa Ac t2,Ad a1 n1 n1,Ad a2 n2 n2,Ad a3 n3 n3]).heap.size:=by simp[World.setCells]
 refine rdy 27 (λK hK=>?_);go_simp;refine hK.o EP (λhS=>?_);clear hK K c0 c1' l_ c3' c4 c5 c6 c7 c8 z0 z1 z2 z3 z4 z5 z6 z7 z8;have LH:=MS.out.below hb;have hFX:=E9.out.trans (MS.out.frm hb);have JW:=bt.lt;have fw:=je.lt;have OB:=vr.lt;have hP3l:=(Au.1 hh3.out.2).1;have hw03:=hFX.1.size;have hbX:=hb.size;have hF03:=E9.out.1.size;obtain⟨W9,TT⟩:=ey (X3.setCells P 0 [Aa Ab s0,Aa Ab s1,Aa Ac s2,Aa Ab t0,Aa Ab t1,Aa Ac t2,Ad a1 n1 n1,Ad a2 n2 n2,Ad a3 n3 n3]);rw[TT]at jk fj VG;have xf:=LH.poke (w':=W9) jk VG;have ws:=bt.same (w':=W9) λg hg=>jk g (JW g hg).2.1 (oHx ((JW g hg).1));have gp:=je.same (w':=W9) λg hg=>jk g (fw g hg).2.1 (oHx ((fw g hg).1));have IN:=vr.same (w':=W9) λg hg=>jk g (OB g hg).2.1 (oHx ((OB g hg).1));have hFW:=HFW.out;have B_:=PV.out
 have hrg:W9.rangeAt P 0 [Aa Ab s0,Aa Ab s1,Aa Ac s2,Aa Ab t0,Aa Ab t1,Aa Ac t2,Ad a1 n1 n1,Ad a2 n2 n2,Ad a3 n3 n3]:=λj u hj=>by
  rw[Bu,Bz W9 P j _ _ (0,0) fj];simpa using hj
 have ml:(⟨x.s.a,x.s.b,r1,r2,r3⟩:Sm).val a1 a2 a3= .agg #[s0,s1,Aa Ac s2,t0,t1,Aa Ac t2,Ad a1 n1 n1,Ad a2 n2 n2,Ad a3 n3 n3]:=by
  unfold Sm.val Sm.cells;simp only[HSA1.out,HSB1.out,SG.out,MA.out,HL3.out]
 have HW0:=hw03
 have od:Oh W9 w.heap.size ⟨x.s.a,x.s.b,r1,r2,r3⟩ a1 a2 a3:=by
  unfold Oh;dsimp only;rw[SG.out,MA.out,HL3.out];exact⟨⟨BY,ws.base Gv⟩,⟨KD,gp.base Gv⟩,OL,IN.base Gv⟩
 have NG:Below O W0 W9:=by
  have hPO:O<=P:=by
   obtain⟨M,kv,a1,a2,a3,a4,a5,a6,a7,a8,a9,sm⟩:=HB.out;have:=(Au.1 a2).1;omega
  rw[<-TT];exact Oj hFX.1 hPO _ 0
 have hFrm:Frm O F w W9:=hFW.trans ⟨NG,λg hg=>by
  have NR:=hFX.2 g (Ey _ hg)
  have zq:g<w.heap.size:=by
   obtain⟨M,kv,a1,a2,a3,a4,a5,a6,a7,a8,a9,sm⟩:=HB.out;exact(sm g hg).1
  exact(jk g Gv Gv).trans NR⟩
 have hOnly:∀g,g<w.heap.size->g∉x.blks->W9.heap[g]? =w.heap[g]? :=λg hg hx=>(jk g Gv Gv).trans ((hb.block g Gv).trans (WH.out g hg hx));simp only[World.setCells,Bu,Nat.reduceAdd]at TT;refine An Gx ?_ _;rw[TT]
 have aw:Hid (Ap0 O B F (v.fix k zn) l1 l2 x w (.returned (.agg #[s0,s1,Aa Ac s2,t0,t1,Aa Ac t2,Ad a1 n1 n1,Ad a2 n2 n2,Ad a3 n3 n3])) W9):=Ah
  ⟨⟨{x.s with ps:=r1,ls:=r2,es:=r3},x.p,x.vp,x.vl,x.ve⟩,a1,a2,a3,by rw[<-ml],⟨rfl,rfl,GI.out.symm,AN.out.symm,HP3.out.symm⟩,rfl,rfl,xf,hFrm,od,rfl,hOnly⟩
 have HRG:=Ah hrg;clear od hFrm NG ml hrg xf ws gp IN LH hFX hFW TT fj jk hS;go_wp2_with fail;exact bodyPost_ret (Lv rfl rfl HRG.out Tryz.underlying263 rfl Gx) rfl aw.out
def eO (n:Nat) (p:List (Nat×Nat)):(Yt n p).length=n:=by
 have:∀(p:List (Nat×Nat)) (h:List Nat),(p.foldl (λh q=>h.set q.1 q.2) h).length=h.length:=by
  intro p
  induction p with
  |nil=>intro h;rfl
  |cons q p ih=>intro h;rw[List.foldl_cons,ih,List.length_set]
 unfold Yt;rw[this,Fg]
def Ae8 (n:Nat) (p:List (Nat×Nat)) (q:Nat×Nat):Yt n (p++[q])=(Yt n p).set q.1 q.2:=by
 unfold Yt;rw[List.foldl_append];rfl
def hTo (l:List Stk) (i j:Nat):List (Nat×Nat):=Qb (l.take i)++(match l[i]? with|some x=>x.ls.zipIdx.take j|none=>[])
def eP (l:List Stk) (i:Nat):hTo l i 0=Qb (l.take i):=by
 unfold hTo
 cases l[i]? <;>simp
def At9 (l:List Stk) (i j:Nat) (hi:i<l.length) (hj:j<l[i].ls.length):hTo l i (j+1)=hTo l i j++[(l[i].ls[j],j)]:=by
 unfold hTo;rw[Aw hi];dsimp only;rw[Bc (by simpa using hj),<-List.append_assoc];simp
def At8 (l:List Stk) (i:Nat) (hi:i<l.length):hTo l i l[i].ls.length=hTo l (i+1) 0:=by
 rw[eP];unfold hTo;rw[Aw hi];dsimp only;have e:l[i].ls.zipIdx.take l[i].ls.length=l[i].ls.zipIdx:=Bg Gy;rw[e,Bc hi];unfold Qb;rw[Bi,Bf,List.flatMap_nil,Ff]
def Bj4 (l:List Stk):hTo l l.length 0=Qb l:=by
 rw[eP,List.take_length]
structure aC (N j:Nat) (s:Sm):Prop where
 qa:s.a.q<=255
 qb:s.b.q<=255
 ps:∀p∈s.ps,p.1<N/\p.2<N
 ls:∀p∈s.ls,p.1<=1/\p.2.1<N/\p.2.2<N
 lp:s.ps.length<=j
 ll:s.ls.length<=j
 le:s.es.length<=j
def aC.next (h:aC N j s):aC N (j+1) s:=⟨h.qa,h.qb,h.ps,h.ls,Gb h.lp,Gb h.ll,Gb h.le⟩
def Bu7 {N j id e:Nat} (hk:sO k N) (hid:id<N) (h:aC N j s):aC N (j+1) (k.add id e s):=by
 have hn:(nbI k.a k.b id e).2=0->(nbI k.a k.b id e).1.toNat<N:=λh0=>by
  have:=fR hk.pat.sheet h0;have hn:=hk.n;unfold Hh at hn;omega
 unfold Lk.add
 split
 ·exact⟨h.qa,h.qb,h.ps,h.ls,Gb h.lp,Gb h.ll,by simp;exact h.le⟩
 ·rename_i h0;have h0:=Classical.not_not.1 h0;have hn:=hn h0
  split
  ·exact h.next
  ·dsimp only
   split
   ·refine⟨h.qa,h.qb,λp hp=>?_,h.ls,by simp;exact h.lp,Gb h.ll,Gb h.le⟩;rcases Bl.1 hp with hp|hp
    ·exact h.ps p hp
    ·obtain rfl:=Gf.1 hp;by_cases hb:k.img id=s.b
     ·simp only[hb,if_true];rw[Ha He];exact⟨hn,hid⟩
     ·simp only[hb,if_false,if_true];exact⟨hid,hn⟩
   ·refine⟨h.qa,h.qb,h.ps,λp hp=>?_,Gb h.lp,by simp;exact h.ll,Gb h.le⟩;rcases Bl.1 hp with hp|hp
    ·exact h.ls p hp
    ·obtain rfl:=Gf.1 hp
     split
     ·exact⟨by dsimp only;split<;>omega,hid,hn⟩
     ·exact⟨by dsimp only;split<;>omega,hn,hid⟩
def sE {P Q:Sm->Prop} {a b:Cl} {f:Sm->Sm} (hf:∀s,P s->Q (f s)) (hQ:∀s,P s->Q s) (h0:P (Sm.none a b)):∀{l:List Sm},(∀s∈l,P s)->(∀s∈Qr a b f l,Q s)/\(Qr a b f l).length<=l.length+1
 |[],_=>⟨λs hs=>by obtain rfl:=Gf.1 hs;exact hf _ h0,by simp[Qr]⟩
 |t::l,hl=>by
  unfold Qr
  split
  ·refine⟨λs hs=>?_,Gy⟩;rcases Bk.1 hs with rfl|hs
   ·exact hf _ (hl t Gy)
   ·exact hQ _ (hl s (by simp[hs]))
  ·obtain⟨h1,h2⟩:=sE hf hQ h0 (l:=l) λs hs=>hl s (by simp[hs]);refine⟨λs hs=>?_,by simp;exact h2⟩;rcases Bk.1 hs with rfl|hs
   ·exact hQ _ (hl s Gy)
   ·exact h1 s hs
def Br7 {N id:Nat} (hk:sO k N):(k.img id).q<=255:=by
 unfold Lk.img;rw[Dt];by_cases h:id<k.is.length
 ·rw[Aw h];have:=hk.cok _ (Ay h);unfold Cl.ok at this;have:=(Jq.1 this).2.2.2.2;show(k.is[id]).q<=255;omega
 ·rw[Ej Gv]
  decide
def zW (k:Lk) (id e:Nat):(k.other id e).q<=255:=by
 unfold Lk.other Pr
 split
 ·have:=zL (k.ms.getD id mv0) (Sf (Hf k.a id) e).1;omega
 ·decide
def Uj (hk:sO k N):∀j,j<=3*N->(∀s∈k.seamsTo j,aC N j s)/\(k.seamsTo j).length<=j
 |0,_=>⟨by simp[Lk.seamsTo],by simp[Lk.seamsTo]⟩
 |j+1,hj=>by
  obtain⟨h1,h2⟩:=Uj hk j Gv;have hid:j/3<N:=Gv
  have FG:(k.key (j/3) (j%3)).1.q<=255/\(k.key (j/3) (j%3)).2.q<=255:=by
   unfold Lk.key
   split
   ·exact⟨zW _ _ _,Br7 hk⟩
   ·exact⟨Br7 hk,zW _ _ _⟩
  have:=sE (a:=(k.key (j/3) (j%3)).1) (b:=(k.key (j/3) (j%3)).2) (λs hs=>Bu7 (e:=j%3) hk hid hs) (λs hs=>hs.next) ⟨FG.1,FG.2,by simp[Sm.none],by simp[Sm.none],by simp[Sm.none],by simp[Sm.none],by simp[Sm.none]⟩ h1;exact⟨this.1,Bt this.2 Gv⟩
def Zf (k:Nat) (hk:k<=1024) (W:Aj):(Instr.makeSlice 38 (Aa Ab k) (Aa Ab k)).run Dp W= .ok (Ad (Af ⟨W.heap.size,0,Ae⟩) k k) (W.alloc (.cells (Ih (Ba k 0)).toArray 3)):=by
 obtain⟨i,hi,hz,hs,hb⟩:=info_parts Nq;have h:=run_make (P:=Dp) W 38 3 i _ Dl hi hz .i64 .i64 k k Gv Gv (by rw[hb];omega) Gv;rw[h];simp only[Ev,hs,Nat.mul_one]
 have e:madeCells (Value.int .i64 0).cells k=(Ih (Ba k 0)).toArray:=by
  apply Array.ext';refine(toList_madeCells_one (Aa Ab 0) k).trans ?_;simp[Ih]
 rw[e]
def smC (x:Sm×(Option Cj×Option Cj×Option Cj)):List Ak:=(x.1.cells (Ad x.2.1 x.1.ps.length x.1.ps.length) (Ad x.2.2.1 x.1.ls.length x.1.ls.length) (Ad x.2.2.2 x.1.es.length x.1.es.length)).toList
def Qp (x:Sm×(Option Cj×Option Cj×Option Cj)):(smC x).length=9:=rfl
def Ll (w:Aj) (O:Nat) (A:Option Cj) (l:List Sm):Prop:=∃z:List (Sm×(Option Cj×Option Cj×Option Cj)),z.map (·.1)=l/\Jk w O 263 9 A z.length (z.flatMap smC)/\∀x∈z,Oh w O x.1 x.2.1 x.2.2.1 x.2.2.2
def Ao6 (er:Int) (ss:List Sm) (w:Aj) (e:Ending) (w':Aj):Prop:=
 Below w.heap.size w w'/\((er≠0/\e= .returned (.tuple #[Ad Ae 0 0,er]))∨(er=0/\∃A r,e= .returned (.tuple #[Ad A r.length r.length,Aa Ab 0])/\Ap1 ss r/\Ll w' w.heap.size A r))
def Bx.join {l:List (Nat×Array Ak×Ck)} {cs:Array Ak} {t:Ck} (h:Bx w l w1) (hb:Below w1.heap.size w1 w2) (jz:w1.heap.size<=g) (hg:w2.heap[g]? =Af (Co cs t (0,0))):Bx w (l++[(g,cs,t)]) w2:=by
 have h2:=h.call hb
 have hk:∀(i g':Nat) (ds:Array Ak) (u:Ck),(l++[(g,cs,t)])[i]? =Af (g',ds,u)->(i<l.length/\l[i]? =Af (g',ds,u))∨(i=l.length/\g'=g/\ds=cs/\u=t):=by
  intro i g' ds u hi;by_cases hl:i<l.length
  ·rw[Fk hl]at hi;exact .inl ⟨hl,hi⟩
  ·have uo:i<(l++[(g,cs,t)]).length:=(List.getElem?_eq_some_iff.1 hi).1;simp at uo;have:i=l.length:=Gv;subst this;rw[Eg (Am _),Fo]at hi;simp at hi;exact .inr ⟨rfl,hi.1.symm,hi.2.1.symm,hi.2.2.symm⟩
 refine⟨h2.below,?_,?_,?_⟩
 ·intro i g' ds u hi;rcases hk i g' ds u hi with⟨_,h1⟩|⟨_,rfl,rfl,rfl⟩
  ·exact h2.blk i g' ds u h1
  ·exact hg
 ·intro i g' ds u hi;rcases hk i g' ds u hi with⟨_,h1⟩|⟨_,rfl,rfl,rfl⟩
  ·exact h2.lo i g' ds u h1
  ·exact Bt h.below.size jz
 ·intro i j g' ds u es v hi hj;rcases hk i g' ds u hi with⟨_,h1⟩|⟨h1,rfl,_,_⟩
  ·rcases hk j g' es v hj with⟨_,h2⟩|⟨_,rfl,_,_⟩
   ·exact h.inj i j g' ds u es v h1 h2
   ·exact absurd (h.lt i h1) Gv
  ·rcases hk j _ es v hj with⟨_,h2⟩|⟨h2,_,_,_⟩
   ·exact absurd (h.lt j h2) Gv
   ·omega
def osL (a b:Int) (pA:Option Cj) (pn pc:Nat) (rt:Nat) (rx ry:Int) (N P Hb B G1 G2 M cnt:Nat) (ms:List Mv) (is:List Cl) (hh:List Nat):List (Nat×Array Ak×Ck):=
 [(N,#[a,b,Ad pA pn pc],28),(P,#[Aa Ac rt,rx,ry],30),(Hb,(Ih hh).toArray,3),
  (B,#[a,b,Ad pA pn pc,Ad (Af ⟨G1,0,Ae⟩) cnt cnt,Ad (Af ⟨G2,0,Ae⟩) cnt cnt,Ad (Af ⟨Hb,0,Ae⟩) cnt cnt,.map (Af M),Ad Ae 0 0],326),(G1,(Nm ms).toArray,30),(G2,(Nu is).toArray,90)]
def yZ (h:List Nat) (i v:Nat):(Ih h).toArray.setIfInBounds i (Aa Ab (v:Int))=(Ih (h.set i v)).toArray:=by
 simp[Ih,List.map_set]
def Ug {t:Ck} (h:w.heap[g]? =Af (Co xs.toArray t (0,0))) (hl:xs.length=n*sz):Rd w (Af ⟨g,0,Ae⟩) sz n xs:=by
 refine⟨hl,λ_=>⟨g,0,rfl,(Au.1 h).1,λj u hu=>?_⟩⟩;rw[Bu,Bz w g j _ t (0,0) h,Fv];exact hu
def osV (pA:Option Cj) (pn pc Hb G1 G2 cnt:Nat):LkV:=⟨pA,pn,pc,Af ⟨G1,0,Ae⟩,cnt,Af ⟨G2,0,Ae⟩,cnt,Af ⟨Hb,0,Ae⟩,cnt⟩
def Ay3 {pn pc rt N P Hb B G1 G2 M cnt:Nat} (hB:Bx w (osL a b pA pn pc rt rx ry N P Hb B G1 G2 M cnt ms is hh) wr) (hM:Kl pkK wr M []) (kx:w.heap.size<=M)
  (jc:ms.length=cnt) (bv:is.length=cnt) (UM:hh.length=cnt) (ju:∀w',Below w.heap.size w w'->pn=cr.length/\Rd w' pA 3 pn (crs cr)/\Qf w'/\Tn w'):
  Il w.heap.size B [G1,G2,Hb] ((osV pA pn pc Hb G1 G2 cnt).fix ⟨a,b,cr,ms,is,hh⟩ cnt) wr []/\Yh w.heap.size [G1,G2,Hb] wr ⟨a,b,cr,ms,is,hh⟩ cnt (osV pA pn pc Hb G1 G2 cnt):=by
 have r_:=hB.b 3;have EL:=hB.b 2;have hG1:=hB.b 4;have MU:=hB.b 5
 have TM:∀(g:Nat) (c:Array Ak) (t:Ck),wr.heap[g]? =Af (Co c t (0,0))->g≠M:=λg c t hg e=>by
  obtain⟨es,clock,hm,-⟩:=hM;rw[e,hm]at hg
  cases hg
 have n1:G1≠B:=λe=>by
  subst e;have:=hB.inj 3 4 _ _ _ _ _ rfl rfl;omega
 have n2:G2≠B:=λe=>by
  subst e;have:=hB.inj 3 5 _ _ _ _ _ rfl rfl;omega
 have n3:Hb≠B:=λe=>by
  subst e;have:=hB.inj 3 2 _ _ _ _ _ rfl rfl;omega
 refine⟨⟨M,Pi,rfl,r_,hM,⟨[],.refl _,rfl,.inl ⟨rfl,rfl⟩⟩,⟨Gy,Gy⟩,Gy,?_,hB.lo 3 _ _ _ rfl,kx,?_⟩,λw' hf=>?_⟩
 ·unfold Hq Pi;simp[Dx];exact TM B _ _ r_
 ·intro g hg;have hq:g=G1∨g=G2∨g=Hb:=by simpa using hg
  unfold Hq Pi;rcases hq with rfl|rfl|rfl
  ·exact⟨hB.lt 4 rfl,by simp[Dx];exact⟨n1,TM _ _ _ hG1⟩⟩
  ·exact⟨hB.lt 5 rfl,by simp[Dx];exact⟨n2,TM _ _ _ MU⟩⟩
  ·exact⟨hB.lt 2 rfl,by simp[Dx];exact⟨n3,TM _ _ _ EL⟩⟩
 ·obtain⟨q1,q2,q3,q4⟩:=ju w' (hB.below.trans hf.1);exact⟨q1,q2,Ug ((hf.2 G1 Gy).trans hG1) (by rw[Ve,jc]),Ug ((hf.2 G2 Gy).trans MU) (by rw[Om,bv]),Ug ((hf.2 Hb Gy).trans EL) (by simp[Ih,UM]),q3,q4⟩
def Ce0 (hc:Hh a b=cnt) (jc:ms.length=cnt) (bv:is.length=cnt) (UM:hh.length=cnt) (xt:∀m∈ms,m.ok=true) (jj:∀c∈is,c.ok=true) (hp:Lo a b cr):sO ⟨a,b,cr,ms,is,hh⟩ cnt:=
 ⟨hc.symm,jc,bv,UM,xt,jj,hp⟩
def Aq3 (h:Il O B F fix w l) (hq:∀x∈l,x.s.a.q<=255/\x.s.b.q<=255) (hl:l.length<=1000000):
  ∃A c,w.cell? ⟨B,7,Ae⟩=Af (Ad A l.length c)/\
   Al Dp 204 #[Ad A l.length c,.func (.func 205) #[] #[]] w (λe w'=>e= .returned (.tuple #[])/\Il O B F fix w' l/\Frm O F w w'):=by
 obtain⟨M,kv,a1,a2,a3,⟨ks,mh,a4⟩,a5,a6,a7,a8,a9,sm⟩:=h;have ac:=aH a2 a3 ⟨ks,mh,a4⟩ a5 a8 a9;have be:ks.length=l.length:=by rw[mh.length_eq,Bp]
 have a4':=a4;rw[be]at a4';obtain⟨A,c,hv,-,-⟩:=Hy a4';subst hv;obtain⟨-,m7,-,-,-⟩:=Mm a1 a2
 have zx:∀p∈ks,p.1.q<=255/\p.2.q<=255:=λp hp=>by
  obtain⟨x,hx,rfl⟩:=Dr.1 (mh.mem_iff.1 hp);exact hq x hx
 have U9:=mW ks zx;obtain⟨l',O5⟩:∃z:List PkE,(ks.attach.map λx=>(⟨x.1,zx x.1 x.2⟩:PkE))=z:=⟨_,rfl⟩;rw[O5]at U9;have e:∀z:List PkE,z.flatMap pkV=(z.map (·.1)).flatMap pkC:=λz=>gP pkC z;refine⟨A,c,m7,(xG l' w (by rw[e,U9];exact a4') hl).mono ?_⟩;rintro en w' ⟨rfl,r,hp,-,ho,hg⟩;have ca:=a7;unfold Hq at ca;simp only[Ei,Bq,Bk,Bl,Option.mem_toList,not_or]at ca;obtain⟨⟨b1,b2,b3⟩,⟨m1,m2⟩,k1,k2,k3⟩:=ca;have hrk:(r.map (·.1)).Perm ks:=U9▸hp.map _;have uw:(r.map (·.1)).length=l.length:=hrk.length_eq.trans be;have s_:=(Au.1 a2).1;refine⟨rfl,⟨M,_,a1,(hg.block B s_ (Ne.symm b2)).trans a2,a3.same (hg.block M a3.lt (Ne.symm m1)),⟨r.map (·.1),hrk.trans mh,?_⟩,a5.same λg wl=>hg.block g (a5.lt g wl).2 (λe=>k3 g e.symm g wl rfl),a6,a7,a8,a9,λg XW=>⟨Br (sm g XW).1 hg.size,(sm g XW).2⟩⟩,?_,?_⟩
 ·rw[uw,<-e];exact ho
 ·exact(Ag O w).grown hg Gv (λk hk=>(a4.lt k hk).1)
 ·intro g XW;refine hg.block g (sm g XW).1 λe=>(sm g XW).2 ?_;unfold Hq;simp only[Bk,Bl,Option.mem_toList];exact .inr (.inr (.inl e.symm))
abbrev SmZ:=Sm×(Option Cj×Option Cj×Option Cj)
def Vo:SmZ:=(Sm.none cl0 cl0,(Ae,Ae,Ae))
def Bx3:(Tryz.prog.info? 263).map (λi=>(i.zero,i.size,i.bytes))=Af (Af (.agg #[Aa Ab 0,Aa Ab 0,Aa Ac 0,Aa Ab 0,Aa Ab 0,Aa Ac 0,Ad Ae 0 0,Ad Ae 0 0,Ad Ae 0 0]),9,120):=Gx
def Bm1 (k:Nat):madeCells #[Aa Ab 0,Aa Ab 0,Aa Ac 0,Aa Ab 0,Aa Ab 0,Aa Ac 0,Ad Ae 0 0,Ad Ae 0 0,Ad Ae 0 0] (k*9)=((Ba k Vo).flatMap smC).toArray:=by
 have hlen:((Ba k Vo).flatMap smC).length=k*9:=by rw[Kq smC 9 Qp,Fg]
 apply Array.ext';apply List.ext_getElem?;intro j;by_cases hj:j<k*9
 ·obtain⟨i,f,hf,rfl⟩:∃i f,f<9/\j=i*9+f:=⟨j/9,j%9,Gv,Gv⟩;have hi:i<k:=Gv;have h1:((Ba k Vo).flatMap smC)[i*9+f]? =(smC ((Ba k Vo)[i]'(by simpa using hi)))[f]? :=It smC 9 Qp _ i f (by simpa using hi) hf;rw[h1];have h3:f=0∨f=1∨f=2∨f=3∨f=4∨f=5∨f=6∨f=7∨f=8:=Gv;have hm:(i*9+f)%9=f:=Gv;simp[madeCells,hj,hm];rcases h3 with rfl|rfl|rfl|rfl|rfl|rfl|rfl|rfl|rfl<;>rfl
 ·rw[Ej (by simp[madeCells];omega),Ej (by rw[hlen];omega)]
def Aw9 (k:Nat) (hk:k<=100000) (W:Aj):(Instr.makeSlice 184 (Aa Ab k) (Aa Ab k)).run Dp W= .ok (Ad (Af ⟨W.heap.size,0,Ae⟩) k k) (W.alloc (.cells ((Ba k Vo).flatMap smC).toArray 263)):=by
 obtain⟨i,hi,hz,hs,hb⟩:=info_parts Bx3;have h:=run_make (P:=Dp) W 184 263 i _ Tryz.underlying184 hi hz .i64 .i64 k k Gv Gv (by rw[hb];omega) Gv;rw[h];simp only[Ev,hs];have e:(Value.agg #[Aa Ab 0,Aa Ab 0,Aa Ac 0,Aa Ab 0,Aa Ab 0,Aa Ac 0,Ad Ae 0 0,Ad Ae 0 0,Ad Ae 0 0]).cells= #[Aa Ab 0,Aa Ab 0,Aa Ac 0,Aa Ab 0,Aa Ab 0,Aa Ac 0,Ad Ae 0 0,Ad Ae 0 0,Ad Ae 0 0]:=by rfl
 rw[e,Bm1]
def qK {zs:List SmZ} (x:SmZ) (h:W.heap[GO]? =Af (Co ((zs++Ba (n-i) Vo).flatMap smC).toArray 263 (0,0))) (hz:zs.length=i) (hi:i<n):
  (∀f,f<9->∃u,W.cell? ⟨GO,i*9+f,Ae⟩=Af u)/\(∀j,W.frozen? ⟨GO,j,Ae⟩=false)/\
   (W.setCells GO (i*9) (smC x)).heap[GO]? =Af (Co ((zs++[x]++Ba (n-(i+1)) Vo).flatMap smC).toArray 263 (0,0)):=by
 have hlen:∀l:List SmZ,(l.flatMap smC).length=l.length*9:=λl=>Kq smC 9 Qp l
 have hrep:Ba (n-i) Vo=Vo::Ba (n-(i+1)) Vo:=by
  rw[<-List.replicate_succ]
  congr 1
  omega
 refine⟨λf hf=>?_,λj=>by simp[Ea,h],?_⟩
 ·have hb:i*9+f<((zs++Ba (n-i) Vo).flatMap smC).length:=by
   rw[hlen,Bh,Fg,hz];omega
  exact⟨_,by rw[Bz W GO (i*9+f) _ _ (0,0) h,Fv,Aw hb]⟩
 ·rw[Qi (smC x) (i*9) W _ h (by
   rw[Qp];simp only[List.size_toArray,hlen,Bh,Fg,hz];omega)]
  congr 2
  apply Array.ext';have h9:(zs.flatMap smC).length=i*9:=by rw[hlen,hz]
  rw[hrep];simp only[Bi,Bf,List.flatMap_nil,Ff];rw[Qp,List.take_append_of_le_length Gv,Bg Gv]
  congr 1
  rw[show i*9+9=(zs.flatMap smC).length+(smC Vo).length by rw[h9,Qp]];rw[List.drop_append,List.drop_append];simp
structure Ch1 (x y:SmB):Prop where
 p:y.p=x.p
 key:y.key=x.key
 blks:y.blks=x.blks
 s:SmP x.s y.s
structure iJ (O B GO n:Nat) (F:List Nat) (fix:List Ak) (l0:List SmB) (ks:List (Cl×Cl)) (WL wr:Aj) (i:Nat) (zz:List (SmB×SmB)) (zs:List SmZ):Prop where
 len:zs.length=i
 fst:zz.map (·.1)=l0
 rel:∀q∈zz,Ch1 q.1 q.2
 bld:Il O B (GO::F) fix wr (zz.map (·.2))
 same:∀g,g<WL.heap.size->g∉l0.flatMap SmB.blks->g≠GO->wr.heap[g]? =WL.heap[g]?
 size:WL.heap.size<=wr.heap.size
 frm:Below O WL wr
 out:wr.heap[GO]? =Af (Co ((zs++Ba (n-i) Vo).flatMap smC).toArray 263 (0,0))
 rows:∀x∈zs,Oh wr WL.heap.size x.1 x.2.1 x.2.2.1 x.2.2.2
 spec:∀(j:Nat) (k:Cl×Cl) (x:SmZ),ks[j]? =Af k->zs[j]? =Af x->SmP (jF k (l0.map (·.s))) x.1
def Oh.same (h:Oh w O t A1 A2 A3) (hb:∀g,O<=g->g<w.heap.size->w'.heap[g]? =w.heap[g]?):Oh w' O t A1 A2 A3:=by
 obtain⟨⟨h1,h2⟩,⟨h3,h4⟩,h5,h6⟩:=h;exact⟨⟨h1,h2.same λg hg=>hb g (h2.lt g hg).1 (h2.lt g hg).2.1⟩,⟨h3,h4.same λg hg=>hb g (h4.lt g hg).1 (h4.lt g hg).2.1⟩,h5,h6.same λg hg=>hb g (h6.lt g hg).1 (h6.lt g hg).2.1⟩
def Oh.base (h:Oh w O t A1 A2 A3) (hO:O'<=O):Oh w O' t A1 A2 A3:=⟨⟨h.1.1,h.1.2.base hO⟩,⟨h.2.1.1,h.2.1.2.base hO⟩,h.2.2.1,h.2.2.2.base hO⟩
def Bo0 {zs:List SmZ} (h:iJ O B GO n F fix l0 ks WL wr i zz zs) (hi:i<n) (zx:ks.Perm (l0.map SmB.key)) (hn:ks.length=n) (ca:(l0.map SmB.key).Nodup)
  (rm:GO<WL.heap.size) (hOG:O<=GO) (ac:∀g∈l0.flatMap SmB.blks,g<WL.heap.size/\g≠GO):
  ∃(k:Cl×Cl) (x0 x:SmB) (b1 b2:List SmB),ks[i]? =Af k/\Of k (Ot l0)=Af x.ptr/\x0∈l0/\SmP x0.s x.s/\zz.map (·.2)=b1++x::b2/\
   ∀(ZL w2:Aj) (y:SmB) (A1 A2 A3:Option Cj),Below wr.heap.size wr ZL->SmP x.s y.s->y.p=x.p->y.key=x.key->y.blks=x.blks->Il O B (GO::F) fix w2 (b1++y::b2)->Frm O (GO::F) ZL w2->Oh w2 ZL.heap.size y.s A1 A2 A3->
    (∀g,g<ZL.heap.size->g∉x.blks->w2.heap[g]? =ZL.heap[g]?)->
    ∃zz',iJ O B GO n F fix l0 ks WL (w2.setCells GO (i*9) (smC (y.s,A1,A2,A3))) (i+1) zz' (zs++[(y.s,A1,A2,A3)]):=by
 have zt:i<ks.length:=Gv;obtain⟨k,hk⟩:=ey (ks[i]);have hkm:k∈l0.map SmB.key:=zx.mem_iff.1 (hk▸Ay zt)
 obtain⟨m1,x0,m2,JV,PD,JT⟩:∃m1 x0 m2,l0=m1++x0::m2/\x0.key=k/\Of k (Ot l0)=Af x0.ptr:=by
  rcases tZ k l0 with⟨m1,x0,m2,h1,h2,h3,-⟩|⟨qg,-⟩
  ·exact⟨m1,x0,m2,h1,h2,h3⟩
  ·exact absurd hkm qg
 have hf:=h.fst;rw[JV]at hf;obtain⟨z1,z2,rfl,ap,bw⟩:=List.map_eq_append_iff.1 hf;obtain⟨q,z3,rfl,hq,qi⟩:=List.map_eq_cons_iff.1 bw;have hr:=h.rel q Gy;rw[hq]at hr;have VK:x0∈l0:=by rw[JV];simp
 refine⟨k,x0,q.2,z1.map (·.2),z3.map (·.2),by rw[Aw zt,hk],by rw[JT];unfold SmB.ptr;rw[hr.p],VK,hr.s,Gy,?_⟩;intro ZL w2 y A1 A2 A3 hb ZC hyp KM ym dm CX CC tp
 have KL:∀g∈q.2.blks,g<WL.heap.size/\g≠GO:=λg hg=>by
  rw[hr.blks]at hg;exact ac g (Ec.2 ⟨x0,VK,hg⟩)
 have hGx:GO∉q.2.blks:=λhg=>(KL GO hg).2 rfl;have hszb:=hb.size;have gg:=h.size;have VF:=CX.1.size;obtain⟨u1,u2,u3⟩:=qK (W:=w2) (y.s,A1,A2,A3) ((tp GO Gv hGx).trans ((hb.block GO Gv).trans h.out)) h.len hi;have jk:∀g,g<w2.heap.size->g≠GO->(w2.setCells GO (i*9) (smC (y.s,A1,A2,A3))).heap[g]? =w2.heap[g]? :=λg hg lm=>World.heap_setCells_other w2 GO (i*9) _ hg lm;have VG:w2.heap.size<=(w2.setCells GO (i*9) (smC (y.s,A1,A2,A3))).heap.size:=(Oj (Ag O w2) hOG (smC (y.s,A1,A2,A3)) (i*9)).size;refine⟨z1++(q.1,y)::z3,by simp[h.len],by rw[JV];simp[ap,hq,qi],λr R5=>?_,?_,λg hg zp lm=>?_,Gv,?_,u3,λx hx=>?_,λj kk x hj hx=>?_⟩
 ·rcases Bl.1 R5 with R5|R5
  ·exact h.rel r (by simp[R5])
  ·rcases Bk.1 R5 with rfl|R5
   ·rw[hq];exact⟨hyp.trans hr.p,KM.trans hr.key,ym.trans hr.blks,hr.s.trans ZC⟩
   ·exact h.rel r (by simp[R5])
 ·have UU:(z1++(q.1,y)::z3).map (·.2)=z1.map (·.2)++y::z3.map (·.2):=Gy;rw[UU];obtain⟨M,kv,a1,a2,a3,a4,a5,a6,a7,a8,a9,sm⟩:=dm;have fw:=aH a2 a3 a4 a5 a8 a9;have hP:=(sm GO Gy).2;have iz:∀g∈Hq B M kv (z1.map (·.2)++y::z3.map (·.2)),(w2.setCells GO (i*9) (smC (y.s,A1,A2,A3))).heap[g]? =w2.heap[g]? :=λg hg=>jk g (fw g hg).2 λe=>hP (e▸hg);refine⟨M,kv,a1,(iz B (by simp[Hq])).trans a2,a3.same (iz M (by simp[Hq])),a4.same λg hg=>iz g (by simp[Hq,hg]),a5.same λg hg=>iz g ?_,a6,a7,a8,a9,λg hg=>⟨Br (sm g hg).1 VG,(sm g hg).2⟩⟩;unfold Hq;simp only[Bk,Bl];exact .inr (.inr (.inr hg))
 ·exact(jk g Gv lm).trans ((tp g Gv (λhx=>zp (Ec.2 ⟨x0,VK,hr.blks▸hx⟩))).trans ((hb.block g Gv).trans (h.same g hg zp lm)))
 ·have hO:O<=WL.heap.size:=Gv;exact Oj ((h.frm.trans (hb.mono Gv)).trans CX.1) hOG _ _
 ·have bo:∀g,WL.heap.size<=g->g<ZL.heap.size->(w2.setCells GO (i*9) (smC (y.s,A1,A2,A3))).heap[g]? =ZL.heap[g]? :=λg hg nj=>(jk g Gv Gv).trans (tp g nj (λhx=>by have:=(KL g hx).1;omega));rcases Bl.1 hx with hx|hx
  ·refine(h.rows x hx).same λg hg nj=>?_;exact(bo g hg Gv).trans (hb.block g nj)
  ·obtain rfl:=Gf.1 hx;exact(CC.same λg hg nj=>jk g nj Gv).base Gv
 ·rcases Nat.lt_trichotomy j i with DF|rfl|DF
  ·rw[Fk (by rw[h.len];exact DF)]at hx;exact h.spec j kk x hj hx
  ·have KK:(y.s,A1,A2,A3)=x:=by
    rw[Eg (by rw[h.len];exact Am _),h.len,Fo]at hx;simpa using hx
   subst KK
   have iz:k=kk:=by
    rw[Aw zt,hk]at hj;simpa using hj
   subst iz
   have nt:((l0.map (·.s)).map λs=>(s.a,s.b)).Nodup:=by
    rw[Ft];exact ca
   have:=Zc nt (Dr.2 ⟨x0,VK,rfl⟩);have e:(x0.s.a,x0.s.b)=k:=PD;rw[e]at this;rw[this];exact hr.s.trans ZC
  ·rw[Ej (by simp[h.len];omega)]at hx
   cases hx
def Bz0 {zs:List SmZ} (h:iJ O B GO n F fix l0 ks WL wr n zz zs) (zx:ks.Perm (l0.map SmB.key)) (hn:ks.length=n) (ca:(l0.map SmB.key).Nodup) (GS:O'<=GO) (QH:O'<=WL.heap.size):
  Ap1 (l0.map (·.s)) (zs.map (·.1))/\Ll wr O' (Af ⟨GO,0,Ae⟩) (zs.map (·.1)):=by
 have hnd2:((l0.map (·.s)).map λs=>(s.a,s.b)).Nodup:=by
  rw[Ft];exact ca
 have O8:(ks.map λk=>jF k (l0.map (·.s))).length=(zs.map (·.1)).length:=by simp[h.len,hn]
 refine⟨⟨(ks.map λk=>jF k (l0.map (·.s))).zip (zs.map (·.1)),?_,?_,?_⟩,zs,rfl,?_,?_⟩
 ·rw[List.map_fst_zip Gv];have e:=Ah2 hnd2;have e2:(l0.map (·.s)).map (λs=>(s.a,s.b))=l0.map SmB.key:=by rw[Ft];rfl
  rw[e2]at e
  conv=>lhs;rw[<-e]
  exact(zx.map _).symm
 ·rw[List.map_snd_zip Gv]
 ·intro p hp;obtain⟨j,hj,rfl⟩:=List.mem_iff_getElem.1 hp;have QS:j<ks.length:=by simp at hj;omega
  have P_:j<zs.length:=by simp at hj;omega
  have:=h.spec j ks[j] zs[j] (Aw QS) (Aw P_);simpa using this
 ·have ho:=h.out;rw[Fo,List.replicate_zero,Ff]at ho;have jq:=Kq smC 9 Qp zs;exact⟨jq,.inr ⟨GO,_,rfl,GS,ho,by simp[jq],by rw[<-jq];exact List.take_length⟩⟩
 ·intro x hx;exact(h.rows x hx).base QH
end Go.Proofs.YtlgkpdfieaadaaaGreatDoor
