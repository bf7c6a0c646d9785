import Derived.Test.YtlgkpdfieaadaaaGreatDoorRBkp
import Derived.Shelf.Slices.CompactI
set_option linter.all false
open And renaming intro->Cn
open Array renaming getElem?_eq_some_iff->Au,getElem_setIfInBounds->Ct,replicate->En,replicate_succ->Db,replicate_zero->Da
open Bool renaming and_eq_true->Em,false_eq_true->Ek,not_eq_true->Ep
open Go renaming Addr->Cj,Calls->Al,TypeId->Ck,Value->Ak,World->Aj,bodyPost_ret->Ai,cell_of_row->Bz,heap_alloc_new->Ca,wpAnyH_done->An,wpAnyH_ready->Ap,wp_region_held_drew->Ao
open Go.AllReadyH renaming cons->Aq,nil->Ar
open Go.Fence renaming wide->Cv
open Go.IntKind renaming i64->Ab,u8->Ac
open Go.IntWalk renaming i64_in->Cb,wrap64_in->Cc
open Go.Lib renaming hid->Ah,wpList_append_run->As
open Go.Obj renaming cells->Co
open Go.Proofs.Tryz renaming prog->Dp,underlying38->Dl
open Go.Region renaming wanted->Dz
open Go.RowKit.Below renaming refl->Ag
open Go.Value renaming int->Aa,slice->Ad,oneCell'->Do,ownBlock->Dx
open Int renaming tdiv_eq_ediv_of_nonneg->Gi
open List renaming all_eq_true->Ed,any_eq_false->Du,any_eq_true->Ew,append_toArray->De,cons_append->Er,ext_getElem->Gk,flatMap_append->Bi,flatMap_cons->Bf,getD_eq_getElem?_getD->Dt,getElem?_cons_succ->Cx,getElem?_eq_getElem->Aw,getElem?_eq_none->Ej,getElem?_eq_some_iff->Ax,getElem?_map->Fs,getElem_cons_succ->Ce,getElem_cons_zero->Cd,getElem_map->Ge,getElem_mem->Ay,getElem_range->Dj,getElem_toArray->Cf,length_append->Bh,length_cons->Eo,length_drop->Dy,length_map->Bp,length_nil->Cs,length_range->Cp,length_take->Bm,map_append->Ez,map_cons->Es,map_map->Ft,mem_append->Bl,mem_append_left->Gc,mem_cons->Bk,mem_iff_getElem->Be,mem_map->Dr,mem_range->Eb,mem_singleton->Gf,nil_append->Eu,not_mem_nil->Dv,pairwise_iff_getElem->Fj,pairwise_map->Fc,range->Ds,setIfInBounds_toArray->Ci,set_cons_succ->Ch,set_cons_zero->Cg,size_toArray->Fq,take_append_drop->Fe,take_succ_eq_append_getElem->Bc,toArray_replicate->Gj
open Nat renaming add_zero->Df,le_refl->Am,le_trans->Bt,lt_of_lt_of_le->Br,mul_assoc->Fh,mul_le_mul->Gq,mul_le_mul_left->Cy,mul_le_mul_right->Fu,mul_one->Dc,zero_add->Bu,zero_le->Gm
open Option renaming none->Ae,some->Af
set_option maxHeartbeats 16000000
set_option maxRecDepth 100000
namespace Go.Proofs.YtlgkpdfieaadaaaGreatDoor
open Go.RowKit
variable {w wr w2 w':Aj} {M e sz n g j b L nf fc nl lc:Nat} {v:Ak} {xs:List Ak} {f:Nat->Option Nat} {fA lA A:Option Cj}
def Bx.keepM {l:List (Nat×Array Ak×Ck)} (h:Bx w l wr) (hM:∀x∈l,x.1<M) (hw:w.heap.size<=M) (hb:Below M wr w2):Bx w l w2:=
 ⟨h.below.trans (hb.mono hw),λi g cs t hi=>(hb.block g (hM _ (List.mem_of_getElem? hi))).trans (h.blk i g cs t hi),h.lo,h.inj⟩
def Ml (h:w.ownsRow M e sz v n xs) (hg:g<M) (j:Nat) (u:Ak):(w.setCell ⟨g,j,Ae⟩ u).ownsRow M e sz v n xs:=
 ⟨h.1,h.2.imp id λ⟨g',cap,cur,r1,r2,r3,r⟩=>⟨g',cap,cur,r1,r2,(Below.heap_setCell w ⟨g,j,Ae⟩ u g' (by show g'≠g;omega)).trans r3,r⟩⟩
def aG (hg:w.grownBy w2 v.ownBlock) (h:w.ownsRow M e sz v n xs) (hm:M<=w.heap.size):Below M w w2:=
 (Ag M w).grown hg hm (λq hq=>(h.lt q hq).1)
def Tm {cs:Array Ak} {t:Ck} (h:w.heap[g]? =Af (.cells cs t (0,0))) (j:Nat):w.frozen? ⟨g,j,Ae⟩=false:=by
 unfold World.frozen?;rw[h];simp
def Zs {P:Program} {ops:Array Oper} {o:Oper} {a:Act} {K:Act->Aj->Prop} {Q:Exit->Act->Aj->Prop} {E:Prop} (hw:Dz o (yielded ops a.tmps)=true) (s x:Operand) (t:Ck)
  (ho:o.op= .call {callee:= .builtin .append,args:=#[s,x],argTypes:=#[t,t]}) (vs vx:Ak) (hs:a.eval s=vs) (hx:a.eval x=vx) (v':Ak) (w':Aj)
  (hr:(Builtin.append_ #[t,t] o.type #[vs,vx]).run P w= .ok v' w') (h:K (a.put o.dst v') w'):if Dz o (yielded ops a.tmps)=true then Oper.wp P o a w K Q else E:=by
 rw[Hc hw];exact Lib.wp_append_run w s x t t ho vs vx hs hx v' w' hr h
def lT:(Tryz.prog.info? 56).map (λi=>(i.zero,i.size,i.bytes))=Af (Af (.agg #[Aa Ab 0,Aa Ab 0]),2,16):=Gx
def lV (h:f j=Ae):Hs f (j+1)=Hs f j++[j]/\Hd f (j+1)=Hd f j:=by
 rw[Zd,Se];simp[Ua,cE,h]
def lW (h:f j=Af b):Hs f (j+1)=Hs f j:=by
 rw[Zd];simp[Ua,h]
def tX (h:f j=Af b) (ac:j<b):Hd f (j+1)=Hd f j++[(j,b)]:=by
 rw[Se];simp[cE,h,ac]
def tW (h:f j=Af b) (ac:¬j<b):Hd f (j+1)=Hd f j:=by
 rw[Se];simp[cE,h,ac]
def Tf (f:Nat->Option Nat) (n:Nat):(Hs f n).length<=n:=by
 have:=List.length_filter_le (Ua f) (Ds n);simpa[Hs]using this
def Pe (f:Nat->Option Nat) (n:Nat):(Hd f n).length<=n:=by
 have:=List.length_filterMap_le (cE f) (Ds n);simpa[Hd]using this
def nV (k:Nat):Ak:= Aa Ab (k:Int)
def Uu (l:List Nat):List Ak:=l.map nV
def Ki (l:List (Nat×Nat)):List Ak:=l.flatMap λp=>[nV p.1,nV p.2]
def Ah1 (l:List Nat) (a:Nat):Uu (l++[a])=Uu l++[nV a]:=by simp[Uu]
def Sy (l:List (Nat×Nat)) (p:Nat×Nat):Ki (l++[p])=Ki l++[nV p.1,nV p.2]:=by simp[Ki]
def Re (l:List (Nat×Nat)):(Ki l).length=l.length*2:=by
 induction l with
 |nil=>rfl
 |cons p r ih=>unfold Ki at*;rw[Bf,Bh,ih];simp;omega
structure BAt (w:Aj) (f:Nat->Option Nat) (L:Nat) (fA lA:Option Cj) (nf fc nl lc:Nat):Prop where
 hf:nf=(Hd f L).length
 hl:nl=(Hs f L).length
 rf:Rd w fA 2 nf (Ki (Hd f L))
 rl:Rd w lA 1 nl (Uu (Hs f L))
 af:AOk fA nf fc
 al:AOk lA nl lc
 cf:nf<=fc/\fc<=maxLen
 cl:nl<=lc/\lc<=maxLen
def BAt.below (h:BAt w f L fA lA nf fc nl lc) (hb:Below w.heap.size w w'):BAt w' f L fA lA nf fc nl lc:=
 ⟨h.hf,h.hl,h.rf.below hb,h.rl.below hb,h.af,h.al,h.cf,h.cl⟩
def Rf {l:List (Nat×Nat)} (h:Rd w A 2 n (Ki l)) (hj:j<l.length):∃b o,A=Af ⟨b,o,Ae⟩/\b<w.heap.size/\w.cell? ⟨b,o+j*2,Ae⟩=Af (Aa Ab (l[j].1:Int))/\w.cell? ⟨b,o+j*2+1,Ae⟩=Af (Aa Ab (l[j].2:Int)):=by
 have hg:∀(l:List (Nat×Nat)) (j:Nat) (hj:j<l.length),(Ki l)[j*2]? =Af (nV l[j].1)/\(Ki l)[j*2+1]? =Af (nV l[j].2):=by
  intro l
  induction l with
  |nil=>intro j hj;exact absurd hj (Nat.not_lt_zero _)
  |cons p r ih=>
   intro j hj
   cases j with
   |zero=>exact⟨rfl,rfl⟩
   |succ j=>
    have:=ih j (by simpa using hj);rw[show(j+1)*2=j*2+2 by omega];exact this
 have hn:n=l.length:=by have h1:=h.1;rw[Re]at h1;omega
 obtain⟨b,o,e,hb,hc⟩:=h.2 Gv;have:=hg l j hj;exact⟨b,o,e,hb,hc _ _ this.1,hc _ _ this.2⟩
def uU {l:List Nat} (h:Rd w A 1 n (Uu l)) (hj:j<l.length):∃b o,A=Af ⟨b,o,Ae⟩/\b<w.heap.size/\w.cell? ⟨b,o+j,Ae⟩=Af (Aa Ab (l[j]:Int)):=by
 have hn:n=l.length:=by have h1:=h.1;simp[Uu]at h1;omega
 obtain⟨b,o,e,hb,hc⟩:=h.2 Gv;exact⟨b,o,e,hb,hc j _ (by unfold Uu;rw[Fs,Aw hj];rfl)⟩
def lK (n L P:Nat) (hn:n<L) (w:Aj) (hP:w.cell? ⟨P,0,Ae⟩=Af (Aa Ab (L:Int))):
  Al Dp 139 #[(n:Int),.pointer (Af ⟨P,0,Ae⟩)] w (Gz (.bool false) w):=by
 have q0:¬(n:Int)<0:=Gv;have q1:¬(n:Int)>=(L:Int):=Gv;go_in;go_wp2;go_ret;exact⟨rfl,Ag _ _⟩
set_option linter.unusedSimpArgs false in
def uT (f:Nat->Option Nat) (L:Nat) (hN:Nc f L) (hL:L<=64) (fA lA:Option Cj) (nf fc nl lc:Nat) (w:Aj) (hB:BAt w f L fA lA nf fc nl lc):
  Al Dp 78 #[.agg #[L,Ad fA nf fc,Ad lA nl lc]] w (Gz (.bool true) w):=by
 have RC:nf<=64:=by have h1:=hB.hf;have h2:=Pe f L;omega
 have ky:nl<=64:=by have h1:=hB.hl;have h2:=Tf f L;omega
 have ir:=Ah hB;have DZ:=Ah hN;clear hB hN;have H:=(Bx.start w).new #[L,Ad fA nf fc,Ad lA nl lc] 40 rfl;go_in;go_upto_region 1 with fail;generalize w.alloc _=W at H⊢;obtain⟨N,ct⟩:=Tw w.heap.size;rw[<-ct.out]at H⊢;obtain⟨⟨a0,a1,a2⟩,_⟩:=Hg (H.b 0);go_wp2_with fail;clear a0 a1 a2
 go_loopw [12] (λVS wr=>∃j:Nat,VS= Aa Ab j/\j<=nf/\Hid (Bx w [(N,#[Aa Ab L,Ad fA nf fc,Ad lA nl lc],40)] wr)) (λVS _=>nf-(intOf VS).toNat)
 case atStart=>exact⟨0,rfl,Gv,Ah H⟩
 obtain⟨j,rfl,hj,HH⟩:=hrel;by_cases ac:j<nf
 ·have q0:(j:Int)<(nf:Int):=Gv;have H1:=HH.out;have me:j<(Hd f L).length:=oHx ir.out.hf;obtain⟨b,o,rfl,cj,p0,p1⟩:=Rf (ir.out.rf.below H1.below) me;have xq:=Ku.1 (Ay me);have hmy:=(DZ.out.lt _ _ xq.2.1).2.1;obtain⟨x,hx⟩:=ey ((Hd f L)[j].1);obtain⟨y,hy⟩:=ey ((Hd f L)[j].2);have el:=xq.2.2;have xz:=xq.1;rw[hx]at p0 el xz;rw[hy]at p1 hmy el;have t1:¬(x:Int)>=(y:Int):=Gv;have HX:=Ah hx;clear xq hx hy;have DV:=Ah λ(W':Aj) (h:W'.cell? ⟨N,0,Ae⟩=Af (Aa Ab (L:Int)))=>lK x L N xz W' h;have HFY:=Ah λ(W':Aj) (h:W'.cell? ⟨N,0,Ae⟩=Af (Aa Ab (L:Int)))=>lK y L N hmy W' h;have e0:=Gw ((Ag _ wr).alloc (Am _) (.cells #[(x:Int),(y:Int)] 56)) p0
  cases j with
  |zero=>
   simp only[Nat.zero_mul,Df]at p0 p1 e0;go_upto_region 5 with fail;have H2:=H1.new #[x,y] 56 rfl;obtain⟨S,an⟩:∃S:Aj->Prop,S=λW'=>(W'.cell? ⟨wr.heap.size,0,Ae⟩=Af (Aa Ab (x:Int))/\W'.cell? ⟨wr.heap.size,1,Ae⟩=Af (Aa Ab (y:Int))/\W'.cell? ⟨N,0,Ae⟩=Af (Aa Ab (L:Int))/\W'.cell? ⟨N,1,Ae⟩=Af (Ad (Af ⟨b,o,Ae⟩) nf fc)):=⟨_,rfl⟩;generalize wr.alloc _=W2 at H2 e0⊢;generalize wr.heap.size=Q at H2 an⊢;obtain⟨⟨b0,b1,b2⟩,_⟩:=Hg (H2.b 0);obtain⟨⟨c0,c1⟩,_⟩:=Hm (H2.b 1);have ag:Hid (∀W',Below W2.heap.size W2 W'->S W'):=Ah λW' h=>by subst an;exact⟨Gw h c0,Gw h c1,Gw h b0,Gw h b1⟩
   have HSO:Hid (∀W',S W'->W'.cell? ⟨Q,0,Ae⟩=Af (Aa Ab (x:Int))/\W'.cell? ⟨Q,1,Ae⟩=Af (Aa Ab (y:Int))/\W'.cell? ⟨N,0,Ae⟩=Af (Aa Ab (L:Int))/\W'.cell? ⟨N,1,Ae⟩=Af (Ad (Af ⟨b,o,Ae⟩) nf fc)):=Ah λW' h=>by subst an;exact h
   have f_:Hid (∀W',S W'->W'.cell? ⟨N,0,Ae⟩=Af (Aa Ab (L:Int))):=Ah λW' h=>(HSO.out _ h).2.2.1;clear an b0 b1 b2 c0 c1 e0;refine Ao (S:=S) Gx (ag.out _ (Ag _ _).drew) (λhS=>?_);have hb:Below W2.heap.size W2 W2.drew:=(Ag _ _).drew;generalize W2.drew=X0 at hb hS⊢;refine Oe 0 1 2 ?_;refine rdy 3 (λK hK=>?_);go_simp;refine(DV.out _ (f_.out _ hS)).mono ?_;rintro e X1 ⟨rfl,ad⟩;have hb:=Up hb ad;refine hK.o (ag.out _ hb) (λhS=>?_);clear hK K ad;refine Hk 4 5 6 7 ?_;refine rdy 8 (λK hK=>?_);go_simp;refine(HFY.out _ (f_.out _ hS)).mono ?_;rintro e X2 ⟨rfl,ad⟩;have hb:=Up hb ad;refine hK.o (ag.out _ hb) (λhS=>?_);clear hK K ad;refine Hk 9 10 11 12 ?_;refine Hk 13 14 15 16 ?_;refine Hk 17 18 19 20 ?_;refine Hk 21 22 23 24 ?_;refine Hk 25 26 27 28 ?_;refine Hk 29 30 31 32 ?_;refine An Gx ?_ _;have H3:=H2.call hb;go_wp2
   go_roundw
   case rel=>exact⟨1,rfl,Gv,Ah (H3.upto 1)⟩
   case measure=>simp[intOf];omega
  |succ j'=>
   have hjl':j'<(Hd f L).length:=Gv;obtain⟨b2,o2,eb,_,m0,_⟩:=Rf (ir.out.rf.below H1.below) hjl';obtain⟨rfl,rfl⟩:b=b2/\o=o2:=by simpa using eb
   have AY:=Fj.1 (Wz (f:=f) L) j' (j'+1) hjl' me Gv;rw[HX.out]at AY;obtain⟨x',KK⟩:=ey ((Hd f L)[j'].1);rw[KK]at m0 AY;have t3:¬(x':Int)>=(x:Int):=Gv;have q5:(j':Int)<(nf:Int):=Gv;have q6:(((j'+1:Nat):Int))>0:=Gv;have ew:Ab.wrap (j':Int)=(j':Int):=Cb _ (oHx (Pe f L));have em:=Gw ((Ag _ wr).alloc (Am _) (.cells #[(x:Int),(y:Int)] 56)) m0;clear KK eb m0;go_upto_region 5 with fail;have H2:=H1.new #[x,y] 56 rfl;obtain⟨S,an⟩:∃S:Aj->Prop,S=λW'=>(W'.cell? ⟨wr.heap.size,0,Ae⟩=Af (Aa Ab (x:Int))/\W'.cell? ⟨wr.heap.size,1,Ae⟩=Af (Aa Ab (y:Int))/\W'.cell? ⟨N,0,Ae⟩=Af (Aa Ab (L:Int))/\W'.cell? ⟨N,1,Ae⟩=Af (Ad (Af ⟨b,o,Ae⟩) nf fc)/\W'.cell? ⟨b,o+j'*2,Ae⟩=Af (Aa Ab (x':Int))):=⟨_,rfl⟩;generalize wr.alloc _=W2 at H2 e0 em⊢;generalize wr.heap.size=Q at H2 an⊢;obtain⟨⟨b0,b1,b2⟩,_⟩:=Hg (H2.b 0);obtain⟨⟨c0,c1⟩,_⟩:=Hm (H2.b 1);have ag:Hid (∀W',Below W2.heap.size W2 W'->S W'):=Ah λW' h=>by subst an;exact⟨Gw h c0,Gw h c1,Gw h b0,Gw h b1,Gw h em⟩
   have HSO:Hid (∀W',S W'->W'.cell? ⟨Q,0,Ae⟩=Af (Aa Ab (x:Int))/\W'.cell? ⟨Q,1,Ae⟩=Af (Aa Ab (y:Int))/\W'.cell? ⟨N,0,Ae⟩=Af (Aa Ab (L:Int))/\W'.cell? ⟨N,1,Ae⟩=Af (Ad (Af ⟨b,o,Ae⟩) nf fc)/\W'.cell? ⟨b,o+j'*2,Ae⟩=Af (Aa Ab (x':Int))):=Ah λW' h=>by subst an;exact h
   have f_:Hid (∀W',S W'->W'.cell? ⟨N,0,Ae⟩=Af (Aa Ab (L:Int))):=Ah λW' h=>(HSO.out _ h).2.2.1;clear em;clear an b0 b1 b2 c0 c1 e0;refine Ao (S:=S) Gx (ag.out _ (Ag _ _).drew) (λhS=>?_);have hb:Below W2.heap.size W2 W2.drew:=(Ag _ _).drew;generalize W2.drew=X0 at hb hS⊢;refine Oe 0 1 2 ?_;refine rdy 3 (λK hK=>?_);go_simp;refine(DV.out _ (f_.out _ hS)).mono ?_;rintro e X1 ⟨rfl,ad⟩;have hb:=Up hb ad;refine hK.o (ag.out _ hb) (λhS=>?_);clear hK K ad;refine Hk 4 5 6 7 ?_;refine rdy 8 (λK hK=>?_);go_simp;refine(HFY.out _ (f_.out _ hS)).mono ?_;rintro e X2 ⟨rfl,ad⟩;have hb:=Up hb ad;refine hK.o (ag.out _ hb) (λhS=>?_);clear hK K ad;refine Hk 9 10 11 12 ?_;refine Hk 13 14 15 16 ?_;refine Hk 17 18 19 20 ?_;refine Hk 21 22 23 24 ?_;refine Hk 25 26 27 28 ?_;refine Hk 29 30 31 32 ?_;refine An Gx ?_ _;have H3:=H2.call hb;go_wp2
   go_roundw
   case rel=>exact⟨j'+2,by go_num,Gv,Ah (H3.upto 1)⟩
   case measure=>simp[intOf];omega
 ·have q0:¬(j:Int)<(nf:Int):=Gv;have H1:=HH.out;obtain⟨⟨a0,a1,a2⟩,_⟩:=Hg (H1.b 0);have BC:=HH;clear HH H H1;go_wp2_with fail;clear a0 a1 a2 q0
  go_loopw [54] (λPI wx=>∃k:Nat,PI= Aa Ab k/\k<=nl/\Hid (Bx w [(N,#[Aa Ab L,Ad fA nf fc,Ad lA nl lc],40)] wx)) (λPI _=>nl-(intOf PI).toNat)
  case atStart=>exact⟨0,rfl,Gv,BC⟩
  obtain⟨k,rfl,hk,HH⟩:=hrel;clear BC;have H1:=HH.out;by_cases fw:k<nl
  ·have q0:(k:Int)<(nl:Int):=Gv;have be:k<(Hs f L).length:=oHx ir.out.hl;obtain⟨b,o,rfl,cj,p0⟩:=uU (ir.out.rl.below H1.below) be;obtain⟨x,hx⟩:=ey ((Hs f L)[k]);have xz:x<L:=hx▸(Ph.1 (Ay be)).1;rw[hx]at p0;have HX:=Ah hx;have DV:=Ah λ(W':Aj) (h:W'.cell? ⟨N,0,Ae⟩=Af (Aa Ab (L:Int)))=>lK x L N xz W' h;obtain⟨⟨a0,a1,a2⟩,_⟩:=Hg (H1.b 0);clear hx
   cases k with
   |zero=>
    simp only[Df]at p0;go_wp2_with fail;refine(DV.out _ a0).mono ?_;rintro e w3 ⟨rfl,hb⟩;have H3:=H1.call hb;clear a0 a1 a2 p0 hb;obtain⟨⟨a0,a1,a2⟩,_⟩:=Hg (H3.b 0);go_wp2
    go_roundw
    case rel=>exact⟨1,rfl,Gv,Ah H3⟩
    case measure=>simp[intOf];omega
   |succ k'=>
    have N9:k'<(Hs f L).length:=Gv;obtain⟨b2,o2,eb,_,m0⟩:=uU (ir.out.rl.below H1.below) N9;obtain⟨rfl,rfl⟩:b=b2/\o=o2:=by simpa using eb
    have AY:=Fj.1 (Ze (f:=f) L) k' (k'+1) N9 be Gv;rw[HX.out]at AY;obtain⟨x',KK⟩:=ey ((Hs f L)[k']);rw[KK]at m0 AY;have t3:¬(x':Int)>=(x:Int):=Gv;have q5:(k':Int)<(nl:Int):=Gv;have q6:(((k'+1:Nat):Int))>0:=Gv;have ew:Ab.wrap (k':Int)=(k':Int):=Cb _ (oHx (Tf f L));clear KK eb N9;go_wp2_with fail;refine(DV.out _ a0).mono ?_;rintro e w3 ⟨rfl,hb⟩;have H3:=H1.call hb;have m1:=Gw hb m0;clear a0 a1 a2 p0 hb m0;obtain⟨⟨a0,a1,a2⟩,_⟩:=Hg (H3.b 0);go_wp2
    go_roundw
    case rel=>exact⟨k'+2,by go_num,Gv,Ah H3⟩
    case measure=>simp[intOf];omega
  ·have q0:¬(k:Int)<(nl:Int):=Gv;go_wp2;go_ret;exact⟨rfl,H1.below⟩
end Go.Proofs.YtlgkpdfieaadaaaGreatDoor
namespace Go.Proofs
open Go.Shelf Go.RowKit
def Tryz.laysSort_ren:Go.Shelf.Ren:=⟨fun|189=>80|125=>85|257=>140|128=>149|129=>150|294=>179|295=>180|296=>181|297=>182|298=>183|299=>184|216=>185|300=>186|301=>187|328=>238|329=>189|330=>190|331=>239|332=>240|215=>86|343=>282|n=>n,fun|28=>38|3=>3|46=>176|0=>0|51=>251|53=>253|4=>4|183=>245|182=>244|131=>208|5=>5|9=>9|218=>307|222=>109|228=>369|229=>225|n=>n,fun|n=>n⟩
open Tryz in
def Tryz.laysSort:Go.Proofs.Lays.n189 Dp Tryz.laysSort_ren:={
 mixed:=Gx,f125:=lyf func85,f128:=lyf func149,f129:=lyf func150,f189:=lyf func80,f215:=lyf func86,f216:=lyf func185,f257:=lyf func140,f294:=lyf func179,f295:=lyf func180,f296:=lyf func181,f297:=lyf func182,f298:=lyf func183,f299:=lyf func184,f300:=lyf func186,f301:=lyf func187,f328:=lyf func238,f329:=lyf func189,f330:=lyf func190,f331:=lyf func239,f332:=lyf func240,f343:=lyf func282,t0:=underlying0,a0:=isAgg0,z0:=sizeOf0,v0:=zeroValue0,t3:=underlying3,a3:=isAgg3,z3:=sizeOf3,v3:=zeroValue3,t4:=underlying4,a4:=isAgg4,z4:=sizeOf4,v4:=zeroValue4,t5:=underlying5,a5:=isAgg5,z5:=sizeOf5,v5:=zeroValue5,t9:=underlying9,a9:=isAgg9,z9:=sizeOf9,v9:=zeroValue9,t28:=underlying38,a28:=isAgg38,z28:=sizeOf38,v28:=zeroValue38,t46:=underlying176,a46:=isAgg176,z46:=sizeOf176,v46:=zeroValue176,t51:=underlying251,a51:=isAgg251,z51:=sizeOf251,v51:=zeroValue251,t53:=underlying253,a53:=isAgg253,z53:=sizeOf253,v53:=zeroValue253,t131:=underlying208,a131:=isAgg208,z131:=sizeOf208,v131:=zeroValue208,t182:=underlying244,a182:=isAgg244,z182:=sizeOf244,v182:=zeroValue244,t183:=underlying245,a183:=isAgg245,z183:=sizeOf245,v183:=zeroValue245,t218:=underlying307,a218:=isAgg307,z218:=sizeOf307,v218:=zeroValue307,t222:=underlying109,a222:=isAgg109,z222:=sizeOf109,v222:=zeroValue109,t228:=underlying369,a228:=isAgg369,z228:=sizeOf369,v228:=zeroValue369,t229:=underlying225,a229:=isAgg225,z229:=sizeOf225,v229:=zeroValue225}
def Tryz.laysCompact_ren:Go.Shelf.Ren:=⟨fun|20=>81|n=>n,fun|22=>38|3=>3|4=>4|0=>0|n=>n,fun|n=>n⟩
open Tryz in
def Tryz.laysCompact:Go.Proofs.Lays2.n20 Dp Tryz.laysCompact_ren:={
 mixed:=Gx,f20:=lyf func81,t0:=underlying0,a0:=isAgg0,z0:=sizeOf0,v0:=zeroValue0,t3:=underlying3,a3:=isAgg3,z3:=sizeOf3,v3:=zeroValue3,t4:=underlying4,a4:=isAgg4,z4:=sizeOf4,v4:=zeroValue4,t22:=underlying38,a22:=isAgg38,z22:=sizeOf38,v22:=zeroValue38,i3:=by kernel_rfl}
end Go.Proofs
namespace Go.Proofs.YtlgkpdfieaadaaaGreatDoor
open Go.RowKit
variable {M m c L j x a b m' i y r G n k:Nat} {B A fA lA:Option Cj} {xs ks:List Int} {f:Nat->Option Nat} {w w' wr:Aj} {e t0 t:Ck} {v:Ak} {rs fr bk:List Ip} {ps g:Nat->Nat} {φ:Int->Int} {hd:Array Ak} {l:List (Nat×Array Ak×Ck)} {rows:List (List Int)} {p:Pg}
def iBV (xs:List Int):List Ak:=xs.map (Value.int .i64)
def srt (xs:List Int):List Int:=xs.mergeSort λx y=>decide (x<=y)
def Qq (xs:List Int):(srt xs).length=xs.length:=by unfold srt;rw[List.length_mergeSort]
def Al6 (w:Aj) (h:w.ownsRow M 3 1 (Ad B m c) m (iBV xs)) (hM:M<=w.heap.size) (hm:m<=1000):
  Al Dp 80 #[Ad B m c] w λe w'=>e= .returned (.tuple #[])/\w'.ownsRow M 3 1 (Ad B m c) m (iBV (srt xs))/\Below M w w':=by
 have hl:xs.length=m:=by have:=h.1;simpa[iBV]using this
 rcases h.2 with⟨h0,rfl⟩|⟨g,cap,cur,r1,r2,r3,r4,r5,r6,r7⟩
 ·obtain rfl:xs=[]:=List.eq_nil_of_length_eq_zero hl;refine(Any.slices_Sort_int_none Tryz.laysSort B c w).mono ?_;rintro e w' ⟨rfl,rfl⟩;exact⟨rfl,by simpa[srt,iBV]using h,Ag _ _⟩
 ·obtain⟨rfl,rfl⟩:B=Af ⟨g,0,Ae⟩/\c=cap:=by simpa using r1
  subst hl;have hH:=holds_of_blockI (ss:=xs) r3 (by rw[Dc]at r7;exact r7);refine(Any.slices_Sort_int Tryz.laysSort g 0 c xs w hH (Au.1 r3).1 Gv).mono ?_;rintro e w' ⟨rfl,n,os,rfl⟩;refine⟨rfl,ownsRow_sortedI (ts:=srt xs) (Qq xs) r2 r3 r4 r5 r6,?_⟩;exact aG (v:= Ad (Af ⟨g,0,Ae⟩) xs.length c) (grownBy_sortedI _) h hM
def kY (w:Aj) (h:w.ownsRow M 3 1 (Ad B m c) m (iBV xs)) (hM:M<=w.heap.size) (hm:m<=1000) (hk:∀j,j<xs.length->Lib.keeps xs.toArray j=true):
  Al Dp 81 #[Ad B m c] w λe w'=>(∃B' c',e= .returned (Ad B' m c'))/\Below M w w':=by
 have hl:xs.length=m:=by have:=h.1;simpa[iBV]using this
 rcases h.2 with⟨h0,rfl⟩|⟨g,cap,cur,r1,r2,r3,r4,r5,r6,r7⟩
 ·refine(Any.slices_Compact_int_empty Tryz.laysCompact B c w).mono ?_;rintro e w' ⟨rfl,rfl⟩;exact⟨⟨B,c,rfl⟩,Ag _ _⟩
 ·obtain⟨rfl,rfl⟩:B=Af ⟨g,0,Ae⟩/\c=cap:=by simpa using r1
  subst hl;have hH:=holds_of_blockI (ss:=xs) r3 (by rw[Dc]at r7;exact r7);refine(Any.slices_Compact_int Tryz.laysCompact g 0 c xs w hH Gv r4).mono ?_;rintro e w' ⟨rfl,n,rfl⟩;refine⟨⟨Af ⟨g,0,Ae⟩,c,by rw[Lib.compact_all xs hk]⟩,?_⟩;have hg:=grownBy_sortedI (w:=w) (g:=g) (n:=n) (os:=#[]) (Lib.compact xs++List.replicate (xs.length-(Lib.compact xs).length) 0).toArray;rw[Go.Sort.grow_empty]at hg;exact aG (v:= Ad (Af ⟨g,0,Ae⟩) xs.length c) hg h hM
def Am0 (h:xs.Nodup):∀j,j<(srt xs).length->Lib.keeps (srt xs).toArray j=true:=by
 have hp:(srt xs).Perm xs:=List.mergeSort_perm _ _;have hn:(srt xs).Nodup:=hp.nodup_iff.2 h;intro j hj;unfold Lib.keeps;rw[decide_eq_true_iff];by_cases h0:j=0
 ·exact .inl h0
 ·refine .inr λe=>?_;have h1:j-1<(srt xs).length:=Gv;have hne:=Fj.1 hn (j-1) j h1 hj Gv;rw[getElem!_pos _ j (by simpa using hj),getElem!_pos _ (j-1) (by simpa using h1)]at e;simp only[Cf]at e;exact hne e.symm
def Rw (f:Nat->Option Nat) (L j:Nat):List Int:=((Hs f L++((Hd f L).take j).flatMap λp=>[p.1,p.2]).map λn:Nat=>(n:Int))
def lS (f:Nat->Option Nat) (L j:Nat):iBV (Rw f L j)=Uu (Hs f L)++Ki ((Hd f L).take j):=by
 unfold iBV Rw Uu Ki;rw[Ft,Ez]
 congr 1
 generalize (Hd f L).take j=l
 induction l with
 |nil=>rfl
 |cons p r ih=>rw[Bf,Bf,Ez,ih];rfl
def Aw1 (f:Nat->Option Nat) (L j:Nat) (hj:j<=(Hd f L).length):(Rw f L j).length=(Hs f L).length+2*j:=by
 unfold Rw;rw[Bp,Bh]
 have:∀l:List (Nat×Nat),(l.flatMap λp=>[p.1,p.2]).length=2*l.length:=by
  intro l
  induction l with
  |nil=>rfl
  |cons p r ih=>rw[Bf,Bh,ih];simp;omega
 rw[this,Bm];omega
def pT (h:Nc f L):(Rw f L (Hd f L).length).Nodup/\(Rw f L (Hd f L).length).length=L:=by
 have hp:=pU h;have he:Rw f L (Hd f L).length=(Td f L).map λn:Nat=>(n:Int):=by unfold Rw Td;rw[List.take_length]
 rw[he];refine⟨?_,by rw[Bp,hp.length_eq,Cp]⟩;have hn:(Td f L).Nodup:=hp.nodup_iff.2 List.nodup_range;unfold List.Nodup at hn⊢;rw[Fc];exact hn.imp λhne e=>hne Gv
def Bl6 (l:List Nat):∀u∈Uu l,u.oneCell'=true:=by
 intro u hu;obtain⟨a,_,rfl⟩:=Dr.1 hu;rfl
def Bw9 (l:List Int):∀u∈iBV l,u.oneCell'=true:=by
 intro u hu;obtain⟨a,_,rfl⟩:=Dr.1 hu;rfl
def gT (x y n:Nat) (w:Aj):Al Dp 32 #[.agg #[(x:Int),(y:Int)],(n:Int)] w (Gz (.bool (decide (x<n)&&decide (n<y))) w):=by
 have H:=(Bx.start w).new #[(x:Int),(y:Int)] 56 rfl;obtain⟨R,hR⟩:=ey ((decide (x<n)&&decide (n<y)));rw[hR];have HR:=Ah hR;clear hR;go_in;go_upto_region 1 with fail;generalize w.alloc _=W at H⊢;obtain⟨N,ct⟩:=Tw w.heap.size;rw[<-ct.out]at H⊢;clear ct;obtain⟨⟨a0,a1⟩,_⟩:=Hm (H.b 0);by_cases h1:x<n
 ·have q1:(x:Int)<(n:Int):=Gv;by_cases h2:n<y
  ·have q2:(n:Int)<(y:Int):=Gv;have HF:Hid (R=true):=Ah (by rw[<-HR.out,Ld h1,Ld h2];rfl);go_wp2;go_ret;exact⟨by rw[HF.out];rfl,H.below⟩
  ·have q2:¬(n:Int)<(y:Int):=Gv;have HF:Hid (R=false):=Ah (by rw[<-HR.out,Me h2];simp);go_wp2;go_ret;exact⟨by rw[HF.out];rfl,H.below⟩
 ·have q1:¬(x:Int)<(n:Int):=Gv;have HF:Hid (R=false):=Ah (by rw[<-HR.out,Me h1];rfl);go_wp2;go_ret;exact⟨by rw[HF.out];rfl,H.below⟩
def dS (f:Nat->Option Nat) (L:Nat) (hN:Nc f L) (hL1:1<=L) (hL:L<=64) (fA lA:Option Cj) (nf fc nl lc:Nat) (w:Aj) (hB:BAt w f L fA lA nf fc nl lc):
  Al Dp 27 #[.agg #[L,Ad fA nf fc,Ad lA nl lc]] w (Gz (Aa Ab 0) w):=by
 have RC:nf<=64:=by have h1:=hB.hf;have h2:=Pe f L;omega
 have ky:nl<=64:=by have h1:=hB.hl;have h2:=Tf f L;omega
 have CM:Hid (nl+2*nf=L):=Ah (by
  have h1:=(pT hN).2;rw[Aw1 f L _ (Am _),<-hB.hf,<-hB.hl]at h1;exact h1)
 have ir:=Ah hB;have DZ:=Ah hN;clear hB hN;have H:=(Bx.start w).new #[L,Ad fA nf fc,Ad lA nl lc] 40 rfl;go_in;go_upto_region 1 with fail;generalize w.alloc _=W at H⊢;obtain⟨N,ct⟩:=Tw w.heap.size;rw[<-ct.out]at H⊢;obtain⟨⟨a0,a1,a2⟩,_⟩:=Hg (H.b 0);have p0:¬(L:Int)<1:=Gv;have p1:¬(L:Int)>256:=Gv;go_wp2_with fail;refine(uT f L DZ.out hL fA lA nf fc nl lc _ (ir.out.below H.below)).mono ?_;rintro e w2 ⟨rfl,hb⟩;have H2:=H.call hb;clear a0 a1 a2 hb H p0 p1;obtain⟨⟨a0,a1,a2⟩,_⟩:=Hg (H2.b 0);go_wp2_with fail;refine(Va lA nl lc (Uu (Hs f L)) _ ir.out.al (ir.out.rl.below H2.below) (Bl6 _) Gv).mono ?_;rintro e w3 ⟨v,rfl,aa,hb⟩;obtain⟨B,c,rfl,K1,jb⟩:=Hy aa;have H3:=H2.call hb;obtain⟨M,hM⟩:=ez w2.heap.size;rw[<-hM]at aa;have lg:M<=w3.heap.size:=by rw[hM];exact hb.size
 have LK:N<M:=by rw[hM];exact H2.lt 0 rfl
 have p':w.heap.size<=M:=by rw[hM];exact H2.below.size
 clear a0 a1 a2 hb H2 hM;have HO:=Ah aa;clear aa;obtain⟨⟨a0,a1,a2⟩,_⟩:=Hg (H3.b 0);go_wp2_with fail;have PP:=Ah H3;have e0:Uu (Hs f L)=iBV (Rw f L 0):=by rw[lS];simp[Ki]
 rw[e0]at HO
 have jt:Hid (∀(X1:Array Ak) (t1:Ck),∀x∈[(N,X1,t1)],x.1<M):=Ah (by
  intro X1 t1 x hx;simp only[Bk,Dv,or_false]at hx;subst hx;exact LK)
 have uz:=Ah p';obtain⟨i0,ep,dp,ap,bw⟩:=info_parts Nq;have fx:=Ah ep;have uj:=Ah dp;have pj:=Ah ap;have ki:=Ah bw;clear ep dp ap bw a0 a1 a2 H3 e0
 go_loopw [3,29] (λs3 Z0 wr=>∃(j m c:Nat) (B:Option Cj),Z0= Aa Ab j/\s3= Ad B m c/\j<=nf/\Hid (m=nl+2*j)/\M<=wr.heap.size/\Hid (wr.ownsRow M 3 1 (Ad B m c) m (iBV (Rw f L j)))/\Hid (Bx w [(N,#[Aa Ab L,Ad fA nf fc,Ad lA nl lc],40)] wr)) (λ_ Z0 _=>nf-(intOf Z0).toNat)
 case atStart=>exact⟨0,nl,c,B,rfl,rfl,Gv,Ah Gv,lg,HO,PP⟩
 obtain⟨j,m,c,B,rfl,rfl,hj,HMJ,kx,HO,HH⟩:=hrel;clear PP lg;have H1:=HH.out;by_cases ac:j<nf
 ·have q0:(j:Int)<(nf:Int):=Gv;have me:j<(Hd f L).length:=oHx ir.out.hf;obtain⟨b,o,rfl,cj,p0,p1⟩:=Rf (ir.out.rf.below H1.below) me;obtain⟨x,hx⟩:=ey ((Hd f L)[j].1);obtain⟨y,hy⟩:=ey ((Hd f L)[j].2);rw[hx]at p0;rw[hy]at p1
  have HE:Hid (iBV (Rw f L j)++[Aa Ab (x:Int),Aa Ab (y:Int)]=iBV (Rw f L (j+1))):=Ah (by
   rw[lS,lS,List.append_assoc,Bc me,Sy,hx,hy];rfl)
  clear hx hy;obtain⟨v',w7,hr,ak,hg⟩:=Hw (P:=Dp) (wr.alloc (.cells #[x,y] 56)) M 38 38 3 i0 _ 1 8 Dl fx.out uj.out pj.out ki.out rfl Gv (Ad B m c) m (iBV (Rw f L j)) (HO.out.alloc _) (Af ⟨wr.heap.size,0,Ae⟩) 2 2 [Aa Ab x,Aa Ab y] (by simp[Do]) (Qh _ 2 1 rfl rfl) Gy (oHx HMJ.out) Gv Hv;have dc:Below M wr w7:=((Ag M wr).alloc kx _).grown hg Hv (λq hq=>(HO.out.lt q hq).1);obtain⟨A',c',rfl,KA,JP⟩:=Hy ak;rw[HE.out]at ak;have ex:=Ah (H1.keepM (jt.out _ _) uz.out dc);have JB:Hid (M<=w7.heap.size):=Ah (Bt kx dc.size);have HR:=Ah hr;have HO7:=Ah ak;clear hr ak hg dc H1
  as_aux_lemma=>
  go_wp2_with (at_builtin;refine As _ rfl _ _ _ _ rfl _ _ rfl rfl _ _ HR.out ?_);go_wp2
  go_roundw
  case rel=>exact⟨j+1,m+2,c',A',by go_num,rfl,Gv,Ah (by rw[HMJ.out];omega),JB.out,HO7,ex⟩
  case measure=>simp[intOf];omega
 ·obtain rfl:j=nf:=Gv;obtain rfl:m=L:=by have h1:=HMJ.out;have h2:=CM.out;omega
  have q0:¬(j:Int)<(j:Int):=Gv;rw[ir.out.hf]at HO;obtain⟨xs,wu⟩:=ez (Rw f m (Hd f m).length);rw[<-wu]at HO;have k_:Hid xs.Nodup:=Ah (wu▸(pT DZ.out).1);clear wu ac HMJ fx uj pj ki;go_wp2_with fail;refine(Al6 _ HO.out kx Gv).mono ?_;rintro e w4 ⟨rfl,aa,hb⟩;have H4:=H1.keepM (jt.out _ _) uz.out hb;have uk:=Bt kx hb.size;have WI:=Ah aa;obtain⟨A2,c2,e2,sq,qo,hc2m⟩:=Mi aa;obtain⟨rfl,rfl⟩:B=A2/\c=c2:=by simpa using e2
  clear hb aa H1 HO kx HH;go_wp2_with fail;refine(Va B m c (iBV (srt xs)) _ sq (Rd.of_own WI.out) (Bw9 _) Gv).mono ?_;rintro e w5 ⟨v5,rfl,vj,db⟩;obtain⟨B5,c5,rfl,hn5,hm5⟩:=Hy vj;have H5:=H4.call db;go_wp2_with fail;refine(kY _ vj db.size Gv (Am0 k_.out)).mono ?_;rintro e w6 ⟨⟨B6,c6,rfl⟩,bc⟩;have H6:=H5.keepM (M:=w4.heap.size) (λx hx=>Br (jt.out _ _ x hx) uk) (Bt uz.out uk) bc;clear db bc vj H5 H4 WI uk hn5 hm5 sq qo hc2m q0 hj k_;obtain⟨⟨a0,a1,a2⟩,_⟩:=Hg (H6.b 0);have qj:=Ah H6;have q1:¬(m:Int)<(m:Int):=Gv;clear H6;go_wp2_with fail;clear a0 a1 a2 q1
  go_loopw [54] (λPI wr=>∃a:Nat,PI= Aa Ab a/\a<=j/\Hid (Bx w [(N,#[Aa Ab m,Ad fA j fc,Ad lA nl lc],40)] wr)) (λPI _=>j-(intOf PI).toNat)
  case atStart=>exact⟨0,rfl,Gv,qj⟩
  obtain⟨a,rfl,haj,HH⟩:=hrel;clear qj;have H1:=HH.out;by_cases ac:a<j
  ·have q0:(a:Int)<(j:Int):=Gv;have it:a<(Hd f m).length:=oHx ir.out.hf;obtain⟨b,o,rfl,cj,p0,p1⟩:=Rf (ir.out.rf.below H1.below) it;have xq:=Ku.1 (Ay it);obtain⟨x,hx⟩:=ey ((Hd f m)[a].1);obtain⟨y,hy⟩:=ey ((Hd f m)[a].2);rw[hx]at p0 xq;rw[hy]at p1 xq;have kr:=Ah xq;obtain⟨⟨a0,a1,a2⟩,_⟩:=Hg (H1.b 0);have H2:=H1.new #[x,y] 56 rfl;clear hx hy xq;go_upto_region 17 with fail;generalize wr.alloc _=W2 at H2⊢;generalize wr.heap.size=Q at H2⊢;clear a0 a1 a2 p0 p1 H1 q0 cj;obtain⟨⟨a0,a1,a2⟩,_⟩:=Hg (H2.b 0);have xa:=Ah H2;clear H2;go_wp2_with fail;clear a0 a1 a2
   go_loopw [61] (λPJ wx=>∃d:Nat,PJ= Aa Ab d/\d<=j/\Hid (Bx w [(N,#[Aa Ab m,Ad (Af ⟨b,o,Ae⟩) j fc,Ad lA nl lc],40),(Q,#[Aa Ab x,Aa Ab y],56)] wx)) (λPJ _=>j-(intOf PJ).toNat)
   case atStart=>exact⟨0,rfl,Gv,xa⟩
   obtain⟨d,rfl,hdj,HH⟩:=hrel;clear xa;have H1:=HH.out;by_cases fw:d<j
   ·have q0:(d:Int)<(j:Int):=Gv;have hdl:d<(Hd f m).length:=oHx ir.out.hf;obtain⟨b2,o2,eb,cj,p0,p1⟩:=Rf (ir.out.rf.below H1.below) hdl;obtain⟨rfl,rfl⟩:b=b2/\o=o2:=by simpa using eb
    have xq:=Ku.1 (Ay hdl);obtain⟨u,hu⟩:=ey ((Hd f m)[d].1);obtain⟨v,hv⟩:=ey ((Hd f m)[d].2);rw[hu]at p0 xq;rw[hv]at p1 xq;have PO:Hid (x<u->u<y->v<y):=Ah λh1 h2=>DZ.out.cross x y u v kr.out.2.1 xq.2.1 kr.out.2.2 xq.2.2 h1 h2;have H2:=H1.new #[u,v] 56 rfl;clear hu hv xq eb;go_upto_region 20 with fail;generalize wr.alloc _=W3 at H2⊢;generalize wr.heap.size=R at H2⊢;clear p0 p1 H1 q0 cj;obtain⟨⟨b0,b1⟩,_⟩:=Hm (H2.b 1);obtain⟨⟨c0,c1⟩,_⟩:=Hm (H2.b 2);go_wp2_with fail;refine(gT x y u _).mono ?_;rintro e w8 ⟨rfl,hb⟩;have H3:=H2.call hb;clear b0 b1 c0 c1 hb H2;obtain⟨⟨b0,b1⟩,_⟩:=Hm (H3.b 1);obtain⟨⟨c0,c1⟩,_⟩:=Hm (H3.b 2);obtain⟨R1,DB⟩:=ey ((decide (x<u)&&decide (u<y)));rw[DB]
    cases R1 with
    |true=>
     have hxu:x<u/\u<y:=by simpa using DB
     have q3:¬(v:Int)>(y:Int):=oHx (PO.out hxu.1 hxu.2);clear DB hxu;go_wp2
     go_roundw
     case rel=>exact⟨d+1,by go_num,Gv,Ah (H3.upto 2)⟩
     case measure=>simp[intOf];omega
    |false=>
     clear DB;go_wp2
     go_roundw
     case rel=>exact⟨d+1,by go_num,Gv,Ah (H3.upto 2)⟩
     case measure=>simp[intOf];omega
   ·have q0:¬(d:Int)<(j:Int):=Gv;have BC:=Ah (H1.upto 1);clear H1 HH;go_wp2
    go_roundw
    case rel=>exact⟨a+1,by go_num,Gv,BC⟩
    case measure=>simp[intOf];omega
  ·have q0:¬(a:Int)<(j:Int):=Gv;go_wp2;go_ret;exact⟨rfl,H1.below⟩
def yK (A:Option Cj) (n c:Nat) (w:Aj) (h:n<=c) (EJ:c<=maxLen):
  Al Dp 36 #[Ad A n c] w (Gz (Ad A n n) w):=by
 unfold maxLen at EJ;go_in
 go_wp2
 go_ret;exact⟨rfl,Ag _ _⟩
def Ar9 (A:Option Cj) (n c:Nat) (xs:List Ak) (w:Aj) (hA:AOk A n c) (h:Rd w A 2 n xs) (h1:∀u∈xs,u.oneCell'=true) (hn:n<=1000000):
  Al Dp 28 #[Ad A n c] w (Nt 56 2 n xs w):=by
 rcases hA with⟨rfl,rfl,rfl⟩|⟨b,o,rfl⟩
 ·have hx:xs=[]:=by have:=h.1;simpa using this
  subst hx;clear hn h h1;have heq:=Ig Ae 0 0 Tryz.underlying37;go_in;go_wp2;go_ret;exact⟨_,rfl,⟨rfl,.inl ⟨rfl,rfl⟩⟩,Ag _ _⟩
 ·obtain⟨i0,hi,hz,hs,hb⟩:=info_parts lT;have aa:(w.alloc (.cells #[] 56)).ownsRow w.heap.size 56 2 (Ad (Af ⟨w.heap.size,0,Ae⟩) 0 0) 0 []:=Pu (Am _) (Ca w _) (Am _) (by simp[maxLen]) rfl;obtain⟨v',w',hr,h2,h3⟩:=Hw (P:=Dp) (w.alloc (.cells #[] 56)) w.heap.size 37 37 56 i0 _ 2 16 Tryz.underlying37 hi hz hs hb rfl He _ 0 [] aa (Af ⟨b,o,Ae⟩) n c xs h1 (h.alloc _) (λh=>by cases h) Gv He Gy;rw[Bu,Eu]at h2;have de:Below w.heap.size w w':=((Ag _ _).alloc (Am _) _).grown h3 Gy (λk hk=>by simp[Dx]at hk;omega);clear aa h3 hi hz hs hb h1 h hn;have heq:=Ig (Af ⟨b,o,Ae⟩) n c Tryz.underlying37;go_in;go_wp2_with (at_builtin;refine As _ rfl _ _ _ _ rfl _ _ rfl rfl _ _ hr ?_);go_ret;exact⟨v',rfl,h2,de⟩
def wV (x y a b P:Nat) (w:Aj) (hP:w.cell? ⟨P,0,Ae⟩=Af (Aa Ab (a:Int))) (vd:w.cell? ⟨P,1,Ae⟩=Af (Aa Ab (b:Int))):
  Al Dp 31 #[.agg #[(x:Int),(y:Int)],.pointer (Af ⟨P,0,Ae⟩)] w (Gz (.bool (decide (x<a)&&decide (a<y))) w):=by
 have H:=(Bx.start w).new #[(x:Int),(y:Int)] 56 rfl;go_in;go_upto_region 1 with fail;have p0:=Gw H.below hP;have p1:=Gw H.below vd;generalize w.alloc _=W at H p0 p1⊢;obtain⟨N,ct⟩:=Tw w.heap.size;rw[<-ct.out]at H⊢;clear ct hP vd;obtain⟨⟨a0,a1⟩,_⟩:=Hm (H.b 0);go_wp2_with fail;refine(gT x y a _).mono ?_;rintro e w2 ⟨rfl,hb⟩;go_wp2;go_ret;exact⟨rfl,(H.call hb).below⟩
def Al1 (A:Option Cj) (l:List (Nat×Nat)) (n c a b P:Nat) (w:Aj) (hn:n=l.length) (h:Rd w A 2 n (Ki l)) (hl:n<=1000) (hP:w.cell? ⟨P,0,Ae⟩=Af (Aa Ab (a:Int))) (vd:w.cell? ⟨P,1,Ae⟩=Af (Aa Ab (b:Int))):
  Al Dp 83 #[Ad A n c,.func (.func 31) #[] #[.pointer (Af ⟨P,0,Ae⟩)]] w λe w'=>(∃r:Int,e= .returned (Aa Ab r)/\(inF l a=decide (0<=r)))/\Below w.heap.size w w':=by
 have dt:=Ah h;have HN:=Ah hn;clear h hn;go_in;go_wp2
 go_loopw [5,8] (λ_ i wr=>∃k:Nat,k<=n/\i= Aa Ab k/\Below w.heap.size w wr/\Hid (∀j (hj:j<l.length),j<k->¬(l[j].1<a/\a<l[j].2))) (λ_ i _=>n-(intOf i).toNat)
 case atStart=>exact⟨0,Gv,rfl,Ag _ _,Ah λj _ hj=>absurd hj Gv⟩
 obtain⟨k,hk,rfl,hb,HK⟩:=hrel;by_cases ac:k<n
 ·have be:k<l.length:=oHx HN.out;obtain⟨bb,o,rfl,cj,c0,c1⟩:=Rf (dt.out.below hb) be;have q1:(k:Int)<(n:Int):=Gv;have hPr:=Gw hb hP;have hPr1:=Gw hb vd;obtain⟨x,hx⟩:=ey (l[k].1);obtain⟨y,hy⟩:=ey (l[k].2);have kr:=Ah (Cn hx hy);rw[hx]at c0;rw[hy]at c1;have HC:=Ah (wV x y a b P wr hPr hPr1);clear hx hy;go_wp2_with fail;refine HC.out.mono ?_;rintro e w2 ⟨rfl,aj⟩;have bh:=Up hb aj;obtain⟨R1,DB⟩:=ey ((decide (x<a)&&decide (a<y)));rw[DB]
  cases R1 with
  |true=>
   have HA:Hid (inF l a=true):=Ah (by
    unfold inF;rw[Ew];exact⟨l[k],Ay _,by rw[kr.out.1,kr.out.2];exact DB⟩)
   clear DB;go_wp2;go_ret;exact⟨⟨k,rfl,by rw[HA.out];simp⟩,bh⟩
  |false=>
   have js:=Ah (λj (hj:j<l.length) (h:j<k+1)=>show¬(l[j].1<a/\a<l[j].2)by
    by_cases lu:j=k
    ·subst lu;rw[kr.out.1,kr.out.2];simpa using DB
    ·exact HK.out j hj Gv)
   clear DB;go_wp2;exact⟨⟨k+1,Gv,by go_num,bh,js⟩,by simp[intOf];omega⟩
 ·have q1:¬(k:Int)<(n:Int):=Gv
  have HA:Hid (inF l a=false):=Ah (by
   rw[iY];intro x hx;obtain⟨j,hj,rfl⟩:=Be.1 hx;exact HK.out j hj (oHx HN.out))
  go_wp2;go_ret;exact⟨⟨-1,rfl,by rw[HA.out];rfl⟩,hb⟩
def Al0 (A:Option Cj) (l:List (Nat×Nat)) (n c a b P:Nat) (w:Aj) (hn:n=l.length) (h:Rd w A 2 n (Ki l)) (hl:n<=1000) (hP:w.cell? ⟨P,0,Ae⟩=Af (Aa Ab (a:Int))) (vd:w.cell? ⟨P,1,Ae⟩=Af (Aa Ab (b:Int))):
  Al Dp 30 #[Ad A n c,.func (.func 31) #[] #[.pointer (Af ⟨P,0,Ae⟩)]] w (Gz (.bool (inF l a)) w):=by
 have HC:=Ah (Al1 A l n c a b P w hn h hl hP vd);generalize inF l a=R at HC⊢;clear hn h hl hP vd;go_in;go_wp2_with fail;refine HC.out.mono ?_;rintro e w2 ⟨⟨r,rfl,hr⟩,hb⟩;go_wp2;go_ret;exact⟨by rw[hr];rfl,hb⟩
def lfN (L:List Nat) (x:Nat):Nat:=((L.length:Int)-1-Kh L x).toNat
def zZ (L:List Nat) (x:Nat): -1<=Kh L x/\Kh L x<(L.length:Int):=by
 unfold Kh
 split
 ·rename_i i h;have h1:=(List.findIdx?_eq_some_iff_getElem.1 h).1;omega
 ·omega
def zJ (L:List Nat) (x:Nat):(L.length:Int)-1-Kh L x=(lfN L x:Int)/\lfN L x<=L.length:=by
 have h:=zZ L x;unfold lfN;omega
def By3 {L:List Nat} (hn:L.Nodup) (hj:j<L.length) (h:L[L.length-1-j]? =Af x):lfN L x=j:=by
 have hk:L.length-1-j<L.length:=Gv;rw[Aw hk]at h;injection h with h
 have:=mK (l:=L) hk h λk be ac e=>by
  rw[<-h]at e;have:=(List.getElem_inj hn).1 e;omega
 unfold lfN;rw[this];omega
def An9 (a b:Nat) (L:List Nat) (f:Nat->Option Nat):Prop:=∀i,i<L.length->∃y,L[L.length-1-i]? =Af y/\
 (((nbI (a:Int) (b:Int) (y:Int) 0).2≠0/\f i=Ae)∨∃x:Nat,nbI (a:Int) (b:Int) (y:Int) 0=((x:Int),0)/\f i=Af (lfN L x))
def bR.to {L:List Nat} (h:bR a b L f) (hn:L.Nodup):An9 a b L f:=λi hi=>by
 obtain⟨y,hy,h1|⟨j,x,hj,hf,eh,hx⟩⟩:=h i hi
 ·exact⟨y,hy,.inl h1⟩
 ·exact⟨y,hy,.inr ⟨x,eh,by rw[By3 hn hj hx];exact hf⟩⟩
def Vk {base n sz:Nat} {xs:List Ak} (h:w.ownsRow base e sz v n xs) (hb:Below w.heap.size w w'):w'.ownsRow base e sz v n xs:=
 ⟨h.1,h.2.imp id λ⟨g,cap,cur,r1,r2,r3,r⟩=>⟨g,cap,cur,r1,r2,(hb.block g (Au.1 r3).1).trans r3,r⟩⟩
def Aw0 (L:List Nat) (A:Option Cj) (n c P x:Nat) (w:Aj) (hP:w.cell? ⟨P,0,Ae⟩=Af (Ad A n c)) (hn:n=L.length) (h:Rd w A 1 n (Ih L)) (hl:n<=1000):
  Al Dp 75 #[(x:Nat),.pointer (Af ⟨P,0,Ae⟩)] w (Gz (Aa Ab (lfN L x:Nat)) w):=by
 have hlf:=zJ L x;have dh:=zZ L x;rw[<-hn]at hlf dh;have e1:=Cb ((n:Int)-1) Gv;have DX:=Zz w (λw' hb=>iZ A L n c x w' hn (h.below hb) Gv);obtain⟨p,hp⟩:=ey (Kh L x);obtain⟨r,hr⟩:=ey (lfN L x);rw[hp]at hlf dh DX;rw[hr]at hlf⊢;have e2:Ab.wrap ((n:Int)-1-p)=(r:Int):=by rw[Cb _ Gv];exact hlf.1
 obtain⟨S,an,HSO⟩:=Og λW'=>W'.cell? ⟨P,0,Ae⟩=Af (Ad A n c);have ag:Hid (∀W',Below w.heap.size w W'->S W'):=Ah λW' h=>by subst an;exact Gw h hP
 clear an hP hn h hl hlf dh hp hr;go_in;go_upto_region 1 with fail;refine Ao (S:=S) Gx (ag.out _ (Ag _ _).drew) (λhS=>?_);have hb:Below w.heap.size w w.drew:=(Ag _ _).drew;generalize w.drew=X0 at hb hS⊢;refine Hk 0 1 2 3 ?_;refine Ke 4 ?_;refine rdy 5 (λK hK=>?_);go_simp;refine(DX.out _ hb).mono ?_;rintro e X1 ⟨rfl,ad⟩;have hb:=Up hb ad;refine hK.o (ag.out _ hb) (λhS=>?_);clear hK K ad;refine Ql 6 7 ?_;refine An Gx ?_ _;go_wp2;go_ret;exact⟨rfl,hb⟩
def Si {sz n g j:Nat} {xs:List Ak} (h:Rd w A sz n xs) (hg:∀q,A=Af q->q.block≠g):Rd (w.setCell ⟨g,j,Ae⟩ v) A sz n xs:=
 ⟨h.1,λh0=>by
  obtain⟨b,o,e,hb,hc⟩:=h.2 h0;refine⟨b,o,e,by simpa using hb,λi u hi=>?_⟩;rw[World.cell?_setCell_other _ _ _ _ (by intro e2;exact hg _ e (congrArg Addr.block e2).symm)];exact hc i u hi⟩
def An8 (m:Nat) (fA lA:Option Cj):Prop:=(∀q,fA=Af q->m<=q.block)/\∀q,lA=Af q->m<=q.block
def BAt.set {nf fc nl lc m g j:Nat} (h:BAt w f L fA lA nf fc nl lc) (hn:An8 m fA lA) (hg:g<m):BAt (w.setCell ⟨g,j,Ae⟩ v) f L fA lA nf fc nl lc:=
 ⟨h.hf,h.hl,Si h.rf λq hq=>by have:=hn.1 q hq;omega,Si h.rl λq hq=>by have:=hn.2 q hq;omega,h.af,h.al,h.cf,h.cl⟩
def Bf5 (f:Nat->Option Nat) (n:Nat) (w:Aj) (e:Ending) (w':Aj):Prop:=∃fA lA nf nl,e= .returned (.agg #[(n:Nat),Ad fA nf nf,Ad lA nl nl])/\BAt w' f n fA lA nf nf nl nl/\An8 w.heap.size fA lA/\Below w.heap.size w w'
def Aq2 (a b:Nat) (L:List Nat) (f:Nat->Option Nat) (hs:okS a b=true) (hF:An9 a b L f) (A:Option Cj) (n c:Nat) (hn:n=L.length) (hl:n<=64) (w:Aj) (h:Rd w A 1 n (Ih L)) (hQ:Qf w):
  Al Dp 26 #[.agg #[(a:Nat),(b:Nat)],Ad A n c] w (Bf5 f n w):=by
 have HF:=Ah hF;have dt:=Ah h;have HN:=Ah hn;have JD:=Ah (λ(y:Nat) (w':Aj) (hb:Below w.heap.size w w')=>Jj a b y 0 w' hs He (hQ.below hb).qt);have H:=(((Bx.start w).new #[(a:Nat),(b:Nat)] 25 rfl).new #[Ad A n c] 38 (N:=w.heap.size+1) Gy).new #[Aa Ab 0,Ad Ae 0 0,Ad Ae 0 0] 40 (N:=w.heap.size+1+1) Gy;clear hs hF h hn hQ;go_in;go_upto_region 1 with fail;obtain⟨N,ct⟩:=Tw w.heap.size;rw[<-ct.out]at H⊢;generalize ((w.alloc _).alloc _).alloc _=W at H⊢;obtain⟨N1,JL⟩:=ey (N+1);rw[JL]at H⊢;generalize N1+1=N2 at H⊢;clear JL;obtain⟨b0,-⟩:=Lx (H.b 1);obtain⟨N3,QG⟩:=ey W.heap.size;have H2:=H.new #[(n:Nat),Ad Ae 0 0,Ad Ae 0 0] 40 QG;go_upto_region 2 with fail
 try rw[QG]
 generalize W.alloc _=W2 at H2⊢;clear QG H b0;obtain⟨M,hM⟩:=ey W2.heap.size;obtain⟨i0,ep,dp,ap,bw⟩:=info_parts Nq;have fx:=Ah ep;have uj:=Ah dp;have pj:=Ah ap;have ki:=Ah bw;obtain⟨j0,hj0,V2,qv,vu⟩:=info_parts lT;have KX:=Ah hj0;have Z':=Ah V2;have HJZ1:=Ah qv;have HJZ2:=Ah vu;have uz:Hid (w.heap.size<=M):=Ah (hM▸H2.below.size);have ME:Hid (N<M/\N1<M/\N2<M/\N3<M):=Ah (hM▸⟨H2.lt 0 rfl,H2.lt 1 rfl,H2.lt 2 rfl,H2.lt 3 rfl⟩)
 have jt:Hid (∀(X1 X2 X3 X4:Array Ak) (t1 t2 t3 t4:Ck),∀x∈[(N,X1,t1),(N1,X2,t2),(N2,X3,t3),(N3,X4,t4)],x.1<M):=Ah (by
  obtain⟨h1,h2,h3,h4⟩:=ME.out;intro X1 X2 X3 X4 t1 t2 t3 t4 x hx;simp only[Bk,Dv,or_false]at hx;rcases hx with rfl|rfl|rfl|rfl<;>(dsimp only;omega))
 have HLF:=Ah (λ(x:Nat) (w':Aj) (hP:w'.cell? ⟨N1,0,Ae⟩=Af (Ad A n c)) (hb:Below w.heap.size w w')=>Aw0 L A n c N1 x w' hP HN.out (dt.out.below hb) Gv);have wa:Hid (W2.ownsRow M 56 2 (Ad Ae 0 0) 0 (Ki (Hd f 0))/\W2.ownsRow M 3 1 (Ad Ae 0 0) 0 (Uu (Hs f 0))/\Bx w [(N,#[Aa Ab (a:Nat),Aa Ab (b:Nat)],25),(N1,#[Ad A n c],38),(N2,#[Aa Ab 0,Ad Ae 0 0,Ad Ae 0 0],40),(N3,#[Aa Ab (n:Nat),Ad Ae 0 0,Ad Ae 0 0],40)] W2):=Ah ⟨⟨rfl,.inl ⟨rfl,rfl⟩⟩,⟨rfl,.inl ⟨rfl,rfl⟩⟩,H2⟩;have kx:M<=W2.heap.size:=Nat.le_of_eq hM.symm;obtain⟨b0,-⟩:=Lx (H2.b 1);clear ep dp ap bw hj0 V2 qv vu hM H2;go_wp2_with fail;clear b0
 go_loopw [17] (λs17 wx=>∃(j nf fc nl lc:Nat) (fA lA:Option Cj),s17= Aa Ab j/\j<=n/\M<=wx.heap.size/\Hid (nf=(Hd f j).length/\nl=(Hs f j).length)/\Hid (wx.ownsRow M 56 2 (Ad fA nf fc) nf (Ki (Hd f j))/\wx.ownsRow M 3 1 (Ad lA nl lc) nl (Uu (Hs f j))/\Bx w [(N,#[Aa Ab (a:Nat),Aa Ab (b:Nat)],25),(N1,#[Ad A n c],38),(N2,#[Aa Ab 0,Ad Ae 0 0,Ad Ae 0 0],40),(N3,#[Aa Ab (n:Nat),Ad fA nf fc,Ad lA nl lc],40)] wx)) (λs17 _=>n-(intOf s17).toNat)
 case atStart=>exact⟨0,0,0,0,0,Ae,Ae,rfl,Gv,kx,Ah ⟨rfl,rfl⟩,wa⟩
 obtain⟨j,nf,fc,nl,lc,fA,lA,rfl,DF,hMx,PS,HB⟩:=hrel;clear wa kx;have H:=HB.out.2.2;obtain⟨a0,a1⟩:=(Hm (H.b 0)).1;obtain⟨b0,-⟩:=Lx (H.b 1);by_cases ac:j<n
 ·have q0:(j:Int)<(n:Int):=Gv;have fh:=Ah ac;have hjL:j<L.length:=oHx HN.out;obtain⟨y,hy,hc⟩:=HF.out j hjL;obtain⟨p,hp⟩:=ey (L.length-1-j);have hpL:p<L.length:=Gv;rw[hp,Aw hpL]at hy;injection hy with hy;obtain⟨bb,o,rfl,cj,c0⟩:=Rp (dt.out.below H.below) p hpL;rw[hy]at c0;have e1:=Cb ((n:Int)-1) Gv
  have e2:Ab.wrap ((n:Int)-1-(j:Int))=(p:Int):=by
   have:=HN.out;rw[Cb _ Gv];omega
  have e3:(p:Int)<(n:Int):=oHx HN.out;have HNBy:=Ah (JD.out y);have HC:=Ah hc;clear hy hp hpL hc cj hjL;go_wp2_with fail;refine(HNBy.out _ H.below).mono ?_;rintro ee w3 ⟨rfl,hb⟩;have H3:=H.call hb;have sh:=Ah (Cn (Vk HB.out.1 hb) (Vk HB.out.2.1 hb));have lg:M<=w3.heap.size:=Bt hMx hb.size;obtain⟨nb,eh⟩:=ey (nbI (a:Int) (b:Int) (y:Int) 0);rw[eh]at HC⊢;obtain⟨xi,ei⟩:=nb;clear H a0 a1 b0 c0 e1 e2 e3 hb eh HNBy hMx HB;unfold fD;dsimp only;rcases HC.out with⟨hne,hf⟩|⟨x,hx,hf⟩
  ·have q1:(ei != 0)=true:=by simpa using hne
   obtain⟨e1,e2⟩:=lV hf;have Z8:=Ah e1;have KU:=Ah e2;obtain⟨c0,c1,c2⟩:=(Hg (H3.b 3)).1;obtain⟨z0,z1,z2⟩:=(Hg (H3.b 3)).2;have ky:nl<=64:=by have h1:=PS.out.2;have h2:=Tf f j;omega
   obtain⟨v',w7,hr,ak,hg⟩:=Hw (P:=Dp) (w3.alloc (.cells #[j] 3)) M 38 38 3 i0 _ 1 8 Dl fx.out uj.out pj.out ki.out rfl Gv (Ad lA nl lc) nl (Uu (Hs f j)) (sh.out.2.alloc _) (Af ⟨w3.heap.size,0,Ae⟩) 1 1 [Aa Ab j] (by simp[Do]) (Qh _ 1 1 rfl rfl) Gy Gv Gv Hv;have dc:Below M w3 w7:=((Ag M w3).alloc lg _).grown hg Hv (λq hq=>(sh.out.2.lt q hq).1);have Q7:=sh.out.1.alloc (.cells #[j] 3);have hof7:=Vl Q7 hg (Wk Q7 (sh.out.2.alloc (.cells #[j] 3)) He);obtain⟨A',c',rfl,KA,JP⟩:=Hy ak;rw[show Uu (Hs f j)++[Value.int .i64 (j:Int)]=Uu (Hs f (j+1))by rw[Z8.out,Ah1];rfl]at ak;have H7:=H3.keepM (jt.out _ _ _ _ _ _ _ _) uz.out dc;have HR:=Ah hr;obtain⟨c0',c1',l_⟩:=(Hg (H7.b 3)).1;obtain⟨z0',z1',z2'⟩:=(Hg (H7.b 3)).2;have H8:=H7.set 3 2 rfl (Ad A' (nl+1) c');dsimp only[Cg,Ch]at H8;have IC:=ME.out.2.2.2;have HO8:=Ml ak IC 2 (Ad A' (nl+1) c');have yu:=Ml hof7 IC 2 (Ad A' (nl+1) c');have HM8:Hid (M<=(w7.setCell ⟨N3,2,Ae⟩ (Ad A' (nl+1) c')).heap.size):=Ah (by have:=dc.size;simp;omega);rw[show Hd f j=Hd f (j+1)from KU.out.symm]at yu;have HH8:=Ah (Cn yu (Cn HO8 H8));have JE:Hid (nf=(Hd f (j+1)).length/\nl+1=(Hs f (j+1)).length):=Ah ⟨by rw[KU.out];exact PS.out.1,by rw[Z8.out,Bh,<-PS.out.2];rfl⟩;clear hr ak hg dc hof7 Q7 H7 H8 HO8 yu hne hf e1 e2 HC H3 sh ky
   as_aux_lemma=>
   go_wp2_with (at_builtin;refine As _ rfl _ _ _ _ rfl _ _ rfl rfl _ _ HR.out ?_);go_wp2
   go_roundw
   case rel=>exact⟨j+1,nf,fc,nl+1,c',fA,A',by go_num,fh.out,HM8.out,JE,HH8⟩
   case measure=>simp[intOf];omega
  ·injection hx with VL VM;subst VL VM;obtain⟨r,hr⟩:=ey (lfN L x);have WC:=Ah (HLF.out x);rw[hr]at hf WC;have e1:=lW hf;have hrn:r<=n:=by rw[<-hr,HN.out];exact(zJ L x).2
   obtain⟨b0,-⟩:=Lx (H3.b 1);clear hr HC;go_wp2_with fail;refine(WC.out _ b0 H3.below).mono ?_;rintro ee w5 ⟨rfl,hb⟩;have H5:=H3.call hb;have yr:=Ah (Cn (Vk sh.out.1 hb) (Vk sh.out.2 hb));have td:M<=w5.heap.size:=Bt lg hb.size;clear b0 hb H3 sh lg;by_cases hjr:j<r
   ·have q2:(r:Int)>(j:Int):=Gv;have e2:=tX hf hjr;have Z8:=Ah e1;have KU:=Ah e2;have RC:nf<=64:=by have h1:=PS.out.1;have h2:=Pe f j;omega
    have JE:Hid (nf+1=(Hd f (j+1)).length/\nl=(Hs f (j+1)).length):=Ah ⟨by rw[KU.out,Bh,<-PS.out.1];rfl,by rw[Z8.out];exact PS.out.2⟩;obtain⟨S,an,HSO⟩:=Og λW'=>W'.cell? ⟨N1,0,Ae⟩=Af (Ad (Af ⟨bb,o,Ae⟩) n c);have qc:Hid (∀W' cs,Bx w [(N,#[Aa Ab (a:Nat),Aa Ab (b:Nat)],25),(N1,#[Ad (Af ⟨bb,o,Ae⟩) n c],38),(N2,#[Aa Ab 0,Ad Ae 0 0,Ad Ae 0 0],40),(N3,cs,40)] W'->S W'):=Ah λW' cs h=>by subst an;exact(Lx (h.b 1)).1
    clear an hf e1 e2 hrn;go_upto_region 11 with fail;refine Ao (S:=S) Gx (qc.out _ _ H5.drew) (λhS=>?_);have H6:=H5.drew;have CF:Hid (w5.drew.ownsRow M 56 2 (Ad fA nf fc) nf (Ki (Hd f j))/\w5.drew.ownsRow M 3 1 (Ad lA nl lc) nl (Uu (Hs f j))):=yr;have ul:M<=w5.drew.heap.size:=td;clear yr td H5;generalize w5.drew=X0 at hS H6 CF ul⊢;refine Hk 0 2 3 4 ?_;refine Ap (rs:=[1,5]) Gx Gy (Aq rfl (λK hK=>?_) (Aq rfl (λK hK=>?_) Ar))
    ·obtain⟨c0,c1,c2⟩:=(Hg (H6.b 3)).1;go_simp;refine hK.o hS (λhS=>?_);clear hK K c0 c1 c2;refine rdy 5 (λK hK=>?_);go_simp;refine(WC.out _ (Lx (H6.b 1)).1 H6.below).mono ?_;rintro ee X1 ⟨rfl,ad⟩;have H7:=H6.call ad;have ex:=Ah (Cn (Vk CF.out.1 ad) (Vk CF.out.2 ad));have CY:M<=X1.heap.size:=Bt ul ad.size;refine hK.o (qc.out _ _ H7) (λhS=>?_);clear hK K ad H6 CF ul;refine Ke 6 ?_;obtain⟨v',w7,hr,ak,hg⟩:=Hw (P:=Dp) (X1.alloc (.cells #[j,r] 56)) M 37 37 56 j0 _ 2 16 Tryz.underlying37 KX.out Z'.out HJZ1.out HJZ2.out rfl Gv (Ad fA nf fc) nf (Ki (Hd f j)) (ex.out.1.alloc _) (Af ⟨X1.heap.size,0,Ae⟩) 1 1 [Aa Ab j,Aa Ab r] (by simp[Do]) (Qh _ 1 2 rfl rfl) Gy Gv Gv Hv;have dc:Below M X1 w7:=((Ag M X1).alloc CY _).grown hg Hv (λq hq=>(ex.out.1.lt q hq).1);have FM:=ex.out.2.alloc (.cells #[j,r] 56);have OM:=Vl FM hg (Wk FM (ex.out.1.alloc (.cells #[j,r] 56)) He);obtain⟨A',c',rfl,KA,JP⟩:=Hy ak;rw[show Ki (Hd f j)++[Value.int .i64 (j:Int),Aa Ab (r:Int)]=Ki (Hd f (j+1))by rw[KU.out,Sy];rfl]at ak;have HSa:=Ah (qc.out _ _ (H7.other (.cells #[j,r] 56)));have e1:=(Hg (H7.b 3)).1.2.1;have e1a:=(Hg ((H7.other (.cells #[j,r] 56)).b 3)).1.2.1;have H8:=H7.keepM (jt.out _ _ _ _ _ _ _ _) uz.out dc;have HR:=Ah hr;obtain⟨z0,z1,z2⟩:=(Hg (H8.b 3)).2;obtain⟨c0,c1,c2⟩:=(Hg (H8.b 3)).1;have H9:=H8.set 3 1 rfl (Ad A' (nf+1) c');dsimp only[Cg,Ch]at H9;have IC:=ME.out.2.2.2;have j8:=Ml OM IC 1 (Ad A' (nf+1) c');have IV:=Ml ak IC 1 (Ad A' (nf+1) c');have HM9:Hid (M<=(w7.setCell ⟨N3,1,Ae⟩ (Ad A' (nf+1) c')).heap.size):=Ah (by have:=dc.size;simp;omega);rw[show Hs f j=Hs f (j+1)from Z8.out.symm]at j8;have pz:=Ah (qc.out _ _ H8);have ui:=Ah (qc.out _ _ H9)
     have GD:=Ah (Cn IV (Cn j8 H9));clear hr ak hg dc OM FM j8 IV H7 ex H8 H9;refine rdy 7 (λK hK=>?_);go_simp;refine hK.o HSa.out (λhS=>?_);clear hK K e1 e1a;refine rdy 8 (λK hK=>?_);refine Zs (by simp[Dz,yielded]) (.tmp 50) (.tmp 56) 37 rfl _ _ Qo Qo _ _ HR.out ?_;refine hK.o pz.out (λhS=>?_);clear hK K;refine Ke 9 ?_;refine rdy 10 (λK hK=>?_);go_simp;refine hK.o ui.out (λhS=>?_);clear hK K;refine An Gx ?_ _;go_wp2
     go_roundw
     case rel=>exact⟨j+1,nf+1,c',nl,lc,A',lA,by go_num,fh.out,HM9.out,JE,GD⟩
     case measure=>simp[intOf];omega
    ·go_simp;refine(WC.out _ (Lx (H6.b 1)).1 H6.below).mono ?_;rintro ee X1 ⟨rfl,ad⟩;have H7:=H6.call ad;have ex:=Ah (Cn (Vk CF.out.1 ad) (Vk CF.out.2 ad));have CY:M<=X1.heap.size:=Bt ul ad.size;refine hK.o (qc.out _ _ H7) (λhS=>?_);clear hK K ad H6 CF ul;refine Ke 6 ?_;obtain⟨v',w7,hr,ak,hg⟩:=Hw (P:=Dp) (X1.alloc (.cells #[j,r] 56)) M 37 37 56 j0 _ 2 16 Tryz.underlying37 KX.out Z'.out HJZ1.out HJZ2.out rfl Gv (Ad fA nf fc) nf (Ki (Hd f j)) (ex.out.1.alloc _) (Af ⟨X1.heap.size,0,Ae⟩) 1 1 [Aa Ab j,Aa Ab r] (by simp[Do]) (Qh _ 1 2 rfl rfl) Gy Gv Gv Hv;have dc:Below M X1 w7:=((Ag M X1).alloc CY _).grown hg Hv (λq hq=>(ex.out.1.lt q hq).1);have FM:=ex.out.2.alloc (.cells #[j,r] 56);have OM:=Vl FM hg (Wk FM (ex.out.1.alloc (.cells #[j,r] 56)) He);obtain⟨A',c',rfl,KA,JP⟩:=Hy ak;rw[show Ki (Hd f j)++[Value.int .i64 (j:Int),Aa Ab (r:Int)]=Ki (Hd f (j+1))by rw[KU.out,Sy];rfl]at ak;have HSa:=Ah (qc.out _ _ (H7.other (.cells #[j,r] 56)));have e1:=(Hg (H7.b 3)).1.2.1;have e1a:=(Hg ((H7.other (.cells #[j,r] 56)).b 3)).1.2.1;have H8:=H7.keepM (jt.out _ _ _ _ _ _ _ _) uz.out dc;have HR:=Ah hr;obtain⟨z0,z1,z2⟩:=(Hg (H8.b 3)).2;obtain⟨c0,c1,c2⟩:=(Hg (H8.b 3)).1;have H9:=H8.set 3 1 rfl (Ad A' (nf+1) c');dsimp only[Cg,Ch]at H9;have IC:=ME.out.2.2.2;have j8:=Ml OM IC 1 (Ad A' (nf+1) c');have IV:=Ml ak IC 1 (Ad A' (nf+1) c');have HM9:Hid (M<=(w7.setCell ⟨N3,1,Ae⟩ (Ad A' (nf+1) c')).heap.size):=Ah (by have:=dc.size;simp;omega);rw[show Hs f j=Hs f (j+1)from Z8.out.symm]at j8;have pz:=Ah (qc.out _ _ H8);have ui:=Ah (qc.out _ _ H9);have GD:=Ah (Cn IV (Cn j8 H9));clear hr ak hg dc OM FM j8 IV H7 ex H8 H9
     refine Ap (rs:=[1,7]) Gx Gy (Aq rfl (λK hK=>?_) (Aq rfl (λK hK=>?_) Ar));go_simp;refine hK.o hS (λhS=>?_);clear hK K e1 e1a;refine rdy 7 (λK hK=>?_);go_simp;refine hK.o HSa.out (λhS=>?_);clear hK K;rotate_left;go_simp;refine hK.o HSa.out (λhS=>?_);clear hK K;refine rdy 1 (λK hK=>?_);go_simp;refine hK.o HSa.out (λhS=>?_);clear hK K e1 e1a
     all_goals
      refine rdy 8 (λK hK=>?_);refine Zs (by simp[Dz,yielded]) (.tmp 50) (.tmp 56) 37 rfl _ _ Qo Qo _ _ HR.out ?_;refine hK.o pz.out (λhS=>?_);clear hK K;refine Ke 9 ?_;refine rdy 10 (λK hK=>?_);go_simp;refine hK.o ui.out (λhS=>?_);clear hK K;refine An Gx ?_ _;go_wp2
      go_roundw
      case rel=>exact⟨j+1,nf+1,c',nl,lc,A',lA,by go_num,fh.out,HM9.out,JE,GD⟩
      case measure=>simp[intOf];omega
   ·have q2:¬(r:Int)>(j:Int):=Gv;have e2:=tW hf hjr;have JE:Hid (nf=(Hd f (j+1)).length/\nl=(Hs f (j+1)).length):=Ah ⟨by rw[e2];exact PS.out.1,by rw[e1];exact PS.out.2⟩;have tr:=yr.out;rw[<-e1,<-e2]at tr;have HH8:=Ah (Cn tr.1 (Cn tr.2 H5));clear tr e1 e2 hf H5 yr hrn
    as_aux_lemma=>
    go_wp2
    go_roundw
    case rel=>exact⟨j+1,nf,fc,nl,lc,fA,lA,by go_num,fh.out,td,JE,HH8⟩
    case measure=>simp[intOf];omega
 ·obtain rfl:j=n:=Gv;have q0:¬(j:Int)<(j:Int):=Gv;obtain⟨A1,k1,f1,f2,f3⟩:=Mi HB.out.1;obtain⟨A2,k2,l1,l2,l3⟩:=Mi HB.out.2.1;obtain⟨rfl,rfl⟩:fA=A1/\fc=k1:=by simpa using f1
  obtain⟨rfl,rfl⟩:lA=A2/\lc=k2:=by simpa using l1
  obtain⟨S,an,HSO⟩:=Og λW'=>W'.cell? ⟨N3,0,Ae⟩=Af (Aa Ab (j:Int))/\W'.cell? ⟨N3,1,Ae⟩=Af (Ad fA nf fc)/\W'.cell? ⟨N3,2,Ae⟩=Af (Ad lA nl lc);have qc:Hid (∀W' cs,Bx w [(N,#[Aa Ab (a:Nat),Aa Ab (b:Nat)],25),(N1,#[Ad A j c],38),(N2,cs,40),(N3,#[Aa Ab (j:Nat),Ad fA nf fc,Ad lA nl lc],40)] W'->S W'):=Ah λW' cs h=>by subst an;exact(Hg (h.b 3)).1
  have PN:=Zz wr (λW' hb (v0 v1 v2:Ak)=>show BAt (((W'.setCell ⟨N2,0,Ae⟩ v0).setCell ⟨N2,1,Ae⟩ v1).setCell ⟨N2,2,Ae⟩ v2) f j fA lA nf nf nl nl from⟨PS.out.1,PS.out.2,Rd.of_own (Ml (Ml (Ml (Vk HB.out.1 hb) ME.out.2.2.1 0 v0) ME.out.2.2.1 1 v1) ME.out.2.2.1 2 v2),Rd.of_own (Ml (Ml (Ml (Vk HB.out.2.1 hb) ME.out.2.2.1 0 v0) ME.out.2.2.1 1 v1) ME.out.2.2.1 2 v2),f2.clip,l2.clip,⟨Am _,Bt f3.1 f3.2⟩,⟨Am _,Bt l3.1 l3.2⟩⟩);have KQ:Hid (An8 w.heap.size fA lA):=Ah ⟨λq hq=>by have:=(HB.out.1.lt q.block (by rw[hq];rfl)).1;have:=uz.out;omega,λq hq=>by have:=(HB.out.2.1.lt q.block (by rw[hq];rfl)).1;have:=uz.out;omega⟩;have KS:=Ah (λ(w':Aj)=>yK fA nf fc w' f3.1 f3.2);have IT:=Ah (λ(w':Aj)=>Yn lA nl lc w' l3.1 l3.2);clear f1 f2 f3 l1 l2 l3 an a0 a1 b0 HB;go_upto_region 13 with fail;refine Ao (S:=S) Gx (qc.out _ _ H.drew) (λhS=>?_);have hb:Below wr.heap.size wr wr.drew:=(Ag _ _).drew;have H5:=H.drew;clear H;generalize wr.drew=X0 at hS H5 hb⊢;refine Hk 0 1 2 3 ?_;refine Ql 5 6 ?_;refine rdy 4 (λK hK=>?_);go_simp;refine(KS.out _).mono ?_;rintro ee X1 ⟨rfl,ad⟩;have H6:=H5.call ad;have hb:=Up hb ad;refine hK.o (qc.out _ _ H6) (λhS=>?_);clear hK K ad H5;refine rdy 7 (λK hK=>?_);go_simp;refine(IT.out _).mono ?_;rintro ee X2 ⟨rfl,ad⟩;have H7:=H6.call ad;have hb:=Up hb ad;refine hK.o (qc.out _ _ H7) (λhS=>?_);clear hK K ad H6;refine Ke 8 ?_;obtain⟨d0,d1,d2⟩:=(Hg (H7.b 2)).1;obtain⟨z0,z1,z2⟩:=(Hg (H7.b 2)).2;have H9:=((H7.set 2 0 rfl (Aa Ab (j:Nat))).set 2 1 rfl (Ad fA nf nf)).set 2 2 rfl (Ad lA nl nl);dsimp only[Cg,Ch]at H9;have tg:wr.heap.size<=X2.heap.size:=hb.size;refine rdy 9 (λK hK=>?_);go_simp;refine hK.o (qc.out _ _ H9) (λhS=>?_);clear hK K
  refine An Gx ?_ _;go_wp2_with fail;exact Ai (Lv rfl rfl (H9.range 2 rfl) Tryz.underlying40 rfl Gx) rfl ⟨fA,lA,nf,nl,rfl,PN.out _ hb _ _ _,KQ.out,H9.below⟩
def Bv5 (x y:Int) (k q u c P:Nat) (A:Option Cj) (w:Aj) (hP:w.cell? ⟨P,0,Ae⟩=Af (Aa Ac (q:Nat))):
  Al Dp 25 #[.agg #[x,y,Aa Ac (k:Nat),Ad A u c],.pointer (Af ⟨P,0,Ae⟩)] w (Gz (.bool (decide (k=q))) w):=by
 have H:=(Bx.start w).new #[x,y,Aa Ac (k:Nat),Ad A u c] 92 rfl;have hp:=Gw ((Ag _ w).alloc (Am _) (.cells #[x,y,Aa Ac (k:Nat),Ad A u c] 92)) hP;by_cases e:k=q
 ·subst e;go_in;go_upto_region 1 with fail;generalize w.alloc _=W at H hp⊢;obtain⟨⟨a0,a1,a2,a3⟩,-⟩:=Jh (H.b 0);go_wp2;go_ret;exact⟨Gy,H.below⟩
 ·have q1:¬(k:Int)=(q:Int):=Gv;have hd:decide (k=q)=false:=Me e;rw[hd];clear hd e;go_in;go_upto_region 1 with fail;generalize w.alloc _=W at H hp⊢;obtain⟨⟨a0,a1,a2,a3⟩,-⟩:=Jh (H.b 0);go_wp2;go_ret;exact⟨by simp[q1],H.below⟩
def Bk8 (A:Option Cj) (l:List Stk) (n c q P k:Nat) (w:Aj) (hn:n=l.length) (h:Ib w A l) (hl:n<=1000) (hP:w.cell? ⟨P,0,Ae⟩=Af (Aa Ac (q:Nat))) (hk:k<l.length) (h1:l[k].c.q=q) (h2:∀j (hj:j<l.length),j<k->l[j].c.q≠q):
  Al Dp 24 #[Ad A n c,.func (.func 25) #[] #[.pointer (Af ⟨P,0,Ae⟩)]] w (Gz (Aa Ab (k:Nat)) w):=by
 have HS:=Ah h;have HN:=Ah hn;have H1:=Ah h1;have H2:=Ah h2;have HP:=Zz w (λw' hb=>Gw hb hP);have HK:=Ah hk;clear h hn h1 h2 hP;go_in;go_wp2
 go_loopw [5,8] (λ_ i wr=>∃j:Nat,j<=k/\i= Aa Ab j/\Below w.heap.size w wr) (λ_ i _=>n-(intOf i).toNat)
 case atStart=>exact⟨0,Gm _,rfl,Ag _ _⟩
 obtain⟨j,lu,rfl,hb⟩:=hrel;have me:j<l.length:=oHx HK.out;obtain⟨bb,o,A',c',rfl,cj,⟨d0,d1,d2,d3⟩,-,-,-,-⟩:=(HS.out.below hb).get j me;have q1:(j:Int)<(n:Int):=oHx HN.out;have hE:j<k->l[j].c.q≠q:=λh=>H2.out j me h;have XG:j=k->l[j].c.q=q:=λh=>by subst h;exact H1.out
 obtain⟨⟨⟨x,y,z⟩,ids⟩,hr⟩:∃z,l[j]=z:=⟨_,rfl⟩;rw[hr]at d0 d1 d2 d3 hE XG;dsimp only at d0 d1 d2 d3 hE XG;obtain⟨u,hu⟩:=ey ids.length;rw[hu]at d3;have HQ:=Zz w (λw' hb=>Bv5 x y z q u c' P A' w' (HP.out _ hb));have HE:=Ah hE;have KU:=Ah XG;clear hr hu hE XG me cj;go_wp2_with fail;refine(HQ.out _ hb).mono ?_;rintro e w2 ⟨rfl,aj⟩;have bh:=Up hb aj;by_cases ac:j<k
 ·rw[Me (HE.out ac)];have fh:=Ah ac;have QT:j<n:=by have h1:=HN.out;have h2:=HK.out;omega
  clear d0 d1 d2 d3 hb aj ac;go_wp2;exact⟨⟨j+1,fh.out,by go_num,bh⟩,by simp[intOf];omega⟩
 ·obtain rfl:j=k:=Gv;rw[Ld (KU.out rfl)];clear d0 d1 d2 d3 hb aj ac;go_wp2;go_ret;exact⟨rfl,bh⟩
def Uv (f:Nat->Option Nat) (n:Nat) (w:Aj) (e:Ending) (w':Aj):Prop:=∃fA lA nf nl,e= .returned (.tuple #[.agg #[(n:Nat),Ad fA nf nf,Ad lA nl nl],Aa Ab 0])/\BAt w' f n fA lA nf nf nl nl/\An8 w.heap.size fA lA/\Below w.heap.size w w'
def Ac5 (a b:Nat) (s:St) (m:List Mv) (ls:List Nat) (hO:iK a b s m ls) (q:Nat) (hq:q<4) (f:Nat->Option Nat) (L:List Nat) (k:Nat) (hk:k<s.l.length) (h1:s.l[k].c.q=q) (h2:∀j (hj:j<s.l.length),j<k->s.l[j].c.q≠q) (hL:s.l[k].ls=L) (n:Nat) (hn:n=L.length) (hF:An9 a b L f) (hlen:n<=64)
  (pA:Option Cj) (pc:Nat) (A:Option Cj) (cc:Nat) (w:Aj) (hA:AOk pA s.cr.length pc) (fi:Rd w pA 3 s.cr.length (crs s.cr)) (bo:Ib w A s.l) (hQ:Qf w) (hT:Tn w):
  Al Dp 7 #[.agg #[Aa Ab s.a,Aa Ab s.b,Ad pA s.cr.length pc,Aa Ac s.root.t,Aa Ab s.root.x,Aa Ab s.root.y,Ad A s.l.length cc],Aa Ac (q:Nat)] w (Uv f n w):=by
 have hs:=hO.gs;have h4:=hO.four;have fd:s.a=(a:Int)/\s.b=(b:Int):=⟨hO.sa,hO.sb⟩
 have dw:okS (a:Int) (b:Int)=true:=by
  have:=hs.pat.sheet
  rwa [fd.1,fd.2]at this
 have pw:=Zz w (λw' hb=>Wl a b s m ls hO pA pc A cc w' hA (fi.below hb) (bo.below hb) (hQ.below hb) (hT.below hb));have DX:=Zz w (λw' hb (P:Nat) (hP:w'.cell? ⟨P,0,Ae⟩=Af (Aa Ac (q:Nat)))=>Bk8 A s.l s.l.length cc q P k w' rfl (bo.below hb) Gv hP hk h1 h2);have HBI:=Ah (λ(A':Option Cj) (c':Nat) (w':Aj) (hb:Below w.heap.size w w') (h:Rd w' A' 1 n (Ih L))=>Aq2 a b L f dw hF A' n c' hn hlen w' h (hQ.below hb))
 have FZ:Hid (∀(w':Aj),Below w.heap.size w w'->∃b o A' c',A=Af ⟨b,o,Ae⟩/\b<w'.heap.size/\w'.cell? ⟨b,o+k*4+3,Ae⟩=Af (Ad A' n c')/\Rd w' A' 1 n (Ih L)):=Ah λw' hb=>by
  obtain⟨b,o,A',c',e1,e2,⟨-,-,-,e3⟩,-,-,-,e4⟩:=(bo.below hb).get k hk;rw[hL]at e3 e4;rw[hn];exact⟨b,o,A',c',e1,e2,e3,e4⟩
 have hk4:k<4:=Gv;obtain⟨SN,EP⟩:=ey s.l.length;have I3:SN=4:=by rw[<-EP];exact h4
 subst I3;rw[EP]at pw DX⊢;obtain⟨sa,sb,cr,⟨rt,rx,ry⟩,sl⟩:=s;dsimp only at pw DX fd⊢;obtain⟨rfl,rfl⟩:=fd;obtain⟨pn,vm⟩:=ey cr.length;rw[vm]at pw⊢;unfold kK at pw;have H:=(((Bx.start w).new #[a,b,Ad pA pn pc,Aa Ac rt,rx,ry,Ad A 4 cc] 33 rfl).new #[Aa Ac (q:Nat)] 5 (N:=w.heap.size+1) Gy).new #[Aa Ab 0,Ad Ae 0 0,Ad Ae 0 0] 40 (N:=w.heap.size+1+1) Gy;have q3:¬(q:Int)>3:=Gv;have q4:(k:Int)<4:=Gv;clear hO hs fi bo hQ hT h4 EP vm hA h1 h2 hL hF dw hk hn hq hk4;go_in;go_upto_region 1 with fail;obtain⟨N,ct⟩:=Tw w.heap.size;rw[<-ct.out]at H⊢;generalize ((w.alloc _).alloc _).alloc _=W at H⊢;obtain⟨N1,JL⟩:=ey (N+1);rw[JL]at H⊢;generalize N1+1=N2 at H⊢;clear JL;obtain⟨a0,a1,a2,a3,a4,a5,a6⟩:=Kg (H.b 0);go_wp2_with fail;refine(pw.out _ H.below).mono ?_;rintro ee w2 ⟨hb,VQ,vw,rfl,-⟩;have H2:=H.call hb;clear a0 a1 a2 a3 a4 a5 a6 hb pw H;obtain⟨a0,a1,a2,a3,a4,a5,a6⟩:=Kg (H2.b 0);obtain⟨b0,-⟩:=Lx (H2.b 1);go_wp2_with fail;refine(DX.out _ H2.below N1 b0).mono ?_;rintro ee w3 ⟨rfl,hb⟩;have H3:=H2.call hb;clear a0 a1 a2 a3 a4 a5 a6 b0 hb DX H2;obtain⟨VT,so,A',c',rfl,qu,c3,ba⟩:=FZ.out _ H3.below;obtain⟨S,an,HSO⟩:=Og λW'=>W'.cell? ⟨N,0,Ae⟩=Af (Aa Ab (a:Nat))/\W'.cell? ⟨N,1,Ae⟩=Af (Aa Ab (b:Nat))/\W'.cell? ⟨N,6,Ae⟩=Af (Ad (Af ⟨VT,so,Ae⟩) 4 cc)/\W'.cell? ⟨VT,so+k*4+3,Ae⟩=Af (Ad A' n c');have hHS:=FZ.out
 have R9:VT≠N2:=by
  obtain⟨b9,o9,A9,c9,e9,h9,-⟩:=FZ.out w (Ag _ _);obtain⟨rfl,rfl⟩:VT=b9/\so=o9:=by simpa using e9
  have:=H3.lo 2 _ _ _ rfl;omega
 have qc:Hid (∀W' cs,Bx w [(N,#[Aa Ab a,Aa Ab b,Ad pA pn pc,Aa Ac rt,Aa Ab rx,Aa Ab ry,Ad (Af ⟨VT,so,Ae⟩) 4 cc],33),(N1,#[Aa Ac (q:Nat)],5),(N2,cs,40)] W'->W'.cell? ⟨VT,so+k*4+3,Ae⟩=Af (Ad A' n c')->S W'):=Ah λW' cs h hc=>by
  subst an;obtain⟨a0,a1,-,-,-,-,a6⟩:=Kg (h.b 0);exact⟨a0,a1,a6,hc⟩
 have HBI2:=Zz w3 (λw' hb=>HBI.out A' c' w' (Up H3.below hb) (ba.below hb));have ZQ:=Zz w3 (λw' hb=>Gw hb c3);clear an hHS qu c3 ba FZ HBI;go_upto_region 7 with fail;have hb:Below w3.heap.size w3 w3.drew:=(Ag _ _).drew;refine Ao (S:=S) Gx (qc.out _ _ H3.drew (ZQ.out _ hb)) (λhS=>?_);have H4:=H3.drew;clear H3;generalize w3.drew=X0 at hS H4 hb⊢;refine Hk 0 1 2 3 ?_;refine Hk 4 5 6 7 ?_;refine Ke 8 ?_;refine rdy 9 (λK hK=>?_);go_simp;refine(HBI2.out _ hb).mono ?_;rintro ee X1 ⟨fA,lA,nf,nl,rfl,BJ,hBN,ad⟩;have H5:=H4.call ad;have z_:=H4.lt 2 rfl;have EN:=H5.lo 2 _ _ _ rfl;have hBA6:=Ah (Cn (((BJ.set hBN z_ (j:=0) (v:= Aa Ab (n:Nat))).set hBN z_ (j:=1) (v:= Ad fA nf nf)).set hBN z_ (j:=2) (v:= Ad lA nl nl)) (show An8 w.heap.size fA lA from⟨λq hq=>by have:=hBN.1 q hq;omega,λq hq=>by have:=hBN.2 q hq;omega⟩));have hb:=Up hb ad;refine hK.o (qc.out _ _ H5 (ZQ.out _ hb)) (λhS=>?_);clear hK K ad H4;obtain⟨d0,d1,d2⟩:=(Hg (H5.b 2)).1;obtain⟨z0,z1,z2⟩:=(Hg (H5.b 2)).2;have H6:=((H5.set 2 0 rfl (Aa Ab (n:Nat))).set 2 1 rfl (Ad fA nf nf)).set 2 2 rfl (Ad lA nl nl)
 try dsimp only[Cg,Ch]at H6
 have I_:((((X1.setCell ⟨N2,0,Ae⟩ (Aa Ab (n:Nat))).setCell ⟨N2,1,Ae⟩ (Ad fA nf nf)).setCell ⟨N2,2,Ae⟩ (Ad lA nl nl))).cell? ⟨VT,so+k*4+3,Ae⟩=Af (Ad A' n c'):=by
  rw[World.cell?_setCell_other _ _ _ _ (by intro e;exact R9 (congrArg Addr.block e).symm),World.cell?_setCell_other _ _ _ _ (by intro e;exact R9 (congrArg Addr.block e).symm),World.cell?_setCell_other _ _ _ _ (by intro e;exact R9 (congrArg Addr.block e).symm)];exact ZQ.out _ hb
 refine rdy 10 (λK hK=>?_);go_simp;refine hK.o (qc.out _ _ H6 I_) (λhS=>?_);clear hK K;refine Ke 11 ?_;refine An Gx ?_ _;go_wp2_with fail;exact Ai (Hj rfl rfl (H6.range 2 rfl) Tryz.underlying40 rfl Gx) rfl ⟨fA,lA,nf,nl,rfl,hBA6.out.1,hBA6.out.2,H6.below⟩
def cC (cnt:Nat->Nat) (k:Nat):List Ak:=(Ds 4).map λi=> Aa Ab ((if i<k then cnt i else 0:Nat):Int)
def Bv8 (cnt:Nat->Nat) (k:Nat):(cC cnt k).toArray.setIfInBounds k (Aa Ab (cnt k:Nat))=(cC cnt (k+1)).toArray:=by
 unfold cC;apply Array.ext
 ·simp
 ·intro i h1 h2;simp only[Array.size_setIfInBounds,Fq,Bp,Cp]at h1;rw[Ct (by simpa using h1)];simp only[Cf,Ge,Dj];by_cases e:k=i
  ·subst e;rw[Hc rfl,Hc (show k<k+1 by omega)]
  ·rw[Ha e];by_cases ac:i<k
   ·rw[Hc ac,Hc (show i<k+1 by omega)]
   ·rw[Ha ac,Ha (show¬i<k+1 by omega)]
def Bv7 (cnt:Nat->Nat):(cC cnt 4).toArray= #[Aa Ab (cnt 0:Nat),Aa Ab (cnt 1:Nat),Aa Ab (cnt 2:Nat),Aa Ab (cnt 3:Nat)]:=rfl
def Bh7 (cnt:Nat->Nat):(cC cnt 0).toArray= #[Aa Ab 0,Aa Ab 0,Aa Ab 0,Aa Ab 0]:=rfl
def tG (a b:Int) (pA:Option Cj) (pn pc rt:Nat) (rx ry:Int) (A:Option Cj) (ln cc n:Nat) (f:Nat->Nat->Option Nat) (w:Aj)
  (HB:∀(q:Nat) (w':Aj),q<4->Below w.heap.size w w'->Al Dp 7 #[.agg #[a,b,Ad pA pn pc,Aa Ac (rt:Nat),rx,ry,Ad A ln cc],Aa Ac (q:Nat)] w' (Uv (f q) n w')):
  Al Dp 19 #[.agg #[a,b,Ad pA pn pc,Aa Ac (rt:Nat),rx,ry,Ad A ln cc]] w (Gz (.tuple #[.agg #[Aa Ab ((Hd (f 0) n).length:Nat),Aa Ab ((Hd (f 1) n).length:Nat),Aa Ab ((Hd (f 2) n).length:Nat),Aa Ab ((Hd (f 3) n).length:Nat)],Aa Ab 0]) w):=by
 obtain⟨cnt,ji⟩:∃cnt:Nat->Nat,∀q,(Hd (f q) n).length=cnt q:=⟨_,λ_=>rfl⟩;rw[ji,ji,ji,ji];have wg:=Ah HB;have DS:=Ah ji;have H:=((Bx.start w).new #[a,b,Ad pA pn pc,Aa Ac (rt:Nat),rx,ry,Ad A ln cc] 33 rfl).new #[Aa Ab 0,Aa Ab 0,Aa Ab 0,Aa Ab 0] 77 (N:=w.heap.size+1) Gy;clear HB ji;go_in;go_upto_region 1 with fail;obtain⟨N,ct⟩:=Tw w.heap.size;rw[<-ct.out]at H⊢;generalize (w.alloc _).alloc _=W at H⊢;generalize N+1=N1 at H⊢;obtain⟨N2,tg⟩:=ey W.heap.size;have H2:=H.new #[Aa Ab 0,Aa Ab 0,Aa Ab 0,Aa Ab 0] 77 tg;go_upto_region 2 with fail
 try rw[tg]
 generalize W.alloc _=W2 at H2⊢;clear tg H;have wa:Hid (Bx w [(N,#[Aa Ab a,Aa Ab b,Ad pA pn pc,Aa Ac (rt:Nat),Aa Ab rx,Aa Ab ry,Ad A ln cc],33),(N1,#[Aa Ab 0,Aa Ab 0,Aa Ab 0,Aa Ab 0],77),(N2,(cC cnt 0).toArray,77)] W2):=Ah (by rw[Bh7];exact H2);clear H2;go_wp2
 go_loopw [8] (λs8 wr=>∃k:Nat,k<=4/\s8= Aa Ab k/\Hid (Bx w [(N,#[Aa Ab a,Aa Ab b,Ad pA pn pc,Aa Ac (rt:Nat),Aa Ab rx,Aa Ab ry,Ad A ln cc],33),(N1,#[Aa Ab 0,Aa Ab 0,Aa Ab 0,Aa Ab 0],77),(N2,(cC cnt k).toArray,77)] wr)) (λs8 _=>4-(intOf s8).toNat)
 case atStart=>exact⟨0,Gm _,rfl,wa⟩
 obtain⟨k,hk,rfl,HX⟩:=hrel;clear wa;have H:=HX.out;by_cases ac:k<4
 ·have q0:(k:Int)<4:=Gv;have fh:=Ah ac;have e1:IntKind.u8.wrap (k:Int)=(k:Int):=IntWalk.u8_in _ Gv;obtain⟨a0,a1,a2,a3,a4,a5,a6⟩:=Kg (H.b 0);clear HX ac;go_wp2_with fail;refine(wg.out k _ fh.out H.below).mono ?_;rintro ee w3 ⟨fA,lA,nf,nl,rfl,BJ,-,hb⟩;obtain⟨Q,hQ⟩:=ey w3.heap.size;have H3:=(H.call hb).new #[(n:Nat),Ad fA nf nf,Ad lA nl nl] 40 hQ;have RC:nf=cnt k:=by rw[BJ.hf];exact DS.out k
  subst RC;clear a0 a1 a2 a3 a4 a5 a6 hb H BJ e1;go_upto_region 6 with fail
  try rw[hQ]
  generalize w3.alloc _=W4 at H3⊢;clear hQ;obtain⟨⟨b0,b1,b2⟩,-⟩:=Hg (H3.b 3);have hg:=H3.b 2;have z0:=Tm hg k
  have y0:W4.cell? ⟨N2,k,Ae⟩=Af (Aa Ab 0):=by
   rw[Bz _ _ k _ _ _ hg];unfold cC;have:=fh.out;simp[this]
  have H5:=H3.set 2 k rfl (Aa Ab (cnt k:Nat));rw[Bv8]at H5;have KW:=Ah (H5.upto 3);clear H3 hg H5;go_wp2
  go_roundw
  case rel=>exact⟨k+1,fh.out,by go_num,KW⟩
  case measure=>simp[intOf];have:=fh.out;omega
 ·obtain rfl:k=4:=Gv;rw[Bv7]at H;obtain⟨b0,b1,b2,b3⟩:=(Jh (H.b 2)).1;obtain⟨d0,d1,d2,d3⟩:=(Jh (H.b 1)).1;obtain⟨z0,z1,z2,z3⟩:=(Jh (H.b 1)).2;have H9:=(((H.set 1 0 rfl (Aa Ab (cnt 0:Nat))).set 1 1 rfl (Aa Ab (cnt 1:Nat))).set 1 2 rfl (Aa Ab (cnt 2:Nat))).set 1 3 rfl (Aa Ab (cnt 3:Nat))
  try dsimp only[Cg,Ch]at H9
  clear H HX;go_wp2_with fail;exact Ai (Hj rfl rfl (H9.range 1 rfl) Tryz.underlying77 rfl Gx) rfl ⟨rfl,H9.below⟩
def sN (m:Nat) (A:Option Cj) (rs:List Ip):Prop:=(∀q,A=Af q->m<=q.block)/\∀r∈rs,∀q,r.A=Af q->m<=q.block
def Ja.set {m g j:Nat} (h:Ja w A rs) (hn:sN m A rs) (hg:g<m):Ja (w.setCell ⟨g,j,Ae⟩ v) A rs:=
 ⟨Si h.rd λq hq=>by have:=hn.1 q hq;omega,h.nil,λr hr=>⟨Si (h.row r hr).rd λq hq=>by have:=hn.2 r hr q hq;omega,(h.row r hr).nil⟩⟩
def sN.le (h:sN m A rs) (hm:m'<=m):sN m' A rs:=⟨λq hq=>Bt hm (h.1 q hq),λr hr q hq=>Bt hm (h.2 r hr q hq)⟩
def kys (rs:List Ip) (i:Nat):List Int:=(rs.getD i ⟨Ae,0,[]⟩).ks
def Av8 (hi:i<rs.length):kys rs i=rs[i].ks:=by
 unfold kys;rw[Dt,Aw hi];rfl
def upd (ps:Nat->Nat) (y r:Nat):Nat->Nat:=λi=>if i=y then r else ps i
def Rh (rs:List Ip) (ps:Nat->Nat) (y:Nat):List Ak:=(Ds rs.length).map λi=>if i<y then Ad (Af ⟨ps i,0,Ae⟩) (kys rs i).length (kys rs i).length else Ad Ae 0 0
def uH (rs:List Ip) (ps:Nat->Nat):(Rh rs ps 0).toArray=En rs.length (Ad Ae 0 0):=by
 rw[<-Gj]
 congr 1
 unfold Rh;apply Gk
 ·simp
 ·intro i h1 h2;simp
def Af0:(Rh rs ps y).toArray.setIfInBounds y (Ad (Af ⟨r,0,Ae⟩) (kys rs y).length (kys rs y).length)=(Rh rs (upd ps y r) (y+1)).toArray:=by
 unfold Rh upd;apply Array.ext
 ·simp
 ·intro i h1 h2;simp only[Array.size_setIfInBounds,Fq,Bp,Cp]at h1;rw[Ct (by simpa using h1)];simp only[Cf,Ge,Dj];by_cases e:y=i
  ·subst e;rw[Hc rfl,Hc Gv,Hc rfl]
  ·rw[Ha e];by_cases ac:i<y
   ·rw[Hc ac,Hc Gv,Ha (λh=>e h.symm)]
   ·rw[Ha ac,Ha Gv]
def eS (hi:i<rs.length):(Rh rs ps y)[i]? =Af (if i<y then Ad (Af ⟨ps i,0,Ae⟩) (kys rs i).length (kys rs i).length else Ad Ae 0 0):=by
 unfold Rh;simp[hi]
def To (rs:List Ip) (φ:Int->Int) (ps:Nat->Nat) (y:Nat):List (Nat×Array Ak×Ck):=(Ds y).map λi=>(ps i,(Ir ((kys rs i).map φ)).toArray,3)
def jU (rs:List Ip) (φ:Int->Int) (ps:Nat->Nat) (y:Nat):(To rs φ ps y).length=y:=by simp[To]
def wN (rs:List Ip) (φ:Int->Int) (ps:Nat->Nat) (y r:Nat):To rs φ (upd ps y r) (y+1)=To rs φ ps y++[(r,(Ir ((kys rs y).map φ)).toArray,3)]:=by
 unfold To;rw[List.range_succ,Ez]
 congr 1
 ·apply List.map_congr_left;intro i hi;have hi:=Eb.1 hi;unfold upd;rw[Ha Gv]
 ·simp[upd]
def iF (φ:Int->Int) (ks:List Int) (x:Nat):List Ak:=(Ds ks.length).map λi=> Aa Ab (if i<x then φ (ks.getD i 0)else 0)
def Ak7 (φ:Int->Int) (ks:List Int):(iF φ ks 0).toArray=En ks.length (Aa Ab 0):=by
 rw[<-Gj]
 congr 1
 unfold iF;apply Gk
 ·simp
 ·intro i h1 h2;simp
def Ba9 (hx:x<ks.length):(iF φ ks x).toArray.setIfInBounds x (Aa Ab (φ ks[x]))=(iF φ ks (x+1)).toArray:=by
 unfold iF;apply Array.ext
 ·simp
 ·intro i h1 h2;simp only[Array.size_setIfInBounds,Fq,Bp,Cp]at h1;rw[Ct (by simpa using h1)];simp only[Cf,Ge,Dj];by_cases e:x=i
  ·subst e;rw[Hc rfl,Hc Gv,Dt,Aw hx];rfl
  ·rw[Ha e];by_cases ac:i<x
   ·rw[Hc ac,Hc Gv]
   ·rw[Ha ac,Ha Gv]
def Ba8 (φ:Int->Int) (ks:List Int):iF φ ks ks.length=Ir (ks.map φ):=by
 unfold iF Ir;apply Gk
 ·simp
 ·intro i h1 h2;simp only[Bp,Cp]at h1;simp[h1]
def mH (rs:List Ip) (φ:Int->Int) (ps:Nat->Nat):List Ip:=(Ds rs.length).map λi=>⟨Af ⟨ps i,0,Ae⟩,(kys rs i).length,(kys rs i).map φ⟩
def Bo2 (rs:List Ip) (φ:Int->Int) (ps:Nat->Nat):(mH rs φ ps).map (·.ks)=(rs.map (·.ks)).map (List.map φ):=by
 unfold mH;apply Gk
 ·simp
 ·intro i h1 h2;simp only[Bp,Cp]at h1;simp[Av8 h1]
def Ay6 (rs:List Ip) (φ:Int->Int) (ps:Nat->Nat):(mH rs φ ps).length=rs.length:=by simp[mH]
def kJ (φ:Int->Int) (rs:List Ip) (w:Aj) (e:Ending) (w':Aj):Prop:=∃(A:Option Cj) (rs':List Ip),e= .returned (Ad A rs.length rs.length)/\rs'.length=rs.length/\Ja w' A rs'/\rs'.map (·.ks)=(rs.map (·.ks)).map (List.map φ)/\(∀r∈rs',r.c=r.ks.length)/\sN w.heap.size A rs'/\Below w.heap.size w w'
def kJ.of (hn:n=rs.length) (h:Bx w ((G,(Rh rs ps n).toArray,38)::To rs φ ps n) w'):kJ φ rs w (.returned (Ad (Af ⟨G,0,Ae⟩) n n)) w':=by
 subst hn
 have ae:∀i,i<rs.length->w'.heap[ps i]? =Af (Co (Ir ((kys rs i).map φ)).toArray 3 (0,0))/\w.heap.size<=ps i:=λi hi=>by
  have hg:((G,(Rh rs ps rs.length).toArray,38)::To rs φ ps rs.length)[i+1]? =Af (ps i,(Ir ((kys rs i).map φ)).toArray,3):=by
   rw[Cx];unfold To;simp[hi]
  exact⟨h.blk _ _ _ _ hg,h.lo _ _ _ _ hg⟩
 have br:∀r∈mH rs φ ps,∃i,i<rs.length/\r=⟨Af ⟨ps i,0,Ae⟩,(kys rs i).length,(kys rs i).map φ⟩:=λr hr=>by
  unfold mH at hr;obtain⟨i,hi,rfl⟩:=Dr.1 hr;exact⟨i,Eb.1 hi,rfl⟩
 have h0:=h.b 0;refine⟨_,mH rs φ ps,rfl,Ay6 _ _ _,⟨⟨Gy,λ_=>⟨G,0,rfl,h.lt 0 rfl,λi v hi=>?_⟩⟩,(λe=>by cases e),λr hr=>?_⟩,Bo2 _ _ _,λr hr=>?_,⟨λq hq=>?_,λr hr q hq=>?_⟩,h.below⟩
 ·rw[Bu,Bz _ _ i _ _ _ h0]
  have ac:i<rs.length:=by
   have:=(Ax.1 hi).1;simpa[mH]using this
  have hm:=eS (ps:=ps) (y:=rs.length) ac;rw[Hc ac]at hm;simp only[List.getElem?_toArray];rw[hm,<-hi];unfold mH;simp[ac,Ip.head]
 ·obtain⟨i,hi,rfl⟩:=br r hr;obtain⟨h1,-⟩:=ae i hi;refine⟨⟨by simp[Ir],λ_=>⟨ps i,0,rfl,(Au.1 h1).1,λj v hj=>?_⟩⟩,(λe=>by cases e)⟩;rw[Bu,Bz _ _ j _ _ _ h1];simpa using hj
 ·obtain⟨i,hi,rfl⟩:=br r hr;simp
 ·injection hq with hq;subst hq;exact h.lo 0 _ _ _ rfl
 ·obtain⟨i,hi,rfl⟩:=br r hr;injection hq with hq;subst hq;exact(ae i hi).2
def Bv6 {c c':Array Ak} (hl:l.length=y) (h:Bx w ((G,hd,t0)::(l++[(r,c,t)])) wr) (hc:c.setIfInBounds x v=c'):Bx w ((G,hd,t0)::(l++[(r,c',t)])) (wr.setCell ⟨r,x,Ae⟩ v):=by
 have hi:((G,hd,t0)::(l++[(r,c,t)]))[y+1]? =Af (r,c,t):=by
  rw[Cx,<-hl];simp
 have:=h.set (y+1) x hi v;rw[hc]at this;rw[Ch,<-hl,List.set_append_right _ _ (Am _),Nat.sub_self,Cg]at this;exact this
def Bh5 {c:Array Ak} (hl:l.length=y) (h:Bx w ((G,hd,t0)::(l++[(r,c,t)])) wr):wr.heap[r]? =Af (.cells c t (0,0))/\r≠G/\w.heap.size<=r:=by
 have hi:((G,hd,t0)::(l++[(r,c,t)]))[y+1]? =Af (r,c,t):=by
  rw[Cx,<-hl];simp
 refine⟨h.blk _ _ _ _ hi,λe=>?_,h.lo _ _ _ _ hi⟩;subst e;exact absurd (h.inj _ 0 _ _ _ _ _ hi rfl) Gv
def uZ (F:FuncId) (tl:∀(args:Array Ak) (w:Aj),(callFunc F args).run Dp w= .ok (.enter F args) w) (dd:Array Ak) (φ:Int->Int) (A:Option Cj) (rs:List Ip) (n c:Nat) (w:Aj) (hn:n=rs.length) (h:Ja w A rs) (hl:n<=100) (hk:∀r∈rs,r.ks.length<=100)
  (hf:∀(v:Int) (w':Aj),(∃r∈rs,v∈r.ks)->Below w.heap.size w w'->Al Dp F (#[Aa Ab v]++dd) w' (Gz (Aa Ab (φ v)) w')):
  Al Dp 89 #[Ad A n c,.func (.func F) #[] dd] w (kJ φ rs w):=by
 have HR:=Ah h;have HN:=Ah hn;have HK:=Ah hk;have DV:=Ah hf;have m1:=fN n Gv;clear h hn hk hf;go_in;go_wp2_with fail;obtain⟨G,hG⟩:=ey w.heap.size;have H0:=(Bx.start w).new (En n (Ad Ae 0 0)) 38 hG;have wa:Hid (Bx w ((G,(Rh rs (λ_=>0) 0).toArray,38)::To rs φ (λ_=>0) 0) (w.alloc (.cells (En n (Ad Ae 0 0)) 38))):=Ah (by rw[uH,<-HN.out];exact H0);clear H0 m1
 try rw[hG]
 generalize w.alloc _=W1 at wa⊢;clear hG
 go_loopw [15] (λY4 wr=>∃y:Nat,y<=n/\Y4= Aa Ab y/\Hid (∃ps,Bx w ((G,(Rh rs ps y).toArray,38)::To rs φ ps y) wr)) (λY4 _=>n-(intOf Y4).toNat)
 case atStart=>exact⟨0,Gm _,rfl,Ah ⟨_,wa.out⟩⟩
 obtain⟨y,hy,rfl,HP⟩:=hrel;clear wa;by_cases ac:y<n
 ·have q0:(y:Int)<(n:Int):=Gv;have fh:=Ah ac;have LV:y<rs.length:=oHx HN.out;obtain⟨ps,hB⟩:=HP.out;obtain⟨bb,o,rfl,cj,c0⟩:=(HR.out.below hB.below).at' y LV;have be:=HK.out rs[y] (Ay _);have ae:=HR.out.row rs[y] (Ay _);have br:∀v∈rs[y].ks,∃r∈rs,v∈r.ks:=λv hv=>⟨rs[y],Ay _,hv⟩;have YA:=Av8 LV
  have hhd:wr.cell? ⟨G,y,Ae⟩=Af (Ad Ae 0 0)/\wr.frozen? ⟨G,y,Ae⟩=false:=by
   have h0:=hB.b 0;refine⟨?_,Tm h0 y⟩;rw[Bz _ _ y _ _ _ h0];have:=eS (ps:=ps) (y:=y) LV;rw[Ha Gv]at this;simpa using this
  have v_:=hB.lt 0 rfl;obtain⟨⟨rA,rc,ks⟩,hr⟩:=ey (rs[y]);rw[hr]at c0 be ae br YA;dsimp only at c0 be ae br YA;obtain⟨k,iz⟩:=ey ks.length;have m2:=fL k Gv;obtain⟨R,hR⟩:=ey wr.heap.size;have dm:=(hB.new (En k (Aa Ab 0)) 3 hR).set 0 y rfl (Ad (Af ⟨R,0,Ae⟩) k k);have e1:=Af0 (rs:=rs) (ps:=ps) (y:=y) (r:=R);rw[YA,iz]at e1;rw[Er,Cg,e1]at dm;have e3:=Ak7 φ ks;rw[iz]at e3;have oz:Hid (Bx w ((G,(Rh rs (upd ps y R) (y+1)).toArray,38)::(To rs φ ps y++[(R,(iF φ ks 0).toArray,3)])) ((wr.alloc (.cells (En k (Aa Ab 0)) 3)).setCell ⟨G,y,Ae⟩ (Ad (Af ⟨R,0,Ae⟩) k k))):=Ah (by rw[e3];exact dm);have z0:(wr.alloc (.cells (En k (Aa Ab 0)) 3)).cell? ⟨G,y,Ae⟩=Af (Ad Ae 0 0):=Gw ((Ag _ wr).alloc (Am _) _) hhd.1;have z1:(wr.alloc (.cells (En k (Aa Ab 0)) 3)).frozen? ⟨G,y,Ae⟩=false:=Tm ((hB.new (En k (Aa Ab 0)) 3 hR).b 0) y;have BF:=Ah ae;have HMEM:=Ah br;have HKY:=Ah YA;have CL:=Ah iz;rw[iz]at c0 be;clear hB dm hhd ae br hr YA iz e1 e3 cj LV ac v_;go_upto_region 6 with fail
  try rw[hR]
  generalize (wr.alloc _).setCell _ _=W2 at oz⊢;clear z0 z1 c0 hR m2;go_wp2
  go_loopw [28] (λY8 wx=>∃x:Nat,x<=k/\Y8= Aa Ab x/\Hid (Bx w ((G,(Rh rs (upd ps y R) (y+1)).toArray,38)::(To rs φ ps y++[(R,(iF φ ks x).toArray,3)])) wx)) (λY8 _=>k-(intOf Y8).toNat)
  case atStart=>exact⟨0,Gm _,rfl,oz⟩
  obtain⟨x,hx,rfl,HB⟩:=hrel;clear oz;have H:=HB.out;by_cases ac:x<k
  ·have q1:(x:Int)<(k:Int):=Gv;have WC:=Ah ac;have xz:x<ks.length:=oHx CL.out;obtain⟨b2,o2,e2,aj,d0⟩:=(BF.out.below H.below).at' x xz;dsimp only at e2 d0;subst e2;obtain⟨v,hv⟩:=ey (ks[x]);have hC:=DV.out v;have rp:=HMEM.out ks[x] (Ay _);rw[hv]at d0 rp;have HC:=Zz w (λw' hb=>hC w' rp hb);obtain⟨ar,BM⟩:=ey (#[Value.int .i64 v]++dd);rw[BM]at HC;have dl:=Ba9 (φ:=φ) xz;rw[hv]at dl;have SX:=Ah dl;obtain⟨S,an,HSO⟩:=Og λW'=>W'.cell? ⟨G,y,Ae⟩=Af (Ad (Af ⟨R,0,Ae⟩) k k);have q2:(y:Int)<(n:Int):=oHx fh.out
   have qc:Hid (∀W' l,Bx w ((G,(Rh rs (upd ps y R) (y+1)).toArray,38)::l) W'->S W'):=Ah λW' l h=>by
    subst an;rw[Bz _ _ y _ _ _ (h.b 0)];have:=eS (rs:=rs) (ps:=upd ps y R) (y:=y+1) (i:=y) (by have h1:=HN.out;have h2:=fh.out;omega);rw[Hc Gv,HKY.out,CL.out]at this;unfold upd at this⊢;rw[Hc rfl]at this;simpa using this
   clear hC rp hv dl an xz aj ac;go_upto_region 9 with fail;refine Ao (S:=S) Gx (qc.out _ _ H.drew) (λhS=>?_);have H1:=H.drew;clear H;generalize wr.drew=X0 at hS H1⊢;refine Hk 0 1 2 3 ?_;refine Oe 4 5 6 ?_;refine rdy 7 (λK hK=>?_);go_simp;refine(HC.out _ H1.below).mono ?_;rintro ee X1 ⟨rfl,ad⟩;have H2:=H1.call ad;refine hK.o (qc.out _ _ H2) (λhS=>?_);clear hK K ad H1 HC;refine Ke 8 ?_;obtain⟨DB,-,-⟩:=Bh5 (jU rs φ ps y) H2;have z0:=Tm DB x
   have z1:X1.cell? ⟨R,x,Ae⟩=Af (Aa Ab 0):=by
    rw[Bz _ _ x _ _ _ DB];unfold iF;have h1:=CL.out;have h2:=WC.out;simp[h1,h2]
   have H3:=Bv6 (jU rs φ ps y) H2 SX.out;have hS3:=qc.out _ _ H3;have PP:=Ah H3;clear DB H2 H3;refine rdy 9 (λK hK=>?_);go_simp;refine hK.o hS3 (λhS=>?_);clear hK K;refine An Gx ?_ _;go_wp2
   go_roundw
   case rel=>exact⟨x+1,WC.out,by go_num,PP⟩
   case measure=>simp[intOf];have:=WC.out;omega
  ·obtain rfl:x=k:=Gv;have q1:¬(x:Int)<(x:Int):=Gv
   have HN1:Hid (∃ps,Bx w ((G,(Rh rs ps (y+1)).toArray,38)::To rs φ ps (y+1)) wr):=Ah ⟨upd ps y R,by
    rw[wN,HKY.out,<-Ba8,CL.out];exact H⟩
   clear H HB;go_wp2
   go_roundw
   case rel=>exact⟨y+1,fh.out,by go_num,HN1⟩
   case measure=>simp[intOf];have:=fh.out;omega
 ·obtain rfl:y=n:=Gv;have q0:¬(y:Int)<(y:Int):=Gv;obtain⟨ps,hB⟩:=HP.out;have HM:=Ah (kJ.of HN.out hB);clear hB HP;go_wp2;go_ret;exact HM.out
def trV (g:Nat->Nat) (v:Int):Int:=if v<0 then-((g v.natAbs:Nat):Int)else ((g v.natAbs:Nat):Int)
def Bq3 (g:Nat->Nat) (p:Pg) (i:Nat):trV g (sgn p ((i:Int)+1))=sgn p ((g (i+1):Nat):Int):=by
 unfold trV sgn;have e1:(-((i:Int)+1)).natAbs=i+1:=Gv;have e2:((i:Int)+1).natAbs=i+1:=Gv
 cases p.dn with
 |true=>
  simp only[if_true];rw[Hc Gv,e1]
 |false=>
  simp only[Ek,if_false];rw[Ha Gv,e2]
def trR (g:Nat->Nat) (rows:List (List Int)):List (List Int):=rows.map λr=>r.map (trV g)
def Ab4 (hy:y<rows.length) (hx:x<(rows.getD y []).length):((trR g rows).getD y []).getD x 0=trV g ((rows.getD y []).getD x 0):=by
 unfold trR
 have e:(rows.map λr=>r.map (trV g)).getD y []=(rows.getD y []).map (trV g):=by
  rw[Dt,Fs,Aw hy,Dt,Aw hy];rfl
 rw[e,Dt,Fs,Aw hx,Dt (l:=rows.getD y []),Aw hx];rfl
def Bq2 (hy:y<rows.length):((trR g rows).getD y []).length=(rows.getD y []).length:=by
 unfold trR;rw[Dt,Fs,Aw hy,Dt,Aw hy];simp
def Bw7 {fr bk:List (List Int)} (hf:p.y<fr.length) (hb:p.y<bk.length) (hxf:p.x<(fr.getD p.y []).length) (KL:p.x<(bk.getD p.y []).length):fmL (trR g fr) (trR g bk) p=trV g (fmL fr bk p):=by
 unfold fmL
 split
 ·rw[Bq2 hb,Ab4 hb Gv]
 ·exact Ab4 hf hxf
def Ya (n:Nat) (num:Nat->Nat) (p:Nat):Nat:=if num p>n then 0 else num p
def Aj6 (H:FuncId) (tl:∀(args:Array Ak) (w:Aj),(callFunc H args).run Dp w= .ok (.enter H args) w) (hc:Array Ak) (num:Nat->Nat) (n k N2 K N1:Nat) (v:Int) (w:Aj)
  (h2:w.cell? ⟨N2,0,Ae⟩=Af (.func (.func H) #[] hc)) (hk:w.cell? ⟨K,0,Ae⟩=Af (Aa Ab (k:Nat))) (h1:w.cell? ⟨N1,0,Ae⟩=Af (Aa Ab (n:Nat))) (hv: -1000000<=v/\v<=1000000) (la:num v.natAbs<=1000000000)
  (hH:∀w',Below w.heap.size w w'->Al Dp H (#[Aa Ab (v.natAbs:Nat),Aa Ab (k:Nat)]++hc) w' (Gz (Aa Ab (num v.natAbs:Nat)) w')):
  Al Dp 88 #[v,.pointer (Af ⟨N2,0,Ae⟩),.pointer (Af ⟨K,0,Ae⟩),.pointer (Af ⟨N1,0,Ae⟩)] w (Gz (Aa Ab (trV (Ya n num) v)) w):=by
 have e0:Ab.wrap (-v)= -v:=Cb _ Gv;have eM:max v (-v)=((v.natAbs:Nat):Int):=Gv;have HT:Hid (trV (Ya n num) v=if v<0 then-((Ya n num v.natAbs:Nat):Int)else ((Ya n num v.natAbs:Nat):Int)):=Ah rfl;have LD:Hid (Ya n num v.natAbs=if num v.natAbs>n then 0 else num v.natAbs):=Ah rfl;have hC:=hH w (Ag _ _);obtain⟨R,hR⟩:=ey (trV (Ya n num) v);obtain⟨P,hP⟩:=ey (Ya n num v.natAbs);obtain⟨p,hp⟩:=ey v.natAbs;rw[hp]at hC la eM LD hP HT;rw[hR]at HT⊢;rw[hP]at LD HT;obtain⟨x,hx⟩:=ey (num p);rw[hx]at hC la LD;obtain⟨ar,BM⟩:=ey (#[Value.int .i64 (p:Nat),Aa Ab (k:Nat)]++hc);rw[BM]at hC;have HC:=Ah hC;have HV:=Ah hv;clear hC hR hP hp hx hH hv;go_in;go_wp2_with fail;refine HC.out.mono ?_;rintro ee w2 ⟨rfl,hb⟩;have h1:=Gw hb h1;clear HC h2 hk e0 eM;by_cases lq:x>n
 ·have q0:(x:Int)>(n:Int):=Gv
  have HF:Hid (R=0):=Ah (by
   rw[HT.out,LD.out,Hc lq]
   split<;>rfl)
  clear HT LD lq;go_wp2;go_ret;exact⟨by rw[HF.out];rfl,hb⟩
 ·have q0:¬(x:Int)>(n:Int):=Gv;have HQ:Hid (R=if v<0 then-(x:Int)else (x:Int)):=Ah (by rw[HT.out,LD.out,Ha lq]);clear HT LD lq;by_cases hn:v<0
  ·have e1:Ab.wrap (-(x:Int))= -(x:Int):=Cb _ Gv;have HF:Hid (R= -(x:Int)):=Ah (by rw[HQ.out,Hc hn]);clear HQ;go_wp2;go_ret;exact⟨by rw[HF.out];rfl,hb⟩
  ·have HF:Hid (R=(x:Int)):=Ah (by rw[HQ.out,Ha hn]);clear HQ;go_wp2;go_ret;exact⟨by rw[HF.out];rfl,hb⟩
structure FoR where
 FA:Option Cj
 c1:Nat
 fr:List Ip
 BA:Option Cj
 c2:Nat
 bk:List Ip
def FoR.h1 (r:FoR):Ak:= Ad r.FA r.fr.length r.c1
def FoR.h2 (r:FoR):Ak:= Ad r.BA r.bk.length r.c2
def FoR.cells (r:FoR):List Ak:=[r.h1,r.h2]
def Ae4 (l:List FoR):List Ak:=l.flatMap FoR.cells
def oV (l:List FoR):(Ae4 l).length=l.length*2:=by
 induction l with
 |nil=>rfl
 |cons x r ih=>
  unfold Ae4 at ih⊢;rw[Bf,Bh,ih,Eo];show 2+r.length*2=_;omega
def oU (l:List FoR):∀(j:Nat) (hj:j<l.length),(Ae4 l)[j*2]? =Af l[j].h1/\(Ae4 l)[j*2+1]? =Af l[j].h2:=by
 induction l with
 |nil=>intro j hj;exact absurd hj (Nat.not_lt_zero _)
 |cons p r ih=>
  intro j hj
  cases j with
  |zero=>exact⟨rfl,rfl⟩
  |succ j=>
   have:=ih j (by simpa using hj);rw[show(j+1)*2=j*2+2 by omega];exact this
structure sK (w:Aj) (r:FoR):Prop where
 f:Ja w r.FA r.fr
 b:Ja w r.BA r.bk
def sK.below {r:FoR} (h:sK w r) (hb:Below w.heap.size w w'):sK w' r:=⟨h.f.below hb,h.b.below hb⟩
structure So (w:Aj) (A:Option Cj) (l:List FoR):Prop where
 rd:Rd w A 2 l.length (Ae4 l)
 nil:A=Ae->l.length=0
 row:∀r∈l,sK w r
def So.below {l:List FoR} (h:So w A l) (hb:Below w.heap.size w w'):So w' A l:=⟨h.rd.below hb,h.nil,λr hr=>(h.row r hr).below hb⟩
def So.at' {l:List FoR} (h:So w A l) (i:Nat) (hi:i<l.length):∃b o,A=Af ⟨b,o,Ae⟩/\b<w.heap.size/\w.cell? ⟨b,o+i*2,Ae⟩=Af l[i].h1/\w.cell? ⟨b,o+i*2+1,Ae⟩=Af l[i].h2:=by
 obtain⟨b,o,e,hb,hc⟩:=h.rd.2 Gv;obtain⟨g1,g2⟩:=oU l i hi;exact⟨b,o,e,hb,hc _ _ g1,hc _ _ g2⟩
def foC (fs:Nat->FoR) (m k:Nat):List Ak:=(Ds (2*m)).map λj=>if j/2<k then (if j%2=0 then (fs (j/2)).h1 else (fs (j/2)).h2)else Ad Ae 0 0
def At3 (fs:Nat->FoR) (m:Nat):(foC fs m 0).toArray=En (2*m) (Ad Ae 0 0):=by
 rw[<-Gj]
 congr 1
 unfold foC;apply Gk
 ·simp
 ·intro i h1 h2;simp
def Cb4 (fs:Nat->FoR) (k:Nat) (r:FoR):Nat->FoR:=λi=>if i=k then r else fs i
def Bi7 (fs:Nat->FoR) (m k:Nat) (r:FoR):((foC fs m k).toArray.setIfInBounds (k*2) r.h1).setIfInBounds (k*2+1) r.h2=(foC (Cb4 fs k r) m (k+1)).toArray:=by
 unfold foC Cb4;apply Array.ext
 ·simp
 ·intro i h1 h2;simp only[Array.size_setIfInBounds,Fq,Bp,Cp]at h1;rw[Ct (by simpa using h1),Ct (by simpa using h1)];simp only[Cf,Ge,Dj];by_cases e1:k*2+1=i
  ·subst e1;rw[Hc rfl,Hc Gv,Ha Gv,Hc Gv]
  ·rw[Ha e1];by_cases e0:k*2=i
   ·subst e0;rw[Hc rfl,Hc (show k*2/2<k+1 by omega),Hc (show k*2%2=0 by omega),Hc (show k*2/2=k by omega)]
   ·rw[Ha e0];by_cases ac:i/2<k
    ·rw[Hc ac,Hc (show i/2<k+1 by omega),Ha (show¬i/2=k by omega)]
    ·rw[Ha ac,Ha (show¬i/2<k+1 by omega)]
def tV {fs:Nat->FoR} (hj:j<2*m):(foC fs m k)[j]? =Af (if j/2<k then (if j%2=0 then (fs (j/2)).h1 else (fs (j/2)).h2)else Ad Ae 0 0):=by
 unfold foC;simp[hj]
def Bi6 (fs:Nat->FoR) (m:Nat):foC fs m m=Ae4 ((Ds m).map fs):=by
 apply List.ext_getElem?;intro j;by_cases hj:j<2*m
 ·rw[tV hj,Hc Gv];have h:=oU ((Ds m).map fs) (j/2) Hv;simp only[Ge,Dj]at h;by_cases e:j%2=0
  ·rw[Hc e,<-h.1]
   congr 1
   omega
  ·rw[Ha e,<-h.2]
   congr 1
   omega
 ·rw[Ej (by simp[foC];omega),Ej (by rw[oV];simp;omega)]
def Ao4 (G:Nat->Nat->Nat) (fr bk:List Ip) (m:Nat) (w:Aj) (e:Ending) (w':Aj):Prop:=∃(A:Option Cj) (l:List FoR),e= .returned (Ad A m m)/\l.length=m/\So w' A l/\(∀k (hk:k<l.length),ksL l[k].fr=trR (G k) (ksL fr)/\ksL l[k].bk=trR (G k) (ksL bk)/\l[k].fr.length=fr.length/\l[k].bk.length=bk.length/\∀r∈l[k].fr++l[k].bk,r.c=r.ks.length)/\Below w.heap.size w w'
structure FoP (M:Nat) (fr bk:List Ip) (g:Nat->Nat) (w:Aj) (r:FoR):Prop where
 ok:sK w r
 n1:sN M r.FA r.fr
 n2:sN M r.BA r.bk
 k1:ksL r.fr=trR g (ksL fr)
 k2:ksL r.bk=trR g (ksL bk)
 l1:r.fr.length=fr.length
 l2:r.bk.length=bk.length
 cp:∀x∈r.fr++r.bk,x.c=x.ks.length
def FoP.below {r:FoR} (h:FoP M fr bk g w r) (hb:Below w.heap.size w w'):FoP M fr bk g w' r:=⟨h.ok.below hb,h.n1,h.n2,h.k1,h.k2,h.l1,h.l2,h.cp⟩
def FoP.set {r:FoR} (h:FoP M fr bk g w r) (hb:b<M):FoP M fr bk g (w.setCell ⟨b,j,Ae⟩ v) r:=⟨⟨h.ok.f.set h.n1 hb,h.ok.b.set h.n2 hb⟩,h.n1,h.n2,h.k1,h.k2,h.l1,h.l2,h.cp⟩
def tY:(Tryz.prog.info? 61).map (λi=>(i.zero,i.size,i.bytes))=Af (Af (.agg #[Ad Ae 0 0,Ad Ae 0 0]),2,48):=Gx
def Aw6 (n:Nat):madeCells (Value.agg #[Ad Ae 0 0,Ad Ae 0 0]).cells n=En n (Ad Ae 0 0):=by
 change(Array.range n).map (λx=>(#[Value.slice Ae 0 0,Ad Ae 0 0]:Array Ak)[x%2]!)=_;apply Array.ext
 ·simp
 ·intro i h1 h2;simp only[Array.getElem_map,Array.getElem_range,Array.getElem_replicate];have:i%2=0∨i%2=1:=Gv;rcases this with e|e
  ·rw[e];rfl
  ·rw[e];rfl
def pZ (n:Nat) (h:n<=20000) (w:Aj):(Instr.makeSlice 64 (Aa Ab n) (Aa Ab n)).run Dp w= .ok (Ad (Af ⟨w.heap.size,0,Ae⟩) n n) (w.alloc (.cells (En (2*n) (Ad Ae 0 0)) 61)):=by
 obtain⟨i0,ep,dp,ap,bw⟩:=info_parts tY;have:=run_makeSlice (P:=Dp) w 64 61 i0 _ Tryz.underlying64 ep dp .i64 .i64 n n Gv Gv (by rw[ap];simp;omega) (by rw[bw];omega) Gv;rw[ap,Int.toNat_natCast,Aw6,Nat.mul_comm n 2]at this;exact this
def eI (H:FuncId) (tl:∀(args:Array Ak) (w:Aj),(callFunc H args).run Dp w= .ok (.enter H args) w) (hc:Array Ak) (num:Nat->Nat->Nat) (n m:Nat) (FA BA:Option Cj) (fr bk:List Ip) (c1 c2 n1 n2:Nat) (w:Aj) (hF:aA w FA BA fr bk) (fk:n1=fr.length) (nt:n2=bk.length) (hm:m<=10000)
  (hv:∀r∈fr++bk,∀v∈r.ks,-1000000<=v/\v<=1000000) (la:∀r∈fr++bk,∀v∈r.ks,∀k,k<m->num k v.natAbs<=1000000000)
  (hH:∀(v:Int) (k:Nat) (w':Aj),(∃r∈fr++bk,v∈r.ks)->k<m->Below w.heap.size w w'->Al Dp H (#[Aa Ab (v.natAbs:Nat),Aa Ab (k:Nat)]++hc) w' (Gz (Aa Ab (num k v.natAbs:Nat)) w')):
  Al Dp 40 #[.agg #[Ad FA n1 c1,Ad BA n2 c2],(n:Nat),(m:Nat),.func (.func H) #[] hc] w (Ao4 (λk=>Ya n (num k)) fr bk m w):=by
 have HF:=Ah hF;have HN1:=Ah fk;have WG:=Ah nt;have HE:=Ah tl;have mf:=pZ m Gv
 have na:Hid (∀(N2 K N1 k:Nat) (w0:Aj),k<m->Below w.heap.size w w0->w0.cell? ⟨N2,0,Ae⟩=Af (.func (.func H) #[] hc)->w0.cell? ⟨K,0,Ae⟩=Af (Aa Ab (k:Nat))->w0.cell? ⟨N1,0,Ae⟩=Af (Aa Ab (n:Nat))->∀(v:Int) (w':Aj),(∃r∈fr++bk,v∈r.ks)->Below w0.heap.size w0 w'->Al Dp 88 (#[Aa Ab v]++ #[.pointer (Af ⟨N2,0,Ae⟩),.pointer (Af ⟨K,0,Ae⟩),.pointer (Af ⟨N1,0,Ae⟩)]) w' (Gz (Aa Ab (trV (Ya n (num k)) v)) w')):=Ah λN2 K N1 k w0 hk hb h2 iz h1 v w' hvm hb'=>by
  have de:Below w.heap.size w w':=Up hb hb';obtain⟨r,hr,U8⟩:=hvm;exact Aj6 H tl hc (num k) n k N2 K N1 v w' (Gw hb' h2) (Gw hb' iz) (Gw hb' h1) (hv r hr v U8) (la r hr v U8 k hk) (λw2 aj=>hH v k w2 ⟨r,hr,U8⟩ hk (Up de aj))
 have H0:=(((Bx.start w).new #[Ad FA n1 c1,Ad BA n2 c2] 61 rfl).new #[(n:Nat)] 3 (N:=w.heap.size+1) Gy).new #[.func (.func H) #[] hc] 104 (N:=w.heap.size+1+1) Gy;clear hF fk nt tl hv la hH;go_in;go_upto_region 1 with fail;obtain⟨N,ct⟩:=Tw w.heap.size;rw[<-ct.out]at H0⊢;generalize ((w.alloc _).alloc _).alloc _=W at H0⊢;obtain⟨N1,JL⟩:=ey (N+1);rw[JL]at H0⊢;generalize N1+1=N2 at H0⊢;clear JL;obtain⟨G,hG⟩:=ey W.heap.size;have H1:=H0.new (En (2*m) (Ad Ae 0 0)) 61 hG;go_upto_region 2 with fail
 try rw[hG]
 generalize W.alloc _=W1 at H1⊢;rw[<-At3 (λ_=>⟨Ae,0,[],Ae,0,[]⟩) m]at H1;clear mf hG H0;obtain⟨M,hM⟩:=ey W1.heap.size;have HGM:Hid (G<M/\w.heap.size<=M):=Ah ⟨hM▸H1.lt 3 rfl,hM▸H1.below.size⟩;have wa:Hid (∃fs,Bx w [(N,#[Ad FA n1 c1,Ad BA n2 c2],61),(N1,#[Aa Ab (n:Nat)],3),(N2,#[.func (.func H) #[] hc],104),(G,(foC fs m 0).toArray,61)] W1/\M<=W1.heap.size/\∀i,i<0->FoP M fr bk (Ya n (num i)) W1 (fs i)):=Ah ⟨_,H1,Nat.le_of_eq hM.symm,λi hi=>absurd hi (Nat.not_lt_zero _)⟩;clear H1 hM;go_wp2
 go_loopw [16] (λs16 wr=>∃k:Nat,k<=m/\s16= Aa Ab k/\Hid (∃fs,Bx w [(N,#[Ad FA n1 c1,Ad BA n2 c2],61),(N1,#[Aa Ab (n:Nat)],3),(N2,#[.func (.func H) #[] hc],104),(G,(foC fs m k).toArray,61)] wr/\M<=wr.heap.size/\∀i,i<k->FoP M fr bk (Ya n (num i)) wr (fs i))) (λs16 _=>m-(intOf s16).toNat)
 case atStart=>exact⟨0,Gm _,rfl,wa⟩
 obtain⟨k,hkm,rfl,HP⟩:=hrel;clear wa;obtain⟨fs,hB,kx,BS⟩:=HP.out;by_cases ac:k<m
 ·have q0:(k:Int)<(m:Int):=Gv;have fh:=Ah ac;obtain⟨K,hK0⟩:=ey wr.heap.size;have dm:=hB.new #[(k:Nat)] 3 hK0;have tj:Below wr.heap.size wr (wr.alloc (.cells #[(k:Nat)] 3)):=(Ag _ _).alloc (Am _) _;have AK:=Ah (λi (hi:i<k)=>(BS i hi).below tj);have G0:M<=(wr.alloc (.cells #[(k:Nat)] 3)).heap.size:=Bt kx tj.size;clear hB BS ac kx tj;go_upto_region 5 with fail
  try rw[hK0]
  generalize wr.alloc _=W2 at dm AK G0⊢;clear hK0;obtain⟨S,an,HSO⟩:=Og λW'=>W'.cell? ⟨N,0,Ae⟩=Af (Ad FA n1 c1)/\W'.cell? ⟨N,1,Ae⟩=Af (Ad BA n2 c2)/\W'.cell? ⟨K,0,Ae⟩=Af (Aa Ab (k:Nat))
  have qc:Hid (∀W' cs,Bx w [(N,#[Ad FA n1 c1,Ad BA n2 c2],61),(N1,#[Aa Ab (n:Nat)],3),(N2,#[.func (.func H) #[] hc],104),(G,cs,61),(K,#[Aa Ab (k:Nat)],3)] W'->S W'):=Ah λW' cs h=>by
   subst an;exact⟨(Hm (h.b 0)).1.1,(Hm (h.b 0)).1.2,(Lx (h.b 4)).1⟩
  clear an;go_upto_region 6 with fail;refine Ao (S:=S) Gx (qc.out _ _ dm.drew) (λhS=>?_);have H2:=dm.drew;have hb:Below W2.heap.size W2 W2.drew:=(Ag _ _).drew
  have CO:=Ah (λ(A:Option Cj) (rs:List Ip) (c nn:Nat) (FJ:nn=rs.length) (w':Aj) (de:Below W2.heap.size W2 w') (hr:Ja w' A rs) (hs:∀r∈rs,r∈fr++bk) (O8:rs.length<=100)=>uZ 88 (λ_ _=>rfl) #[.pointer (Af ⟨N2,0,Ae⟩),.pointer (Af ⟨K,0,Ae⟩),.pointer (Af ⟨N1,0,Ae⟩)] (trV (Ya n (num k))) A rs nn c w' FJ hr Gv (λr h=>HF.out.lk r (hs r h))
   (λv w9 hv bg=>by
    obtain⟨r,DK,RH⟩:=hv;have hX:=dm.call de;exact na.out N2 K N1 k w' fh.out hX.below (Lx (hX.b 2)).1 (Lx (hX.b 4)).1 (Lx (hX.b 1)).1 v w9 ⟨r,hs r DK,RH⟩ bg))
  clear na;generalize W2.drew=X0 at hS H2 hb⊢;refine Hk 0 1 2 3 ?_;refine Hk 4 6 7 8 ?_;have pm:=CO.out FA fr c1 n1 HN1.out X0 hb (HF.out.below H2.below).f (λr h=>Gc _ h) HF.out.lf;refine rdy 5 (λK hK=>?_);go_simp;refine pm.mono ?_;clear pm;rintro ee X1 ⟨A1,r1,rfl,ig,BY,hks1,hcp1,hnw1,ad⟩;rw[<-HN1.out];have H3:=H2.call ad;have hX0:W2.heap.size<=X0.heap.size:=hb.size;have hb:=Up hb ad;refine hK.o (qc.out _ _ H3) (λhS=>?_);clear hK K ad H2;have OC:=CO.out BA bk c2 n2 WG.out X1 hb (HF.out.below H3.below).b (λr h=>List.mem_append_right _ h) HF.out.lb;clear CO;refine rdy 9 (λK hK=>?_);go_simp;refine OC.mono ?_;clear OC;rintro ee X2 ⟨A2,r2,rfl,mo,KD,hks2,hcp2,hnw2,ad⟩;rw[<-WG.out];have H4:=H3.call ad;have BY:=BY.below ad;have hX1:W2.heap.size<=X1.heap.size:=hb.size;have hb:=Up hb ad;refine hK.o (qc.out _ _ H4) (λhS=>?_);clear hK K ad H3;refine Ql 10 11 ?_;have hg:=H4.b 3;have z0:=Tm hg (k*2);have z1:=Tm hg (k*2+1)
  have y0:X2.cell? ⟨G,k*2,Ae⟩=Af (Ad Ae 0 0):=by
   rw[Bz _ _ _ _ _ _ hg];have:=tV (fs:=fs) (m:=m) (k:=k) (j:=k*2) (oHx fh.out);rw[Ha Gv]at this;simpa using this
  have y1:X2.cell? ⟨G,k*2+1,Ae⟩=Af (Ad Ae 0 0):=by
   rw[Bz _ _ _ _ _ _ hg];have:=tV (fs:=fs) (m:=m) (k:=k) (j:=k*2+1) (oHx fh.out);rw[Ha Gv]at this;simpa using this
  have hGM:G<M:=HGM.out.1;have hP0:FoP M fr bk (Ya n (num k)) X2 ⟨A1,n1,r1,A2,n2,r2⟩:=⟨⟨BY,KD⟩,hnw1.le (Bt G0 hX0),hnw2.le (Bt G0 hX1),hks1,hks2,ig,mo,λx hx=>(Bl.1 hx).elim (hcp1 x) (hcp2 x)⟩;have vd:=(hP0.set hGM (j:=k*2) (v:= Ad A1 n1 n1)).set hGM (j:=k*2+1) (v:= Ad A2 n2 n2);have H5:=(H4.set 3 (k*2) rfl (Ad A1 n1 n1)).set 3 (k*2+1) rfl (Ad A2 n2 n2);have e5:=Bi7 fs m k ⟨A1,n1,r1,A2,n2,r2⟩;unfold FoR.h1 FoR.h2 at e5;dsimp only at e5;rw[ig,mo,<-HN1.out,<-WG.out]at e5
  try dsimp only[Cg,Ch]at H5
  rw[e5]at H5;have D_:=qc.out _ _ H5
  have KW:Hid (∃fs,Bx w [(N,#[Ad FA n1 c1,Ad BA n2 c2],61),(N1,#[Aa Ab (n:Nat)],3),(N2,#[.func (.func H) #[] hc],104),(G,(foC fs m (k+1)).toArray,61)] ((X2.setCell ⟨G,k*2,Ae⟩ (Ad A1 n1 n1)).setCell ⟨G,k*2+1,Ae⟩ (Ad A2 n2 n2))/\M<=((X2.setCell ⟨G,k*2,Ae⟩ (Ad A1 n1 n1)).setCell ⟨G,k*2+1,Ae⟩ (Ad A2 n2 n2)).heap.size/\∀i,i<k+1->FoP M fr bk (Ya n (num i)) ((X2.setCell ⟨G,k*2,Ae⟩ (Ad A1 n1 n1)).setCell ⟨G,k*2+1,Ae⟩ (Ad A2 n2 n2)) (fs i)):=Ah ⟨_,H5.upto 4,by have:=hb.size;simp;omega,λi hi=>by
   unfold Cb4;by_cases e:i=k
   ·subst e;rw[Hc rfl];exact vd
   ·rw[Ha e];exact(((AK.out i Gv).below hb).set hGM (j:=k*2) (v:= Ad A1 n1 n1)).set hGM (j:=k*2+1) (v:= Ad A2 n2 n2)⟩
  clear hP0 vd H5 e5 H4 hg BY KD hks1 hks2 hcp1 hcp2 hnw1 hnw2 ig mo hX0 hX1 hGM;refine rdy 12 (λK hK=>?_);go_simp;refine hK.o D_ (λhS=>?_);clear hK K;refine An Gx ?_ _;go_wp2
  go_roundw
  case rel=>exact⟨k+1,fh.out,by go_num,KW⟩
  case measure=>simp[intOf];have:=fh.out;omega
 ·obtain rfl:k=m:=Gv;have q0:¬(k:Int)<(k:Int):=Gv
  have HM:Hid (Ao4 (λk=>Ya n (num k)) fr bk k w (.returned (Ad (Af ⟨G,0,Ae⟩) k k)) wr):=Ah (by
   have h0:=hB.b 3;rw[Bi6]at h0;refine⟨_,(Ds k).map fs,rfl,Gy,⟨⟨oV _,λ_=>⟨G,0,rfl,hB.lt 3 rfl,λi v hi=>?_⟩⟩,(λe=>by cases e),λr hr=>?_⟩,λi hi=>?_,hB.below⟩
   ·rw[Bu,Bz _ _ i _ _ _ h0];simpa using hi
   ·obtain⟨i,hi,rfl⟩:=Dr.1 hr;exact(BS i (Eb.1 hi)).ok
   ·simp only[Bp,Cp]at hi;have h:=BS i hi;simp only[Ge,Dj];exact⟨h.k1,h.k2,h.l1,h.l2,h.cp⟩)
  clear hB BS HP na;go_wp2;go_ret;exact HM.out
def Ag2 (F:FuncId) (tl:∀(args:Array Ak) (w:Aj),(callFunc F args).run Dp w= .ok (.enter F args) w) (dd:Array Ak) (p:Ip->Bool) (A:Option Cj) (l:List Ip) (n c:Nat) (w:Aj) (hn:n=l.length) (h:Ja w A l) (hl:n<=1000000)
  (hf:∀(r:Ip) (w':Aj),r∈l->Below w.heap.size w w'->Al Dp F (#[Ad r.A r.ks.length r.c]++dd) w' (Gz (.bool (p r)) w')):
  Al Dp 151 #[Ad A n c,.func (.func F) #[] dd] w λe w'=>(∃r:Int,e= .returned (Aa Ab r)/\((l.any p)=decide (0<=r)))/\Below w.heap.size w w':=by
 have dt:=Ah h;have HN:=Ah hn;have DV:=Ah hf;clear h hn hf;go_in;go_wp2
 go_loopw [5,8] (λ_ i wr=>∃k:Nat,k<=n/\i= Aa Ab k/\Below w.heap.size w wr/\Hid (∀j (hj:j<l.length),j<k->p l[j]=false)) (λ_ i _=>n-(intOf i).toNat)
 case atStart=>exact⟨0,Gv,rfl,Ag _ _,Ah λj _ hj=>absurd hj Gv⟩
 obtain⟨k,hk,rfl,hb,HK⟩:=hrel;by_cases ac:k<n
 ·have be:k<l.length:=oHx HN.out;obtain⟨bb,o,rfl,cj,c0⟩:=(dt.out.below hb).at' k be;have q1:(k:Int)<(n:Int):=Gv;have br:=Ay be;obtain⟨r,hr⟩:=ey (l[k]);have jn:=Ah hr;rw[hr]at c0 br;have hC:=DV.out r wr br hb;obtain⟨ar,BM⟩:=ey (#[Value.slice r.A r.ks.length r.c]++dd);rw[BM]at hC;have HC:=Ah hC;clear hr br hC;go_wp2_with fail;refine HC.out.mono ?_;rintro e w2 ⟨rfl,aj⟩;have bh:=Up hb aj
  cases he:p r
  ·have js:=Ah (λj (hj:j<l.length) (h:j<k+1)=>show p l[j]=false by
    by_cases lu:j=k
    ·subst lu;rw[jn.out];exact he
    ·exact HK.out j hj Gv)
   go_wp2;exact⟨⟨k+1,Gv,by go_num,bh,js⟩,by simp[intOf];omega⟩
  ·have HA:Hid ((l.any p)=true):=Ah (by rw[Ew];exact⟨l[k],Ay _,by rw[jn.out];exact he⟩);go_wp2;go_ret;exact⟨⟨k,rfl,by rw[HA.out];simp⟩,bh⟩
 ·have q1:¬(k:Int)<(n:Int):=Gv
  have HA:Hid ((l.any p)=false):=Ah (by
   rw[Du];intro x hx;obtain⟨j,hj,rfl⟩:=Be.1 hx;simpa using HK.out j hj (oHx HN.out))
  go_wp2;go_ret;exact⟨⟨-1,rfl,by rw[HA.out];rfl⟩,hb⟩
def Ad4 (F:FuncId) (tl:∀(args:Array Ak) (w:Aj),(callFunc F args).run Dp w= .ok (.enter F args) w) (dd:Array Ak) (p:Ip->Bool) (A:Option Cj) (l:List Ip) (n c:Nat) (w:Aj) (hn:n=l.length) (h:Ja w A l) (hl:n<=1000000)
  (hf:∀(r:Ip) (w':Aj),r∈l->Below w.heap.size w w'->Al Dp F (#[Ad r.A r.ks.length r.c]++dd) w' (Gz (.bool (p r)) w')):
  Al Dp 91 #[Ad A n c,.func (.func F) #[] dd] w (Gz (.bool (l.any p)) w):=by
 have HC:=Ah (Ag2 F tl dd p A l n c w hn h hl hf);generalize l.any p=R at HC⊢;clear hn h hl hf tl;go_in;go_wp2_with fail;refine HC.out.mono ?_;rintro e w2 ⟨⟨r,rfl,hr⟩,hb⟩;go_wp2;go_ret;exact⟨by rw[hr];rfl,hb⟩
def pL (F:FuncId) (tl:∀(args:Array Ak) (w:Aj),(callFunc F args).run Dp w= .ok (.enter F args) w) (dd:Array Ak) (p:FoR->Bool) (A:Option Cj) (l:List FoR) (n c:Nat) (w:Aj) (hn:n=l.length) (h:So w A l) (hl:n<=1000000)
  (hf:∀(r:FoR) (w':Aj),r∈l->Below w.heap.size w w'->Al Dp F (#[.agg #[r.h1,r.h2]]++dd) w' (Gz (.bool (p r)) w')):
  Al Dp 90 #[Ad A n c,.func (.func F) #[] dd] w λe w'=>(∃r:Int,e= .returned (Aa Ab r)/\((l.any p)=decide (0<=r)))/\Below w.heap.size w w':=by
 have dt:=Ah h;have HN:=Ah hn;have DV:=Ah hf;clear h hn hf;go_in;go_wp2
 go_loopw [5,8] (λ_ i wr=>∃k:Nat,k<=n/\i= Aa Ab k/\Below w.heap.size w wr/\Hid (∀j (hj:j<l.length),j<k->p l[j]=false)) (λ_ i _=>n-(intOf i).toNat)
 case atStart=>exact⟨0,Gv,rfl,Ag _ _,Ah λj _ hj=>absurd hj Gv⟩
 obtain⟨k,hk,rfl,hb,HK⟩:=hrel;by_cases ac:k<n
 ·have be:k<l.length:=oHx HN.out;obtain⟨bb,o,rfl,cj,c0,c1⟩:=(dt.out.below hb).at' k be;have q1:(k:Int)<(n:Int):=Gv;have br:=Ay be;obtain⟨r,hr⟩:=ey (l[k]);have jn:=Ah hr;rw[hr]at c0 c1 br;have hC:=DV.out r wr br hb;unfold FoR.h1 FoR.h2 at hC;unfold FoR.h1 at c0;unfold FoR.h2 at c1;obtain⟨ar,BM⟩:=ey (#[Value.agg #[Ad r.FA r.fr.length r.c1,Ad r.BA r.bk.length r.c2]]++dd);rw[BM]at hC;have HC:=Ah hC;clear hr br hC;go_wp2_with fail;refine HC.out.mono ?_;rintro e w2 ⟨rfl,aj⟩;have bh:=Up hb aj
  cases he:p r
  ·have js:=Ah (λj (hj:j<l.length) (h:j<k+1)=>show p l[j]=false by
    by_cases lu:j=k
    ·subst lu;rw[jn.out];exact he
    ·exact HK.out j hj Gv)
   go_wp2;exact⟨⟨k+1,Gv,by go_num,bh,js⟩,by simp[intOf];omega⟩
  ·have HA:Hid ((l.any p)=true):=Ah (by rw[Ew];exact⟨l[k],Ay _,by rw[jn.out];exact he⟩);go_wp2;go_ret;exact⟨⟨k,rfl,by rw[HA.out];simp⟩,bh⟩
 ·have q1:¬(k:Int)<(n:Int):=Gv
  have HA:Hid ((l.any p)=false):=Ah (by
   rw[Du];intro x hx;obtain⟨j,hj,rfl⟩:=Be.1 hx;simpa using HK.out j hj (oHx HN.out))
  go_wp2;go_ret;exact⟨⟨-1,rfl,by rw[HA.out];rfl⟩,hb⟩
def nY (F:FuncId) (tl:∀(args:Array Ak) (w:Aj),(callFunc F args).run Dp w= .ok (.enter F args) w) (dd:Array Ak) (p:FoR->Bool) (A:Option Cj) (l:List FoR) (n c:Nat) (w:Aj) (hn:n=l.length) (h:So w A l) (hl:n<=1000000)
  (hf:∀(r:FoR) (w':Aj),r∈l->Below w.heap.size w w'->Al Dp F (#[.agg #[r.h1,r.h2]]++dd) w' (Gz (.bool (p r)) w')):
  Al Dp 43 #[Ad A n c,.func (.func F) #[] dd] w (Gz (.bool (l.any p)) w):=by
 have HC:=Ah (pL F tl dd p A l n c w hn h hl hf);generalize l.any p=R at HC⊢;clear hn h hl hf tl;go_in;go_wp2_with fail;refine HC.out.mono ?_;rintro e w2 ⟨⟨r,rfl,hr⟩,hb⟩;go_wp2;go_ret;exact⟨by rw[hr];rfl,hb⟩
def As9 (a n c P:Nat) (A:Option Cj) (w:Aj) (hP:w.cell? ⟨P,0,Ae⟩=Af (Aa Ab (a:Nat))):
  Al Dp 92 #[Ad A n c,.pointer (Af ⟨P,0,Ae⟩)] w (Gz (.bool (decide (n≠a))) w):=by
 by_cases e:n=a
 ·subst e;go_in;go_wp2;go_ret;exact⟨Gy,Ag _ _⟩
 ·have q0:((n:Int) != (a:Int))=true:=Hv;have q1:¬(n:Int)=(a:Int):=Gv;have hd:decide (n≠a)=true:=Ld e;rw[hd];clear hd e;go_in;go_wp2;go_ret;exact⟨by simp[q1],Ag _ _⟩
def Nv (a b:Nat) (rs:List Ip):Bool:=decide (rs.length=b)&& !(rs.any λr=>decide (r.ks.length≠a))
def Qu (h:Nv a b rs=true):rs.length=b/\∀r∈rs,r.ks.length=a:=by
 unfold Nv at h;simp only[Em,Li,Bool.not_eq_true',Du]at h;exact⟨h.1,λr hr=>by simpa using h.2 r hr⟩
def oN (a b:Nat) (A:Option Cj) (rs:List Ip) (n c:Nat) (w:Aj) (hn:n=rs.length) (h:Ja w A rs) (hl:n<=1000000):
  Al Dp 45 #[Ad A n c,.agg #[(a:Nat),(b:Nat)]] w (Gz (.bool (Nv a b rs)) w):=by
 have KS:=Ah (λ(P:Nat) (w':Aj) (hb:Below w.heap.size w w') (hP:w'.cell? ⟨P,0,Ae⟩=Af (Aa Ab (a:Nat)))=>Ad4 92 (λ_ _=>rfl) #[.pointer (Af ⟨P,0,Ae⟩)] (λr=>decide (r.ks.length≠a)) A rs n c w' hn (h.below hb) hl (λr w2 _ aj=>As9 a r.ks.length r.c P r.A w2 (Gw aj hP)));have H:=(Bx.start w).new #[(a:Nat),(b:Nat)] 25 rfl;unfold Nv;rw[<-hn];obtain⟨R,hR⟩:=ey ((rs.any λr=>decide (r.ks.length≠a)));rw[hR]at KS⊢;clear hn h hR;by_cases e:n=b
 ·subst e;rw[Ld rfl,Bool.true_and];go_in;go_upto_region 1 with fail;obtain⟨P,hP⟩:=ey w.heap.size;rw[hP]at H⊢;generalize w.alloc _=W at H⊢;clear hP;obtain⟨⟨a0,a1⟩,-⟩:=Hm (H.b 0);go_wp2_with fail;refine(KS.out P _ H.below a0).mono ?_;rintro ee w2 ⟨rfl,hb⟩;have cj:=(H.call hb).below;clear a0 a1 hb H KS;go_wp2;go_ret;exact⟨rfl,cj⟩
 ·have q1:¬(n:Int)=(b:Int):=Gv;rw[Me e,Bool.false_and];clear e;go_in;go_upto_region 1 with fail;obtain⟨P,hP⟩:=ey w.heap.size;rw[hP]at H⊢;generalize w.alloc _=W at H⊢;clear hP;obtain⟨⟨a0,a1⟩,-⟩:=Hm (H.b 0);go_wp2;go_ret;exact⟨by simp[q1],H.below⟩
def An4 (a b P:Nat) (r:FoR) (w:Aj) (h:sK w r) (l1:r.fr.length<=1000) (l2:r.bk.length<=1000) (hP:w.cell? ⟨P,0,Ae⟩=Af (Aa Ab (a:Nat))) (vd:w.cell? ⟨P,1,Ae⟩=Af (Aa Ab (b:Nat))) (LM:P<w.heap.size):
  Al Dp 44 (#[.agg #[r.h1,r.h2]]++ #[.pointer (Af ⟨P,0,Ae⟩)]) w (Gz (.bool (!Nv a b r.fr|| !Nv a b r.bk)) w):=by
 obtain⟨FA,c1,fr,BA,c2,bk⟩:=r;unfold FoR.h1 FoR.h2;dsimp only at l1 l2⊢;obtain⟨n1,fk⟩:=ey fr.length;obtain⟨n2,nt⟩:=ey bk.length;have H1:=Zz w (λw' hb=>oN a b FA fr n1 c1 w' fk.symm (h.f.below hb) Gv);have H2:=Zz w (λw' hb=>oN a b BA bk n2 c2 w' nt.symm (h.b.below hb) Gv);have HP:=Zz w (λw' hb=>Cn (Gw hb hP) (Gw hb vd));rw[fk,nt];obtain⟨f1,BQ⟩:=ey (Nv a b fr);obtain⟨f2,BR⟩:=ey (Nv a b bk);rw[BQ]at H1⊢;rw[BR]at H2⊢;have H:=(Bx.start w).new #[Ad FA n1 c1,Ad BA n2 c2] 61 rfl;clear h l1 l2 hP vd fk nt BQ BR;have e0: #[Value.agg #[Ad FA n1 c1,Ad BA n2 c2]]++ #[Value.pointer (Af ⟨P,0,Ae⟩)]= #[.agg #[Ad FA n1 c1,Ad BA n2 c2],.pointer (Af ⟨P,0,Ae⟩)]:=rfl;rw[e0];clear e0;go_in;go_upto_region 1 with fail;generalize w.alloc _=W at H⊢;obtain⟨⟨a0,a1⟩,-⟩:=Hm (H.b 0);obtain⟨p0,p1⟩:=HP.out _ H.below;go_wp2_with fail;refine(H1.out _ H.below).mono ?_;rintro ee w2 ⟨rfl,hb⟩;have H3:=H.call hb;clear a0 a1 p0 p1 hb H H1
 cases f1
 ·go_wp2;go_ret;exact⟨rfl,H3.below⟩
 ·obtain⟨⟨a0,a1⟩,-⟩:=Hm (H3.b 0);obtain⟨p0,p1⟩:=HP.out _ H3.below;go_wp2_with fail;refine(H2.out _ H3.below).mono ?_;rintro ee w4 ⟨rfl,hb⟩;have cj:=(H3.call hb).below;clear a0 a1 p0 p1 hb H3 H2;go_wp2;go_ret;exact⟨Gy,cj⟩
def Ni (pl:List Pg):List Ak:=pl.flatMap pgV
def Ti (l:List Pg):(Ni l).length=l.length*4:=by
 induction l with
 |nil=>rfl
 |cons x r ih=>
  unfold Ni at ih⊢;rw[Bf,Bh,ih,Eo];show 4+r.length*4=_;omega
def Az1 (l:List Pg):∀(j:Nat) (hj:j<l.length),(Ni l)[j*4]? =Af (Aa Ab (l[j].x:Nat))/\(Ni l)[j*4+1]? =Af (Aa Ab (l[j].y:Nat))/\(Ni l)[j*4+2]? =Af (.bool l[j].bk)/\(Ni l)[j*4+3]? =Af (.bool l[j].dn):=by
 induction l with
 |nil=>intro j hj;exact absurd hj (Nat.not_lt_zero _)
 |cons p r ih=>
  intro j hj
  cases j with
  |zero=>exact⟨rfl,rfl,rfl,rfl⟩
  |succ j=>
   have:=ih j (by simpa using hj);rw[show(j+1)*4=j*4+4 by omega];exact this
def Az2 (a:Nat) (m:List Mv) (ids:List Nat):pgs a m ids=Ni ((Ds (2*ids.length)).map (pgK a m ids)):=by
 have key:∀(ids:List Nat),(Ds (2*ids.length)).map (pgK a m ids)=ids.flatMap λi=>[pgA a m i,(pgA a m i).flip]:=by
  intro ids
  induction ids with
  |nil=>rfl
  |cons i r ih=>
   rw[Bf,<-ih,Eo,show 2*(r.length+1)=2*r.length+1+1 by omega,List.range_succ_eq_map,Es,List.range_succ_eq_map,Es,Es,Ft,Ft];simp only[Er,Eu]
   congr 1
   congr 1
   apply List.map_congr_left;intro k _;unfold pgK;have e1:(k+1+1)%2=k%2:=Gv;have e2:(k+1+1)/2=k/2+1:=Gv;simp only[Function.comp,e1,e2];rfl
 rw[key];unfold pgs Ni pgI;rw[List.flatMap_assoc];rfl
def Bz8 {l:List Pg} (h:Rd w A 4 n (Ni l)) (hj:j<l.length):∃b o,A=Af ⟨b,o,Ae⟩/\b<w.heap.size/\w.cell? ⟨b,o+j*4,Ae⟩=Af (Aa Ab (l[j].x:Nat))/\w.cell? ⟨b,o+j*4+1,Ae⟩=Af (Aa Ab (l[j].y:Nat))/\w.cell? ⟨b,o+j*4+2,Ae⟩=Af (.bool l[j].bk)/\w.cell? ⟨b,o+j*4+3,Ae⟩=Af (.bool l[j].dn):=by
 have hl:=h.1;rw[Ti]at hl;obtain⟨b,o,e,hb,hc⟩:=h.2 Gv;obtain⟨g1,g2,g3,g4⟩:=Az1 l j hj;exact⟨b,o,e,hb,hc _ _ g1,hc _ _ g2,hc _ _ g3,hc _ _ g4⟩
def Bc0 (p:Pg) (v:Int):Int:=if p.dn then Ab.wrap (-v)else v
def rdV (r:FoR) (p:Pg):Int:=Bc0 p (fmL (ksL r.fr) (ksL r.bk) p)
def Cd4 {r:FoR} (h1:Nv a b r.fr=true) (h2:Nv a b r.bk=true) (hx:p.x<a) (hy:p.y<b):∃(y1:p.y<r.fr.length) (y2:p.y<r.bk.length) (x1:p.x<r.fr[p.y].ks.length) (x2:a-1-p.x<r.bk[p.y].ks.length),r.fr[p.y].ks.length=a/\r.bk[p.y].ks.length=a/\fmL (ksL r.fr) (ksL r.bk) p=if p.bk then r.bk[p.y].ks[a-1-p.x]else r.fr[p.y].ks[p.x]:=by
 obtain⟨l1,k1⟩:=Qu h1;obtain⟨l2,k2⟩:=Qu h2;have y1:p.y<r.fr.length:=Gv;have y2:p.y<r.bk.length:=Gv;have w1:=k1 _ (Ay y1);have w2:=k2 _ (Ay y2);refine⟨y1,y2,Gv,Gv,w1,w2,?_⟩;unfold fmL;rw[dK y1,dK y2,yV (l:=r.fr[p.y].ks) (x:=p.x) Gv,yV (l:=r.bk[p.y].ks) (x:=r.bk[p.y].ks.length-1-p.x) Gv];simp only[w2]
def Bz5 {b b' e sz n:Nat} {xs:List Ak} (h:w.ownsRow b e sz v n xs) (hb:b'<=b):w.ownsRow b' e sz v n xs:=
 ⟨h.1,h.2.imp id λ⟨g,cap,cur,r1,r2,r⟩=>⟨g,cap,cur,r1,Bt hb r2,r⟩⟩
def jQ (a b:Nat) (ha:a<=100) (r0:FoR) (h1:Nv a b r0.fr=true) (h2:Nv a b r0.bk=true) (pl:List Pg) (dr:∀p∈pl,p.x<a/\p.y<b) (PA:Option Cj) (n pc P:Nat) (w:Aj) (hr:sK w r0) (hn:n=pl.length) (ky:n<=100000) (hp:Rd w PA 4 n (Ni pl)) (hP:w.cell? ⟨P,0,Ae⟩=Af (Aa Ab (a:Nat))) (LM:P<w.heap.size):
  Al Dp 46 #[.agg #[r0.h1,r0.h2],Ad PA n pc,.pointer (Af ⟨P,0,Ae⟩)] w (Nt 3 1 n (Ir (pl.map (rdV r0))) w):=by
 have HR:=Ah hr;have HN:=Ah hn;have pw:=Ah hp;have na:=Ah dr;have HFM:=Ah (λ(p:Pg) (hx:p.x<a) (hy:p.y<b)=>Cd4 h1 h2 hx hy);have HP:=Zz w (λw' hb=>Gw hb hP);have zy:r0.fr.length=b/\r0.bk.length=b:=⟨(Qu h1).1,(Qu h2).1⟩;unfold FoR.h1 FoR.h2;rw[zy.1,zy.2];have H:=(Bx.start w).new #[Ad r0.FA b r0.c1,Ad r0.BA b r0.c2] 61 rfl;clear hr hn hp dr h1 h2 hP zy;go_in;go_upto_region 1 with fail;obtain⟨N,ct⟩:=Tw w.heap.size;rw[<-ct.out]at H⊢;generalize w.alloc _=W at H⊢;obtain⟨M,hM⟩:=ey W.heap.size;have uz:Hid (w.heap.size<=M):=Ah (hM▸H.below.size);have LK:N<M:=hM▸H.lt 0 rfl
 have jt:Hid (∀x∈[(N,#[Value.slice r0.FA b r0.c1,Ad r0.BA b r0.c2],61)],x.1<M):=Ah (by
  intro x hx;simp only[Bk,Dv,or_false]at hx;subst hx;exact LK)
 have wa:Hid (Bx w [(N,#[Ad r0.FA b r0.c1,Ad r0.BA b r0.c2],61)] W/\W.ownsRow M 3 1 (Ad Ae 0 0) 0 (Ir ((pl.take 0).map (rdV r0)))):=Ah ⟨H,⟨rfl,.inl ⟨rfl,rfl⟩⟩⟩;have TK:M<=W.heap.size:=Nat.le_of_eq hM.symm;clear H hM LK;go_wp2
 go_loopw [6,12] (λs6 VS wr=>∃(k c:Nat) (B:Option Cj),k<=n/\VS= Aa Ab k/\s6= Ad B k c/\M<=wr.heap.size/\Hid (Bx w [(N,#[Ad r0.FA b r0.c1,Ad r0.BA b r0.c2],61)] wr/\wr.ownsRow M 3 1 (Ad B k c) k (Ir ((pl.take k).map (rdV r0))))) (λ_ VS _=>n-(intOf VS).toNat)
 case atStart=>exact⟨0,0,Ae,Gm _,rfl,rfl,TK,wa⟩
 obtain⟨k,c,B,hk,rfl,rfl,CZ,HB⟩:=hrel;clear wa TK;by_cases ac:k<n
 ·have q0:(k:Int)<(n:Int):=Gv;have fh:=Ah ac;have be:k<pl.length:=oHx HN.out;have H:=HB.out.1;obtain⟨pb,po,rfl,xv,d0,d1,d2,d3⟩:=Bz8 (pw.out.below H.below) be;obtain⟨hx,hy⟩:=na.out pl[k] (Ay _);have fp:pl.take (k+1)=pl.take k++[pl[k]]:=Bc be;obtain⟨p,YM⟩:=ey (pl[k]);rw[YM]at d0 d1 d2 d3 hx hy fp;obtain⟨y1,y2,x1,x2,w1,w2,zo⟩:=HFM.out p hx hy;obtain⟨fb,fo,eA,UG,f0⟩:=(HR.out.f.below H.below).at' p.y y1;obtain⟨gb,go',eB,zp,g0⟩:=(HR.out.b.below H.below).at' p.y y2;obtain⟨f2b,f2o,e2A,BR,f1⟩:=((HR.out.f.below H.below).row _ (Ay y1)).at' p.x x1;obtain⟨g2b,g2o,e2B,ef,g1⟩:=((HR.out.b.below H.below).row _ (Ay y2)).at' (a-1-p.x) x2;rw[e2A,w1]at f0;rw[e2B,w2]at g0;have qm:=Ah fp;obtain⟨v1,lw⟩:=ey (r0.fr[p.y].ks[p.x]);obtain⟨v2,vt⟩:=ey (r0.bk[p.y].ks[a-1-p.x]);rw[lw]at f1 zo;rw[vt]at g1 zo;obtain⟨z,hz⟩:=ey (a-1-p.x);rw[hz]at g1
  have FO:rdV r0 p=if p.dn then Ab.wrap (-(if p.bk then v2 else v1))else if p.bk then v2 else v1:=by
   unfold rdV Bc0;rw[zo]
  have q1:(p.y:Int)<(b:Int):=Gv;have q2:(p.x:Int)<(a:Int):=Gv;have q3:(z:Int)<(a:Int):=Gv;have t1:=Cb ((a:Int)-1) Gv
  have t2:Ab.wrap ((a:Int)-1-(p.x:Int))=(z:Int):=by
   rw[Cb _ Gv];omega
  obtain⟨cA,hcA⟩:=ey (r0.fr[p.y].c);obtain⟨cB,wk⟩:=ey (r0.bk[p.y].c);rw[hcA]at f0;rw[wk]at g0;have AJ:=Ah (Cn eA eB);obtain⟨px,py,FV,PF⟩:=p;dsimp only at d0 d1 d2 d3 f0 g0 f1 g1 FO q1 q2 q3 t1 t2;clear YM fp zo hx hy y1 y2 x1 x2 w1 w2 e2A e2B lw vt hz be xv UG zp BR ef hcA wk eA eB ac;obtain⟨Q,hQ⟩:=ey wr.heap.size;have cg:Below wr.heap.size wr (wr.alloc (.cells #[(px:Nat),(py:Nat),.bool FV,.bool PF] 108)):=(Ag _ _).alloc (Am _) _;have H2:=H.new #[(px:Nat),(py:Nat),.bool FV,.bool PF] 108 hQ;have HB:=Ah (Cn (H.call cg) (Vk HB.out.2 cg));have f0:=Gw cg f0;have f1:=Gw cg f1;have g0:=Gw cg g0;have g1:=Gw cg g1;have CZ:M<=(wr.alloc (.cells #[(px:Nat),(py:Nat),.bool FV,.bool PF] 108)).heap.size:=Bt CZ cg.size;clear cg;go_upto_region 5 with fail
  try rw[hQ]
  generalize wr.alloc _=W2 at H2 HB f0 f1 g0 g1 CZ⊢;clear hQ d0 d1 d2 d3 H;have p0:=HP.out _ H2.below;obtain⟨⟨a0,a1⟩,-⟩:=Hm (H2.b 0);rw[AJ.out.1]at a0;rw[AJ.out.2]at a1;obtain⟨⟨c0,c1,c2,c3⟩,-⟩:=Jh (H2.b 1);have H2:=H2.upto 1
  cases FV with
  |false=>
   simp only[Ek,if_false]at FO;clear g0 g1 a1 t1 t2
   go_quiet (fail)
   cases PF with
   |false=>
    have HU:Hid (rdV r0 ⟨px,py,false,false⟩=v1):=Ah FO;have H2:=H2.drewN nq;have fe:=Rm (w':=W2.drewN nq) HB.out.2 λ_ _=>rfl;have MV:M<=(W2.drewN nq).heap.size:=CZ;obtain⟨A',c',w9,ah,ru,bg,-,UT,-,-,-⟩:=Yi (sl:=38) Dl Nq rfl He He (W2.drewN nq) M k (Ad B k c) _ fe MV Gv [Aa Ab (v1)] rfl (by simp[Do])
    have jp:(Ir ((pl.take k).map (rdV r0)))++[Value.int .i64 (v1)]=Ir ((pl.take (k+1)).map (rdV r0)):=by
     rw[qm.out,<-HU.out];simp[Ir]
    rw[jp]at ru;have bf:=Ah ah;have xf:=(H2.keepM (M:=M) (w2:=w9) jt.out uz.out bg);have GD:=Ah (Cn xf ru);clear ah ru bg jp xf fe MV H2 HB CZ
    as_aux_lemma=>
    go_wp2_with (at_builtin;refine As _ rfl _ _ _ _ rfl _ _ rfl rfl _ _ bf.out ?_);go_wp2
    go_roundw
    case rel=>exact⟨k+1,c',A',fh.out,by go_num,rfl,UT,GD⟩
    case measure=>simp[intOf];have:=fh.out;omega
   |true=>
    obtain⟨u,en⟩:=ey (Ab.wrap (-v1));have HU:Hid (rdV r0 ⟨px,py,false,true⟩=u):=Ah (FO.trans en);have H2:=H2.drewN nq;have fe:=Rm (w':=W2.drewN nq) HB.out.2 λ_ _=>rfl;have MV:M<=(W2.drewN nq).heap.size:=CZ;obtain⟨A',c',w9,ah,ru,bg,-,UT,-,-,-⟩:=Yi (sl:=38) Dl Nq rfl He He (W2.drewN nq) M k (Ad B k c) _ fe MV Gv [Aa Ab (u)] rfl (by simp[Do])
    have jp:(Ir ((pl.take k).map (rdV r0)))++[Value.int .i64 (u)]=Ir ((pl.take (k+1)).map (rdV r0)):=by
     rw[qm.out,<-HU.out];simp[Ir]
    rw[jp]at ru;have bf:=Ah ah;have xf:=(H2.keepM (M:=M) (w2:=w9) jt.out uz.out bg);have GD:=Ah (Cn xf ru);clear ah ru bg jp xf fe MV H2 HB CZ
    as_aux_lemma=>
    go_wp2_with (at_builtin;refine As _ rfl _ _ _ _ rfl _ _ rfl rfl _ _ bf.out ?_);go_wp2
    go_roundw
    case rel=>exact⟨k+1,c',A',fh.out,by go_num,rfl,UT,GD⟩
    case measure=>simp[intOf];have:=fh.out;omega
  |true=>
   simp only[if_true]at FO
   go_quiet (fail)
   have H2:=H2.drewN nq;have HB:=Ah (Cn (HB.out.1.drewN nq) (Rm (w':=W2.drewN nq) HB.out.2 λ_ _=>rfl));have CZ:M<=(W2.drewN nq).heap.size:=CZ;have hd:Below W2.heap.size W2 (W2.drewN nq):=Ic (Ag _ _) nq;have g0:=Gw hd g0;have g1:=Gw hd g1;have p0:=Gw hd p0;have a1:=Gw hd a1;have c0:=Gw hd c0;have c1:=Gw hd c1;have c2:=Gw hd c2;have c3:=Gw hd c3;generalize W2.drewN nq=W3 at H2 HB CZ g0 g1 p0 a1 c0 c1 c2 c3⊢;clear hd a0 f0 f1;go_upto_region 7 with fail
   go_quiet (fail)
   cases PF with
   |false=>
    have HU:Hid (rdV r0 ⟨px,py,true,false⟩=v2):=Ah FO;have H2:=H2.drewN nq;have fe:=Rm (w':=W3.drewN nq) HB.out.2 λ_ _=>rfl;have MV:M<=(W3.drewN nq).heap.size:=CZ;obtain⟨A',c',w9,ah,ru,bg,-,UT,-,-,-⟩:=Yi (sl:=38) Dl Nq rfl He He (W3.drewN nq) M k (Ad B k c) _ fe MV Gv [Aa Ab (v2)] rfl (by simp[Do])
    have jp:(Ir ((pl.take k).map (rdV r0)))++[Value.int .i64 (v2)]=Ir ((pl.take (k+1)).map (rdV r0)):=by
     rw[qm.out,<-HU.out];simp[Ir]
    rw[jp]at ru;have bf:=Ah ah;have xf:=(H2.keepM (M:=M) (w2:=w9) jt.out uz.out bg);have GD:=Ah (Cn xf ru);clear ah ru bg jp xf fe MV H2 HB CZ
    as_aux_lemma=>
    go_wp2_with (at_builtin;refine As _ rfl _ _ _ _ rfl _ _ rfl rfl _ _ bf.out ?_);go_wp2
    go_roundw
    case rel=>exact⟨k+1,c',A',fh.out,by go_num,rfl,UT,GD⟩
    case measure=>simp[intOf];have:=fh.out;omega
   |true=>
    obtain⟨u,en⟩:=ey (Ab.wrap (-v2));have HU:Hid (rdV r0 ⟨px,py,true,true⟩=u):=Ah (FO.trans en);have H2:=H2.drewN nq;have fe:=Rm (w':=W3.drewN nq) HB.out.2 λ_ _=>rfl;have MV:M<=(W3.drewN nq).heap.size:=CZ;obtain⟨A',c',w9,ah,ru,bg,-,UT,-,-,-⟩:=Yi (sl:=38) Dl Nq rfl He He (W3.drewN nq) M k (Ad B k c) _ fe MV Gv [Aa Ab (u)] rfl (by simp[Do])
    have jp:(Ir ((pl.take k).map (rdV r0)))++[Value.int .i64 (u)]=Ir ((pl.take (k+1)).map (rdV r0)):=by
     rw[qm.out,<-HU.out];simp[Ir]
    rw[jp]at ru;have bf:=Ah ah;have xf:=(H2.keepM (M:=M) (w2:=w9) jt.out uz.out bg);have GD:=Ah (Cn xf ru);clear ah ru bg jp xf fe MV H2 HB CZ
    as_aux_lemma=>
    go_wp2_with (at_builtin;refine As _ rfl _ _ _ _ rfl _ _ rfl rfl _ _ bf.out ?_);go_wp2
    go_roundw
    case rel=>exact⟨k+1,c',A',fh.out,by go_num,rfl,UT,GD⟩
    case measure=>simp[intOf];have:=fh.out;omega
 ·obtain rfl:k=n:=Gv;have q0:¬(k:Int)<(k:Int):=Gv
  have HM:Hid (Nt 3 1 k (Ir (pl.map (rdV r0))) w (.returned (Ad B k c)) wr):=Ah ⟨_,rfl,by
   have:=Bz5 HB.out.2 uz.out;rw[List.take_of_length_le (oHx HN.out)]at this;exact this,HB.out.1.below⟩
  clear HB;go_wp2;go_ret;exact HM.out
end Go.Proofs.YtlgkpdfieaadaaaGreatDoor
namespace Go.Proofs.YtlgkpdfieaadaaaGreatDoor
open Go.RowKit Go.Shelf
variable {α β:Type} {n gf N k m O e sz D B b o j:Nat} {P:Program} {assign body c:Code} {Q:Exit->Act->Aj->Prop} {a:Act} {w w0 W w1 W' wr:Aj} {lb cs:Array Ak} {L:List FoR} {v v':Ak} {xs ys:List Ak} {d:Option (List Deferred)} {pl:List Pg} {x1 x2 x3 x y:Nat×Array Ak×Ck}
attribute [local go_sem] Oper.semAt_some
def jP {F:Fence} {g:Operand} {ps:Array Tmp} 
  (LT:F.round=Ae) (h1:1<=n) (hg:a.eval g= .func (.func gf) #[] lb) (hFg:F.fn gf) (eg:∀args w,(callFunc gf args).run P w= .ok (.enter gf args) w)
  {EK:α->Array Ak} {Kp:Aj->Aj->Prop} {S Sp:List α->Prop} (S8:SeqStopsK F (n-1) P gf lb EK Kp S Sp N w0)
  (hKt:∀{A B C:Aj},Kp A B->Kp B C->Kp A C) (x_:∀(W:Aj) (l:Nat) (o o':Obj),w.heap.size<=l->W.heap[l]? =Af o->o.isCells=false->o.isWalk=false->Kp W (W.putObj l o')) (lh:Below w0.heap.size w0 w) (mw:∀x,(EK x).size=ps.size)
  (I:List α->Aj->Prop) (hI:OwnFrom w.heap.size I) (h0:I [] w) (hIs:∀pre W,I pre W->w.heap.size<=W.heap.size) (hKa:∀pre (W:Aj) (o:Obj),I pre W->Kp W (W.alloc o)) (C:α->Array Ak) (t:Ck) (T:α->Nat->Array Ak)
  (zj:∀(l:Nat) (x:α) (W:Aj) (B:Nat) (K:Act->Aj->Prop),W.heap.size=B->K {tmps:=T x B,defers:=[]} (W.alloc (.cells (C x) t))->
   assign.wpIn (F.inRound l) (n-1-1) P (Exit.then K (λ_ _ _=>False)) {tmps:=(ps.zip (EK x)).foldl (λt (p,v)=>t.setIfInBounds p v) a.tmps,defers:=[]} W)
  (NI:∀(l:Nat) (pre:List α) (x:α) (B:Nat) (W:Aj),w.heap.size<=B->W.heap[B]? =Af (.cells (C x) t (0,0))->I pre W->pre.length<N->body.wpIn (F.inRound l) (n-1-1) P (ownPostG w.heap.size Kp I (λ_ _ _=>False) (pre++[x]) W) {tmps:=T x B,defers:=[]} W)
  (NO:∀(D:Nat) (xs:List α) (W:Aj),w.heap.size<=D->S xs->I xs W->W.heap[D]? =Af (.deferred (Af []))->Q .normal {a with defers:={target:= .collected D,args:=#[]}::a.defers} W):
  (Code.rangeFunc g ps assign body).wpIn F n P Q a w:=
 wpIn_rangeFunc_ownH LT h1 hg hFg eg S8 hKt x_ lh mw I (λ_ _ _=>False) hI (λ_ _ _ _ _ hs _ _=>hs) h0
  (λx a' W=>∃B,w.heap.size<=B/\W.heap[B]? =Af (.cells (C x) t (0,0))/\a'={tmps:=T x B,defers:=[]})
  (λx a' _ A' B' row hs hg hr=>by
   obtain⟨Bx,h1,h2,h3⟩:=hs;refine⟨Bx,h1,(hg.block Bx (Au.1 h2).1 λe=>?_).trans h2,h3⟩;obtain⟨_,o,ho,hc⟩:=hr Bx e.symm;rw[h2]at ho
   cases ho;cases hc)
  (λl pre x W K hi hK=>zj l x W _ K rfl (hK _ _ ((KeepsOthers.alloc W _).from _) (hKa pre W _ hi) (hI.alloc _ hi) ⟨W.heap.size,hIs pre W hi,Ca W _,rfl⟩))
  (λl pre x a' W _ _ hi ha hN=>by
   obtain⟨B,hB,hc,rfl⟩:=ha;exact NI l pre x B W hB hc hi hN)
  NO (λ_ _ _ _ _ _ h _=>h.elim)
abbrev FoA (L:List FoR):={r:FoR//r∈L}
def foE (x:FoA L):Array Ak:=#[.agg #[x.1.h1,x.1.h2]]
def Bg6 (hk:k<L.attach.length) (hl:k<L.length):(L.attach[k]).1=L[k]:=Gy
def At6 (L:List FoR) (hlen:L.length<=100000) (l n Bs n₀ cap:Nat) (hn:1<=n) (A:Option Cj) (J Jx:List (FoA L)->Aj->Prop) (W:Aj)
  (hJ:AbidesFrom W.heap.size J)
  (hY:∀pre x W1,J pre W1->pre.length<L.length->YieldAt Cv (n-1) Dp l (foE x) W1 λe W'=>
   (e= .returned (.bool true)/\J (pre++[x]) W'/\Below n₀ W1 W')∨(e= .returned (.bool false)/\Jx (pre++[x]) W'))
  (XF:W.cell? ⟨Bs,0,Ae⟩=Af (Ad A L.length cap)) (yg:n₀<=W.heap.size) (hc:∀j (hj:j<L.length),∃b o,A=Af ⟨b,o,Ae⟩/\b<n₀/\W.cell? ⟨b,o+j*2,Ae⟩=Af L[j].h1/\W.cell? ⟨b,o+j*2+1,Ae⟩=Af L[j].h2) (h0:J [] W):
  CallsIn Cv n Dp 93 #[.func (.yield l) #[] #[],.pointer (Af ⟨Bs,0,Ae⟩)] W λe W'=>(∃v,e= .returned v)/\
   ((∃ys,ys=L.attach/\J ys W')∨(∃pre,True/\Jx pre W')):=by
 refine callsIn_of_wp Tryz.func93 rfl trivial ?_ rfl;simp only[Tryz.ntmps93,Fq,Eo,Cs,Nat.reduceAdd,Nat.reduceSub,Db,Da,List.push_toArray,De,Eu,Er];have it:L.attach.length=L.length:=List.length_attach;have hag:∀k (hk:k<L.attach.length) (hl:k<L.length),(L.attach[k]).1=L[k]:=λk hk hl=>Bg6 hk hl;obtain⟨zs,IS⟩:=ey L.attach;rw[IS]at it hag⊢;obtain⟨N,hN⟩:=ey L.length;have HC:=Ah hc;have HAG:=Ah hag;have ct:=Ah hN;rw[hN]at hlen hY it XF;clear IS hag hc hN
 gi_wp2
 gi_loopw [7] (λi wr=>∃k:Nat,k<=N/\i= Aa Ab k/\J (zs.take k) wr/\n₀<=wr.heap.size/\Below n₀ W wr)
  (λi _=>N-(intOf i).toNat)
 case atStart=>exact⟨0,Gm _,rfl,h0,yg,Ag _ _⟩
 obtain⟨k,hk,rfl,w_,hnw,fp⟩:=hrel;by_cases ac:k<N
 ·have Q_:k<L.length:=oHx ct.out;obtain⟨b,o,rfl,hb,c0,c1⟩:=HC.out k Q_;have c0:=(fp.cell (p:=⟨b,o+k*2,Ae⟩) hb).trans c0;have c1:=(fp.cell (p:=⟨b,o+k*2+1,Ae⟩) hb).trans c1;have q0:(k:Int)<(N:Int):=Gv;have OA:k<zs.length:=Gv;have ZA:=HAG.out k OA Q_;have ug:zs.take k++[zs[k]]=zs.take (k+1):=(Bc OA).symm;have HY:=Ah (λ(W1:Aj) (h:J (zs.take k) W1)=>hY _ zs[k] W1 h (by rw[Bm];omega));obtain⟨x,hx⟩:=ey (zs[k]);rw[hx]at ZA ug HY;unfold foE at HY;rw[ZA]at HY;obtain⟨r,hr⟩:=ey (L[k]);rw[hr]at c0 c1 HY;unfold FoR.h1 FoR.h2 at HY;unfold FoR.h1 at c0;unfold FoR.h2 at c1;have JJ:=hJ _ _ _ Ae w_ (World.grownBy_alloc wr (.cells #[Ad r.FA r.fr.length r.c1,Ad r.BA r.bk.length r.c2] 61) Ae) (by intro r e;cases e);obtain⟨fn,tmps,assign,body,hy,hR⟩:=HY.out _ JJ;clear hr hx ZA
  gi_wp2
  refine hR.mono ?_;rintro e W3 (⟨rfl,GQ,IB⟩|⟨rfl,xg⟩)
  ·rw[ug]at GQ;have de:Below n₀ wr W3:=((Ag n₀ wr).alloc hnw _).trans IB
   gi_wp2
   go_roundw
   case rel=>exact⟨k+1,Gv,by go_num,GQ,Bt hnw de.size,fp.trans de⟩
   case measure=>simp[intOf];omega
  ·gi_wp2
   refine Ai (results_none rfl _ _ _) rfl ?_;exact⟨⟨_,rfl⟩,.inr ⟨_,trivial,xg⟩⟩
 ·obtain rfl:k=N:=Gv
  gi_wp2
  go_end0
  rw[<-it,List.take_length]at w_;exact⟨⟨_,rfl⟩,.inl ⟨_,rfl,w_⟩⟩
def Ae5 (A:Option Cj) (n c:Nat) (w:Aj):
  Al Dp 47 #[Ad A n c] w λe w'=>e= .returned (.func (.func 93) #[] #[.pointer (Af ⟨w.heap.size,0,Ae⟩)])/\w'=w.alloc (.cells #[Ad A n c] 64):=by
 go_in;go_wp2;go_ret;exact⟨rfl,rfl⟩
def oW (L:List FoR) (hlen:L.length<=100000) (n Bs n₀ cap:Nat) (hn:1<=n) (A:Option Cj) (w:Aj) (XF:Bs<w.heap.size) (yg:n₀<=w.heap.size)
  (hc:w.cell? ⟨Bs,0,Ae⟩=Af (Ad A L.length cap)) (hI:∀j (hj:j<L.length),∃b o,A=Af ⟨b,o,Ae⟩/\b<n₀/\w.cell? ⟨b,o+j*2,Ae⟩=Af L[j].h1/\w.cell? ⟨b,o+j*2+1,Ae⟩=Af L[j].h2):
  SeqStopsK Cv n Dp 93 #[.pointer (Af ⟨Bs,0,Ae⟩)] (foE (L:=L)) (Below n₀) (λys=>ys=L.attach) (λ_=>True) L.length w:=λl J Jx W hW hJ _ hY h0=>
 At6 L hlen l n Bs n₀ cap hn A J Jx W hJ hY ((hW.cell (p:=⟨Bs,0,Ae⟩) XF).trans hc) (Bt yg hW.size) (λj hj=>by
  obtain⟨b,o,rfl,hb,c0,c1⟩:=hI j hj;exact⟨b,o,rfl,hb,(hW.cell (p:=⟨b,o+j*2,Ae⟩) (by show b<_;omega)).trans c0,(hW.cell (p:=⟨b,o+j*2+1,Ae⟩) (by show b<_;omega)).trans c1⟩) h0
abbrev FbA (L:List FoR):={x:Nat×FoR//x.2∈L}
def fbL (L:List FoR):List (FbA L):=(Ds L.length).attach.map λk=>⟨(L.length-1-k.1,L[L.length-1-k.1]'(oHx (Eb.1 k.2))),Ay _⟩
def fbE (x:FbA L):Array Ak:=#[Aa Ab (x.1.1:Nat),.agg #[x.1.2.h1,x.1.2.h2]]
def lL:(fbL L).length=L.length:=by simp[fbL]
def yP (hk:k<(fbL L).length):((fbL L)[k]).1=(L.length-1-k,L[L.length-1-k]'(by rw[lL]at hk;omega)):=by
 simp[fbL]
def Bw2:(fbL L).map (·.1.2)=L.reverse:=by
 apply Gk
 ·simp[fbL]
 ·intro k h1 h2;rw[Ge,yP,List.getElem_reverse]
def As7 (L:List FoR) (hlen:L.length<=100000) (Bn n₀ cap l n:Nat) (A:Option Cj) (hn:1<=n) (J Jx:List (FbA L)->Aj->Prop) (W:Aj)
  (hY:∀pre x W1,J pre W1->pre.length<L.length->YieldAt Cv (n-1) Dp l (fbE x) W1 λe W'=>
   (e= .returned (.bool true)/\J (pre++[x]) W'/\Mo n₀ Bn W1 W')∨(e= .returned (.bool false)/\Jx (pre++[x]) W'))
  (jv:W.heap[Bn]? =Af (Co #[Ad A L.length cap] 64 (0,0))) (yg:n₀<=W.heap.size) (hc:∀j (hj:j<L.length),∃b o,A=Af ⟨b,o,Ae⟩/\b<n₀/\W.cell? ⟨b,o+j*2,Ae⟩=Af L[j].h1/\W.cell? ⟨b,o+j*2+1,Ae⟩=Af L[j].h2) (h0:J [] W):
  CallsIn Cv n Dp 94 #[.func (.yield l) #[] #[],.pointer (Af ⟨Bn,0,Ae⟩)] W λe W'=>(∃v,e= .returned v)/\
   ((∃ys,ys=fbL L/\J ys W')∨(∃pre,True/\Jx pre W')):=by
 refine callsIn_of_wp Tryz.func94 rfl trivial ?_ rfl;simp only[Tryz.ntmps94,Fq,Eo,Cs,Nat.reduceAdd,Nat.reduceSub,Db,Da,List.push_toArray,De,Eu,Er];have cj:=lL (L:=L)
 have hbg:∀zs,fbL L=zs->∀k (hk:k<zs.length) j (hj:j<L.length),j=L.length-1-k->zs[k].1=(j,L[j]):=by
  rintro _ rfl k hk j hj rfl;exact yP hk
 obtain⟨zs,IS⟩:=ey (fbL L);have L':=Ah (hbg zs IS);rw[IS]at cj⊢;obtain⟨N,hN⟩:=ey L.length;have lh:W.cell? ⟨Bn,0,Ae⟩=Af (Ad A N cap):=by rw[Bz _ _ 0 _ _ _ jv,<-hN];rfl
 have HC:=Ah hc;have ct:=Ah hN;rw[hN]at hlen hY cj;have e1:wrap64 ((N:Int)-1)=(N:Int)-1:=Cc _ Gv;clear IS hbg hc hN
 gi_wp2
 gi_loopw [3] (λs3 wr=>∃(k:Nat) (i:Int),k<=N/\i=(N:Int)-1-k/\s3= Aa Ab i/\J (zs.take k) wr/\Mo n₀ Bn W wr) (λs3 _=>(intOf s3+1).toNat)
 case atStart=>exact⟨0,(N:Int)-1,Gm _,Gv,rfl,h0,Ag _ _,rfl⟩
 obtain⟨k,i,hk,hi,rfl,LI,hB⟩:=hrel;have c0:wr.cell? ⟨Bn,0,Ae⟩=Af (Ad A N cap):=(Un hB.2 0).trans lh;by_cases ac:k<N
 ·obtain⟨j,rfl⟩:∃j:Nat,i=j:=⟨N-1-k,Gv⟩;have lu:j=N-1-k:=Gv;have hj:j<L.length:=oHx ct.out;obtain⟨b,o,rfl,NH,d0,d1⟩:=HC.out j hj;have d0:=(hB.1.cell (p:=⟨b,o+j*2,Ae⟩) NH).trans d0;have d1:=(hB.1.cell (p:=⟨b,o+j*2+1,Ae⟩) NH).trans d1;obtain⟨r,hv⟩:=ey (L[j]);rw[hv]at d0 d1;have OA:k<zs.length:=Gv;have q0:(j:Int)>=0:=Gv;have q1:(j:Int)<(N:Int):=Gv;have e2:wrap64 ((j:Int)-1)=(j:Int)-1:=Cc _ Gv
  have hx:zs[k].1=(j,r):=by
   rw[L'.out k OA j hj (oHx ct.out),hv]
  obtain⟨fn,tmps,assign,body,hy,hR⟩:=hY _ zs[k] _ LI (by rw[Bm];omega);unfold fbE at hy;rw[hx]at hy;unfold FoR.h1 FoR.h2 at hy;unfold FoR.h1 at d0;unfold FoR.h2 at d1;dsimp only at hy;have ug:zs.take k++[zs[k]]=zs.take (k+1):=(Bc OA).symm;have HJK:=Ah lu;clear hv hx lu hi
  gi_wp2
  refine hR.mono ?_;rintro e W3 (⟨rfl,GQ,IB⟩|⟨rfl,xg⟩)
  ·rw[ug]at GQ
   gi_wp2
   go_roundw
   case rel=>exact⟨k+1,(j:Int)-1,Gv,by have:=HJK.out;omega,by go_num,GQ,Vc hB IB⟩
   case measure=>simp[intOf]
  ·gi_wp2
   refine Ai (results_none rfl _ _ _) rfl ?_;exact⟨⟨_,rfl⟩,.inr ⟨_,trivial,xg⟩⟩
 ·obtain rfl:k=N:=Gv;have q0:¬i>=0:=Gv
  gi_wp2
  go_end0
  rw[<-cj,List.take_length]at LI;exact⟨⟨_,rfl⟩,.inl LI⟩
def Ae0 (A:Option Cj) (n c:Nat) (w:Aj):
  Al Dp 48 #[Ad A n c] w λe w'=>e= .returned (.func (.func 94) #[] #[.pointer (Af ⟨w.heap.size,0,Ae⟩)])/\w'=w.alloc (.cells #[Ad A n c] 64):=by
 go_in;go_wp2;go_ret;exact⟨rfl,rfl⟩
def oK (L:List FoR) (hlen:L.length<=100000) (Bn n₀ cap n:Nat) (A:Option Cj) (hn:1<=n) (w:Aj)
  (jv:w.heap[Bn]? =Af (Co #[Ad A L.length cap] 64 (0,0))) (yg:n₀<=w.heap.size) (hc:∀j (hj:j<L.length),∃b o,A=Af ⟨b,o,Ae⟩/\b<n₀/\w.cell? ⟨b,o+j*2,Ae⟩=Af L[j].h1/\w.cell? ⟨b,o+j*2+1,Ae⟩=Af L[j].h2):
  SeqStopsK Cv n Dp 94 #[.pointer (Af ⟨Bn,0,Ae⟩)] (fbE (L:=L)) (Mo n₀ Bn) (λys=>ys=fbL L) (λ_=>True) L.length w:=λl J Jx W hW _ _ hY h0=>
 As7 L hlen Bn n₀ cap l n A hn J Jx W hY (kept hW jv (Au.1 jv).1) (Bt yg hW.size) (λj hj=>by
  obtain⟨b,o,e,hb,c0,c1⟩:=hc j hj;exact⟨b,o,e,hb,(hW.cell (p:=⟨b,o+j*2,Ae⟩) (by show b<_;omega)).trans c0,(hW.cell (p:=⟨b,o+j*2+1,Ae⟩) (by show b<_;omega)).trans c1⟩) h0
def dW {n₀ B:Nat} {t e:Ck} {size:Nat} 
  (hv:Boxed W B t v) (KJ:t≠e) (ae:W.ownsRow n₀ e size v k xs) (yg:n₀<=W.heap.size) (hB:n₀<=B)
  (ak:w1.ownsRow n₀ e size v' m ys) (tn:W.grownBy w1 v.ownBlock):
  Boxed w1 B t v/\Boxed (w1.setCell ⟨B,0,Ae⟩ v') B t v'/\(w1.setCell ⟨B,0,Ae⟩ v').ownsRow n₀ e size v' m ys/\KeepsOthers W (w1.setCell ⟨B,0,Ae⟩ v')/\Below n₀ W (w1.setCell ⟨B,0,Ae⟩ v'):=by
 have lw:Boxed w1 B t v:=hv.kept tn (hv.not_row KJ ae);refine⟨lw,lw.set v',ak.kept (grownBy_setCell' w1 B v') (.inr (lw.not_row KJ ak).symm),?_,?_⟩
 ·refine(KeepsOthers.of_grownBy tn λj o ej hj=>?_).trans (KeepsOthers.setCell _ _ _);rcases ae.2 with⟨rfl,_⟩|⟨g,cap,cur,rfl,_,zp,_⟩
  ·simp[Dx]at ej
  ·obtain rfl:g=j:=by simpa[Dx]using ej
   rw[zp]at hj;cases hj;rfl
 ·refine((Ag n₀ W).grown tn yg λj ej=>?_).setCell (p:=⟨B,0,Ae⟩) hB v';rcases ae.2 with⟨rfl,_⟩|⟨g,cap,cur,rfl,hb,_,_⟩
  ·simp[Dx]at ej
  ·obtain rfl:g=j:=by simpa[Dx]using ej
   exact hb
def wM {O e t sz n B:Nat} (h:w.ownsRow O e sz v n xs) (hB:w.heap[B]? =Af (.cells cs t (0,0))) (ht:t≠e):Af B≠v.ownBlock:=λe0=>by
 rcases h.2 with⟨rfl,-⟩|⟨g,cap,cur,rfl,r2,r3,-⟩
 ·simp[Dx]at e0
 ·obtain rfl:B=g:=by simpa[Dx]using e0
  rw[hB]at r3;injection r3 with r3;injection r3 with _ r3;exact ht r3
def Bp0 (h:w.ownsRow O e sz v n xs) (hD:w.heap[D]? =Af (.deferred d)):Af D≠v.ownBlock:=λe0=>by
 rcases h.2 with⟨rfl,-⟩|⟨g,cap,cur,rfl,r2,r3,-⟩
 ·simp[Dx]at e0
 ·obtain rfl:D=g:=by simpa[Dx]using e0
  rw[hD]at r3
  cases r3
def Bi4 (hB:D<B):OwnFrom B (λ(_:β) W=>W.heap[D]? =Af (.deferred d)):=λ_ W W' row hs hg hr=>
 (hg.block D (Au.1 hs).1 λe=>by
  have:=(hr D e.symm).1;omega).trans hs
def Bh2 {g:Nat} {t:Ck}:∀B,OwnFrom B (λ(_:β) W=>W.heap[g]? =Af (Co cs t (0,0))):=λ_ _ _ _ _ hs hg hr=>Vy hs hg (λr e=>(hr r e).2)
def pP (hb:Below W.heap.size W W'):KeepsFrom B W W':=
 ⟨hb.size,λk _ _ hk _=>(hb.block k (Au.1 hk).1).trans hk⟩
def bE (p:List Pg):∀l:List FoR,(l.flatMap λr=>p.map (rdV r)).length=l.length*p.length
 |[]=>Gy
 |r::l=>by
  rw[Bf,Bh,bE p l,Bp,Eo,Nat.add_mul,Nat.one_mul];omega
def zU (Q:Exit->Act->Aj->Prop):Exit->Act->Aj->Prop
 | .normal,a,w=>Q .normal a w
 |_,_,_=>False
def sH (h:c.wp P (zU Q) a w):c.wp P Q a w:=wp_mono h λe a w hh=>by
 cases e with
 |normal=>exact hh
 |_=>exact hh.elim
def Us (l:List FoR) (p1 p2:List Pg):List Int:=(l.flatMap λr=>p1.map (rdV r))++l.reverse.flatMap λr=>p2.map (rdV r)
def kM (xs:List Int) (w:Aj) (e:Ending) (w':Aj):Prop:=∃A,e= .returned (.tuple #[Ad A xs.length xs.length,Aa Ab 0])/\Rd w' A 1 xs.length (Ir xs)/\Below w.heap.size w w'
def Ba1 {A:Option Cj} (h:Rd w A 4 n (Ni pl)) (hk:k<=pl.length):Rd w A 4 k (Ni (pl.take k)):=by
 have hl:=h.1;rw[Ti]at hl;refine⟨by rw[Ti,Bm,Nat.min_eq_left hk],λh0=>?_⟩;obtain⟨b,o,e,hb,hc⟩:=h.2 Gv;refine⟨b,o,e,hb,λi v hi=>hc i v ?_⟩
 have e1:Ni pl=Ni (pl.take k)++Ni (pl.drop k):=by
  unfold Ni;rw[<-Bi,Fe]
 rw[e1,List.getElem?_append_left (Ax.1 hi).1];exact hi
def Cg0 (h:Bx w [x1,x2,x3,x,y] wr):Bx w [x1,x2,x3,y,x] wr:=h.perm (List.Perm.cons _ (List.Perm.cons _ (List.Perm.cons _ (List.Perm.swap y x []))))
def Aa2 (h:Rd w (Af ⟨b,o,Ae⟩) sz n xs) (hn:0<n):b<w.heap.size:=by
 obtain⟨b',o',e,hb,-⟩:=h.2 hn;obtain⟨rfl,rfl⟩:b=b'/\o=o':=by simpa using e
 exact hb
def Ba0 (h:Rd w (Af ⟨b,o,Ae⟩) 4 n (Ni pl)) (hk:k<=pl.length) (hj:j=o+k*4):Rd w (Af ⟨b,j,Ae⟩) 4 (n-k) (Ni (pl.drop k)):=by
 subst hj;have hl:=h.1;rw[Ti]at hl;refine⟨by rw[Ti,Dy];omega,λh0=>?_⟩;obtain⟨b',o',e,hb,hc⟩:=h.2 Gv;obtain⟨rfl,rfl⟩:b=b'/\o=o':=by simpa using e
 refine⟨b,o+k*4,rfl,hb,λi v hi=>?_⟩;rw[Nat.add_assoc];refine hc (k*4+i) v ?_
 have e1:Ni pl=Ni (pl.take k)++Ni (pl.drop k):=by
  unfold Ni;rw[<-Bi,Fe]
 have e2:(Ni (pl.take k)).length=k*4:=by rw[Ti,Bm,Nat.min_eq_left hk]
 rw[e1,List.getElem?_append_right Gv,e2,Nat.add_sub_cancel_left];exact hi
def Bo6 (a b:Nat) (s:St) (m:List Mv) (ls:List Nat) (hO:iK a b s m ls) (dw:∀k,k<2*ls.reverse.length->(pgK a m ls.reverse k).x<a/\(pgK a m ls.reverse k).y<b) (l:List FoR) (lA:Option Cj) (n lc:Nat) (hn:n=l.length) (RB:0<n) (fk:n<=10000) (mc:∀r∈l,Nv a b r.fr=true/\Nv a b r.bk=true)
  (ins:Bool) (np:Nat) (oc:np=2*ls.reverse.length) (UZ:0<np) (h4:ins=true->np%4=0) (pl p1 p2:List Pg) (dr:pl=(Ds np).map (pgK a m ls.reverse)) (qs:p1=if ins then pl.take (np/2)else pl) (lv:p2=if ins then pl.drop (np/2)else[])
  (pA:Option Cj) (pc:Nat) (A:Option Cj) (cc:Nat) (w:Aj) (hl:So w lA l) (hA:AOk pA s.cr.length pc) (fi:Rd w pA 3 s.cr.length (crs s.cr)) (bo:Ib w A s.l) (hQ:Qf w) (hT:Tn w):
  Al Dp 16 #[Ad lA n lc,.agg #[Aa Ab s.a,Aa Ab s.b,Ad pA s.cr.length pc,Aa Ac s.root.t,Aa Ab s.root.x,Aa Ab s.root.y,Ad A s.l.length cc],.bool ins] w (kM (Us l p1 p2) w):=by
 have dh:=hO.bd;have hlen:=hO.len;have pw:=Zz w (λw' hb=>Wl a b s m ls hO pA pc A cc w' hA (fi.below hb) (bo.below hb) (hQ.below hb) (hT.below hb));have fd:s.a=(a:Int)/\s.b=(b:Int):=⟨hO.sa,hO.sb⟩
 have hplb:∀p∈pl,p.x<a/\p.y<b:=λp hp=>by
  rw[dr]at hp;obtain⟨k,hk,rfl⟩:=Dr.1 hp;exact dw k (oHx (Eb.1 hk))
 have hpll:pl.length=np:=by rw[dr];simp
 have hnpb:np<=512:=by rw[oc,List.length_reverse];omega
 have jq:∀r∈l,r.fr.length=b/\r.bk.length=b:=λr hr=>⟨(Qu (mc r hr).1).1,(Qu (mc r hr).2).1⟩
 have HUF:=Ah (λ(P:Nat) (w':Aj) (hb:Below w.heap.size w w') (hP:w'.cell? ⟨P,0,Ae⟩=Af (Aa Ab (a:Nat))/\w'.cell? ⟨P,1,Ae⟩=Af (Aa Ab (b:Nat))) (LM:P<w'.heap.size)=>nY 44 (λ_ _=>rfl) #[.pointer (Af ⟨P,0,Ae⟩)] (λr=> !Nv a b r.fr|| !Nv a b r.bk) lA l n lc w' hn (hl.below hb) Gv
  (λr w2 hr aj=>An4 a b P r w2 ((hl.row r hr).below (Up hb aj)) (oHx ((jq r hr).1)) (oHx ((jq r hr).2)) (Gw aj hP.1) (Gw aj hP.2) (Br LM aj.size)))
 have hany:(l.any λr=> !Nv a b r.fr|| !Nv a b r.bk)=false:=by
  rw[Du];intro r hr;obtain⟨e1,e2⟩:=mc r hr;rw[e1,e2]
  decide
 rw[hany]at HUF;have i8:=Zz w (λw' hb=>hl.below hb);have DU:=Ah mc;have BE:=Ah hplb;have qk:=Ah hn;have GI:=Ah qs;have AN:=Ah lv;have yy:=Ah hpll;have H4:=Ah h4;have i9:=Ah (show∀j (hj:j<l.length),∃b o,lA=Af ⟨b,o,Ae⟩/\b<w.heap.size/\w.cell? ⟨b,o+j*2,Ae⟩=Af l[j].h1/\w.cell? ⟨b,o+j*2+1,Ae⟩=Af l[j].h2 from λj hj=>hl.at' j hj);obtain⟨RL,hRL⟩:=ey (Us l p1 p2);rw[hRL];have CS:=Ah hRL;obtain⟨sa,sb,cr,⟨rt,rx,ry⟩,sl⟩:=s;dsimp only at pw fd⊢;obtain⟨rfl,rfl⟩:=fd;obtain⟨pn,vm⟩:=ey cr.length;obtain⟨SN,EP⟩:=ey sl.length;rw[vm,EP]at pw⊢;unfold kK at pw;rw[<-oc]at pw;have hPV:Hid (pgs a m ls.reverse=Ni pl):=Ah (by rw[Az2,dr,oc]);have H:=(Bx.start w).new #[a,b,Ad pA pn pc,Aa Ac rt,rx,ry,Ad A SN cc] 33 rfl;have q0:((n:Int)==0)=false:=Hv;have q0b:¬(n:Int)=0:=Gv;have q1:(np:Int).tmod 4=((np%4:Nat):Int):=by rw[Int.tmod_eq_emod_of_nonneg Gv];omega
 clear hO dw fi bo hQ hT vm EP hA mc hn hl hplb hpll dr qs lv oc jq hany hRL h4 hlen;refine(callsIn_wide (n:=9)).1 (callsIn_of_wp_marks Tryz.func16 rfl trivial ?_ rfl);simp only[Tryz.ntmps16,Fq,Eo,Cs,Nat.reduceAdd,Nat.reduceSub,Db,Da,List.push_toArray,De,Eu,Er];refine wpIn_wide.2 ?_;go_upto_region 1 with fail;obtain⟨N,ct⟩:=Tw w.heap.size;rw[<-ct.out]at H⊢;generalize w.alloc _=W at H⊢;obtain⟨a0,a1,a2,a3,a4,a5,a6⟩:=Kg (H.b 0);go_wp2_with fail;refine(pw.out _ H.below).mono ?_;rintro ee w2 ⟨hb,pgA,vw,rfl,aa⟩;rw[hPV.out]at aa;have H2:=H.call hb;have ba:=Rd.of_own aa;obtain⟨PA,kPC,f1,f2,f3⟩:=Mi aa;obtain⟨rfl,rfl⟩:pgA=PA/\vw=kPC:=by simpa using f1
 clear a0 a1 a2 a3 a4 a5 a6 hb pw H aa f1;obtain⟨a0,a1,a2,a3,a4,a5,a6⟩:=Kg (H2.b 0);obtain⟨N2,tg⟩:=ey w2.heap.size;have H3:=H2.new #[(a:Nat),(b:Nat)] 25 tg;have ba:=ba.alloc (.cells #[(a:Nat),(b:Nat)] 25);clear H2;go_upto_region 5 with fail
 try rw[tg]
 generalize w2.alloc _=W3 at H3 ba⊢;clear a0 a1 a2 a3 a4 a5 a6 tg;go_cut [40]from 29 to 40 (λZ1 wx=>Z1= .bool false/\W3=wx)
 case first=>
  cases ins with
  |true=>
   have e0:=H4.out rfl;rw[e0]at q1;clear H3 ba HUF i8 DU BE qk GI AN yy i9 CS hPV f2 f3 e0
   as_aux_lemma=>
   go_wp2;go_meet;exact⟨rfl,rfl⟩
  |false=>
   clear H3 ba HUF i8 DU BE qk GI AN yy i9 CS hPV f2 f3
   as_aux_lemma=>
   go_wp2;go_meet;exact⟨rfl,rfl⟩
 obtain⟨rfl,rfl⟩:=hcut
 apply_assumption
 obtain⟨s0,s1⟩:=(Hm (H3.b 1)).1;go_wp2_with fail;refine(HUF.out N2 _ H3.below ⟨s0,s1⟩ (H3.lt 1 rfl)).mono ?_;rintro ee w4 ⟨rfl,hb⟩;have H4':=H3.call hb;have ba:=ba.below hb;clear s0 s1 hb H3 HUF;obtain⟨VU,E8⟩:=ey w4.heap.size;have H5:=H4'.new #[.func (.func 46) #[] #[.pointer (Af ⟨N2,0,Ae⟩)]] 117 E8;have ba:=ba.alloc (.cells #[.func (.func 46) #[] #[.pointer (Af ⟨N2,0,Ae⟩)]] 117);clear H4';go_upto_region 10 with fail
 try rw[E8]
 generalize w4.alloc _=W5 at H5 ba⊢;clear E8
 obtain⟨pb,po,rfl⟩:∃pb po,pgA=Af ⟨pb,po,Ae⟩:=by
  rcases f2 with⟨-,h0,-⟩|⟨b9,o9,h9⟩
  ·omega
  ·exact⟨b9,o9,h9⟩
 clear f2;go_cut [12,13]from 12 to 49 (λVS KO wx=>∃(rh rj c2:Nat) (A2:Option Cj),VS= .pointer (Af ⟨rh,0,Ae⟩)/\KO= .pointer (Af ⟨rj,0,Ae⟩)/\Hid (Bx w [(N,#[Aa Ab a,Aa Ab b,Ad pA pn pc,Aa Ac rt,Aa Ab rx,Aa Ab ry,Ad A SN cc],33),(N2,#[Aa Ab (a:Nat),Aa Ab (b:Nat)],25),(VU,#[.func (.func 46) #[] #[.pointer (Af ⟨N2,0,Ae⟩)]],117),(rh,#[Ad (Af ⟨pb,po,Ae⟩) np vw],74),(rj,#[Ad A2 0 c2],74)] wx/\Rd wx (Af ⟨pb,po,Ae⟩) 4 np (Ni pl))/\Hid (pb≠rh/\pb≠rj))
 case first=>
  clear i8 DU BE qk GI AN yy i9 CS hPV H4 q0 q0b q1;obtain⟨S,an⟩:∃S:Aj->Prop,S=λ_=>True:=⟨_,rfl⟩;have HSO:Hid (∀W',S W'->True):=Ah λW' h=>trivial;have HS:Hid (∀W',S W'):=Ah λW'=>by subst an;trivial
  clear an;refine sH ?_;refine Ao (S:=S) Gx (HS.out _) (λhS=>?_);have H5:=H5.drew;have ba:=ba.below (Ag _ _).drew;generalize W5.drew=X0 at hS H5 ba⊢;refine Hk 0 1 2 3 ?_;refine Ke 4 ?_;generalize (if vw=np then Af (⟨pb,po,Ae⟩:Cj)else Af ⟨pb,po+np*4,Ae⟩)=A2;generalize vw-np=c2;refine Ap (rs:=[5,6]) Gx Gy (Aq rfl (λK hK=>?_) (Aq rfl (λK hK=>?_) Ar))
  ·obtain⟨rh,EO⟩:=ey X0.heap.size;have H6:=H5.new #[Ad Ae 0 0] 74 EO;have vn:=ba.alloc (.cells #[Ad Ae 0 0] 74);have vk:pb≠rh:=oHx (Aa2 ba UZ);go_simp;refine hK.o (HS.out _) (λhS=>?_);clear hK K
   try rw[EO]
   generalize X0.alloc _=X1 at H6 vn⊢;clear EO;refine rdy 6 (λK hK=>?_);obtain⟨rj,EO⟩:=ey X1.heap.size;have H7:=H6.new #[Ad Ae 0 0] 74 EO;have OU:=vn.alloc (.cells #[Ad Ae 0 0] 74);have CA:pb≠rj:=oHx (Aa2 vn UZ);go_simp;refine hK.o (HS.out _) (λhS=>?_);clear hK K
   try rw[EO]
   generalize X1.alloc _=X2 at H7 OU⊢;clear EO;obtain⟨c0,z0⟩:=Lx (H7.b 3);obtain⟨c1,z1⟩:=Lx (H7.b 4);have hne:rh≠rj:=H7.ne 3 4 He rfl rfl;have hne':rj≠rh:=hne.symm;refine rdy 7 (λK hK=>?_);go_simp;refine hK.o (HS.out _) (λhS=>?_);clear hK K;refine rdy 8 (λK hK=>?_);go_simp;refine hK.o (HS.out _) (λhS=>?_);clear hK K;refine An Gx ?_ _;simp only[zU];go_wp2;go_meet;exact⟨rh,rj,_,_,rfl,rfl,Ah ⟨(((H7.set 3 0 rfl (Ad (Af ⟨pb,po,Ae⟩) np vw)).set 4 0 rfl _)),Si (Si OU λq hq=>by injection hq with hq;subst hq;exact vk) λq hq=>by injection hq with hq;subst hq;exact CA⟩,Ah ⟨vk,CA⟩⟩
  ·obtain⟨rj,EO⟩:=ey X0.heap.size;have H6:=H5.new #[Ad Ae 0 0] 74 EO;have vn:=ba.alloc (.cells #[Ad Ae 0 0] 74);have CA:pb≠rj:=oHx (Aa2 ba UZ);go_simp;refine hK.o (HS.out _) (λhS=>?_);clear hK K
   try rw[EO]
   generalize X0.alloc _=X1 at H6 vn⊢;clear EO;refine rdy 5 (λK hK=>?_);obtain⟨rh,EO⟩:=ey X1.heap.size;have H7:=H6.new #[Ad Ae 0 0] 74 EO;have OU:=vn.alloc (.cells #[Ad Ae 0 0] 74);have vk:pb≠rh:=oHx (Aa2 vn UZ);go_simp;refine hK.o (HS.out _) (λhS=>?_);clear hK K
   try rw[EO]
   generalize X1.alloc _=X2 at H7 OU⊢;clear EO;obtain⟨c0,z0⟩:=Lx (H7.b 4);obtain⟨c1,z1⟩:=Lx (H7.b 3);have hne:rh≠rj:=H7.ne 4 3 He rfl rfl;have hne':rj≠rh:=hne.symm;refine rdy 7 (λK hK=>?_);go_simp;refine hK.o (HS.out _) (λhS=>?_);clear hK K;refine rdy 8 (λK hK=>?_);go_simp;refine hK.o (HS.out _) (λhS=>?_);clear hK K;refine An Gx ?_ _;simp only[zU];go_wp2;go_meet;exact⟨rh,rj,_,_,rfl,rfl,Ah ⟨(Cg0 ((H7.set 4 0 rfl (Ad (Af ⟨pb,po,Ae⟩) np vw)).set 3 0 rfl _)),Si (Si OU λq hq=>by injection hq with hq;subst hq;exact vk) λq hq=>by injection hq with hq;subst hq;exact CA⟩,Ah ⟨vk,CA⟩⟩
 obtain⟨rh,rj,c2,A2,rfl,rfl,HW,HPB⟩:=hcut;clear H5 ba;go_upto_if 50 with fail;obtain⟨W6,rfl⟩:=ez wc;go_cut [50]from 51 to 60 (λs50 wx=>∃(n1 c1 n2 c2:Nat) (A1 A2:Option Cj),s50= .bool ins/\n1=p1.length/\n2=p2.length/\Hid (Bx w [(N,#[Aa Ab a,Aa Ab b,Ad pA pn pc,Aa Ac rt,Aa Ab rx,Aa Ab ry,Ad A SN cc],33),(N2,#[Aa Ab (a:Nat),Aa Ab (b:Nat)],25),(VU,#[.func (.func 46) #[] #[.pointer (Af ⟨N2,0,Ae⟩)]],117),(rh,#[Ad A1 n1 c1],74),(rj,#[Ad A2 n2 c2],74)] wx/\Rd wx A1 4 n1 (Ni p1)/\Rd wx A2 4 n2 (Ni p2)))
 case first=>
  have dr:=yy.out;have vd:=GI.out;have QI:=AN.out;clear i8 DU BE qk GI AN yy i9 CS hPV q0 q0b q1
  cases ins with
  |false=>
   simp only[Ek,if_false]at vd QI;subst vd QI;have HX:Hid (Bx w [(N,#[Aa Ab a,Aa Ab b,Ad pA pn pc,Aa Ac rt,Aa Ab rx,Aa Ab ry,Ad A SN cc],33),(N2,#[Aa Ab (a:Nat),Aa Ab (b:Nat)],25),(VU,#[.func (.func 46) #[] #[.pointer (Af ⟨N2,0,Ae⟩)]],117),(rh,#[Ad (Af ⟨pb,po,Ae⟩) np vw],74),(rj,#[Ad A2 0 c2],74)] W6/\Rd W6 (Af ⟨pb,po,Ae⟩) 4 np (Ni p1)/\Rd W6 A2 4 0 (Ni [])):=Ah ⟨HW.out.1,HW.out.2,⟨rfl,λh=>absurd h Gv⟩⟩;clear HW H4
   as_aux_lemma=>
   go_wp2;go_meet;exact⟨np,vw,0,c2,_,A2,rfl,dr.symm,rfl,HX⟩
  |true=>
   simp only[if_true]at vd QI;have h4:=H4.out rfl;obtain⟨hf,hhf⟩:=ey (np/2);rw[hhf]at vd QI;have t1:(np:Int).tdiv 2=(hf:Int):=by rw[Gi Gv];omega
   have t2:=Cb (hf:Int) Gv;have hcap:hf<=vw:=Gv;have hnp2:hf<=np:=Gv;have hcne:¬vw=hf:=Gv;obtain⟨S,an⟩:∃S:Aj->Prop,S=λ_=>True:=⟨_,rfl⟩;have HSO:Hid (∀W',S W'->True):=Ah λW' h=>trivial;have HS:Hid (∀W',S W'):=Ah λW'=>by subst an;trivial
   clear an;have H5:=HW.out.1.drew;have ba:=HW.out.2.below (Ag _ _).drew;have vk:pb≠rh:=HPB.out.1;have CA:pb≠rj:=HPB.out.2;have na:=Ah (Cn vd (Cn QI dr));clear HW H4 vd QI dr hhf h4;go_upto_region 12 with fail;refine sH ?_;refine Ao (S:=S) Gx (HS.out _) (λhS=>?_);generalize W6.drew=X0 at hS H5 ba⊢;refine Hk 0 1 2 3 ?_;refine Hk 4 5 6 7 ?_;refine Ql 8 9 ?_
   try rw[Ha hcne]
   obtain⟨c0,z0⟩:=Lx (H5.b 3);obtain⟨c1,z1⟩:=Lx (H5.b 4);have hne:rh≠rj:=H5.ne 3 4 He rfl rfl;have hne':rj≠rh:=hne.symm;obtain⟨c4,hc4⟩:=ey (vw-hf)
   try rw[hc4]
   obtain⟨n4,hn4⟩:=ey (np-hf)
   try rw[hn4]
   have H6:=(H5.set 3 0 rfl (Ad (Af ⟨pb,po,Ae⟩) hf vw)).set 4 0 rfl (Ad (Af ⟨pb,po+hf*4,Ae⟩) n4 c4);have vn:=Si (j:=0) (v:= Ad (Af ⟨pb,po+hf*4,Ae⟩) n4 c4) (g:=rj) (Si (j:=0) (v:= Ad (Af ⟨pb,po,Ae⟩) hf vw) (g:=rh) ba λq hq=>by injection hq with hq;subst hq;exact vk) λq hq=>by injection hq with hq;subst hq;exact CA
   have HX:Hid (∃(n1 c1 n2 c2:Nat) (A1 A2:Option Cj),Value.bool true= .bool true/\n1=p1.length/\n2=p2.length/\Hid (Bx w [(N,#[Aa Ab a,Aa Ab b,Ad pA pn pc,Aa Ac rt,Aa Ab rx,Aa Ab ry,Ad A SN cc],33),(N2,#[Aa Ab (a:Nat),Aa Ab (b:Nat)],25),(VU,#[.func (.func 46) #[] #[.pointer (Af ⟨N2,0,Ae⟩)]],117),(rh,#[Ad A1 n1 c1],74),(rj,#[Ad A2 n2 c2],74)] ((X0.setCell ⟨rh,0,Ae⟩ (Ad (Af ⟨pb,po,Ae⟩) hf vw)).setCell ⟨rj,0,Ae⟩ (Ad (Af ⟨pb,po+hf*4,Ae⟩) n4 c4))/\Rd ((X0.setCell ⟨rh,0,Ae⟩ (Ad (Af ⟨pb,po,Ae⟩) hf vw)).setCell ⟨rj,0,Ae⟩ (Ad (Af ⟨pb,po+hf*4,Ae⟩) n4 c4)) A1 4 n1 (Ni p1)/\Rd ((X0.setCell ⟨rh,0,Ae⟩ (Ad (Af ⟨pb,po,Ae⟩) hf vw)).setCell ⟨rj,0,Ae⟩ (Ad (Af ⟨pb,po+hf*4,Ae⟩) n4 c4)) A2 4 n2 (Ni p2))):=Ah (by
    obtain⟨e1,e2,e3⟩:=na.out;have l1:p1.length=hf:=by rw[e1,Bm];omega
    have l2:p2.length=n4:=by rw[e2,Dy];omega
    refine⟨hf,vw,n4,c4,Af ⟨pb,po,Ae⟩,Af ⟨pb,po+hf*4,Ae⟩,rfl,l1.symm,l2.symm,Ah ⟨H6,?_,?_⟩⟩
    ·rw[e1];exact Ba1 vn Gv
    ·rw[e2,<-hn4];exact Ba0 (by rw[hn4];exact vn) Gv rfl)
   clear H6 vn hc4 hn4 ba H5 vk CA;refine rdy 10 (λK hK=>?_);go_simp;refine hK.o (HS.out _) (λhS=>?_);clear hK K;refine rdy 11 (λK hK=>?_);go_simp;refine hK.o (HS.out _) (λhS=>?_);clear hK K;refine An Gx ?_ _;simp only[zU];go_wp2;go_meet;obtain⟨n1,c1,n2,c2,A1,A2,-,h1,h2,h3⟩:=HX.out;exact⟨n1,c1,n2,c2,A1,A2,rfl,h1,h2,h3⟩
 obtain⟨n1,c1,n2,c2,A1,A2,rfl,ig,mo,HW⟩:=hcut;obtain⟨W7,rfl⟩:=ez wc;obtain⟨O,hO⟩:=ey W7.heap.size;have NF:Below W7.heap.size W7 (W7.alloc (.cells #[Ad Ae 0 0] 38)):=(Ag _ _).alloc (Am _) _;have hOlt:N<O/\N2<O/\VU<O/\rh<O/\rj<O:=hO▸⟨HW.out.1.lt 0 rfl,HW.out.1.lt 1 rfl,HW.out.1.lt 2 rfl,HW.out.1.lt 3 rfl,HW.out.1.lt 4 rfl⟩;have hwO:w.heap.size<=O:=hO▸HW.out.1.below.size;have HW8:=Ah (Cn (HW.out.1.call NF) (Cn (HW.out.2.1.below NF) (HW.out.2.2.below NF)));have bO:Boxed (W7.alloc (.cells #[Ad Ae 0 0] 38)) O 38 (Ad Ae 0 0):=by rw[<-hO];exact Boxed.new W7 _ _
 have DM:(W7.alloc (.cells #[Ad Ae 0 0] 38)).heap.size=O+1:=by rw[<-hO];simp
 have HO:=Ah hO;clear HPB;go_upto_region 14 with fail
 try rw[hO]
 generalize W7.alloc _=W8 at NF bO DM⊢;clear hO;go_wp2_with fail;refine(Ae5 lA n lc _).mono ?_;rintro e w9 ⟨rfl,LU⟩;rw[DM];have bg:Below W8.heap.size W8 w9:=by rw[LU];exact(Ag _ _).alloc (Am _) _
 have bV:Boxed w9 (O+1) 64 (Ad lA n lc):=by rw[LU,<-DM];exact Boxed.new W8 _ _
 have bO9:Boxed w9 O 38 (Ad Ae 0 0):=by rw[LU];exact bO.alloc _
 have hs9:w9.heap.size=O+2:=by rw[LU,World.size_alloc,DM]
 have HB79:=Ah (Up NF bg)
 have HWX:Hid (∀W,Below O w9 W->Bx w [(N,#[Aa Ab a,Aa Ab b,Ad pA pn pc,Aa Ac rt,Aa Ab rx,Aa Ab ry,Ad A SN cc],33),(N2,#[Aa Ab (a:Nat),Aa Ab (b:Nat)],25),(VU,#[.func (.func 46) #[] #[.pointer (Af ⟨N2,0,Ae⟩)]],117),(rh,#[Ad A1 n1 c1],74),(rj,#[Ad A2 n2 c2],74)] W/\Rd W A1 4 n1 (Ni p1)/\Rd W A2 4 n2 (Ni p2)):=Ah λW hW=>by
  have hb:Below W7.heap.size W7 W:=HB79.out.trans (by rw[HO.out];exact hW);exact⟨HW.out.1.call hb,HW.out.2.1.below hb,HW.out.2.2.below hb⟩
 have hp1b:∀p∈p1,p.x<a/\p.y<b:=λp hp=>BE.out p (by
  rw[GI.out]at hp
  split at hp
  ·exact List.mem_of_mem_take hp
  ·exact hp)
 have hp2b:∀p∈p2,p.x<a/\p.y<b:=λp hp=>BE.out p (by
  rw[AN.out]at hp
  split at hp
  ·exact List.mem_of_mem_drop hp
  ·cases hp)
 have hl1b:p1.length<=512:=by
  have:=yy.out;rw[GI.out]
  split
  ·rw[Bm];omega
  ·omega
 have hl2b:p2.length<=512:=by
  have:=yy.out;rw[AN.out]
  split
  ·rw[Dy];omega
  ·simp
 have HRC:Hid (∀(W:Aj) (r:FoR),r∈l->Below O w9 W->Al Dp 46 #[.agg #[r.h1,r.h2],Ad A1 n1 c1,.pointer (Af ⟨N2,0,Ae⟩)] W (Nt 3 1 n1 (Ir (p1.map (rdV r))) W)/\Al Dp 46 #[.agg #[r.h1,r.h2],Ad A2 n2 c2,.pointer (Af ⟨N2,0,Ae⟩)] W (Nt 3 1 n2 (Ir (p2.map (rdV r))) W)):=Ah λW r hr hW=>by
  obtain⟨hX,ws,gp⟩:=HWX.out W hW;obtain⟨f1,f2⟩:=DU.out r hr;have BS:=(i8.out W hX.below).row r hr;have hc:=(Hm (hX.b 1)).1.1;exact⟨jQ a b Gv r f1 f2 p1 hp1b A1 n1 c1 N2 W BS ig Gv ws hc (hX.lt 1 rfl),jQ a b Gv r f1 f2 p2 hp2b A2 n2 c2 N2 W BS mo Gv gp hc (hX.lt 1 rfl)⟩
 have hwO9:w.heap.size<=w9.heap.size:=Gv
 have hLI9:∀j (hj:j<l.length),∃b o,lA=Af ⟨b,o,Ae⟩/\b<O/\w9.cell? ⟨b,o+j*2,Ae⟩=Af l[j].h1/\w9.cell? ⟨b,o+j*2+1,Ae⟩=Af l[j].h2:=λj hj=>by
  obtain⟨b0,o0,e0,lh,c0,c1⟩:=i9.out j hj;have de:=(HWX.out w9 (Ag _ _)).1.below;exact⟨b0,o0,e0,Gv,(de.cell (p:=⟨b0,o0+j*2,Ae⟩) lh).trans c0,(de.cell (p:=⟨b0,o0+j*2+1,Ae⟩) lh).trans c1⟩
 obtain⟨i0,ep,dp,ap,bw⟩:=info_parts Nq;have fx:=Ah ep;have uj:=Ah dp;have pj:=Ah ap;have ki:=Ah bw;have O8:l.length<=10000:=oHx qk.out;have hVc:w9.cell? ⟨O+1,0,Ae⟩=Af (Ad lA l.length lc):=by rw[<-qk.out];exact bV.cell
 clear LU bO DM bg ep dp ap bw hp1b hp2b;go_wp2_with fail
 refine' wpIn_wide.1 (jP (F:=Cv) (n:=9) (w0:=w9) rfl He (gf:=93) (lb:=#[.pointer (Af ⟨O+1,0,Ae⟩)]) rfl trivial (enters_of Tryz.func93 Gx rfl)
  (oW l Gv 8 (O+1) O lc He lA w9 Gv Gv hVc hLI9) belowK_t (belowK_b Gv) (Ag _ _) (λ_=>rfl)
  (λpre W=>(∃v,Boxed W O 38 v/\W.ownsRow O 3 1 v (pre.length*n1) (Ir ((pre.map (·.1)).flatMap λr=>p1.map (rdV r)))/\True)/\Below O w9 W)
  (OwnFrom.and (Own.from (holdsRow_own O O 38 3 1 (λpre:List (FoA l)=>pre.length*n1) (λpre=>Ir ((pre.map (·.1)).flatMap λr=>p1.map (rdV r))) (λ_ _=>True)) _) (ownFrom_below Gv Gv))
  ⟨⟨_,bO9,by simpa[Ir]using World.ownsRow_nil _ _ _ _,trivial⟩,Ag _ _⟩ (λpre W hI=>hI.2.size) (λpre W o hI=>(Ag O W).alloc (oHx hI.2.size) o) (λx=>#[Ad x.1.FA x.1.fr.length x.1.c1,Ad x.1.BA x.1.bk.length x.1.c2]) 61 _ ?assign ?body ?done)
 case assign=>
  rintro l0 x W B K hB hK;unfold foE FoR.h1 FoR.h2;dsimp only at hK⊢
  gi_wp2
  try rw[hB]
  exact hK
 case body=>
  rintro l0 pre ⟨r,RG⟩ B W XF wk ⟨⟨v0,hv,ae,-⟩,QE⟩ ac;dsimp only at wk;have BK:O<=W.heap.size:=oHx QE.size;have wu:(pre.length*n1)<=10000*512:=Gq Gv Gv;have am:((pre++[(⟨r,RG⟩:FoA l)]).map (·.1)).flatMap (λr=>p1.map (rdV r))=(pre.map (·.1)).flatMap (λr=>p1.map (rdV r))++p1.map (rdV r):=Gy;have EX:(pre++[(⟨r,RG⟩:FoA l)]).length*n1=pre.length*n1+n1:=by rw[Bh,Nat.add_mul];simp
  obtain⟨HY,QF⟩:=ey p1;obtain⟨ppre,YM⟩:=ey (pre++[(⟨r,RG⟩:FoA l)]);rw[YM]at am EX⊢;have IW:=Ah (Cn am EX);obtain⟨xs,V1⟩:=ey ((pre.map (·.1)).flatMap (λr=>p1.map (rdV r)));obtain⟨k,iz⟩:=ey (pre.length*n1);rw[V1,iz]at ae;rw[iz]at wu;rw[V1,iz,QF]at IW;have za:=Ah (λ(W:Aj) (h:Below O w9 W)=>(HRC.out W r RG h).1);rw[QF]at za;have hn1b:n1<=512:=Gv;have HLL1:Hid (HY.length=n1):=Ah (by rw[<-QF];exact ig.symm);unfold FoR.h1 FoR.h2 at za;obtain⟨A9,k9,e9,-,-⟩:=Hy ae;subst e9;obtain⟨S,an,HSO⟩:=Og λW'=>W'.cell? ⟨VU,0,Ae⟩=Af (.func (.func 46) #[] #[.pointer (Af ⟨N2,0,Ae⟩)])/\W'.cell? ⟨B,0,Ae⟩=Af (Ad r.FA r.fr.length r.c1)/\W'.cell? ⟨B,1,Ae⟩=Af (Ad r.BA r.bk.length r.c2)/\W'.cell? ⟨rh,0,Ae⟩=Af (Ad A1 n1 c1)
  have zc:Hid (∀W',Below O w9 W'->W'.heap[B]? =Af (.cells #[Ad r.FA r.fr.length r.c1,Ad r.BA r.bk.length r.c2] 61 (0,0))->S W'):=Ah λW' h hb=>by
   subst an;obtain⟨hX,-,-⟩:=HWX.out W' h;obtain⟨⟨b0,b1⟩,-⟩:=Hm hb;exact⟨(Lx (hX.b 2)).1,b0,b1,(Lx (hX.b 3)).1⟩
  have HHY:=Ah QF;clear QF ig mo;clear an am EX YM V1 iz HRC i8 DU BE i9 CS yy GI AN
  gi_wp2
  refine bH (S:=S) Gx (by rintro⟨_,_,h⟩;exact h) Gx (zc.out _ QE.drew wk) (λhS=>?_);have JO:Below W.heap.size W W.drew:=(Ag _ _).drew;have J0:W.heap.size=W.drew.heap.size:=rfl;have CW:Below O w9 W.drew:=QE.drew;have MX:O<=W.drew.heap.size:=BK;have hv:Boxed W.drew O 38 (Ad A9 k k9):=hv;have ae:W.drew.ownsRow O 3 1 (Ad A9 k k9) k (Ir xs):=ae;have wk:W.drew.heap[B]? =Af (.cells #[Ad r.FA r.fr.length r.c1,Ad r.BA r.bk.length r.c2] 61 (0,0)):=wk;generalize W.drew=X0 at JO J0 CW MX hv ae wk hS⊢;refine Oe 1 2 3 ?_;have U7:=hv.cell;refine Ap (rs:=[0,4]) Gx Gy (Aq rfl (λK hK=>?_) (Aq rfl (λK hK=>?_) Ar));go_simp;refine hK.o hS (λhS=>?_);clear hK K U7;refine rdy 4 (λK hK=>?_);go_simp;refine(za.out X0 CW).mono ?_;rintro ee X1 ⟨v1,rfl,au,ad⟩;obtain⟨A3,c3,rfl,MR⟩:=Lu au;have lw:Boxed X1 O 38 (Ad A9 k k9):=(ad.block O hv.lt).trans hv;have bt:=Hz ae (Am _) ad;have GS:O<=X1.heap.size:=Bt MX ad.size;have jf:=CW.trans (ad.mono MX);have jy:=(ad.block B (Au.1 wk).1).trans wk;have BL:=JO.trans (ad.mono (Nat.le_of_eq J0));refine hK.o (zc.out _ jf jy) (λhS=>?_);clear hK K;rotate_left;go_simp;refine(za.out X0 CW).mono ?_;rintro ee X1 ⟨v1,rfl,au,ad⟩;obtain⟨A3,c3,rfl,MR⟩:=Lu au;have lw:Boxed X1 O 38 (Ad A9 k k9):=(ad.block O hv.lt).trans hv;have bt:=Hz ae (Am _) ad;have GS:O<=X1.heap.size:=Bt MX ad.size;have jf:=CW.trans (ad.mono MX);have jy:=(ad.block B (Au.1 wk).1).trans wk;have BL:=JO.trans (ad.mono (Nat.le_of_eq J0));refine hK.o (zc.out _ jf jy) (λhS=>?_);clear hK K;have U7:=lw.cell;refine rdy 0 (λK hK=>?_);go_simp;refine hK.o hS (λhS=>?_);clear hK K U7
  all_goals
   obtain⟨v',w7,hr,ak,hg⟩:=Hw (P:=Dp) X1 O 38 38 3 i0 _ 1 8 Dl fx.out uj.out pj.out ki.out rfl Gv (Ad A9 k k9) k (Ir xs) bt A3 n1 c3 (Ir (HY.map (rdV r))) (fG _) (Rd.of_own au) MR Gv Gv GS;obtain⟨A',c',rfl,KA,JP⟩:=Hy ak;obtain⟨FSz,vt,gp,uq,aj⟩:=dW lw He bt GS (Am O) ak hg;have hnB:=wM bt jy He;have QN:=(hg.block B (Au.1 jy).1 hnB).trans jy;have dc:Below O X1 w7:=(Ag O X1).grown hg GS (λq hq=>(bt.lt q hq).1);have hBO:B≠O:=λe=>by subst e;rw[show X1.heap[B]? =_ from lw]at jy;injection jy with jy;injection jy with _ h2;exact absurd h2 He
   have NL:(w7.setCell ⟨O,0,Ae⟩ (Ad A' (k+n1) c')).heap[B]? =Af (.cells #[Ad r.FA r.fr.length r.c1,Ad r.BA r.bk.length r.c2] 61 (0,0)):=(Hu hBO).trans QN;have SV:=Ah (zc.out _ (jf.trans dc) QN);have pz:=Ah (zc.out _ (jf.trans aj) NL);have HR:=Ah hr;rw[<-fF]at gp;have aw:=Ah (Cn ((pP (B:=w9.heap.size) BL).trans (uq.from _)) (Cn (((BL.mono BK).trans aj)) (Cn (⟨_,vt,gp,trivial⟩:∃v,Boxed (w7.setCell ⟨O,0,Ae⟩ (Ad A' (k+n1) c')) O 38 v/\(w7.setCell ⟨O,0,Ae⟩ (Ad A' (k+n1) c')).ownsRow O 3 1 v (k+n1) (Ir (xs++HY.map (rdV r)))/\True) (jf.trans aj))));have y0:=FSz.cell;have y1:=FSz.frozen;clear hr ak hg vt gp uq aj QN NL FSz bt lw au;refine rdy 5 (λK hK=>?_);refine Zs (by simp[Dz,yielded]) (.tmp 64) (.tmp 68) 38 rfl _ _ Qo Qo _ _ HR.out ?_;refine hK.o SV.out (λhS=>?_);clear hK K;refine rdy 6 (λK hK=>?_);go_simp;refine hK.o pz.out (λhS=>?_);clear hK K;refine An Gx ?_ _
   gi_wp2
   obtain⟨k1,k2,⟨v9,RH,DK,-⟩,k4⟩:=aw.out;refine⟨k1,k2,⟨v9,RH,?_,trivial⟩,k4⟩;rw[HHY.out,IW.out.1,IW.out.2];exact DK
 case done=>
  rintro D ys W hD rfl ⟨⟨v,hv,ae,-⟩,hB⟩ hKD;rw[List.attach_map_subtype_val,List.length_attach]at ae;obtain⟨A8,k8,e8,-,-⟩:=Hy ae;subst e8;have hDW:=(Au.1 hKD).1;obtain⟨Z2,VN⟩:=ey ((l.flatMap λr=>p1.map (rdV r)));obtain⟨k0,di⟩:=ey (l.length*n1);rw[VN,di]at ae;rw[di]at hv;have HX0:=Ah (Cn VN di);have hk0b:k0<=10000*512:=by rw[<-di];exact Gq Gv Gv
  have HK0L:Hid (Z2.length=k0):=Ah (by rw[<-VN,bE,<-di,<-ig]);obtain⟨Bn,E5⟩:=ey W.heap.size;have HLL:=Ah (Cn ig mo);have hn2b:n2<=512:=Gv;clear VN di ig mo bV hVc bO9;go_wp2_with fail;refine(Ae0 lA n lc _).mono ?_;rintro e on ⟨rfl,VJ⟩;rw[E5];have GW:Below W.heap.size W on:=by rw[VJ];exact(Ag _ _).alloc (Am _) _
  have bN:on.heap[Bn]? =Af (Co #[Ad lA l.length lc] 64 (0,0)):=by rw[VJ,<-E5,<-qk.out];exact Ca W _
  have hs10:on.heap.size=Bn+1:=by rw[VJ,World.size_alloc,E5]
  have U6:Boxed on O 38 (Ad A8 (k0) k8):=(GW.block O hv.lt).trans hv;have om:=Hz ae (Am _) GW;have hD10:=(GW.block D hDW).trans hKD;have BK:O<=W.heap.size:=oHx hB.size;have TE:Below O w9 on:=hB.trans (GW.mono BK)
  have hLI10:∀j (hj:j<l.length),∃b o,lA=Af ⟨b,o,Ae⟩/\b<O/\on.cell? ⟨b,o+j*2,Ae⟩=Af l[j].h1/\on.cell? ⟨b,o+j*2+1,Ae⟩=Af l[j].h2:=λj hj=>by
   obtain⟨b0,o0,e0,lh,c0,c1⟩:=hLI9 j hj;exact⟨b0,o0,e0,lh,(TE.cell (p:=⟨b0,o0+j*2,Ae⟩) lh).trans c0,(TE.cell (p:=⟨b0,o0+j*2+1,Ae⟩) lh).trans c1⟩
  clear VJ GW hv ae hKD hB;go_wp2_with fail
  refine' wpIn_wide.1 (jP (F:=Cv) (n:=9) (w0:=on) rfl He (gf:=94) (lb:=#[.pointer (Af ⟨Bn,0,Ae⟩)]) rfl trivial (enters_of Tryz.func94 Gx rfl)
   (oK l Gv Bn O lc 8 lA He on bN Gv hLI10) Vc (fH Gv Gv) (Ag _ _) (λ_=>rfl)
   (λpre W=>(∃v,Boxed W O 38 v/\W.ownsRow O 3 1 v (k0+pre.length*n2) (Ir (Z2++(pre.map (·.1.2)).flatMap λr=>p2.map (rdV r)))/\True)/\W.heap[Bn]? =Af (Co #[Ad lA l.length lc] 64 (0,0))/\W.heap[D]? =Af (.deferred (Af []))/\Below O on W)
   (OwnFrom.and (Own.from (holdsRow_own O O 38 3 1 (λpre:List (FbA l)=>k0+pre.length*n2) (λpre=>Ir (Z2++(pre.map (·.1.2)).flatMap λr=>p2.map (rdV r))) (λ_ _=>True)) _) (OwnFrom.and (Bh2 _) (OwnFrom.and (Bi4 Gv) (ownFrom_below Gv Gv))))
   ⟨⟨_,U6,by simpa using om,trivial⟩,bN,hD10,Ag _ _⟩ (λpre W hI=>hI.2.2.2.size) (λpre W o hI=>⟨(Ag O W).alloc (oHx hI.2.2.2.size) o,Below.heap_alloc W o Bn (Au.1 hI.2.1).1⟩) (λx=>#[Ad x.1.2.FA x.1.2.fr.length x.1.2.c1,Ad x.1.2.BA x.1.2.bk.length x.1.2.c2]) 61 _ ?assign ?body ?done)
  case assign=>
   rintro l0 x W B K hB hK;unfold fbE FoR.h1 FoR.h2;dsimp only at hK⊢
   gi_wp2
   try rw[hB]
   exact hK
  case body=>
   rintro l0 pre ⟨⟨ix,r⟩,RG⟩ B W XF wk ⟨⟨v0,hv,ae,-⟩,UW,QP,TG⟩ ac;dsimp only at wk RG;have QE:Below O w9 W:=TE.trans TG;have BK:O<=W.heap.size:=oHx QE.size
   have wu:k0+(pre.length*n2)<=10000*512+10000*512:=by
    have:pre.length*n2<=10000*512:=Gq Gv Gv;omega
   have am:Z2++((pre++[(⟨(ix,r),RG⟩:FbA l)]).map (·.1.2)).flatMap (λr=>p2.map (rdV r))=(Z2++(pre.map (·.1.2)).flatMap (λr=>p2.map (rdV r)))++p2.map (rdV r):=Gy;have EX:k0+(pre++[(⟨(ix,r),RG⟩:FbA l)]).length*n2=(k0+pre.length*n2)+n2:=by rw[Bh,Nat.add_mul];simp;omega
   obtain⟨HY,QF⟩:=ey p2;obtain⟨ppre,YM⟩:=ey (pre++[(⟨(ix,r),RG⟩:FbA l)]);rw[YM]at am EX⊢;have IW:=Ah (Cn am EX);obtain⟨xs,V1⟩:=ey (Z2++(pre.map (·.1.2)).flatMap (λr=>p2.map (rdV r)));obtain⟨k,iz⟩:=ey (k0+pre.length*n2);rw[V1,iz]at ae;rw[iz]at wu;rw[V1,iz,QF]at IW;have za:=Ah (λ(W:Aj) (h:Below O w9 W)=>(HRC.out W r RG h).2);rw[QF]at za;have HHY:=Ah QF;unfold FoR.h1 FoR.h2 at za;obtain⟨A9,k9,e9,-,-⟩:=Hy ae;subst e9;obtain⟨S,an,HSO⟩:=Og λW'=>W'.cell? ⟨VU,0,Ae⟩=Af (.func (.func 46) #[] #[.pointer (Af ⟨N2,0,Ae⟩)])/\W'.cell? ⟨B,0,Ae⟩=Af (Ad r.FA r.fr.length r.c1)/\W'.cell? ⟨B,1,Ae⟩=Af (Ad r.BA r.bk.length r.c2)/\W'.cell? ⟨rj,0,Ae⟩=Af (Ad A2 n2 c2)
   have zc:Hid (∀W',Below O w9 W'->W'.heap[B]? =Af (.cells #[Ad r.FA r.fr.length r.c1,Ad r.BA r.bk.length r.c2] 61 (0,0))->S W'):=Ah λW' h hb=>by
    subst an;obtain⟨hX,-,-⟩:=HWX.out W' h;obtain⟨⟨b0,b1⟩,-⟩:=Hm hb;exact⟨(Lx (hX.b 2)).1,b0,b1,(Lx (hX.b 4)).1⟩
   clear QF;clear an am EX YM V1 iz HRC i8 DU BE i9 CS yy GI AN
   gi_wp2
   refine bH (S:=S) Gx (by rintro⟨_,_,h⟩;exact h) Gx (zc.out _ QE.drew wk) (λhS=>?_);have JO:Below W.heap.size W W.drew:=(Ag _ _).drew;have J0:W.heap.size=W.drew.heap.size:=rfl;have CW:Below O w9 W.drew:=QE.drew;have MX:O<=W.drew.heap.size:=BK;have hv:Boxed W.drew O 38 (Ad A9 k k9):=hv;have ae:W.drew.ownsRow O 3 1 (Ad A9 k k9) k (Ir xs):=ae;have wk:W.drew.heap[B]? =Af (.cells #[Ad r.FA r.fr.length r.c1,Ad r.BA r.bk.length r.c2] 61 (0,0)):=wk;have T_:=UW;have UW:W.drew.heap[Bn]? =Af (Co #[Ad lA l.length lc] 64 (0,0)):=UW;have QP:W.drew.heap[D]? =Af (.deferred (Af [])):=QP;generalize W.drew=X0 at JO J0 CW MX hv ae wk hS UW QP⊢;refine Oe 1 2 3 ?_;have U7:=hv.cell;refine Ap (rs:=[0,4]) Gx Gy (Aq rfl (λK hK=>?_) (Aq rfl (λK hK=>?_) Ar));go_simp;refine hK.o hS (λhS=>?_);clear hK K U7;refine rdy 4 (λK hK=>?_);go_simp;refine(za.out X0 CW).mono ?_;rintro ee X1 ⟨v1,rfl,au,ad⟩;obtain⟨A3,c3,rfl,MR⟩:=Lu au;have lw:Boxed X1 O 38 (Ad A9 k k9):=(ad.block O hv.lt).trans hv;have bt:=Hz ae (Am _) ad;have GS:O<=X1.heap.size:=Bt MX ad.size;have jf:=CW.trans (ad.mono MX);have jy:=(ad.block B (Au.1 wk).1).trans wk;have BL:=JO.trans (ad.mono (Nat.le_of_eq J0));refine hK.o (zc.out _ jf jy) (λhS=>?_);clear hK K;have BX:=(ad.block Bn (Au.1 UW).1).trans UW;have JQ:=(ad.block D (Au.1 QP).1).trans QP;rotate_left;go_simp;refine(za.out X0 CW).mono ?_;rintro ee X1 ⟨v1,rfl,au,ad⟩;obtain⟨A3,c3,rfl,MR⟩:=Lu au;have lw:Boxed X1 O 38 (Ad A9 k k9):=(ad.block O hv.lt).trans hv;have bt:=Hz ae (Am _) ad;have GS:O<=X1.heap.size:=Bt MX ad.size;have jf:=CW.trans (ad.mono MX)
   have jy:=(ad.block B (Au.1 wk).1).trans wk;have BL:=JO.trans (ad.mono (Nat.le_of_eq J0));refine hK.o (zc.out _ jf jy) (λhS=>?_);clear hK K;have BX:=(ad.block Bn (Au.1 UW).1).trans UW;have JQ:=(ad.block D (Au.1 QP).1).trans QP;have U7:=lw.cell;refine rdy 0 (λK hK=>?_);go_simp;refine hK.o hS (λhS=>?_);clear hK K U7
   all_goals
    obtain⟨v',w7,hr,ak,hg⟩:=Hw (P:=Dp) X1 O 38 38 3 i0 _ 1 8 Dl fx.out uj.out pj.out ki.out rfl Gv (Ad A9 k k9) k (Ir xs) bt A3 n2 c3 (Ir (HY.map (rdV r))) (fG _) (Rd.of_own au) MR Gv Gv GS;obtain⟨A',c',rfl,KA,JP⟩:=Hy ak;obtain⟨FSz,vt,gp,uq,aj⟩:=dW lw He bt GS (Am O) ak hg;have hnB:=wM bt jy He;have QN:=(hg.block B (Au.1 jy).1 hnB).trans jy;have hnN:=wM bt BX He;have P4:=Bp0 bt JQ;have dc:Below O X1 w7:=(Ag O X1).grown hg GS (λq hq=>(bt.lt q hq).1);have hBO:B≠O:=λe=>by subst e;rw[show X1.heap[B]? =_ from lw]at jy;injection jy with jy;injection jy with _ h2;exact absurd h2 He
    have NL:(w7.setCell ⟨O,0,Ae⟩ (Ad A' (k+n2) c')).heap[B]? =Af (.cells #[Ad r.FA r.fr.length r.c1,Ad r.BA r.bk.length r.c2] 61 (0,0)):=(Hu hBO).trans QN;have y_:Bn≠O:=λe=>by subst e;rw[show X1.heap[Bn]? =_ from lw]at BX;injection BX with BX;injection BX with _ h2;exact absurd h2 He
    have hDO:D≠O:=λe=>by subst e;rw[show X1.heap[D]? =_ from lw]at JQ;cases JQ
    have hn8:=(Hu (i:=0) (v:= Ad A' (k+n2) c') y_).trans ((hg.block Bn (Au.1 BX).1 hnN).trans BX);have hd8:=(Hu (i:=0) (v:= Ad A' (k+n2) c') hDO).trans ((hg.block D (Au.1 JQ).1 P4).trans JQ);have SV:=Ah (zc.out _ (jf.trans dc) QN);have pz:=Ah (zc.out _ (jf.trans aj) NL);have HR:=Ah hr;rw[<-fF]at gp;have aw:=Ah (Cn ((pP (B:=on.heap.size) BL).trans (uq.from _)) (Cn (show Mo O Bn W _ from⟨(BL.mono BK).trans aj,hn8.trans T_.symm⟩) (Cn (⟨_,vt,gp,trivial⟩:∃v,Boxed (w7.setCell ⟨O,0,Ae⟩ (Ad A' (k+n2) c')) O 38 v/\(w7.setCell ⟨O,0,Ae⟩ (Ad A' (k+n2) c')).ownsRow O 3 1 v (k+n2) (Ir (xs++HY.map (rdV r)))/\True) (Cn hn8 (Cn hd8 (TG.trans ((BL.mono BK).trans aj)))))));have y0:=FSz.cell;have y1:=FSz.frozen;clear hr ak hg vt gp uq aj QN NL FSz bt lw au hn8 hd8;refine rdy 5 (λK hK=>?_);refine Zs (by simp[Dz,yielded]) (.tmp 74) (.tmp 78) 38 rfl _ _ Qo Qo _ _ HR.out ?_;refine hK.o SV.out (λhS=>?_);clear hK K;refine rdy 6 (λK hK=>?_);go_simp;refine hK.o pz.out (λhS=>?_);clear hK K;refine An Gx ?_ _
    gi_wp2
    obtain⟨k1,k2,⟨v9,RH,DK,-⟩,k4⟩:=aw.out;refine⟨k1,k2,⟨v9,RH,?_,trivial⟩,k4⟩;rw[HHY.out,IW.out.1,IW.out.2];exact DK
  case done=>
   rintro D2 ys W hD2 rfl ⟨⟨v,hv,ae,-⟩,UW,QP,TG⟩ hK2;rw[Bw2,lL]at ae
   have G8:Z2++(l.reverse.flatMap λr=>p2.map (rdV r))=RL:=by
    rw[<-CS.out,<-HX0.out.1];rfl
   have G9:k0+l.length*n2=RL.length:=by
    rw[<-G8,Bh,bE,HK0L.out,List.length_reverse,HLL.out.2]
   rw[G8,G9]at ae
   have hRLb:RL.length<=10000*512+10000*512:=by
    rw[<-G9];have:l.length*n2<=10000*512:=Gq Gv Gv;omega
   obtain⟨mr,hmr⟩:=ey RL.length;rw[hmr]at ae hRLb;have HMR:=Ah hmr;obtain⟨A9,k9,e9,h9a,h9b⟩:=Hy ae;subst e9;have hc:=hv.cell;have QE:Below O w9 W:=TE.trans TG;have hwW:=(HWX.out W QE).1.below;clear G8 G9 hmr QE;go_wp2_with fail;refine(Yn A9 mr k9 _ h9a h9b).mono ?_;rintro e DO ⟨rfl,jh⟩;have EM:=(jh.block D2 (Au.1 hK2).1).trans hK2;have hD11:=(jh.block D (Au.1 QP).1).trans QP;have hne:D≠D2:=Gv;have F5:(DO.putObj D2 (.deferred Ae)).heap[D]? =Af (.deferred (Af [])):=(World.putObj_heap_other hne).trans hD11;have AG:=ownsRow_putObj (ownsRow_putObj (Hz ae (Am _) jh) (.deferred Ae) EM rfl) (.deferred Ae) F5 rfl;have BQ:Below w.heap.size w DO:=Up hwW jh;have BR:Below w.heap.size w (DO.putObj D2 (.deferred Ae)):=BQ.trans (belowK_b (n₀:=w.heap.size) (w:=w9) hwO9 DO D2 _ _ Gv EM rfl rfl);have XT:Below w.heap.size w ((DO.putObj D2 (.deferred Ae)).putObj D (.deferred Ae)):=BR.trans (belowK_b (n₀:=w.heap.size) (w:=w9) hwO9 _ D _ _ hD F5 rfl rfl);have ZV:=Ah (Cn (Rd.of_own AG) (Cn XT (Cn EM F5)));clear AG BQ BR XT jh ae hv hc;go_wp2_with fail;refine⟨Gy,.inl ⟨_,_,rfl,run_takeDeferred ZV.out.2.2.1,?_⟩⟩;refine⟨Gy,.inl ⟨_,_,rfl,run_takeDeferred ZV.out.2.2.2,?_⟩⟩;refine⟨.tuple #[Ad A9 mr mr,Aa Ab 0],by simp[results,Tryz.results16,go_sem],?_⟩;exact⟨A9,by rw[HMR.out],by rw[HMR.out];exact ZV.out.1,ZV.out.2.1⟩
end Go.Proofs.YtlgkpdfieaadaaaGreatDoor
namespace Go.Proofs.YtlgkpdfieaadaaaGreatDoor
variable {a b q n k:Nat} {t:St} {m:List Mv} {fl:List (Option Nat)} {fr bk F B:List (List Int)} {FA BA A:Option Cj} {w:Aj} {l:List FoR} {rs:List Ip} {pg:Nat->Pg}
def mV (I:Ky a b 1 1 t m) (hq:q<4):∃h:q<t.l.length,t.l[q].c=⟨0,0,q⟩/\t.l[q].ls=atF t.l ⟨0,0,q⟩:=by
 have hf:=cF I
 have hl:t.l.length=4:=by
  have:=congrArg List.length hf;simpa using this
 have hc:∀i (hi:i<t.l.length),t.l[i].c=⟨0,0,i⟩:=λi hi=>by
  have h1:(t.l.map (·.c))[i]? =Af t.l[i].c:=by rw[Fs,Aw hi];rfl
  rw[hf]at h1;have:i=0∨i=1∨i=2∨i=3:=Gv;rcases this with rfl|rfl|rfl|rfl
  all_goals
   simp only[List.getElem?_cons_zero,Cx,Option.some.injEq]at h1;exact h1.symm
 refine⟨Gv,hc q Gv,?_⟩
 rw[Ap8 (i:=q) Gv (hc q Gv) λj hj ac=>by
  rw[hc j hj];intro e;injection e with _ _ e;omega]
def nI (a b:Nat) (L:List Nat) (fl:List (Option Nat)):Bool:=(Ds L.length).all λi=>match L[L.length-1-i]? with
 |none=>false
 |some y=>match fl.getD i Ae with
  |none=>decide ((nbI (a:Int) (b:Int) (y:Int) 0).2≠0)
  |some j=>decide (j<L.length)&&(match L[L.length-1-j]? with
   |none=>false
   |some x=>decide (nbI (a:Int) (b:Int) (y:Int) 0=((x:Int),0)))
def flF (fl:List (Option Nat)):Nat->Option Nat:=λi=>fl.getD i Ae
def Yl {L:List Nat} (h:nI a b L fl=true):bR a b L (flF fl):=λi hi=>by
 have h1:=Ed.1 h i (Eb.2 hi)
 cases hy:L[L.length-1-i]? with
 |none=>
  rw[hy]at h1
  cases h1
 |some y=>
  rw[hy]at h1;refine⟨y,rfl,?_⟩;unfold flF
  cases hf:fl.getD i Ae with
  |none=>
   rw[hf]at h1;exact .inl ⟨Sh h1,rfl⟩
  |some j=>
   rw[hf]at h1;simp only[Em,Li]at h1;obtain⟨h2,h3⟩:=h1
   cases hx:L[L.length-1-j]? with
   |none=>
    rw[hx]at h3
    cases h3
   |some x=>
    rw[hx]at h3;exact .inr ⟨j,x,h2,rfl,Sh h3,hx⟩
def fl0:List (Option Nat):=[Ae,Ae,Ae,Ae]
def fl1:List (Option Nat):=[Af 1,Af 0,Af 3,Af 2]
def fl2:List (Option Nat):=[Af 3,Af 2,Af 1,Af 0]
def Bi5 (h:flF fl a=Af b):a<fl.length:=by
 refine Classical.byContradiction λhn=>?_;unfold flF at h;rw[Dt,Ej Gv]at h
 cases h
def Br5 (hl:fl.length=4) (h1:((Ds 4).all λa=>(Ds 4).all λb=>(flF fl a != Af b)||(decide (a≠b)&&(flF fl b==Af a)))=true) (h0:((Ds 4).all λa=>match flF fl a with|none=>true|some b=>decide (b<4))=true)
  (h2:((Ds 4).all λa=>(Ds 4).all λb=>(Ds 4).all λc=>(Ds 4).all λd=>(flF fl a != Af b)||(flF fl c != Af d)|| !(decide (a<b/\c<d/\a<c/\c<b))||decide (d<b))=true):Nc (flF fl) 4:=by
 have lt:∀a b,flF fl a=Af b->a<4/\b<4:=λa b h=>by
  have ha:a<4:=hl▸Bi5 h;have:=Ed.1 h0 a (Eb.2 ha);rw[h]at this;exact⟨ha,Sh this⟩
 refine⟨λa b h=>?_,λa b c d e1 e2 g1 g2 g3 g4=>?_⟩
 ·obtain⟨ha,hb⟩:=lt a b h;have:=Ed.1 (Ed.1 h1 a (Eb.2 ha)) b (Eb.2 hb);rw[h]at this;simp at this;exact⟨ha,hb,this⟩
 ·obtain⟨ha,hb⟩:=lt a b e1;obtain⟨hc,hd⟩:=lt c d e2;have:=Ed.1 (Ed.1 (Ed.1 (Ed.1 h2 a (Eb.2 ha)) b (Eb.2 hb)) c (Eb.2 hc)) d (Eb.2 hd);rw[e1,e2]at this;simp[g1,g2,g3,g4]at this;exact this
def Bw3:Nc (flF fl1) 4:=Br5 rfl (by decide+kernel) (by decide+kernel) (by decide+kernel)
def Bw4:Nc (flF fl2) 4:=Br5 rfl (by decide+kernel) (by decide+kernel) (by decide+kernel)
def Bh4:Fd:=⟨1,1,1,true⟩
def Cc3:Fd:=⟨2,1,1,true⟩
def bxR:Bool:=(((Jt 2 2).do Bh4).2.bind λv=>(v.do Cc3).2).any λu=>nI 2 2 (atF u.l ⟨0,0,0⟩) fl0&&nI 2 2 (atF u.l ⟨0,0,1⟩) fl1&&nI 2 2 (atF u.l ⟨0,0,2⟩) fl2&&nI 2 2 (atF u.l ⟨0,0,3⟩) fl0
def Bh6:bxR=true:=Gx
def nP:Sd 1 1 3=[Bh4,Cc3]:=by decide+kernel
def Cc4 (h:Yc (Sd 1 1 3) (Jt 2 2) t):bR 2 2 (atF t.l ⟨0,0,0⟩) (flF fl0)/\bR 2 2 (atF t.l ⟨0,0,1⟩) (flF fl1)/\bR 2 2 (atF t.l ⟨0,0,2⟩) (flF fl2)/\bR 2 2 (atF t.l ⟨0,0,3⟩) (flF fl0):=by
 rw[nP]at h;obtain⟨v,hv,-,-,-,u,hu,-,-,-,rfl⟩:=h;have:=Bh6;unfold bxR at this;rw[hv]at this;dsimp only[Option.bind]at this;rw[hu]at this;simp only[Option.any_some,Em]at this;obtain⟨⟨⟨h1,h2⟩,h3⟩,h4⟩:=this;exact⟨Yl h1,Yl h2,Yl h3,Yl h4⟩
open Go.RowKit
def Uk (fr:List (List Int)):Nat:=2*fr.length*(fr.getD 0 []).length
def yR (h:fmE fr bk=0):0<fr.length/\fr.length=bk.length/\0<(fr.getD 0 []).length/\(∀r∈fr++bk,r.length=(fr.getD 0 []).length):=by
 unfold fmE at h
 split at h
 ·cases h
 ·rename_i h1
  split at h
  ·cases h
  ·rename_i h2;refine⟨Gv,Gv,Gv,λr hr=>?_⟩;rw[Ep,Du]at h2;have:=h2 r hr;simpa using this
def mS (FA BA:Option Cj) (fr bk:List Ip) (c1 c2 n1 n2:Nat) (n:Nat) (w:Aj) (hF:aA w FA BA fr bk) (fk:n1=fr.length) (nt:n2=bk.length) (hE:fmE (ksL fr) (ksL bk)=0) (h1:1<=n) (h2:n<=10000):
  Al Dp 39 #[.agg #[Ad FA n1 c1,Ad BA n2 c2],(n:Nat)] w (Gz (.tuple #[Aa Ab (Uk (ksL fr):Nat),Aa Ab ((n+Uk (ksL fr)-1)/Uk (ksL fr):Nat),Aa Ab 0]) w):=by
 have pd:=Zz w (λw' hb=>tR FA BA fr bk c1 c2 w' (hF.f.below hb) (hF.b.below hb) hF.lf hF.lb hF.lk);rw[<-fk,<-nt]at pd;obtain⟨p1,-,p2,-⟩:=yR hE;unfold ksL at hE;rw[hE]at pd;have hl:0<fr.length:=by simpa[ksL]using p1
 have ig:=hF.lf;have DG:=hF.lk fr[0] (Gc _ (Ay _));have hw:(ksL fr).getD 0 []=fr[0].ks:=dK hl;obtain⟨wd,YZ⟩:=ey (fr[0].ks.length)
 have hq:Uk (ksL fr)=2*n1*wd:=by
  unfold Uk;rw[hw,YZ,fk];simp[ksL]
 rw[hw,YZ]at p2;rw[YZ]at DG;have FZ:=Zz w (λw' hb=>(hF.f.below hb).at' 0 hl);rw[YZ]at FZ;obtain⟨q,YO⟩:=ey (Uk (ksL fr));rw[YO]at hq⊢;have hn1l:n1<=100:=Gv
 have KF:q<=20000:=by
  rw[hq];have h3:2*n1*wd<=200*100:=Gq Gv DG;omega
 have IM:0<q:=by
  rw[hq];exact Nat.mul_pos Gv p2
 have e1:=Cb (2*(n1:Int)) Gv
 have e2:Ab.wrap (2*(n1:Int)*(wd:Int))=(q:Int):=by
  have h3:2*(n1:Int)*(wd:Int)=(q:Int):=by rw[hq];push_cast;rfl
  rw[h3];exact Cb _ Gv
 have e3:=Cb ((n:Int)+(q:Int)) Gv
 have e4:Ab.wrap ((n:Int)+(q:Int)-1)=((n+q-1:Nat):Int):=by
  rw[Cb _ Gv];omega
 obtain⟨u,hu⟩:=ey (n+q-1);rw[hu]at e4⊢;obtain⟨m,hm⟩:=ey (u/q);have QV:m<=u:=hm▸Nat.div_le_self u q;have e5:(u:Int).tdiv (q:Int)=(m:Int):=by rw[<-hm];exact Int.ofNat_tdiv u q
 have e6:=Cb (m:Int) Gv;have q2:((q:Int)==0)=false:=Hv;have q3:¬(q:Int)=0:=Gv;have q4:(0:Int)<(n1:Int):=Gv;have q5:¬(n:Int)<1:=Gv;have q6:¬(n:Int)>10000:=Gv;rw[hm];have H:=(Bx.start w).new #[Ad FA n1 c1,Ad BA n2 c2] 61 rfl;clear hF fk nt hE h1 h2 p1 p2 ig DG hw YZ hq YO KF IM hn1l hu hm QV;go_in;go_upto_region 1 with fail;generalize w.alloc _=W at H⊢;obtain⟨⟨a0,a1⟩,-⟩:=Hm (H.b 0);go_wp2_with fail;refine(pd.out _ H.below).mono ?_;rintro ee w2 ⟨rfl,hb⟩;have H2:=H.call hb;clear a0 a1 hb H pd;obtain⟨b,o,rfl,cj,c0⟩:=FZ.out _ H2.below;simp only[Df]at c0;have BP:=c0;obtain⟨⟨a0,a1⟩,-⟩:=Hm (H2.b 0);go_upto_region 8 with fail
 go_quiet (fail)
 clear a0 a1 c0 e1 e2;go_upto_region 9 with fail
 go_quiet (fail)
 go_wp2_with fail;refine Ai (v:= .tuple #[q,m,Aa Ab 0]) (by simp[results,Tryz.results39,go_sem]) rfl ?_;exact⟨rfl,Ic (Ic H2.below _) _⟩
def Ae6 (p k q P:Nat) (w:Aj) (hP:w.cell? ⟨P,0,Ae⟩=Af (Aa Ab (q:Nat))) (hb:p+k*q<=1000000000/\k*q<=1000000000):
  Al Dp 41 #[(p:Nat),(k:Nat),.pointer (Af ⟨P,0,Ae⟩)] w (Gz (Aa Ab ((p+k*q:Nat):Int)) w):=by
 obtain⟨z,hz⟩:=ey (k*q);rw[hz]at hb⊢;have e0:(k:Int)*(q:Int)=(z:Int):=by rw[<-hz];push_cast;rfl
 have e1:Ab.wrap ((k:Int)*(q:Int))=(z:Int):=by rw[e0];exact Cb _ Gv
 have e2:Ab.wrap ((p:Int)+(z:Int))=((p+z:Nat):Int):=by rw[Cb _ Gv];omega
 clear e0 hz hb;go_in;go_wp2;go_ret;exact⟨rfl,Ag _ _⟩
def Au7 (p k h m P Q:Nat) (w:Aj) (hP:w.cell? ⟨P,0,Ae⟩=Af (Aa Ab ((2*h:Nat):Int))) (hQ:w.cell? ⟨Q,0,Ae⟩=Af (Aa Ab (m:Nat))) (hp:p<=2*h) (hk:k<m) (hb:m*(2*h)<=1000000000):
  Al Dp 42 #[(p:Nat),(k:Nat),.pointer (Af ⟨P,0,Ae⟩),.pointer (Af ⟨Q,0,Ae⟩)] w (Gz (Aa Ab ((Wv h m k p:Nat):Int)) w):=by
 obtain⟨q,hq⟩:=ey (2*h);have hkm:k*q<=m*q:=Fu q Gv;have R_:k*h<=k*q:=Cy k Gv;have uq:k*q=k*h+k*h:=by rw[<-hq,Nat.mul_comm 2 h,<-Fh];omega
 have O3:k*q+q<=m*q:=by
  have:=Fu q (show k+1<=m by omega)
  rwa [Nat.add_mul,Nat.one_mul]at this
 rw[hq]at hP hp hb;have h_:Hid (Wv h m k p=if p<=h then p+k*h else m*q-k*h-(q-p)):=Ah (by unfold Wv;rw[hq]);obtain⟨z,hz⟩:=ey (k*q);obtain⟨y,hy⟩:=ey (k*h);obtain⟨x,hx⟩:=ey (m*q);rw[hz,hy]at uq;rw[hy,hx]at h_;rw[hz,hx]at O3;rw[hx]at hb;have t0:(k:Int)*(q:Int)=(z:Int):=by rw[<-hz];push_cast;rfl
 have t1:(m:Int)*(q:Int)=(x:Int):=by rw[<-hx];push_cast;rfl
 have e0:(q:Int).tdiv 2=(h:Int):=by rw[Gi Gv];omega
 have e1:(z:Int).tdiv 2=(y:Int):=by rw[Gi Gv];omega
 have e2:Ab.wrap ((k:Int)*(q:Int))=(z:Int):=by rw[t0];exact Cb _ Gv
 have e3:Ab.wrap ((m:Int)*(q:Int))=(x:Int):=by rw[t1];exact Cb _ Gv
 have e4:=Cb (h:Int) Gv;have e5:=Cb (y:Int) Gv;have e6:Ab.wrap ((p:Int)+(y:Int))=((p+y:Nat):Int):=by rw[Cb _ Gv];omega
 have e7:=Cb ((x:Int)-(y:Int)) Gv;have e8:=Cb ((q:Int)-(p:Int)) Gv;have e9:Ab.wrap ((x:Int)-(y:Int)-((q:Int)-(p:Int)))=((x-y-(q-p):Nat):Int):=by rw[Cb _ Gv];omega
 obtain⟨R,hR⟩:=ey (Wv h m k p);rw[hR]at h_⊢;by_cases yj:p<=h
 ·have q0:(p:Int)<=(h:Int):=Gv;have HF:Hid (R=p+y):=Ah (by rw[h_.out,Hc yj]);clear h_ hR hz hy hx hkm R_ uq O3 hq t0 t1 hp hk hb yj e7 e8 e9;go_in;go_wp2;go_ret;exact⟨by rw[HF.out];rfl,Ag _ _⟩
 ·have q0:¬(p:Int)<=(h:Int):=Gv;have HF:Hid (R=x-y-(q-p)):=Ah (by rw[h_.out,Ha yj]);clear h_ hR hz hy hx hkm R_ uq O3 hq t0 t1 hp hk hb yj e6;go_in;go_wp2;go_ret;exact⟨by rw[HF.out];rfl,Ag _ _⟩
def oT (h:fmE fr bk=0):∀r∈fr++bk,∀v∈r,v≠0/\v.natAbs<=Uk fr:=λr hr v hv=>by
 obtain⟨p1,p2,p3,p4⟩:=yR h;have hl:=aO (fr++bk) p4
 have hq:(fr++bk).flatten.length=Uk fr:=by
  rw[hl,Bh,<-p2];unfold Uk;rw[<-Nat.two_mul]
 have hn:vN (fr++bk).flatten.length (fr++bk).flatten=true:=by
  unfold fmE at h;rw[Ha Gv,Ha]at h
  ·split at h
   ·assumption
   ·cases h
  ·rw[Ep,Du];intro r hr;simpa using p4 r hr
 obtain⟨k,hk,rfl⟩:=Be.1 (List.mem_flatten.2 ⟨r,hr,hv⟩);have h1:=Ed.1 hn k (Eb.2 hk);unfold Vh at h1
 have e:(fr++bk).flatten.getD k 0=(fr++bk).flatten[k]:=by
  rw[Dt,Aw hk];rfl
 rw[e,hq]at h1;simp only[Em,Li]at h1;exact⟨h1.1.1,h1.1.2⟩
def mR {fr bk:List Ip} (hF:aA w FA BA fr bk):Uk (ksL fr)<=20000:=by
 unfold Uk
 have h1:(ksL fr).length<=100:=by
  have:=hF.lf;simpa[ksL]using this
 have h2:((ksL fr).getD 0 []).length<=100:=by
  by_cases h0:0<fr.length
  ·rw[dK h0];exact hF.lk _ (Gc _ (Ay _))
  ·have:fr=[]:=List.eq_nil_of_length_eq_zero Gv;subst this;simp[ksL]
 have h3:2*(ksL fr).length*((ksL fr).getD 0 []).length<=200*100:=Gq Gv h2;omega
def zH {fr bk:List Ip} (hE:fmE (ksL fr) (ksL bk)=0):∀r∈fr++bk,∀v∈r.ks,v.natAbs<=Uk (ksL fr):=λr hr v hv=>by
 refine(oT hE r.ks ?_ v hv).2;unfold ksL;rw[<-Ez];exact List.mem_map_of_mem hr
def Vu (G:Nat->Nat->Nat) (fr bk:List Ip) (m:Nat) (w:Aj) (e:Ending) (w':Aj):Prop:=∃(A:Option Cj) (l:List FoR),e= .returned (.tuple #[Ad A m m,Aa Ab 0])/\l.length=m/\So w' A l/\(∀k (hk:k<l.length),ksL l[k].fr=trR (G k) (ksL fr)/\ksL l[k].bk=trR (G k) (ksL bk)/\l[k].fr.length=fr.length/\l[k].bk.length=bk.length/\∀r∈l[k].fr++l[k].bk,r.c=r.ks.length)/\Below w.heap.size w w'
def iV (FA BA:Option Cj) (fr bk:List Ip) (c1 c2 n1 n2:Nat) (n q m:Nat) (w:Aj) (hF:aA w FA BA fr bk) (fk:n1=fr.length) (nt:n2=bk.length) (hE:fmE (ksL fr) (ksL bk)=0) (h1:1<=n) (h2:n<=10000) (hq:q=Uk (ksL fr)) (hm:m=(n+q-1)/q):
  Al Dp 14 #[.agg #[Ad FA n1 c1,Ad BA n2 c2],(n:Nat)] w (Vu (λk=>Vs n q k) fr bk m w):=by
 have ng:=Zz w (λw' hb=>mS FA BA fr bk c1 c2 n1 n2 n w' (hF.below hb) fk nt hE h1 h2);have KF:=mR hF;have ka:=zH hE;rw[<-hq]at KF ng ka;rw[<-hm]at ng;have FH:m*q<=n+q-1:=by rw[hm];exact Nat.div_mul_le_self _ _
 have FG:∀k,k<m->k*q<=m*q:=λk hk=>Fu q Gv
 have pm:m<=10000:=by
  by_cases h0:q=0
  ·subst h0;simp at hm;omega
  ·have:m<=m*q:=Nat.le_mul_of_pos_right m Gv;rw[hm];refine Nat.div_le_of_le_mul ?_
   have:n+q-1<=q*n:=by
    obtain⟨d,rfl⟩:∃d,q=d+1:=⟨q-1,Gv⟩;rw[Nat.add_mul,Nat.one_mul];have:d<=d*n:=Nat.le_mul_of_pos_right d Gv;omega
   exact Bt this (Cy q Gv)
 have AK:=Ah (λ(P:Nat) (w':Aj) (hb:Below w.heap.size w w') (hP:w'.cell? ⟨P,0,Ae⟩=Af (Aa Ab (q:Nat)))=>eI 41 (λ_ _=>rfl) #[.pointer (Af ⟨P,0,Ae⟩)] (λk p=>p+k*q) n m FA BA fr bk c1 c2 n1 n2 w' (hF.below hb) fk nt pm
  (λr hr v hv=>by have:=ka r hr v hv;omega) (λr hr v hv k hk=>by have:=ka r hr v hv;have:=FG k hk;(try dsimp only);omega)
  (λv k w2 hv hk aj=>by
   obtain⟨r,hr,U8⟩:=hv;have a1:=ka r hr v U8;have a2:=FG k hk;exact Ae6 v.natAbs k q P w2 (Gw aj hP) ⟨Gv,Gv⟩))
 have H:=(Bx.start w).new #[Ad FA n1 c1,Ad BA n2 c2] 61 rfl;clear hF fk nt hE h1 h2 KF ka FH FG pm hq hm;go_in;go_upto_region 1 with fail;generalize w.alloc _=W at H⊢;obtain⟨⟨a0,a1⟩,-⟩:=Hm (H.b 0);go_wp2_with fail;refine(ng.out _ H.below).mono ?_;rintro ee w2 ⟨rfl,hb⟩;obtain⟨P,hP⟩:=ey w2.heap.size;have H2:=(H.call hb).new #[(q:Nat)] 3 hP;clear a0 a1 hb H ng;go_upto_region 2 with fail
 try rw[hP]
 generalize w2.alloc _=W2 at H2⊢;clear hP;obtain⟨⟨a0,a1⟩,-⟩:=Hm (H2.b 0);go_wp2_with fail;refine(AK.out P _ H2.below (Lx (H2.b 1)).1).mono ?_;rintro ee w3 ⟨A,l,rfl,hl,BS,zx,hb⟩;have H3:=H2.call hb;have HB:Hid (Vu (λk=>Vs n q k) fr bk m w (.returned (.tuple #[Ad A m m,Aa Ab 0])) w3):=Ah ⟨A,l,rfl,hl,BS,zx,H3.below⟩;clear a0 a1 hb H2 hl BS zx AK H3;go_wp2_with fail;refine Ai (v:= .tuple #[Ad A m m,Aa Ab 0]) (by simp[results,Tryz.results14,go_sem]) rfl ?_;exact HB.out
def uL (FA BA:Option Cj) (fr bk:List Ip) (c1 c2 n1 n2:Nat) (n q:Nat) (w:Aj) (hF:aA w FA BA fr bk) (fk:n1=fr.length) (nt:n2=bk.length) (hE:fmE (ksL fr) (ksL bk)=0) (h1:1<=n) (h2:n<=10000) (hq:q=Uk (ksL fr)) (h4:q%4≠0):
  Al Dp 15 #[.agg #[Ad FA n1 c1,Ad BA n2 c2],(n:Nat)] w (Gz (.tuple #[Ad Ae 0 0,Aa Ab 6]) w):=by
 have ng:=Zz w (λw' hb=>mS FA BA fr bk c1 c2 n1 n2 n w' (hF.below hb) fk nt hE h1 h2);have KF:=mR hF;rw[<-hq]at ng KF;obtain⟨m,hm⟩:=ey ((n+q-1)/q);rw[hm]at ng;have t1:(q:Int).tmod 4=((q%4:Nat):Int):=by rw[Int.tmod_eq_emod_of_nonneg Gv];omega
 obtain⟨r,hr⟩:=ey (q%4);rw[hr]at t1 h4;have t2:=Cb (r:Int) Gv;have q0:((r:Int) != 0)=true:=Hv;have q1:¬(r:Int)=0:=Gv;have H:=(Bx.start w).new #[Ad FA n1 c1,Ad BA n2 c2] 61 rfl;clear hF fk nt hE h1 h2 KF hq hm hr h4;go_in;go_upto_region 1 with fail;generalize w.alloc _=W at H⊢;obtain⟨⟨a0,a1⟩,-⟩:=Hm (H.b 0);go_wp2_with fail;refine(ng.out _ H.below).mono ?_;rintro ee w2 ⟨rfl,hb⟩;obtain⟨P,hP⟩:=ey w2.heap.size;have H2:=((H.call hb).new #[(q:Nat)] 3 hP).new #[(m:Nat)] 3 (N:=P+1) (by simp[hP]);clear a0 a1 hb H ng;go_upto_region 2 with fail
 try rw[hP]
 generalize (w2.alloc _).alloc _=W2 at H2⊢;clear hP;obtain⟨b0,-⟩:=Lx (H2.b 1);go_wp2_with fail;refine Ai (v:= .tuple #[Ad Ae 0 0,Aa Ab 6]) (by simp[results,Tryz.results15,go_sem]) rfl ?_;exact⟨rfl,H2.below⟩
def jC (FA BA:Option Cj) (fr bk:List Ip) (c1 c2 n1 n2:Nat) (n h m:Nat) (w:Aj) (hF:aA w FA BA fr bk) (fk:n1=fr.length) (nt:n2=bk.length) (hE:fmE (ksL fr) (ksL bk)=0) (h1:1<=n) (h2:n<=10000) (hq:2*h=Uk (ksL fr)) (h4:h%2=0) (hm:m=(n+2*h-1)/(2*h)):
  Al Dp 15 #[.agg #[Ad FA n1 c1,Ad BA n2 c2],(n:Nat)] w (Vu (λk=>Qs n h m k) fr bk m w):=by
 have ng:=Zz w (λw' hb=>mS FA BA fr bk c1 c2 n1 n2 n w' (hF.below hb) fk nt hE h1 h2);have KF:=mR hF;have ka:=zH hE;rw[<-hq]at ng KF ka;rw[<-hm]at ng;have FH:m*(2*h)<=n+2*h-1:=by rw[hm];exact Nat.div_mul_le_self _ _
 have pm:m<=10000:=by
  by_cases h0:h=0
  ·subst h0;simp at hm;omega
  ·rw[hm];refine Nat.div_le_of_le_mul ?_
   have:n+2*h-1<=2*h*n:=by
    obtain⟨d,hd⟩:∃d,2*h=d+1:=⟨2*h-1,Gv⟩;rw[hd,Nat.add_mul,Nat.one_mul];have:d<=d*n:=Nat.le_mul_of_pos_right d Gv;omega
   exact Bt this (Cy _ Gv)
 have AK:=Ah (λ(P Q:Nat) (w':Aj) (hb:Below w.heap.size w w') (hP:w'.cell? ⟨P,0,Ae⟩=Af (Aa Ab ((2*h:Nat):Int))) (hQ:w'.cell? ⟨Q,0,Ae⟩=Af (Aa Ab (m:Nat)))=>eI 42 (λ_ _=>rfl) #[.pointer (Af ⟨P,0,Ae⟩),.pointer (Af ⟨Q,0,Ae⟩)] (λk p=>Wv h m k p) n m FA BA fr bk c1 c2 n1 n2 w' (hF.below hb) fk nt pm
  (λr hr v hv=>by have:=ka r hr v hv;omega) (λr hr v hv k hk=>by
   have h5:=ka r hr v hv;have h6:k*h<=m*(2*h):=Gq Gv Gv
   try dsimp only
   unfold Wv
   split<;>omega)
  (λv k w2 hv hk aj=>by
   obtain⟨r,hr,U8⟩:=hv;have a1:=ka r hr v U8;exact Au7 v.natAbs k h m P Q w2 (Gw aj hP) (Gw aj hQ) a1 hk Gv))
 obtain⟨q,YO⟩:=ey (2*h);rw[YO]at AK ng KF;have t1:(q:Int).tmod 4=0:=by rw[Int.tmod_eq_emod_of_nonneg Gv];omega
 have H:=(Bx.start w).new #[Ad FA n1 c1,Ad BA n2 c2] 61 rfl;clear hF fk nt hE h1 h2 KF ka FH pm hq hm YO h4;go_in;go_upto_region 1 with fail;generalize w.alloc _=W at H⊢;obtain⟨⟨a0,a1⟩,-⟩:=Hm (H.b 0);go_wp2_with fail;refine(ng.out _ H.below).mono ?_;rintro ee w2 ⟨rfl,hb⟩;obtain⟨P,hP⟩:=ey w2.heap.size;have H2:=((H.call hb).new #[(q:Nat)] 3 hP).new #[(m:Nat)] 3 (N:=P+1) (by simp[hP]);clear a0 a1 hb H ng;go_upto_region 2 with fail
 try rw[hP]
 generalize (w2.alloc _).alloc _=W2 at H2⊢;clear hP;obtain⟨b0,-⟩:=Lx (H2.b 1);obtain⟨d0,-⟩:=Lx (H2.b 2);obtain⟨⟨a0,a1⟩,-⟩:=Hm (H2.b 0);go_wp2_with fail;refine(AK.out P (P+1) _ H2.below (Lx (H2.b 1)).1 (Lx (H2.b 2)).1).mono ?_;rintro ee w3 ⟨A,l,rfl,hl,BS,zx,hb⟩;have H3:=H2.call hb;have HB:Hid (Vu (λk=>Qs n h m k) fr bk m w (.returned (.tuple #[Ad A m m,Aa Ab 0])) w3):=Ah ⟨A,l,rfl,hl,BS,zx,H3.below⟩;clear a0 a1 b0 d0 hb H2 hl BS zx AK H3;go_wp2_with fail;refine Ai (v:= .tuple #[Ad A m m,Aa Ab 0]) (by simp[results,Tryz.results15,go_sem]) rfl ?_;exact HB.out
def Bp1 (I:Ky a b 1 1 t m) (ha:a<=8) (hb:b<=4):iK a b t m (atF t.l ⟨0,0,0⟩):=by
 have xx:=I.G.pos;have e4:4*a*b=4*(a*b):=Fh 4 a b;have ER:1<=a:=Nat.pos_of_ne_zero λe=>by subst e;simp at xx
 have ci:1<=b:=Nat.pos_of_ne_zero λe=>by subst e;simp at xx
 have fd:a*b<=8*4:=Gq ha hb
 have nm:(atF t.l ⟨0,0,0⟩).length=a*b:=by
  have:=Ri I;unfold Le at this
  rwa [List.length_reverse]at this
 have jc:=I.G.pl.len;obtain⟨h0,-,jd⟩:=mV I (q:=0) He;refine⟨I.gs,I.G.sa,I.G.sb,⟨ER,Gv,ci,Gv⟩,λr hr=>?_,⟨_,I.G.both⟩,?_,?_,λi hi=>?_,Gv,Gv⟩
 ·obtain⟨h1,h2⟩:=I.flat r hr;unfold Cr.odd;rw[h1];rcases h2 with h2|h2<;>rw[h2]<;>rfl
 ·have:=congrArg List.length (cF I);simpa using this
 ·cases hl:t.l with
  |nil=>rw[hl]at h0;cases h0
  |cons x r=>
   refine⟨x,r,rfl,?_⟩;have h9:(x::r)[0].ls=atF t.l ⟨0,0,0⟩:=by simpa[hl]using jd
   rw[hl]at h9;exact h9
 ·have hm:i∈Le t:=by unfold Le;exact List.mem_reverse.2 hi
  obtain⟨h1,h2⟩:=Bj6 I hm;refine⟨h1,Gv,h2⟩
def Br2 (I:Ky a b 1 1 t m) (c:Cl):(atF t.l c).Nodup:=by
 have ca:(t.l.map (·.c)).Nodup:=(I.gs.lies (i:=0) (by rw[I.G.cnt];exact I.G.pos)).1;exact Vx (La I.gs.chkS).2.1 ca _
def Cc0 (I:Ky a b 1 1 t m) (hq:q<4):(atF t.l ⟨0,0,q⟩).length=a*b:=by
 have e4:4*a*b=4*(a*b):=Fh 4 a b;have ca:=Br2 I ⟨0,0,q⟩
 have ac:∀i∈atF t.l ⟨0,0,q⟩,i/4<a*b:=λi hi=>by
  have:=((I.G.mem_at I.gs _ i).1 hi).1;omega
 have h1:((atF t.l ⟨0,0,q⟩).map (· /4)).Nodup:=by
  unfold List.Nodup;rw[Fc];refine ca.imp_of_mem λ{i j} hi hj hne e=>hne ?_;have e:i/4=j/4:=e;obtain⟨z,-,-,hz⟩:=Zh I hq (ac i hi);rw[hz i hi rfl,hz j hj e.symm]
 have h2:((atF t.l ⟨0,0,q⟩).map (· /4)).Perm (Ds (a*b)):=(List.perm_ext_iff_of_nodup h1 List.nodup_range).2 λk=>by
  rw[Dr,Eb]
  constructor
  ·rintro⟨i,hi,rfl⟩;exact ac i hi
  ·intro hk;obtain⟨j,hj,hm,-⟩:=Zh I hq hk;exact⟨4*k+j,hm,Gv⟩
 have:=h2.length_eq
 rwa [Bp,Cp]at this
def yH (I:Ky a b 1 1 t m) (ha:a<=8) (hb:b<=4) (hq:q<4) {f:Nat->Option Nat} (hB:bR a b (atF t.l ⟨0,0,q⟩) f)
  (pA:Option Cj) (pc:Nat) (A:Option Cj) (cc:Nat) (w:Aj) (hA:AOk pA t.cr.length pc) (fi:Rd w pA 3 t.cr.length (crs t.cr)) (bo:Ib w A t.l) (hQ:Qf w) (hT:Tn w):
  Al Dp 7 #[.agg #[Aa Ab t.a,Aa Ab t.b,Ad pA t.cr.length pc,Aa Ac t.root.t,Aa Ab t.root.x,Aa Ab t.root.y,Ad A t.l.length cc],Aa Ac (q:Nat)] w (Uv f (a*b) w):=by
 obtain⟨h0,h1,h2⟩:=mV I hq;have fd:a*b<=8*4:=Gq ha hb;refine Ac5 a b t m _ (Bp1 I ha hb) q hq f _ q h0 (by rw[h1]) (λj hj ac=>?_) h2 (a*b) (Cc0 I hq).symm (hB.to (Br2 I _)) Gv pA pc A cc w hA fi bo hQ hT;obtain⟨hz,h3,-⟩:=mV I (q:=j) Gv;rw[h3];show j≠q;omega
def rdK (F B:List (List Int)) (p:Pg):Int:=Bc0 p (fmL F B p)
def jR (ks:List (List (List Int)×List (List Int))) (p1 p2:List Pg):List Int:=(ks.flatMap λr=>p1.map (rdK r.1 r.2))++ks.reverse.flatMap λr=>p2.map (rdK r.1 r.2)
def ksF (r:FoR):List (List Int)×List (List Int):=(ksL r.fr,ksL r.bk)
def dN (l:List FoR) (p1 p2:List Pg):Us l p1 p2=jR (l.map ksF) p1 p2:=by
 unfold Us jR;rw[<-List.map_reverse,List.flatMap_map,List.flatMap_map];rfl
def lY {m:Nat} {G:Nat->Nat->Nat} (hl:l.length=m) (h:∀k (hk:k<l.length),ksL l[k].fr=trR (G k) F/\ksL l[k].bk=trR (G k) B):l.map ksF=(Ds m).map λk=>(trR (G k) F,trR (G k) B):=by
 apply Gk
 ·simp[hl]
 ·intro i h1 h2;simp only[Bp]at h1;obtain⟨e1,e2⟩:=h i h1;simp[ksF,e1,e2]
def Ae1 (a b:Nat) (F:List (List Int)):Bool:=decide (F.length=b)&&F.all λr=>decide (r.length=a)
def Cd2 (h:Ae1 a b (ksL rs)=true):Nv a b rs=true:=by
 unfold Ae1 at h;simp only[Em,Li,Ed]at h;obtain⟨h1,h2⟩:=h;unfold Nv;rw[Ld (by simpa[ksL]using h1),Bool.true_and]
 have:(rs.any λr=>decide (r.ks.length≠a))=false:=by
  rw[Du];intro r hr;have:=h2 r.ks (by unfold ksL;exact List.mem_map_of_mem hr);simpa using this
 rw[this];rfl
def aM {g:Nat->Nat} (h:ksL rs=trR g F) (hF:Ae1 a b F=true):Nv a b rs=true:=by
 refine Cd2 ?_;rw[h];unfold Ae1 trR at*;simp only[Em,Li,Ed,Bp,Dr]at hF⊢;refine⟨hF.1,?_⟩;rintro r ⟨x,hx,rfl⟩;rw[Bp];exact hF.2 x hx
def pgT (p:Pg):Nat×Nat×Bool×Bool:=(p.x,p.y,p.bk,p.dn)
def px1:List Pg:=[⟨1,0,true,false⟩,⟨1,0,false,false⟩,⟨0,0,false,false⟩,⟨0,0,true,false⟩]
def Cc2:Bool:=((Jt 2 1).do Bh4).2.any λu=>decide (((Ds (2*(Le u).length)).map λk=>pgT (pgK u.a.toNat (Ie u.a u.b u.cr u.root).1.1 (Le u) k))=px1.map pgT)
def Aq7:Cc2=true:=Gx
def iO:Sd 1 0 1=[Bh4]:=by decide+kernel
def zY:∀{l l':List Pg},l.map pgT=l'.map pgT->l=l'
 |[],[],_=>rfl
 |[],_::_,h=>by cases h
 |_::_,[],h=>by cases h
 |⟨x,y,b,d⟩::l,⟨x',y',b',d'⟩::l',h=>by
  simp only[Es,List.cons.injEq,pgT,Prod.mk.injEq]at h;obtain⟨⟨rfl,rfl,rfl,rfl⟩,h⟩:=h;rw[zY h]
def Ce6 (I:Ky 2 1 1 1 t m) (h:Yc (Sd 1 0 1) (Jt 2 1) t):(Ds (2*(Le t).length)).map (pgK 2 m (Le t))=px1:=by
 rw[iO]at h;obtain⟨u,hu,-,-,-,rfl⟩:=h;have:=Aq7;unfold Cc2 at this;rw[hu]at this;simp only[Option.any_some,Li]at this;have h1:(Ie u.a u.b u.cr u.root).1.1=m:=by rw[I.G.both]
 have h2:u.a.toNat=2:=by rw[I.G.sa];rfl
 rw[h1,h2]at this;refine zY ?_;rw[Ft];exact this
def Bs4 (I:Ky a b 1 1 t m) (ha:a<=8) (hb:b<=4) (l:List FoR) (lA:Option Cj) (n lc:Nat) (hn:n=l.length) (RB:0<n) (fk:n<=10000) (mc:∀r∈l,Nv a b r.fr=true/\Nv a b r.bk=true)
  (ins:Bool) (h4:ins=true->(2*(a*b))%4=0) (pl p1 p2:List Pg) (dr:(Ds (2*(a*b))).map (pgK a m (Le t))=pl) (qs:p1=if ins then pl.take (a*b)else pl) (lv:p2=if ins then pl.drop (a*b)else[])
  (pA:Option Cj) (pc:Nat) (A:Option Cj) (cc:Nat) (w:Aj) (hl:So w lA l) (hA:AOk pA t.cr.length pc) (fi:Rd w pA 3 t.cr.length (crs t.cr)) (bo:Ib w A t.l) (hQ:Qf w) (hT:Tn w):
  Al Dp 16 #[Ad lA n lc,.agg #[Aa Ab t.a,Aa Ab t.b,Ad pA t.cr.length pc,Aa Ac t.root.t,Aa Ab t.root.x,Aa Ab t.root.y,Ad A t.l.length cc],.bool ins] w (kM (Us l p1 p2) w):=by
 have nm:=Ri I;have e:(atF t.l ⟨0,0,0⟩).reverse=Le t:=rfl
 have xx:0<a*b:=by
  have:=I.G.pos;have e4:4*a*b=4*(a*b):=Fh 4 a b;omega
 have e2:2*(a*b)/2=a*b:=Gv;refine Bo6 a b t m _ (Bp1 I ha hb) (λk hk=>?_) l lA n lc hn RB fk mc ins (2*(a*b)) (by rw[e,nm]) Gv h4 pl p1 p2 dr.symm (by rw[e2];exact qs) (by rw[e2];exact lv) pA pc A cc w hl hA fi bo hQ hT;rw[e,nm]at hk;exact(wB I).lt k hk
def Cf5 {ks:List Int} (h:Ja w A rs) (hk:ksL rs=[ks]) (hc:∀r∈rs,r.c=r.ks.length):∃b o B,A=Af ⟨b,o,Ae⟩/\w.cell? ⟨b,o,Ae⟩=Af (Ad B ks.length ks.length)/\Rd w B 1 ks.length (Ir ks):=by
 match rs,h,hk,hc with
 |[r],h,hk,hc=>
  obtain rfl:r.ks=ks:=by simpa[ksL]using hk
  obtain⟨b,o,e,-,c0⟩:=h.at' 0 Gy;have c1:=hc r (Gf.2 rfl);have c0:w.cell? ⟨b,o+0,Ae⟩=Af (Ad r.A r.ks.length r.c):=c0;rw[c1,Df]at c0;exact⟨b,o,r.A,e,c0,(h.row r (Gf.2 rfl)).rd⟩
def Xx (G a b:Nat) (f:Mt):List Ip:=(Ds b).map λy=>⟨Af ⟨G+y,0,Ae⟩,a,(Ds a).map (f y)⟩
def zX (G a b:Nat) (f:Mt):ksL (Xx G a b f)=Jr a b f:=by
 unfold ksL Xx Jr;rw[Ft];rfl
def Zm (G a b:Nat) (f:Mt):(Xx G a b f).length=b:=by simp[Xx]
def rK {g M a b:Nat} {f:Mt} (hd:w.heap[g]? =Af (Uq b M a b)) (hr:∀i,i<b->w.heap[M+i]? =Af (gE a (f i))):Ja w (Af ⟨g,0,Ae⟩) (Xx M a b f):=by
 refine⟨⟨by simp[Xx],λh0=>⟨g,0,rfl,(Au.1 hd).1,λj u hj=>?_⟩⟩,(λh=>by cases h),λr gp=>?_⟩
 ·have hjb:j<b:=by
   have:=(Ax.1 hj).1;simpa[Xx]using this
  have:=aQ hd hjb;rw[Bu,this,<-hj];unfold Xx Yb;rw[Fs,Fs,List.getElem?_range hjb];simp[Ip.head]
 ·unfold Xx at gp;obtain⟨y,hy,rfl⟩:=Dr.1 gp;have ym:=Eb.1 hy;refine⟨⟨by simp[Ir],λh0=>⟨M+y,0,rfl,(Au.1 (hr y ym)).1,λj u hj=>?_⟩⟩,(λh=>by cases h)⟩
  have hja:j<a:=by
   have:=(Ax.1 hj).1;simpa[Ir]using this
  rw[Bu,(bJ (hr y ym) hja).1,<-hj];simp[Ir,List.getElem?_range hja]
def FmA.inn {G a b:Nat} {s:Mt×Mt} (h:FmA w G a b s) (ha:a<=100) (hb:b<=100):aA w (Af ⟨G,0,Ae⟩) (Af ⟨G+b+1,0,Ae⟩) (Xx (G+1) a b s.1) (Xx (G+b+2) a b s.2):=by
 refine⟨rK h.hF h.rF,rK h.hB h.rB,by rw[Zm];exact hb,by rw[Zm];exact hb,λr hr=>?_⟩;rcases Bl.1 hr with hr|hr
 ·unfold Xx at hr;obtain⟨y,-,rfl⟩:=Dr.1 hr;simpa using ha
 ·unfold Xx at hr;obtain⟨y,-,rfl⟩:=Dr.1 hr;simpa using ha
def Ca1 (I:Ky a b 1 1 t m):∀k,k<2*(atF t.l ⟨0,0,0⟩).reverse.length->(pgK a m (atF t.l ⟨0,0,0⟩).reverse k).x<a/\(pgK a m (atF t.l ⟨0,0,0⟩).reverse k).y<b:=λk hk=>by
 have h1:=Ri I;unfold Le at h1;have h2:=(wB I).lt k Gv;unfold Le at h2;exact h2
def Bc1 (p:Pg) {x:Int} (h:x.natAbs<=1000000):Bc0 p (sgn p x)=x:=by
 unfold Bc0 sgn
 cases p.dn with
 |true=>
  simp only[if_true,Int.neg_neg];exact Cb _ Gv
 |false=>rfl
def Ce9 (h:kL a b pg n) (g:Nat->Nat) (hk:k<n) (hg:g (k+1)<=1000000):
  rdK (trR g (Jr a b (fmT a pg n).1)) (trR g (Jr a b (fmT a pg n).2)) (pg k)=((g (k+1):Nat):Int):=by
 obtain⟨hx,hy⟩:=h.lt k hk;unfold rdK;rw[Bw7 (by rw[Wq];exact hy) (by rw[Wq];exact hy) (by rw[Qy hy];simpa using hx) (by rw[Qy hy];simpa using hx),At1 hx hy,tU h n (Am _) k hk,Bq3];exact Bc1 _ Gv
def fY {a b n m:Nat} (h:kL a b pg n) (G:Nat->Nat->Nat) (hG:∀k p,G k p<=1000000) (l1 l2:List Nat) (h1:∀i∈l1,i<n) (h2:∀i∈l2,i<n):
  jR ((Ds m).map λk=>(trR (G k) (Jr a b (fmT a pg n).1),trR (G k) (Jr a b (fmT a pg n).2))) (l1.map pg) (l2.map pg)
   =(((Ds m).flatMap λk=>l1.map λi=>G k (i+1))++(Ds m).reverse.flatMap λk=>l2.map λi=>G k (i+1)).map λx:Nat=>(x:Int):=by
 have e:∀(l:List Nat),(∀i∈l,i<n)->∀k,(l.map pg).map (rdK (trR (G k) (Jr a b (fmT a pg n).1)) (trR (G k) (Jr a b (fmT a pg n).2)))=(l.map λi=>G k (i+1)).map λx:Nat=>(x:Int):=λl hl k=>by
  rw[Ft,Ft];apply List.map_congr_left;intro i hi;exact Ce9 h (G k) (hl i hi) (hG k _)
 unfold jR;rw[<-List.map_reverse,List.flatMap_map,List.flatMap_map,Ez,List.map_flatMap,List.map_flatMap]
 congr 1
 ·exact congrArg (λf=>(Ds m).flatMap f) (funext λk=>e l1 h1 k)
 ·exact congrArg (λf=>(Ds m).reverse.flatMap f) (funext λk=>e l2 h2 k)
def iM (n m:Nat):List Int:=(Ds m).map λj=>((Wx n j:Nat):Int)
def Ac8 (n m:Nat):(iM n m).length=m:=by simp[iM]
def Ak4 {a b n q m:Nat} (hq:0<q) (h:kL a b pg q) (hn:n<=10000) (hl:l.length=m)
  (hk:∀k (hk:k<l.length),ksL l[k].fr=trR (Vs n q k) (Jr a b (fmT a pg q).1)/\ksL l[k].bk=trR (Vs n q k) (Jr a b (fmT a pg q).2)):
  Us l ((Ds q).map pg) []=iM n (m*q):=by
 rw[dN,lY hl hk];have e:=fY (m:=m) h (Vs n q) (λk p=>by unfold Vs;split<;>omega) (Ds q) [] (λi hi=>Eb.1 hi) (λi hi=>by cases hi);rw[List.map_nil]at e;rw[e]
 have e2:((Ds m).reverse.flatMap λk=>([]:List Nat).map λi=>Vs n q k (i+1))=[]:=by
  rw[List.flatMap_eq_nil_iff];intro x _;rfl
 rw[e2,List.append_nil,Ac9 n m hq,Ft];rfl
def Ba3 {a b n h m:Nat} (hh:0<h) (hp:kL a b pg (2*h)) (hn:n<=10000) (hl:l.length=m)
  (hk:∀k (hk:k<l.length),ksL l[k].fr=trR (Qs n h m k) (Jr a b (fmT a pg (2*h)).1)/\ksL l[k].bk=trR (Qs n h m k) (Jr a b (fmT a pg (2*h)).2)):
  Us l (((Ds (2*h)).map pg).take h) (((Ds (2*h)).map pg).drop h)=iM n (m*(2*h)):=by
 have e0:Ds (2*h)=Ds h++(Ds h).map (h+·):=by rw[Nat.two_mul,List.range_add]
 have e1:((Ds (2*h)).map pg).take h=(Ds h).map pg:=by
  rw[e0,Ez];exact List.take_left' Gy
 have e2:((Ds (2*h)).map pg).drop h=((Ds h).map (h+·)).map pg:=by
  rw[e0,Ez];exact List.drop_left' Gy
 rw[e1,e2,dN,lY hl hk]
 rw[fY (m:=m) hp (Qs n h m) (λk p=>by unfold Qs;split<;>omega) (Ds h) ((Ds h).map (h+·)) (λi hi=>by have:=Eb.1 hi;omega) (λi hi=>by
  obtain⟨j,hj,rfl⟩:=Dr.1 hi;have:=Eb.1 hj;show h+j<2*h;omega)]
 have e3:((Ds m).reverse.flatMap λk=>((Ds h).map (h+·)).map λi=>Qs n h m k (i+1))=(Ds m).reverse.flatMap λk=>(Ds h).map λi=>Qs n h m k (h+i+1):=by
  refine congrArg (λf=>(Ds m).reverse.flatMap f) (funext λk=>?_);rw[Ft];rfl
 rw[e3,Aq6 n m hh,Ft];rfl
end Go.Proofs.YtlgkpdfieaadaaaGreatDoor
namespace Go.Proofs.YtlgkpdfieaadaaaGreatDoor
open Go.RowKit Go.Shelf
attribute [local go_sem] Oper.semAt_some
def Ba2 (a b:Nat) (s:St) (m:List Mv) (ls:List Nat) (hO:iK a b s m ls) (lA:Option Cj) (n lc:Nat) (ins:Bool) (np:Nat) (oc:np=2*ls.reverse.length) (jx:n=0∨ins=true/\np%4≠0)
  (pA:Option Cj) (pc:Nat) (A:Option Cj) (cc:Nat) (w:Aj) (hA:AOk pA s.cr.length pc) (fi:Rd w pA 3 s.cr.length (crs s.cr)) (bo:Ib w A s.l) (hQ:Qf w) (hT:Tn w):
  Al Dp 16 #[Ad lA n lc,.agg #[Aa Ab s.a,Aa Ab s.b,Ad pA s.cr.length pc,Aa Ac s.root.t,Aa Ab s.root.x,Aa Ab s.root.y,Ad A s.l.length cc],.bool ins] w (Gz (.tuple #[Ad Ae 0 0,Aa Ab 1]) w):=by
 have dh:=hO.bd;have hlen:=hO.len;have pw:=Zz w (λw' hb=>Wl a b s m ls hO pA pc A cc w' hA (fi.below hb) (bo.below hb) (hQ.below hb) (hT.below hb));have fd:s.a=(a:Int)/\s.b=(b:Int):=⟨hO.sa,hO.sb⟩;have fa:=Ah jx;obtain⟨sa,sb,cr,⟨rt,rx,ry⟩,sl⟩:=s;dsimp only at pw fd⊢;obtain⟨rfl,rfl⟩:=fd;obtain⟨pn,vm⟩:=ey cr.length;obtain⟨SN,EP⟩:=ey sl.length;rw[vm,EP]at pw⊢;unfold kK at pw;rw[<-oc]at pw;have H:=(Bx.start w).new #[a,b,Ad pA pn pc,Aa Ac rt,rx,ry,Ad A SN cc] 33 rfl;obtain⟨r4,RF⟩:=ey (np%4);have q1:(np:Int).tmod 4=((r4:Nat):Int):=by rw[Int.tmod_eq_emod_of_nonneg Gv];omega
 have XQ:n≠0->ins=true/\r4≠0:=λh=>by
  rw[RF]at jx;rcases jx with h1|h1
  ·exact absurd h1 h
  ·exact h1
 have yq:=Ah XQ;clear hO fi bo hQ hT vm EP hA oc hlen jx XQ fa RF;refine(callsIn_wide (n:=9)).1 (callsIn_of_wp_marks Tryz.func16 rfl trivial ?_ rfl);simp only[Tryz.ntmps16,Fq,Eo,Cs,Nat.reduceAdd,Nat.reduceSub,Db,Da,List.push_toArray,De,Eu,Er];refine wpIn_wide.2 ?_;go_upto_region 1 with fail;obtain⟨N,ct⟩:=Tw w.heap.size;rw[<-ct.out]at H⊢;generalize w.alloc _=W at H⊢;obtain⟨a0,a1,a2,a3,a4,a5,a6⟩:=Kg (H.b 0);go_wp2_with fail;refine(pw.out _ H.below).mono ?_;rintro ee w2 ⟨hb,pgA,vw,rfl,aa⟩;have H2:=H.call hb;clear a0 a1 a2 a3 a4 a5 a6 hb pw H aa;obtain⟨a0,a1,a2,a3,a4,a5,a6⟩:=Kg (H2.b 0);obtain⟨N2,tg⟩:=ey w2.heap.size;have H3:=H2.new #[(a:Nat),(b:Nat)] 25 tg;clear H2;go_upto_region 5 with fail
 try rw[tg]
 generalize w2.alloc _=W3 at H3⊢;clear a0 a1 a2 a3 a4 a5 a6 tg;go_cut [40]from 29 to 40 (λZ1 wx=>Z1= .bool true/\W3=wx)
 case first=>
  clear H3;by_cases RB:n=0
  ·subst RB;clear q1 yq
   as_aux_lemma=>
   go_wp2;go_meet;exact⟨rfl,rfl⟩
  ·obtain⟨rfl,RF⟩:=yq.out RB;have q0:((n:Int)==0)=false:=Hv;have q0b:¬(n:Int)=0:=Gv;have q2:((r4:Int)==0)=false:=Hv;have q2b:¬(r4:Int)=0:=Gv;have q2c:((r4:Int) != 0)=true:=Hv;clear yq RB RF
   as_aux_lemma=>
   go_wp2;go_meet;exact⟨rfl,rfl⟩
 obtain⟨rfl,rfl⟩:=hcut
 apply_assumption
 have HB:=Ah H3.below;clear H3 q1 yq;go_wp2;exact⟨.tuple #[Ad Ae 0 0,Aa Ab 1],by simp[results,Tryz.results16,go_sem],rfl,HB.out⟩
end Go.Proofs.YtlgkpdfieaadaaaGreatDoor
