import Derived.Test.YtlgkpdfieaadaaaGreatDoorQBhb
import Derived.Test.YtlgkpdfieaadaaaGreatDoorQStk
import Derived.Deep.RegionHeld
import Derived.Test.YtlgkpdfieaadaaaGreatDoorQSog
import Derived.Test.YtlgkpdfieaadaaaGreatDoorQPim
import Derived.Shelf.Sort.Plain
import Derived.Shelf.Slices.CompactI
import Derived.Shelf.Slices.In.SortNone
import Derived.Sort.OwnSortedInts
import Derived.Lib.Slices
import Derived.Lib.MinMax
import Derived.Test.YtlgkpdfieaadaaaGreatDoorQGr
import Derived.RangeFuncBox
import Derived.Laws.EntriesVeiled
set_option linter.all false
open And renaming intro->Cm
open Array renaming getElem?_eq_some_iff->Au,getElem_setIfInBounds->Cs,replicate->Em,replicate_succ->Da,replicate_zero->Cz
open Bool renaming and_eq_true->El,false_eq_true->Ej,not_eq_true->Eo
open Go renaming Addr->Ci,Calls->Al,TypeId->Cj,Value->Ak,World->Aj,bodyPost_ret->Ai,cell_of_row->By,heap_alloc_new->Bz,wpAnyH_done->An,wpAnyH_ready->Ap,wp_region_held_drew->Ao
open Go.AllReadyH renaming cons->Aq,nil->Ar
open Go.Fence renaming wide->Cu
open Go.IntKind renaming i64->Ab,u8->Ac
open Go.IntWalk renaming i64_in->Ca,wrap64_in->Cb
open Go.Lib renaming hid->Ah,wpList_append_run->As
open Go.Obj renaming cells->Cn
open Go.Proofs.Tryz renaming prog->Do,underlying38->Dk
open Go.Region renaming wanted->Dy
open Go.RowKit.Below renaming refl->Ag
open Go.Value renaming int->Aa,slice->Ad,oneCell'->Dn,ownBlock->Dv
open Int renaming tdiv_eq_ediv_of_nonneg->Gh
open List renaming all_eq_true->Ec,any_eq_false->Dt,any_eq_true->Ev,append_toArray->Dd,cons_append->Ep,ext_getElem->Gj,flatMap_append->Bi,flatMap_cons->Bf,getD_eq_getElem?_getD->Ds,getElem?_cons_succ->Cw,getElem?_eq_getElem->Aw,getElem?_eq_none->Ei,getElem?_eq_some_iff->Ax,getElem?_map->Fq,getElem_cons_succ->Cd,getElem_cons_zero->Cc,getElem_map->Gd,getElem_mem->Ay,getElem_range->Di,getElem_toArray->Ce,length_append->Bh,length_cons->En,length_drop->Dx,length_map->Bo,length_nil->Cq,length_range->Co,length_take->Bm,map_append->Ey,map_cons->Er,map_map->Fs,mem_append_left->Gb,mem_cons->Bk,mem_iff_getElem->Be,mem_map->Dq,mem_range->Ea,mem_singleton->Ge,nil_append->Et,not_mem_nil->Du,pairwise_iff_getElem->Fi,pairwise_map->Ez,range->Dr,setIfInBounds_toArray->Ch,set_cons_succ->Cg,set_cons_zero->Cf,size_toArray->Fp,take_append_drop->Fc,take_succ_eq_append_getElem->Bc,toArray_replicate->Gi
open Nat renaming add_zero->De,le_refl->Am,le_trans->Br,lt_of_lt_of_le->Bq,mul_assoc->Fg,mul_le_mul->Gp,mul_le_mul_left->Cx,mul_le_mul_right->Ft,mul_one->Db,zero_add->Bt,zero_le->Gk
open Option renaming none->Ae,some->Af
set_option maxHeartbeats 16000000
set_option maxRecDepth 100000
namespace Go.Proofs.YtlgkpdfieaadaaaGreatDoor
open Go.RowKit
theorem Bx.keepM {w wr w2:Aj} {l:List (Nat×Array Ak×Cj)} {M:Nat} (h:Bx w l wr) (hM:∀x∈l,x.1<M) (hw:w.heap.size<=M) (hb:Below M wr w2):Bx w l w2:=
 ⟨h.below.trans (hb.mono hw),λi g cs t hi=>(hb.block g (hM _ (List.mem_of_getElem? hi))).trans (h.blk i g cs t hi),h.lo,h.inj⟩
theorem Ml {w:Aj} {M e sz n:Nat} {v:Ak} {xs:List Ak} (h:w.ownsRow M e sz v n xs) {g:Nat} (hg:g<M) (j:Nat) (u:Ak):(w.setCell ⟨g,j,Ae⟩ u).ownsRow M e sz v n xs:=
 ⟨h.1,h.2.imp id λ⟨g',cap,cur,r1,r2,r3,r⟩=>⟨g',cap,cur,r1,r2,(Below.heap_setCell w ⟨g,j,Ae⟩ u g' (by show g'≠g;omega)).trans r3,r⟩⟩
theorem aH {w w2:Aj} {M:Nat} {v:Ak} (hg:w.grownBy w2 v.ownBlock) {e sz n:Nat} {xs:List Ak} (h:w.ownsRow M e sz v n xs) (hm:M<=w.heap.size):Below M w w2:=
 (Ag M w).grown hg hm (λq hq=>(h.lt q hq).1)
theorem Tl {w:Aj} {g:Nat} {cs:Array Ak} {t:Cj} (h:w.heap[g]? =Af (.cells cs t (0,0))) (j:Nat):w.frozen? ⟨g,j,Ae⟩=false:=by
 unfold World.frozen?;rw[h];simp
theorem Zu {P:Program} {w:Aj} {ops:Array Oper} {o:Oper} {a:Act} {K:Act->Aj->Prop} {Q:Exit->Act->Aj->Prop} {E:Prop} (hw:Dy o (yielded ops a.tmps)=true) (s x:Operand) (t:Cj)
  (ho:o.op= .call {callee:= .builtin .append,args:=#[s,x],argTypes:=#[t,t]}) (vs vx:Ak) (hs:a.eval s=vs) (hx:a.eval x=vx) (v':Ak) (w':Aj)
  (hr:(Builtin.append_ #[t,t] o.type #[vs,vx]).run P w= .ok v' w') (h:K (a.put o.dst v') w'):if Dy o (yielded ops a.tmps)=true then Oper.wp P o a w K Q else E:=by
 rw[Hd hw];exact Lib.wp_append_run w s x t t ho vs vx hs hx v' w' hr h
theorem kX:(Tryz.prog.info? 56).map (λi=>(i.zero,i.size,i.bytes))=Af (Af (.agg #[Aa Ab 0,Aa Ab 0]),2,16):=Gw
theorem kY {f:Nat->Option Nat} {j:Nat} (h:f j=Ae):Hq f (j+1)=Hq f j++[j]/\Hc f (j+1)=Hc f j:=by
 rw[Zf,Po];simp[Tz,Vb,h]
theorem kZ {f:Nat->Option Nat} {j b:Nat} (h:f j=Af b):Hq f (j+1)=Hq f j:=by
 rw[Zf];simp[Tz,h]
theorem sZ {f:Nat->Option Nat} {j b:Nat} (h:f j=Af b) (ad:j<b):Hc f (j+1)=Hc f j++[(j,b)]:=by
 rw[Po];simp[Vb,h,ad]
theorem sY {f:Nat->Option Nat} {j b:Nat} (h:f j=Af b) (ad:¬j<b):Hc f (j+1)=Hc f j:=by
 rw[Po];simp[Vb,h,ad]
theorem Tf (f:Nat->Option Nat) (n:Nat):(Hq f n).length<=n:=by
 have:=List.length_filter_le (Tz f) (Dr n);simpa[Hq]using this
theorem Ph (f:Nat->Option Nat) (n:Nat):(Hc f n).length<=n:=by
 have:=List.length_filterMap_le (Vb f) (Dr n);simpa[Hc]using this
def nV (k:Nat):Ak:= Aa Ab (k:Int)
def Ut (l:List Nat):List Ak:=l.map nV
def Kf (l:List (Nat×Nat)):List Ak:=l.flatMap λp=>[nV p.1,nV p.2]
theorem Af1 (l:List Nat) (a:Nat):Ut (l++[a])=Ut l++[nV a]:=by simp[Ut]
theorem Sx (l:List (Nat×Nat)) (p:Nat×Nat):Kf (l++[p])=Kf l++[nV p.1,nV p.2]:=by simp[Kf]
theorem Rg (l:List (Nat×Nat)):(Kf l).length=l.length*2:=by
 induction l with
 |nil=>rfl
 |cons p r ih=>unfold Kf at*;rw[Bf,Bh,ih];simp;omega
structure BAt (w:Aj) (f:Nat->Option Nat) (L:Nat) (fA lA:Option Ci) (nf fc nl lc:Nat):Prop where
 hf:nf=(Hc f L).length
 hl:nl=(Hq f L).length
 rf:Rd w fA 2 nf (Kf (Hc f L))
 rl:Rd w lA 1 nl (Ut (Hq f L))
 af:AOk fA nf fc
 al:AOk lA nl lc
 cf:nf<=fc/\fc<=maxLen
 cl:nl<=lc/\lc<=maxLen
theorem BAt.below {w w':Aj} {f:Nat->Option Nat} {L:Nat} {fA lA:Option Ci} {nf fc nl lc:Nat} (h:BAt w f L fA lA nf fc nl lc) (hb:Below w.heap.size w w'):BAt w' f L fA lA nf fc nl lc:=
 ⟨h.hf,h.hl,h.rf.below hb,h.rl.below hb,h.af,h.al,h.cf,h.cl⟩
theorem Qg {w:Aj} {A:Option Ci} {l:List (Nat×Nat)} {n:Nat} (h:Rd w A 2 n (Kf l)) {j:Nat} (hj:j<l.length):∃b o,A=Af ⟨b,o,Ae⟩/\b<w.heap.size/\w.cell? ⟨b,o+j*2,Ae⟩=Af (Aa Ab (l[j].1:Int))/\w.cell? ⟨b,o+j*2+1,Ae⟩=Af (Aa Ab (l[j].2:Int)):=by
 have hg:∀(l:List (Nat×Nat)) (j:Nat) (hj:j<l.length),(Kf l)[j*2]? =Af (nV l[j].1)/\(Kf l)[j*2+1]? =Af (nV l[j].2):=by
  intro l
  induction l with
  |nil=>intro j hj;exact absurd hj (Nat.not_lt_zero _)
  |cons p r ih=>
   intro j hj
   cases j with
   |zero=>exact⟨rfl,rfl⟩
   |succ j=>
    have:=ih j (by simpa using hj);rw[show(j+1)*2=j*2+2 by omega];exact this
 have hn:n=l.length:=by have h1:=h.1;rw[Rg]at h1;omega
 obtain⟨b,o,e,hb,hc⟩:=h.2 Gu;have:=hg l j hj;exact⟨b,o,e,hb,hc _ _ this.1,hc _ _ this.2⟩
theorem tS {w:Aj} {A:Option Ci} {l:List Nat} {n:Nat} (h:Rd w A 1 n (Ut l)) {j:Nat} (hj:j<l.length):∃b o,A=Af ⟨b,o,Ae⟩/\b<w.heap.size/\w.cell? ⟨b,o+j,Ae⟩=Af (Aa Ab (l[j]:Int)):=by
 have hn:n=l.length:=by have h1:=h.1;simp[Ut]at h1;omega
 obtain⟨b,o,e,hb,hc⟩:=h.2 Gu;exact⟨b,o,e,hb,hc j _ (by unfold Ut;rw[Fq,Aw hj];rfl)⟩
theorem kL (n L P:Nat) (hn:n<L) (w:Aj) (hP:w.cell? ⟨P,0,Ae⟩=Af (Aa Ab (L:Int))):
  Al Do 139 #[(n:Int),.pointer (Af ⟨P,0,Ae⟩)] w (Gy (.bool false) w):=by
 have q0:¬(n:Int)<0:=Gu;have q1:¬(n:Int)>=(L:Int):=Gu;go_enter Tryz.func139,Tryz.ntmps139;go_wp2;go_ret;exact⟨rfl,Ag _ _⟩
set_option linter.unusedSimpArgs false in
theorem tR (f:Nat->Option Nat) (L:Nat) (hN:Nc f L) (hL:L<=64) (fA lA:Option Ci) (nf fc nl lc:Nat) (w:Aj) (hB:BAt w f L fA lA nf fc nl lc):
  Al Do 78 #[.agg #[L,Ad fA nf fc,Ad lA nl lc]] w (Gy (.bool true) w):=by
 have IC:nf<=64:=by have h1:=hB.hf;have h2:=Ph f L;omega
 have jv:nl<=64:=by have h1:=hB.hl;have h2:=Tf f L;omega
 have gv:=Ah hB;have CI:=Ah hN;clear hB hN;have H:=(Bx.start w).new #[L,Ad fA nf fc,Ad lA nl lc] 40 rfl;go_enter Tryz.func78,Tryz.ntmps78;go_upto_region 1 with fail;generalize w.alloc _=W at H⊢;obtain⟨N,hN⟩:=ez w.heap.size;rw[<-hN]at H⊢;have db:=Ah hN;clear hN;obtain⟨⟨a0,a1,a2⟩,_⟩:=He (H.b 0);go_wp2_with fail;clear a0 a1 a2
 go_loopw [12] (λTF wr=>∃j:Nat,TF= Aa Ab j/\j<=nf/\Hid (Bx w [(N,#[Aa Ab L,Ad fA nf fc,Ad lA nl lc],40)] wr)) (λTF _=>nf-(intOf TF).toNat)
 case atStart=>exact⟨0,rfl,Gu,Ah H⟩
 obtain⟨j,rfl,hj,HH⟩:=hrel;by_cases ad:j<nf
 ·have q0:(j:Int)<(nf:Int):=Gu;have H1:=HH.out;have lz:j<(Hc f L).length:=oHx gv.out.hf;obtain⟨b,o,rfl,cj,p0,p1⟩:=Qg (gv.out.rf.below H1.below) lz;have vf:=Kk.1 (Ay lz);have hmy:=(CI.out.lt _ _ vf.2.1).2.1;obtain⟨x,hx⟩:=ey ((Hc f L)[j].1);obtain⟨y,hy⟩:=ey ((Hc f L)[j].2);have ef:=vf.2.2;have vk:=vf.1;rw[hx]at p0 ef vk;rw[hy]at p1 hmy ef;have t1:¬(x:Int)>=(y:Int):=Gu;have HX:=Ah hx;clear vf hx hy;have CE:=Ah λ(W':Aj) (h:W'.cell? ⟨N,0,Ae⟩=Af (Aa Ab (L:Int)))=>kL x L N vk W' h;have HFY:=Ah λ(W':Aj) (h:W'.cell? ⟨N,0,Ae⟩=Af (Aa Ab (L:Int)))=>kL y L N hmy W' h;have e0:=Gv ((Ag _ wr).alloc (Am _) (.cells #[(x:Int),(y:Int)] 56)) p0
  cases j with
  |zero=>
   simp only[Nat.zero_mul,De]at p0 p1 e0;go_upto_region 5 with fail;have H2:=H1.new #[x,y] 56 rfl;obtain⟨S,an⟩:∃S:Aj->Prop,S=λW'=>(W'.cell? ⟨wr.heap.size,0,Ae⟩=Af (Aa Ab (x:Int))/\W'.cell? ⟨wr.heap.size,1,Ae⟩=Af (Aa Ab (y:Int))/\W'.cell? ⟨N,0,Ae⟩=Af (Aa Ab (L:Int))/\W'.cell? ⟨N,1,Ae⟩=Af (Ad (Af ⟨b,o,Ae⟩) nf fc)):=⟨_,rfl⟩;generalize wr.alloc _=W2 at H2 e0⊢;generalize wr.heap.size=Q at H2 an⊢;obtain⟨⟨b0,b1,b2⟩,_⟩:=He (H2.b 0);obtain⟨⟨c0,c1⟩,_⟩:=Hn (H2.b 1);have ae:Hid (∀W',Below W2.heap.size W2 W'->S W'):=Ah λW' h=>by subst an;exact⟨Gv h c0,Gv h c1,Gv h b0,Gv h b1⟩
   have HSO:Hid (∀W',S W'->W'.cell? ⟨Q,0,Ae⟩=Af (Aa Ab (x:Int))/\W'.cell? ⟨Q,1,Ae⟩=Af (Aa Ab (y:Int))/\W'.cell? ⟨N,0,Ae⟩=Af (Aa Ab (L:Int))/\W'.cell? ⟨N,1,Ae⟩=Af (Ad (Af ⟨b,o,Ae⟩) nf fc)):=Ah λW' h=>by subst an;exact h
   have O6:Hid (∀W',S W'->W'.cell? ⟨N,0,Ae⟩=Af (Aa Ab (L:Int))):=Ah λW' h=>(HSO.out _ h).2.2.1;clear an b0 b1 b2 c0 c1 e0;refine Ao (S:=S) Gw (ae.out _ (Ag _ _).drew) (λhS=>?_);have hb:Below W2.heap.size W2 W2.drew:=(Ag _ _).drew;generalize W2.drew=X0 at hb hS⊢;refine Oe 0 1 2 ?_;refine rdy 3 (λK hK=>?_);go_simp;refine(CE.out _ (O6.out _ hS)).mono ?_;rintro e X1 ⟨rfl,ac⟩;have hb:=hb.trans (ac.mono hb.size);refine hK.o (ae.out _ hb) (λhS=>?_);clear hK K ac;refine Hh 4 5 6 7 ?_;refine rdy 8 (λK hK=>?_);go_simp;refine(HFY.out _ (O6.out _ hS)).mono ?_;rintro e X2 ⟨rfl,ac⟩;have hb:=hb.trans (ac.mono hb.size);refine hK.o (ae.out _ hb) (λhS=>?_);clear hK K ac;refine Hh 9 10 11 12 ?_;refine Hh 13 14 15 16 ?_;refine Hh 17 18 19 20 ?_;refine Hh 21 22 23 24 ?_;refine Hh 25 26 27 28 ?_;refine Hh 29 30 31 32 ?_;refine An Gw ?_ _;have H3:=H2.call hb;go_wp2
   go_roundw
   case rel=>exact⟨1,rfl,Gu,Ah (H3.upto 1)⟩
   case measure=>simp[intOf];omega
  |succ j'=>
   have hjl':j'<(Hc f L).length:=Gu;obtain⟨b2,o2,eb,_,m0,_⟩:=Qg (gv.out.rf.below H1.below) hjl';obtain⟨rfl,rfl⟩:b=b2/\o=o2:=by simpa using eb
   have ul:=Fi.1 (Sf (f:=f) L) j' (j'+1) hjl' lz Gu;rw[HX.out]at ul;obtain⟨x',J9⟩:=ey ((Hc f L)[j'].1);rw[J9]at m0 ul;have t3:¬(x':Int)>=(x:Int):=Gu;have q5:(j':Int)<(nf:Int):=Gu;have q6:(((j'+1:Nat):Int))>0:=Gu;have ew:Ab.wrap (j':Int)=(j':Int):=Ca _ (oHx (Ph f L));have em:=Gv ((Ag _ wr).alloc (Am _) (.cells #[(x:Int),(y:Int)] 56)) m0;clear J9 eb m0;go_upto_region 5 with fail;have H2:=H1.new #[x,y] 56 rfl;obtain⟨S,an⟩:∃S:Aj->Prop,S=λW'=>(W'.cell? ⟨wr.heap.size,0,Ae⟩=Af (Aa Ab (x:Int))/\W'.cell? ⟨wr.heap.size,1,Ae⟩=Af (Aa Ab (y:Int))/\W'.cell? ⟨N,0,Ae⟩=Af (Aa Ab (L:Int))/\W'.cell? ⟨N,1,Ae⟩=Af (Ad (Af ⟨b,o,Ae⟩) nf fc)/\W'.cell? ⟨b,o+j'*2,Ae⟩=Af (Aa Ab (x':Int))):=⟨_,rfl⟩;generalize wr.alloc _=W2 at H2 e0 em⊢;generalize wr.heap.size=Q at H2 an⊢;obtain⟨⟨b0,b1,b2⟩,_⟩:=He (H2.b 0);obtain⟨⟨c0,c1⟩,_⟩:=Hn (H2.b 1);have ae:Hid (∀W',Below W2.heap.size W2 W'->S W'):=Ah λW' h=>by subst an;exact⟨Gv h c0,Gv h c1,Gv h b0,Gv h b1,Gv h em⟩
   have HSO:Hid (∀W',S W'->W'.cell? ⟨Q,0,Ae⟩=Af (Aa Ab (x:Int))/\W'.cell? ⟨Q,1,Ae⟩=Af (Aa Ab (y:Int))/\W'.cell? ⟨N,0,Ae⟩=Af (Aa Ab (L:Int))/\W'.cell? ⟨N,1,Ae⟩=Af (Ad (Af ⟨b,o,Ae⟩) nf fc)/\W'.cell? ⟨b,o+j'*2,Ae⟩=Af (Aa Ab (x':Int))):=Ah λW' h=>by subst an;exact h
   have O6:Hid (∀W',S W'->W'.cell? ⟨N,0,Ae⟩=Af (Aa Ab (L:Int))):=Ah λW' h=>(HSO.out _ h).2.2.1;clear em;clear an b0 b1 b2 c0 c1 e0;refine Ao (S:=S) Gw (ae.out _ (Ag _ _).drew) (λhS=>?_);have hb:Below W2.heap.size W2 W2.drew:=(Ag _ _).drew;generalize W2.drew=X0 at hb hS⊢;refine Oe 0 1 2 ?_;refine rdy 3 (λK hK=>?_);go_simp;refine(CE.out _ (O6.out _ hS)).mono ?_;rintro e X1 ⟨rfl,ac⟩;have hb:=hb.trans (ac.mono hb.size);refine hK.o (ae.out _ hb) (λhS=>?_);clear hK K ac;refine Hh 4 5 6 7 ?_;refine rdy 8 (λK hK=>?_);go_simp;refine(HFY.out _ (O6.out _ hS)).mono ?_;rintro e X2 ⟨rfl,ac⟩;have hb:=hb.trans (ac.mono hb.size);refine hK.o (ae.out _ hb) (λhS=>?_);clear hK K ac;refine Hh 9 10 11 12 ?_;refine Hh 13 14 15 16 ?_;refine Hh 17 18 19 20 ?_;refine Hh 21 22 23 24 ?_;refine Hh 25 26 27 28 ?_;refine Hh 29 30 31 32 ?_;refine An Gw ?_ _;have H3:=H2.call hb;go_wp2
   go_roundw
   case rel=>exact⟨j'+2,by go_num,Gu,Ah (H3.upto 1)⟩
   case measure=>simp[intOf];omega
 ·have q0:¬(j:Int)<(nf:Int):=Gu;have H1:=HH.out;obtain⟨⟨a0,a1,a2⟩,_⟩:=He (H1.b 0);have yt:=HH;clear HH H H1;go_wp2_with fail;clear a0 a1 a2 q0
  go_loopw [54] (λNK wx=>∃k:Nat,NK= Aa Ab k/\k<=nl/\Hid (Bx w [(N,#[Aa Ab L,Ad fA nf fc,Ad lA nl lc],40)] wx)) (λNK _=>nl-(intOf NK).toNat)
  case atStart=>exact⟨0,rfl,Gu,yt⟩
  obtain⟨k,rfl,hk,HH⟩:=hrel;clear yt;have H1:=HH.out;by_cases gp:k<nl
  ·have q0:(k:Int)<(nl:Int):=Gu;have bc:k<(Hq f L).length:=oHx gv.out.hl;obtain⟨b,o,rfl,cj,p0⟩:=tS (gv.out.rl.below H1.below) bc;obtain⟨x,hx⟩:=ey ((Hq f L)[k]);have vk:x<L:=hx▸(Ng.1 (Ay bc)).1;rw[hx]at p0;have HX:=Ah hx;have CE:=Ah λ(W':Aj) (h:W'.cell? ⟨N,0,Ae⟩=Af (Aa Ab (L:Int)))=>kL x L N vk W' h;obtain⟨⟨a0,a1,a2⟩,_⟩:=He (H1.b 0);clear hx
   cases k with
   |zero=>
    simp only[De]at p0;go_wp2_with fail;refine(CE.out _ a0).mono ?_;rintro e w3 ⟨rfl,hb⟩;have H3:=H1.call hb;clear a0 a1 a2 p0 hb;obtain⟨⟨a0,a1,a2⟩,_⟩:=He (H3.b 0);go_wp2
    go_roundw
    case rel=>exact⟨1,rfl,Gu,Ah H3⟩
    case measure=>simp[intOf];omega
   |succ k'=>
    have C7:k'<(Hq f L).length:=Gu;obtain⟨b2,o2,eb,_,m0⟩:=tS (gv.out.rl.below H1.below) C7;obtain⟨rfl,rfl⟩:b=b2/\o=o2:=by simpa using eb
    have ul:=Fi.1 (Uc (f:=f) L) k' (k'+1) C7 bc Gu;rw[HX.out]at ul;obtain⟨x',J9⟩:=ey ((Hq f L)[k']);rw[J9]at m0 ul;have t3:¬(x':Int)>=(x:Int):=Gu;have q5:(k':Int)<(nl:Int):=Gu;have q6:(((k'+1:Nat):Int))>0:=Gu;have ew:Ab.wrap (k':Int)=(k':Int):=Ca _ (oHx (Tf f L));clear J9 eb C7;go_wp2_with fail;refine(CE.out _ a0).mono ?_;rintro e w3 ⟨rfl,hb⟩;have H3:=H1.call hb;have m1:=Gv hb m0;clear a0 a1 a2 p0 hb m0;obtain⟨⟨a0,a1,a2⟩,_⟩:=He (H3.b 0);go_wp2
    go_roundw
    case rel=>exact⟨k'+2,by go_num,Gu,Ah H3⟩
    case measure=>simp[intOf];omega
  ·have q0:¬(k:Int)<(nl:Int):=Gu;go_wp2;go_ret;exact⟨rfl,H1.below⟩
end Go.Proofs.YtlgkpdfieaadaaaGreatDoor
namespace Go.Proofs
open Go.Shelf Go.RowKit
def Tryz.laysSort_ren:Go.Shelf.Ren:=⟨fun|189=>80|125=>85|257=>140|128=>149|129=>150|294=>179|295=>180|296=>181|297=>182|298=>183|299=>184|216=>185|300=>186|301=>187|328=>238|329=>189|330=>190|331=>239|332=>240|215=>86|343=>282|n=>n,fun|28=>38|3=>3|46=>176|0=>0|51=>251|53=>253|4=>4|183=>245|182=>244|131=>208|5=>5|9=>9|218=>307|222=>109|228=>369|229=>225|n=>n,fun|n=>n⟩
open Tryz in
theorem Tryz.laysSort:Go.Proofs.Lays.n189 Do Tryz.laysSort_ren:={
 mixed:=Gw,f125:=lyf func85,f128:=lyf func149,f129:=lyf func150,f189:=lyf func80,f215:=lyf func86,f216:=lyf func185,f257:=lyf func140,f294:=lyf func179,f295:=lyf func180,f296:=lyf func181,f297:=lyf func182,f298:=lyf func183,f299:=lyf func184,f300:=lyf func186,f301:=lyf func187,f328:=lyf func238,f329:=lyf func189,f330:=lyf func190,f331:=lyf func239,f332:=lyf func240,f343:=lyf func282,t0:=underlying0,a0:=isAgg0,z0:=sizeOf0,v0:=zeroValue0,t3:=underlying3,a3:=isAgg3,z3:=sizeOf3,v3:=zeroValue3,t4:=underlying4,a4:=isAgg4,z4:=sizeOf4,v4:=zeroValue4,t5:=underlying5,a5:=isAgg5,z5:=sizeOf5,v5:=zeroValue5,t9:=underlying9,a9:=isAgg9,z9:=sizeOf9,v9:=zeroValue9,t28:=underlying38,a28:=isAgg38,z28:=sizeOf38,v28:=zeroValue38,t46:=underlying176,a46:=isAgg176,z46:=sizeOf176,v46:=zeroValue176,t51:=underlying251,a51:=isAgg251,z51:=sizeOf251,v51:=zeroValue251,t53:=underlying253,a53:=isAgg253,z53:=sizeOf253,v53:=zeroValue253,t131:=underlying208,a131:=isAgg208,z131:=sizeOf208,v131:=zeroValue208,t182:=underlying244,a182:=isAgg244,z182:=sizeOf244,v182:=zeroValue244,t183:=underlying245,a183:=isAgg245,z183:=sizeOf245,v183:=zeroValue245,t218:=underlying307,a218:=isAgg307,z218:=sizeOf307,v218:=zeroValue307,t222:=underlying109,a222:=isAgg109,z222:=sizeOf109,v222:=zeroValue109,t228:=underlying369,a228:=isAgg369,z228:=sizeOf369,v228:=zeroValue369,t229:=underlying225,a229:=isAgg225,z229:=sizeOf225,v229:=zeroValue225}
def Tryz.laysCompact_ren:Go.Shelf.Ren:=⟨fun|20=>81|n=>n,fun|22=>38|3=>3|4=>4|0=>0|n=>n,fun|n=>n⟩
open Tryz in
theorem Tryz.laysCompact:Go.Proofs.Lays2.n20 Do Tryz.laysCompact_ren:={
 mixed:=Gw,f20:=lyf func81,t0:=underlying0,a0:=isAgg0,z0:=sizeOf0,v0:=zeroValue0,t3:=underlying3,a3:=isAgg3,z3:=sizeOf3,v3:=zeroValue3,t4:=underlying4,a4:=isAgg4,z4:=sizeOf4,v4:=zeroValue4,t22:=underlying38,a22:=isAgg38,z22:=sizeOf38,v22:=zeroValue38,i3:=by kernel_rfl}
end Go.Proofs
namespace Go.Proofs.YtlgkpdfieaadaaaGreatDoor
open Go.RowKit
def iBV (xs:List Int):List Ak:=xs.map (Value.int .i64)
def srt (xs:List Int):List Int:=xs.mergeSort λx y=>decide (x<=y)
theorem Qv (xs:List Int):(srt xs).length=xs.length:=by unfold srt;rw[List.length_mergeSort]
theorem Aj5 {M m c:Nat} {B:Option Ci} {xs:List Int} (w:Aj) (h:w.ownsRow M 3 1 (Ad B m c) m (iBV xs)) (hM:M<=w.heap.size) (hm:m<=1000):
  Al Do 80 #[Ad B m c] w λe w'=>e= .returned (.tuple #[])/\w'.ownsRow M 3 1 (Ad B m c) m (iBV (srt xs))/\Below M w w':=by
 have hl:xs.length=m:=by have:=h.1;simpa[iBV]using this
 rcases h.2 with⟨h0,rfl⟩|⟨g,cap,cur,r1,r2,r3,r4,r5,r6,r7⟩
 ·obtain rfl:xs=[]:=List.eq_nil_of_length_eq_zero hl;refine(Any.slices_Sort_int_none Tryz.laysSort B c w).mono ?_;rintro e w' ⟨rfl,rfl⟩;exact⟨rfl,by simpa[srt,iBV]using h,Ag _ _⟩
 ·obtain⟨rfl,rfl⟩:B=Af ⟨g,0,Ae⟩/\c=cap:=by simpa using r1
  subst hl;have hH:=holds_of_blockI (ss:=xs) r3 (by rw[Db]at r7;exact r7);refine(Any.slices_Sort_int Tryz.laysSort g 0 c xs w hH (Au.1 r3).1 Gu).mono ?_;rintro e w' ⟨rfl,n,os,rfl⟩;refine⟨rfl,ownsRow_sortedI (ts:=srt xs) (Qv xs) r2 r3 r4 r5 r6,?_⟩;exact aH (v:= Ad (Af ⟨g,0,Ae⟩) xs.length c) (grownBy_sortedI _) h hM
theorem kB {M m c:Nat} {B:Option Ci} {xs:List Int} (w:Aj) (h:w.ownsRow M 3 1 (Ad B m c) m (iBV xs)) (hM:M<=w.heap.size) (hm:m<=1000) (hk:∀j,j<xs.length->Lib.keeps xs.toArray j=true):
  Al Do 81 #[Ad B m c] w λe w'=>(∃B' c',e= .returned (Ad B' m c'))/\Below M w w':=by
 have hl:xs.length=m:=by have:=h.1;simpa[iBV]using this
 rcases h.2 with⟨h0,rfl⟩|⟨g,cap,cur,r1,r2,r3,r4,r5,r6,r7⟩
 ·refine(Any.slices_Compact_int_empty Tryz.laysCompact B c w).mono ?_;rintro e w' ⟨rfl,rfl⟩;exact⟨⟨B,c,rfl⟩,Ag _ _⟩
 ·obtain⟨rfl,rfl⟩:B=Af ⟨g,0,Ae⟩/\c=cap:=by simpa using r1
  subst hl;have hH:=holds_of_blockI (ss:=xs) r3 (by rw[Db]at r7;exact r7);refine(Any.slices_Compact_int Tryz.laysCompact g 0 c xs w hH Gu r4).mono ?_;rintro e w' ⟨rfl,n,rfl⟩;refine⟨⟨Af ⟨g,0,Ae⟩,c,by rw[Lib.compact_all xs hk]⟩,?_⟩;have hg:=grownBy_sortedI (w:=w) (g:=g) (n:=n) (os:=#[]) (Lib.compact xs++List.replicate (xs.length-(Lib.compact xs).length) 0).toArray;rw[Go.Sort.grow_empty]at hg;exact aH (v:= Ad (Af ⟨g,0,Ae⟩) xs.length c) hg h hM
theorem Aj9 {xs:List Int} (h:xs.Nodup):∀j,j<(srt xs).length->Lib.keeps (srt xs).toArray j=true:=by
 have hp:(srt xs).Perm xs:=List.mergeSort_perm _ _;have hn:(srt xs).Nodup:=hp.nodup_iff.2 h;intro j hj;unfold Lib.keeps;rw[decide_eq_true_iff];by_cases h0:j=0
 ·exact .inl h0
 ·refine .inr λe=>?_;have h1:j-1<(srt xs).length:=Gu;have hne:=Fi.1 hn (j-1) j h1 hj Gu;rw[getElem!_pos _ j (by simpa using hj),getElem!_pos _ (j-1) (by simpa using h1)]at e;simp only[Ce]at e;exact hne e.symm
def Rw (f:Nat->Option Nat) (L j:Nat):List Int:=((Hq f L++((Hc f L).take j).flatMap λp=>[p.1,p.2]).map λn:Nat=>(n:Int))
theorem kW (f:Nat->Option Nat) (L j:Nat):iBV (Rw f L j)=Ut (Hq f L)++Kf ((Hc f L).take j):=by
 unfold iBV Rw Ut Kf;rw[Fs,Ey]
 congr 1
 generalize (Hc f L).take j=l
 induction l with
 |nil=>rfl
 |cons p r ih=>rw[Bf,Bf,Ey,ih];rfl
theorem At7 (f:Nat->Option Nat) (L j:Nat) (hj:j<=(Hc f L).length):(Rw f L j).length=(Hq f L).length+2*j:=by
 unfold Rw;rw[Bo,Bh]
 have:∀l:List (Nat×Nat),(l.flatMap λp=>[p.1,p.2]).length=2*l.length:=by
  intro l
  induction l with
  |nil=>rfl
  |cons p r ih=>rw[Bf,Bh,ih];simp;omega
 rw[this,Bm];omega
theorem oX {f:Nat->Option Nat} {L:Nat} (h:Nc f L):(Rw f L (Hc f L).length).Nodup/\(Rw f L (Hc f L).length).length=L:=by
 have hp:=oY h;have he:Rw f L (Hc f L).length=(Td f L).map λn:Nat=>(n:Int):=by unfold Rw Td;rw[List.take_length]
 rw[he];refine⟨?_,by rw[Bo,hp.length_eq,Co]⟩;have hn:(Td f L).Nodup:=hp.nodup_iff.2 List.nodup_range;unfold List.Nodup at hn⊢;rw[Ez];exact hn.imp λhne e=>hne Gu
theorem Bj2 (l:List Nat):∀u∈Ut l,u.oneCell'=true:=by
 intro u hu;obtain⟨a,_,rfl⟩:=Dq.1 hu;rfl
theorem Bt5 (l:List Int):∀u∈iBV l,u.oneCell'=true:=by
 intro u hu;obtain⟨a,_,rfl⟩:=Dq.1 hu;rfl
theorem gF (x y n:Nat) (w:Aj):Al Do 32 #[.agg #[(x:Int),(y:Int)],(n:Int)] w (Gy (.bool (decide (x<n)&&decide (n<y))) w):=by
 have H:=(Bx.start w).new #[(x:Int),(y:Int)] 56 rfl;obtain⟨R,hR⟩:=ey ((decide (x<n)&&decide (n<y)));rw[hR];have HR:=Ah hR;clear hR;go_enter Tryz.func32,Tryz.ntmps32;go_upto_region 1 with fail;generalize w.alloc _=W at H⊢;obtain⟨N,hN⟩:=ez w.heap.size;rw[<-hN]at H⊢;have db:=Ah hN;clear hN;clear db;obtain⟨⟨a0,a1⟩,_⟩:=Hn (H.b 0);by_cases h1:x<n
 ·have q1:(x:Int)<(n:Int):=Gu;by_cases h2:n<y
  ·have q2:(n:Int)<(y:Int):=Gu;have HF:Hid (R=true):=Ah (by rw[<-HR.out,Lb h1,Lb h2];rfl);go_wp2;go_ret;exact⟨by rw[HF.out];rfl,H.below⟩
  ·have q2:¬(n:Int)<(y:Int):=Gu;have HF:Hid (R=false):=Ah (by rw[<-HR.out,Ly h2];simp);go_wp2;go_ret;exact⟨by rw[HF.out];rfl,H.below⟩
 ·have q1:¬(x:Int)<(n:Int):=Gu;have HF:Hid (R=false):=Ah (by rw[<-HR.out,Ly h1];rfl);go_wp2;go_ret;exact⟨by rw[HF.out];rfl,H.below⟩
theorem dK (f:Nat->Option Nat) (L:Nat) (hN:Nc f L) (T':1<=L) (hL:L<=64) (fA lA:Option Ci) (nf fc nl lc:Nat) (w:Aj) (hB:BAt w f L fA lA nf fc nl lc):
  Al Do 27 #[.agg #[L,Ad fA nf fc,Ad lA nl lc]] w (Gy (Aa Ab 0) w):=by
 have IC:nf<=64:=by have h1:=hB.hf;have h2:=Ph f L;omega
 have jv:nl<=64:=by have h1:=hB.hl;have h2:=Tf f L;omega
 have AJ:Hid (nl+2*nf=L):=Ah (by
  have h1:=(oX hN).2;rw[At7 f L _ (Am _),<-hB.hf,<-hB.hl]at h1;exact h1)
 have gv:=Ah hB;have CI:=Ah hN;clear hB hN;have H:=(Bx.start w).new #[L,Ad fA nf fc,Ad lA nl lc] 40 rfl;go_enter Tryz.func27,Tryz.ntmps27;go_upto_region 1 with fail;generalize w.alloc _=W at H⊢;obtain⟨N,hN⟩:=ez w.heap.size;rw[<-hN]at H⊢;have db:=Ah hN;clear hN;obtain⟨⟨a0,a1,a2⟩,_⟩:=He (H.b 0);have p0:¬(L:Int)<1:=Gu;have p1:¬(L:Int)>256:=Gu;go_wp2_with fail;refine(tR f L CI.out hL fA lA nf fc nl lc _ (gv.out.below H.below)).mono ?_;rintro e w2 ⟨rfl,hb⟩;have H2:=H.call hb;clear a0 a1 a2 hb H p0 p1;obtain⟨⟨a0,a1,a2⟩,_⟩:=He (H2.b 0);go_wp2_with fail;refine(Uz lA nl lc (Ut (Hq f L)) _ gv.out.al (gv.out.rl.below H2.below) (Bj2 _) Gu).mono ?_;rintro e w3 ⟨v,rfl,aa,hb⟩;obtain⟨B,c,rfl,j8,ia⟩:=Hw aa;have H3:=H2.call hb;obtain⟨M,hM⟩:=ez w2.heap.size;rw[<-hM]at aa;have kg:M<=w3.heap.size:=by rw[hM];exact hb.size
 have JG:N<M:=by rw[hM];exact H2.lt 0 rfl
 have V8:w.heap.size<=M:=by rw[hM];exact H2.below.size
 clear a0 a1 a2 hb H2 hM;have HO:=Ah aa;clear aa;obtain⟨⟨a0,a1,a2⟩,_⟩:=He (H3.b 0);go_wp2_with fail;have NQ:=Ah H3;have e0:Ut (Hq f L)=iBV (Rw f L 0):=by rw[kW];simp[Kf]
 rw[e0]at HO
 have jp:Hid (∀(X1:Array Ak) (t1:Cj),∀x∈[(N,X1,t1)],x.1<M):=Ah (by
  intro X1 t1 x hx;simp only[Bk,Du,or_false]at hx;subst hx;exact JG)
 have sq:=Ah V8;obtain⟨i0,eh,dp,ap,ca⟩:=info_parts Ns;have fw:=Ah eh;have rn:=Ah dp;have mo:=Ah ap;have mq:=Ah ca;clear eh dp ap ca a0 a1 a2 H3 e0
 go_loopw [3,29] (λs3 s29 wr=>∃(j m c:Nat) (B:Option Ci),s29= Aa Ab j/\s3= Ad B m c/\j<=nf/\Hid (m=nl+2*j)/\M<=wr.heap.size/\Hid (wr.ownsRow M 3 1 (Ad B m c) m (iBV (Rw f L j)))/\Hid (Bx w [(N,#[Aa Ab L,Ad fA nf fc,Ad lA nl lc],40)] wr)) (λ_ s29 _=>nf-(intOf s29).toNat)
 case atStart=>exact⟨0,nl,c,B,rfl,rfl,Gu,Ah Gu,kg,HO,NQ⟩
 obtain⟨j,m,c,B,rfl,rfl,hj,HMJ,jz,HO,HH⟩:=hrel;clear NQ kg;have H1:=HH.out;by_cases ad:j<nf
 ·have q0:(j:Int)<(nf:Int):=Gu;have lz:j<(Hc f L).length:=oHx gv.out.hf;obtain⟨b,o,rfl,cj,p0,p1⟩:=Qg (gv.out.rf.below H1.below) lz;obtain⟨x,hx⟩:=ey ((Hc f L)[j].1);obtain⟨y,hy⟩:=ey ((Hc f L)[j].2);rw[hx]at p0;rw[hy]at p1
  have HE:Hid (iBV (Rw f L j)++[Aa Ab (x:Int),Aa Ab (y:Int)]=iBV (Rw f L (j+1))):=Ah (by
   rw[kW,kW,List.append_assoc,Bc lz,Sx,hx,hy];rfl)
  clear hx hy;obtain⟨v',w7,hr,ak,hg⟩:=Ht (P:=Do) (wr.alloc (.cells #[x,y] 56)) M 38 38 3 i0 _ 1 8 Dk fw.out rn.out mo.out mq.out rfl Gu (Ad B m c) m (iBV (Rw f L j)) (HO.out.alloc _) (Af ⟨wr.heap.size,0,Ae⟩) 2 2 [Aa Ab x,Aa Ab y] (by simp[Dn]) (Pl _ 2 1 rfl rfl) Gx (oHx HMJ.out) Gu Hu;have dc:Below M wr w7:=((Ag M wr).alloc jz _).grown hg Hu (λq hq=>(HO.out.lt q hq).1);obtain⟨A',c',rfl,IB,GP⟩:=Hw ak;rw[HE.out]at ak;have ep:=Ah (H1.keepM (jp.out _ _) sq.out dc);have GB:Hid (M<=w7.heap.size):=Ah (Br jz dc.size);have HR:=Ah hr;have q_:=Ah ak;clear hr ak hg dc H1
  as_aux_lemma=>
  go_wp2_with (at_builtin;refine As _ rfl _ _ _ _ rfl _ _ rfl rfl _ _ HR.out ?_);go_wp2
  go_roundw
  case rel=>exact⟨j+1,m+2,c',A',by go_num,rfl,Gu,Ah (by rw[HMJ.out];omega),GB.out,q_,ep⟩
  case measure=>simp[intOf];omega
 ·obtain rfl:j=nf:=Gu;obtain rfl:m=L:=by have h1:=HMJ.out;have h2:=AJ.out;omega
  have q0:¬(j:Int)<(j:Int):=Gu;rw[gv.out.hf]at HO;obtain⟨xs,um⟩:=ez (Rw f m (Hc f m).length);rw[<-um]at HO;have P0:Hid xs.Nodup:=Ah (um▸(oX CI.out).1);clear um ad HMJ fw rn mo mq;go_wp2_with fail;refine(Aj5 _ HO.out jz Gu).mono ?_;rintro e w4 ⟨rfl,aa,hb⟩;have H4:=H1.keepM (jp.out _ _) sq.out hb;have rp:=Br jz hb.size;have TY:=Ah aa;obtain⟨A2,c2,e2,qf,va,hc2m⟩:=Mi aa;obtain⟨rfl,rfl⟩:B=A2/\c=c2:=by simpa using e2
  clear hb aa H1 HO jz HH;go_wp2_with fail;refine(Uz B m c (iBV (srt xs)) _ qf (Rd.of_own TY.out) (Bt5 _) Gu).mono ?_;rintro e w5 ⟨v5,rfl,tj,da⟩;obtain⟨B5,c5,rfl,hn5,hm5⟩:=Hw tj;have H5:=H4.call da;go_wp2_with fail;refine(kB _ tj da.size Gu (Aj9 P0.out)).mono ?_;rintro e w6 ⟨⟨B6,c6,rfl⟩,ba⟩;have H6:=H5.keepM (M:=w4.heap.size) (λx hx=>Bq (jp.out _ _ x hx) rp) (Br sq.out rp) ba;clear da ba tj H5 H4 TY rp hn5 hm5 qf va hc2m q0 hj P0;obtain⟨⟨a0,a1,a2⟩,_⟩:=He (H6.b 0);have og:=Ah H6;have q1:¬(m:Int)<(m:Int):=Gu;clear H6;go_wp2_with fail;clear a0 a1 a2 q1
  go_loopw [54] (λNK wr=>∃a:Nat,NK= Aa Ab a/\a<=j/\Hid (Bx w [(N,#[Aa Ab m,Ad fA j fc,Ad lA nl lc],40)] wr)) (λNK _=>j-(intOf NK).toNat)
  case atStart=>exact⟨0,rfl,Gu,og⟩
  obtain⟨a,rfl,haj,HH⟩:=hrel;clear og;have H1:=HH.out;by_cases ad:a<j
  ·have q0:(a:Int)<(j:Int):=Gu;have jl:a<(Hc f m).length:=oHx gv.out.hf;obtain⟨b,o,rfl,cj,p0,p1⟩:=Qg (gv.out.rf.below H1.below) jl;have vf:=Kk.1 (Ay jl);obtain⟨x,hx⟩:=ey ((Hc f m)[a].1);obtain⟨y,hy⟩:=ey ((Hc f m)[a].2);rw[hx]at p0 vf;rw[hy]at p1 vf;have ml:=Ah vf;obtain⟨⟨a0,a1,a2⟩,_⟩:=He (H1.b 0);have H2:=H1.new #[x,y] 56 rfl;clear hx hy vf;go_upto_region 17 with fail;generalize wr.alloc _=W2 at H2⊢;generalize wr.heap.size=Q at H2⊢;clear a0 a1 a2 p0 p1 H1 q0 cj;obtain⟨⟨a0,a1,a2⟩,_⟩:=He (H2.b 0);have uo:=Ah H2;clear H2;go_wp2_with fail;clear a0 a1 a2
   go_loopw [61] (λNL wx=>∃d:Nat,NL= Aa Ab d/\d<=j/\Hid (Bx w [(N,#[Aa Ab m,Ad (Af ⟨b,o,Ae⟩) j fc,Ad lA nl lc],40),(Q,#[Aa Ab x,Aa Ab y],56)] wx)) (λNL _=>j-(intOf NL).toNat)
   case atStart=>exact⟨0,rfl,Gu,uo⟩
   obtain⟨d,rfl,hdj,HH⟩:=hrel;clear uo;have H1:=HH.out;by_cases gp:d<j
   ·have q0:(d:Int)<(j:Int):=Gu;have hdl:d<(Hc f m).length:=oHx gv.out.hf;obtain⟨b2,o2,eb,cj,p0,p1⟩:=Qg (gv.out.rf.below H1.below) hdl;obtain⟨rfl,rfl⟩:b=b2/\o=o2:=by simpa using eb
    have vf:=Kk.1 (Ay hdl);obtain⟨u,hu⟩:=ey ((Hc f m)[d].1);obtain⟨v,hv⟩:=ey ((Hc f m)[d].2);rw[hu]at p0 vf;rw[hv]at p1 vf;have NP:Hid (x<u->u<y->v<y):=Ah λh1 h2=>CI.out.cross x y u v ml.out.2.1 vf.2.1 ml.out.2.2 vf.2.2 h1 h2;have H2:=H1.new #[u,v] 56 rfl;clear hu hv vf eb;go_upto_region 20 with fail;generalize wr.alloc _=W3 at H2⊢;generalize wr.heap.size=R at H2⊢;clear p0 p1 H1 q0 cj;obtain⟨⟨b0,b1⟩,_⟩:=Hn (H2.b 1);obtain⟨⟨c0,c1⟩,_⟩:=Hn (H2.b 2);go_wp2_with fail;refine(gF x y u _).mono ?_;rintro e w8 ⟨rfl,hb⟩;have H3:=H2.call hb;clear b0 b1 c0 c1 hb H2;obtain⟨⟨b0,b1⟩,_⟩:=Hn (H3.b 1);obtain⟨⟨c0,c1⟩,_⟩:=Hn (H3.b 2);obtain⟨R1,BJ⟩:=ey ((decide (x<u)&&decide (u<y)));rw[BJ]
    cases R1 with
    |true=>
     have hxu:x<u/\u<y:=by simpa using BJ
     have q3:¬(v:Int)>(y:Int):=oHx (NP.out hxu.1 hxu.2);clear BJ hxu;go_wp2
     go_roundw
     case rel=>exact⟨d+1,by go_num,Gu,Ah (H3.upto 2)⟩
     case measure=>simp[intOf];omega
    |false=>
     clear BJ;go_wp2
     go_roundw
     case rel=>exact⟨d+1,by go_num,Gu,Ah (H3.upto 2)⟩
     case measure=>simp[intOf];omega
   ·have q0:¬(d:Int)<(j:Int):=Gu;have yt:=Ah (H1.upto 1);clear H1 HH;go_wp2
    go_roundw
    case rel=>exact⟨a+1,by go_num,Gu,yt⟩
    case measure=>simp[intOf];omega
  ·have q0:¬(a:Int)<(j:Int):=Gu;go_wp2;go_ret;exact⟨rfl,H1.below⟩
theorem xJ (A:Option Ci) (n c:Nat) (w:Aj) (h:n<=c) (CV:c<=maxLen):
  Al Do 36 #[Ad A n c] w (Gy (Ad A n n) w):=by
 unfold maxLen at CV;go_enter Tryz.func36,Tryz.ntmps36
 go_wp2
 go_ret;exact⟨rfl,Ag _ _⟩
theorem Ap4 (A:Option Ci) (n c:Nat) (xs:List Ak) (w:Aj) (hA:AOk A n c) (h:Rd w A 2 n xs) (h1:∀u∈xs,u.oneCell'=true) (hn:n<=1000000):
  Al Do 28 #[Ad A n c] w (Nv 56 2 n xs w):=by
 rcases hA with⟨rfl,rfl,rfl⟩|⟨b,o,rfl⟩
 ·have hx:xs=[]:=by have:=h.1;simpa using this
  subst hx;clear hn h h1;have heq:=Ie Ae 0 0 Tryz.underlying37;go_enter Tryz.func28,Tryz.ntmps28;go_wp2;go_ret;exact⟨_,rfl,⟨rfl,.inl ⟨rfl,rfl⟩⟩,Ag _ _⟩
 ·obtain⟨i0,hi,hz,hs,hb⟩:=info_parts kX;have aa:(w.alloc (.cells #[] 56)).ownsRow w.heap.size 56 2 (Ad (Af ⟨w.heap.size,0,Ae⟩) 0 0) 0 []:=Py (Am _) (Bz w _) (Am _) (by simp[maxLen]) rfl;obtain⟨v',w',hr,h2,h3⟩:=Ht (P:=Do) (w.alloc (.cells #[] 56)) w.heap.size 37 37 56 i0 _ 2 16 Tryz.underlying37 hi hz hs hb rfl Ha _ 0 [] aa (Af ⟨b,o,Ae⟩) n c xs h1 (h.alloc _) (λh=>by cases h) Gu Ha Gx;rw[Bt,Et]at h2;have de:Below w.heap.size w w':=((Ag _ _).alloc (Am _) _).grown h3 Gx (λk hk=>by simp[Dv]at hk;omega);clear aa h3 hi hz hs hb h1 h hn;have heq:=Ie (Af ⟨b,o,Ae⟩) n c Tryz.underlying37;go_enter Tryz.func28,Tryz.ntmps28;go_wp2_with (at_builtin;refine As _ rfl _ _ _ _ rfl _ _ rfl rfl _ _ hr ?_);go_ret;exact⟨v',rfl,h2,de⟩
theorem vT (x y a b P:Nat) (w:Aj) (hP:w.cell? ⟨P,0,Ae⟩=Af (Aa Ab (a:Int))) (vt:w.cell? ⟨P,1,Ae⟩=Af (Aa Ab (b:Int))):
  Al Do 31 #[.agg #[(x:Int),(y:Int)],.pointer (Af ⟨P,0,Ae⟩)] w (Gy (.bool (decide (x<a)&&decide (a<y))) w):=by
 have H:=(Bx.start w).new #[(x:Int),(y:Int)] 56 rfl;go_enter Tryz.func31,Tryz.ntmps31;go_upto_region 1 with fail;have p0:=Gv H.below hP;have p1:=Gv H.below vt;generalize w.alloc _=W at H p0 p1⊢;obtain⟨N,hN⟩:=ez w.heap.size;rw[<-hN]at H⊢;have db:=Ah hN;clear hN;clear db hP vt;obtain⟨⟨a0,a1⟩,_⟩:=Hn (H.b 0);go_wp2_with fail;refine(gF x y a _).mono ?_;rintro e w2 ⟨rfl,hb⟩;go_wp2;go_ret;exact⟨rfl,(H.call hb).below⟩
theorem Aj1 (A:Option Ci) (l:List (Nat×Nat)) (n c a b P:Nat) (w:Aj) (hn:n=l.length) (h:Rd w A 2 n (Kf l)) (hl:n<=1000) (hP:w.cell? ⟨P,0,Ae⟩=Af (Aa Ab (a:Int))) (vt:w.cell? ⟨P,1,Ae⟩=Af (Aa Ab (b:Int))):
  Al Do 83 #[Ad A n c,.func (.func 31) #[] #[.pointer (Af ⟨P,0,Ae⟩)]] w λe w'=>(∃r:Int,e= .returned (Aa Ab r)/\(inF l a=decide (0<=r)))/\Below w.heap.size w w':=by
 have dr:=Ah h;have HN:=Ah hn;clear h hn;go_enter Tryz.func83,Tryz.ntmps83;go_wp2
 go_loopw [5,8] (λ_ i wr=>∃k:Nat,k<=n/\i= Aa Ab k/\Below w.heap.size w wr/\Hid (∀j (hj:j<l.length),j<k->¬(l[j].1<a/\a<l[j].2))) (λ_ i _=>n-(intOf i).toNat)
 case atStart=>exact⟨0,Gu,rfl,Ag _ _,Ah λj _ hj=>absurd hj Gu⟩
 obtain⟨k,hk,rfl,hb,HK⟩:=hrel;by_cases ad:k<n
 ·have bc:k<l.length:=oHx HN.out;obtain⟨bb,o,rfl,cj,c0,c1⟩:=Qg (dr.out.below hb) bc;have q1:(k:Int)<(n:Int):=Gu;have hPr:=Gv hb hP;have hPr1:=Gv hb vt;obtain⟨x,hx⟩:=ey (l[k].1);obtain⟨y,hy⟩:=ey (l[k].2);have ml:=Ah (Cm hx hy);rw[hx]at c0;rw[hy]at c1;have HC:=Ah (vT x y a b P wr hPr hPr1);clear hx hy;go_wp2_with fail;refine HC.out.mono ?_;rintro e w2 ⟨rfl,aj⟩;have bm:=hb.trans (aj.mono hb.size);obtain⟨R1,BJ⟩:=ey ((decide (x<a)&&decide (a<y)));rw[BJ]
  cases R1 with
  |true=>
   have HA:Hid (inF l a=true):=Ah (by
    unfold inF;rw[Ev];exact⟨l[k],Ay _,by rw[ml.out.1,ml.out.2];exact BJ⟩)
   clear BJ;go_wp2;go_ret;exact⟨⟨k,rfl,by rw[HA.out];simp⟩,bm⟩
  |false=>
   have jf:=Ah (λj (hj:j<l.length) (h:j<k+1)=>show¬(l[j].1<a/\a<l[j].2)by
    by_cases kj:j=k
    ·subst kj;rw[ml.out.1,ml.out.2];simpa using BJ
    ·exact HK.out j hj Gu)
   clear BJ;go_wp2;exact⟨⟨k+1,Gu,by go_num,bm,jf⟩,by simp[intOf];omega⟩
 ·have q1:¬(k:Int)<(n:Int):=Gu
  have HA:Hid (inF l a=false):=Ah (by
   rw[iF];intro x hx;obtain⟨j,hj,rfl⟩:=Be.1 hx;exact HK.out j hj (oHx HN.out))
  go_wp2;go_ret;exact⟨⟨-1,rfl,by rw[HA.out];rfl⟩,hb⟩
theorem Aj0 (A:Option Ci) (l:List (Nat×Nat)) (n c a b P:Nat) (w:Aj) (hn:n=l.length) (h:Rd w A 2 n (Kf l)) (hl:n<=1000) (hP:w.cell? ⟨P,0,Ae⟩=Af (Aa Ab (a:Int))) (vt:w.cell? ⟨P,1,Ae⟩=Af (Aa Ab (b:Int))):
  Al Do 30 #[Ad A n c,.func (.func 31) #[] #[.pointer (Af ⟨P,0,Ae⟩)]] w (Gy (.bool (inF l a)) w):=by
 have HC:=Ah (Aj1 A l n c a b P w hn h hl hP vt);generalize inF l a=R at HC⊢;clear hn h hl hP vt;go_enter Tryz.func30,Tryz.ntmps30;go_wp2_with fail;refine HC.out.mono ?_;rintro e w2 ⟨⟨r,rfl,hr⟩,hb⟩;go_wp2;go_ret;exact⟨by rw[hr];rfl,hb⟩
def lfN (L:List Nat) (x:Nat):Nat:=((L.length:Int)-1-Jg L x).toNat
theorem yV (L:List Nat) (x:Nat): -1<=Jg L x/\Jg L x<(L.length:Int):=by
 unfold Jg
 split
 ·rename_i i h;have h1:=(List.findIdx?_eq_some_iff_getElem.1 h).1;omega
 ·omega
theorem yJ (L:List Nat) (x:Nat):(L.length:Int)-1-Jg L x=(lfN L x:Int)/\lfN L x<=L.length:=by
 have h:=yV L x;unfold lfN;omega
theorem Bv1 {L:List Nat} (hn:L.Nodup) {j x:Nat} (hj:j<L.length) (h:L[L.length-1-j]? =Af x):lfN L x=j:=by
 have hk:L.length-1-j<L.length:=Gu;rw[Aw hk]at h;injection h with h
 have:=lO (l:=L) hk h λk bc ad e=>by
  rw[<-h]at e;have:=(List.getElem_inj hn).1 e;omega
 unfold lfN;rw[this];omega
def Al8 (a b:Nat) (L:List Nat) (f:Nat->Option Nat):Prop:=∀i,i<L.length->∃y,L[L.length-1-i]? =Af y/\
 (((nbI (a:Int) (b:Int) (y:Int) 0).2≠0/\f i=Ae)∨∃x:Nat,nbI (a:Int) (b:Int) (y:Int) 0=((x:Int),0)/\f i=Af (lfN L x))
theorem Uu.to {a b:Nat} {L:List Nat} {f:Nat->Option Nat} (h:Uu a b L f) (hn:L.Nodup):Al8 a b L f:=λi hi=>by
 obtain⟨y,hy,h1|⟨j,x,hj,hf,fd,hx⟩⟩:=h i hi
 ·exact⟨y,hy,.inl h1⟩
 ·exact⟨y,hy,.inr ⟨x,fd,by rw[Bv1 hn hj hx];exact hf⟩⟩
theorem Vl {w w':Aj} {base n sz:Nat} {e:Cj} {v:Ak} {xs:List Ak} (h:w.ownsRow base e sz v n xs) (hb:Below w.heap.size w w'):w'.ownsRow base e sz v n xs:=
 ⟨h.1,h.2.imp id λ⟨g,cap,cur,r1,r2,r3,r⟩=>⟨g,cap,cur,r1,r2,(hb.block g (Au.1 r3).1).trans r3,r⟩⟩
theorem At6 (L:List Nat) (A:Option Ci) (n c P x:Nat) (w:Aj) (hP:w.cell? ⟨P,0,Ae⟩=Af (Ad A n c)) (hn:n=L.length) (h:Rd w A 1 n (If L)) (hl:n<=1000):
  Al Do 75 #[(x:Nat),.pointer (Af ⟨P,0,Ae⟩)] w (Gy (Aa Ab (lfN L x:Nat)) w):=by
 have hlf:=yJ L x;have dm:=yV L x;rw[<-hn]at hlf dm;have e1:Ab.wrap ((n:Int)-1)=(n:Int)-1:=Ca _ Gu;have CG:=Ah (λ(w':Aj) (hb:Below w.heap.size w w')=>iG A L n c x w' hn (h.below hb) Gu);obtain⟨p,hp⟩:=ey (Jg L x);obtain⟨r,hr⟩:=ey (lfN L x);rw[hp]at hlf dm CG;rw[hr]at hlf⊢;have e2:Ab.wrap ((n:Int)-1-p)=(r:Int):=by rw[Ca _ Gu];exact hlf.1
 obtain⟨S,an,HSO⟩:=Og λW'=>W'.cell? ⟨P,0,Ae⟩=Af (Ad A n c);have ae:Hid (∀W',Below w.heap.size w W'->S W'):=Ah λW' h=>by subst an;exact Gv h hP
 clear an hP hn h hl hlf dm hp hr;go_enter Tryz.func75,Tryz.ntmps75;go_upto_region 1 with fail;refine Ao (S:=S) Gw (ae.out _ (Ag _ _).drew) (λhS=>?_);have hb:Below w.heap.size w w.drew:=(Ag _ _).drew;generalize w.drew=X0 at hb hS⊢;refine Hh 0 1 2 3 ?_;refine Kg 4 ?_;refine rdy 5 (λK hK=>?_);go_simp;refine(CG.out _ hb).mono ?_;rintro e X1 ⟨rfl,ac⟩;have hb:=hb.trans (ac.mono hb.size);refine hK.o (ae.out _ hb) (λhS=>?_);clear hK K ac;refine Qp 6 7 ?_;refine An Gw ?_ _;go_wp2;go_ret;exact⟨rfl,hb⟩
theorem Si {w:Aj} {A:Option Ci} {sz n g j:Nat} {xs:List Ak} {v:Ak} (h:Rd w A sz n xs) (hg:∀q,A=Af q->q.block≠g):Rd (w.setCell ⟨g,j,Ae⟩ v) A sz n xs:=
 ⟨h.1,λh0=>by
  obtain⟨b,o,e,hb,hc⟩:=h.2 h0;refine⟨b,o,e,by simpa using hb,λi u hi=>?_⟩;rw[World.cell?_setCell_other _ _ _ _ (by intro e2;exact hg _ e (congrArg Addr.block e2).symm)];exact hc i u hi⟩
def Al7 (m:Nat) (fA lA:Option Ci):Prop:=(∀q,fA=Af q->m<=q.block)/\∀q,lA=Af q->m<=q.block
theorem BAt.set {w:Aj} {f:Nat->Option Nat} {L:Nat} {fA lA:Option Ci} {nf fc nl lc m g j:Nat} {v:Ak} (h:BAt w f L fA lA nf fc nl lc) (hn:Al7 m fA lA) (hg:g<m):BAt (w.setCell ⟨g,j,Ae⟩ v) f L fA lA nf fc nl lc:=
 ⟨h.hf,h.hl,Si h.rf λq hq=>by have:=hn.1 q hq;omega,Si h.rl λq hq=>by have:=hn.2 q hq;omega,h.af,h.al,h.cf,h.cl⟩
def Bd0 (f:Nat->Option Nat) (n:Nat) (w:Aj) (e:Ending) (w':Aj):Prop:=∃fA lA nf nl,e= .returned (.agg #[(n:Nat),Ad fA nf nf,Ad lA nl nl])/\BAt w' f n fA lA nf nf nl nl/\Al7 w.heap.size fA lA/\Below w.heap.size w w'
theorem An8 (a b:Nat) (L:List Nat) (f:Nat->Option Nat) (hs:okS a b=true) (hF:Al8 a b L f) (A:Option Ci) (n c:Nat) (hn:n=L.length) (hl:n<=64) (w:Aj) (h:Rd w A 1 n (If L)) (hQ:Qf w):
  Al Do 26 #[.agg #[(a:Nat),(b:Nat)],Ad A n c] w (Bd0 f n w):=by
 have HF:=Ah hF;have dr:=Ah h;have HN:=Ah hn;have GD:=Ah (λ(y:Nat) (w':Aj) (hb:Below w.heap.size w w')=>Ji a b y 0 w' hs Ha (hQ.below hb).qt);have H:=(((Bx.start w).new #[(a:Nat),(b:Nat)] 25 rfl).new #[Ad A n c] 38 (N:=w.heap.size+1) Gx).new #[Aa Ab 0,Ad Ae 0 0,Ad Ae 0 0] 40 (N:=w.heap.size+1+1) Gx;clear hs hF h hn hQ;go_enter Tryz.func26,Tryz.ntmps26;go_upto_region 1 with fail;obtain⟨N,hN⟩:=ez w.heap.size;rw[<-hN]at H⊢;have db:=Ah hN;clear hN;generalize ((w.alloc _).alloc _).alloc _=W at H⊢;obtain⟨N1,hN1⟩:=ey (N+1);rw[hN1]at H⊢;generalize N1+1=N2 at H⊢;clear hN1;obtain⟨b0,-⟩:=Me (H.b 1);obtain⟨N3,OG⟩:=ey W.heap.size;have H2:=H.new #[(n:Nat),Ad Ae 0 0,Ad Ae 0 0] 40 OG;go_upto_region 2 with fail
 try rw[OG]
 generalize W.alloc _=W2 at H2⊢;clear OG H b0;obtain⟨M,hM⟩:=ey W2.heap.size;obtain⟨i0,eh,dp,ap,ca⟩:=info_parts Ns;have fw:=Ah eh;have rn:=Ah dp;have mo:=Ah ap;have mq:=Ah ca;obtain⟨j0,hj0,K4,yf,yn⟩:=info_parts kX;have IW:=Ah hj0;have b_:=Ah K4;have c_:=Ah yf;have d_:=Ah yn;have sq:Hid (w.heap.size<=M):=Ah (hM▸H2.below.size);have KB:Hid (N<M/\N1<M/\N2<M/\N3<M):=Ah (hM▸⟨H2.lt 0 rfl,H2.lt 1 rfl,H2.lt 2 rfl,H2.lt 3 rfl⟩)
 have jp:Hid (∀(X1 X2 X3 X4:Array Ak) (t1 t2 t3 t4:Cj),∀x∈[(N,X1,t1),(N1,X2,t2),(N2,X3,t3),(N3,X4,t4)],x.1<M):=Ah (by
  obtain⟨h1,h2,h3,h4⟩:=KB.out;intro X1 X2 X3 X4 t1 t2 t3 t4 x hx;simp only[Bk,Du,or_false]at hx;rcases hx with rfl|rfl|rfl|rfl<;>(dsimp only;omega))
 have HLF:=Ah (λ(x:Nat) (w':Aj) (hP:w'.cell? ⟨N1,0,Ae⟩=Af (Ad A n c)) (hb:Below w.heap.size w w')=>At6 L A n c N1 x w' hP HN.out (dr.out.below hb) Gu);have tw:Hid (W2.ownsRow M 56 2 (Ad Ae 0 0) 0 (Kf (Hc f 0))/\W2.ownsRow M 3 1 (Ad Ae 0 0) 0 (Ut (Hq f 0))/\Bx w [(N,#[Aa Ab (a:Nat),Aa Ab (b:Nat)],25),(N1,#[Ad A n c],38),(N2,#[Aa Ab 0,Ad Ae 0 0,Ad Ae 0 0],40),(N3,#[Aa Ab (n:Nat),Ad Ae 0 0,Ad Ae 0 0],40)] W2):=Ah ⟨⟨rfl,.inl ⟨rfl,rfl⟩⟩,⟨rfl,.inl ⟨rfl,rfl⟩⟩,H2⟩;have jz:M<=W2.heap.size:=Nat.le_of_eq hM.symm;obtain⟨b0,-⟩:=Me (H2.b 1);clear eh dp ap ca hj0 K4 yf yn hM H2;go_wp2_with fail;clear b0
 go_loopw [17] (λs17 wx=>∃(j nf fc nl lc:Nat) (fA lA:Option Ci),s17= Aa Ab j/\j<=n/\M<=wx.heap.size/\Hid (nf=(Hc f j).length/\nl=(Hq f j).length)/\Hid (wx.ownsRow M 56 2 (Ad fA nf fc) nf (Kf (Hc f j))/\wx.ownsRow M 3 1 (Ad lA nl lc) nl (Ut (Hq f j))/\Bx w [(N,#[Aa Ab (a:Nat),Aa Ab (b:Nat)],25),(N1,#[Ad A n c],38),(N2,#[Aa Ab 0,Ad Ae 0 0,Ad Ae 0 0],40),(N3,#[Aa Ab (n:Nat),Ad fA nf fc,Ad lA nl lc],40)] wx)) (λs17 _=>n-(intOf s17).toNat)
 case atStart=>exact⟨0,0,0,0,0,Ae,Ae,rfl,Gu,jz,Ah ⟨rfl,rfl⟩,tw⟩
 obtain⟨j,nf,fc,nl,lc,fA,lA,rfl,BO,hMx,CJ,HB⟩:=hrel;clear tw jz;have H:=HB.out.2.2;obtain⟨a0,a1⟩:=(Hn (H.b 0)).1;obtain⟨b0,-⟩:=Me (H.b 1);by_cases ad:j<n
 ·have q0:(j:Int)<(n:Int):=Gu;have fm:=Ah ad;have hjL:j<L.length:=oHx HN.out;obtain⟨y,hy,hc⟩:=HF.out j hjL;obtain⟨p,hp⟩:=ey (L.length-1-j);have hpL:p<L.length:=Gu;rw[hp,Aw hpL]at hy;injection hy with hy;obtain⟨bb,o,rfl,cj,c0⟩:=Rp (dr.out.below H.below) p hpL;rw[hy]at c0;have e1:Ab.wrap ((n:Int)-1)=(n:Int)-1:=Ca _ Gu
  have e2:Ab.wrap ((n:Int)-1-(j:Int))=(p:Int):=by
   have:=HN.out;rw[Ca _ Gu];omega
  have e3:(p:Int)<(n:Int):=oHx HN.out;have n_:=Ah (GD.out y);have HC:=Ah hc;clear hy hp hpL hc cj hjL;go_wp2_with fail;refine(n_.out _ H.below).mono ?_;rintro ee w3 ⟨rfl,hb⟩;have H3:=H.call hb;have si:=Ah (Cm (Vl HB.out.1 hb) (Vl HB.out.2.1 hb));have kg:M<=w3.heap.size:=Br hMx hb.size;obtain⟨nb,fd⟩:=ey (nbI (a:Int) (b:Int) (y:Int) 0);rw[fd]at HC⊢;obtain⟨xi,ei⟩:=nb;clear H a0 a1 b0 c0 e1 e2 e3 hb fd n_ hMx HB;unfold eQ;dsimp only;rcases HC.out with⟨hne,hf⟩|⟨x,hx,hf⟩
  ·have q1:(ei != 0)=true:=by simpa using hne
   obtain⟨e1,e2⟩:=kY hf;have N8:=Ah e1;have IU:=Ah e2;obtain⟨c0,c1,c2⟩:=(He (H3.b 3)).1;obtain⟨z0,z1,z2⟩:=(He (H3.b 3)).2;have jv:nl<=64:=by have h1:=CJ.out.2;have h2:=Tf f j;omega
   obtain⟨v',w7,hr,ak,hg⟩:=Ht (P:=Do) (w3.alloc (.cells #[j] 3)) M 38 38 3 i0 _ 1 8 Dk fw.out rn.out mo.out mq.out rfl Gu (Ad lA nl lc) nl (Ut (Hq f j)) (si.out.2.alloc _) (Af ⟨w3.heap.size,0,Ae⟩) 1 1 [Aa Ab j] (by simp[Dn]) (Pl _ 1 1 rfl rfl) Gx Gu Gu Hu;have dc:Below M w3 w7:=((Ag M w3).alloc kg _).grown hg Hu (λq hq=>(si.out.2.lt q hq).1);have F3:=si.out.1.alloc (.cells #[j] 3);have hof7:=Vm F3 hg (Wl F3 (si.out.2.alloc (.cells #[j] 3)) Ha);obtain⟨A',c',rfl,IB,GP⟩:=Hw ak;rw[show Ut (Hq f j)++[Value.int .i64 (j:Int)]=Ut (Hq f (j+1))by rw[N8.out,Af1];rfl]at ak;have H7:=H3.keepM (jp.out _ _ _ _ _ _ _ _) sq.out dc;have HR:=Ah hr;obtain⟨c0',c1',P4⟩:=(He (H7.b 3)).1;obtain⟨z0',z1',z2'⟩:=(He (H7.b 3)).2;have H8:=H7.set 3 2 rfl (Ad A' (nl+1) c');dsimp only[Cf,Cg]at H8;have FF:=KB.out.2.2.2;have HO8:=Ml ak FF 2 (Ad A' (nl+1) c');have wm:=Ml hof7 FF 2 (Ad A' (nl+1) c');have HM8:Hid (M<=(w7.setCell ⟨N3,2,Ae⟩ (Ad A' (nl+1) c')).heap.size):=Ah (by have:=dc.size;simp;omega);rw[show Hc f j=Hc f (j+1)from IU.out.symm]at wm;have HH8:=Ah (Cm wm (Cm HO8 H8));have GE:Hid (nf=(Hc f (j+1)).length/\nl+1=(Hq f (j+1)).length):=Ah ⟨by rw[IU.out];exact CJ.out.1,by rw[N8.out,Bh,<-CJ.out.2];rfl⟩;clear hr ak hg dc hof7 F3 H7 H8 HO8 wm hne hf e1 e2 HC H3 si jv
   as_aux_lemma=>
   go_wp2_with (at_builtin;refine As _ rfl _ _ _ _ rfl _ _ rfl rfl _ _ HR.out ?_);go_wp2
   go_roundw
   case rel=>exact⟨j+1,nf,fc,nl+1,c',fA,A',by go_num,fm.out,HM8.out,GE,HH8⟩
   case measure=>simp[intOf];omega
  ·injection hx with SY rh;subst SY rh;obtain⟨r,hr⟩:=ey (lfN L x);have TR:=Ah (HLF.out x);rw[hr]at hf TR;have e1:=kZ hf;have hrn:r<=n:=by rw[<-hr,HN.out];exact(yJ L x).2
   obtain⟨b0,-⟩:=Me (H3.b 1);clear hr HC;go_wp2_with fail;refine(TR.out _ b0 H3.below).mono ?_;rintro ee w5 ⟨rfl,hb⟩;have H5:=H3.call hb;have AF:=Ah (Cm (Vl si.out.1 hb) (Vl si.out.2 hb));have qi:M<=w5.heap.size:=Br kg hb.size;clear b0 hb H3 si kg;by_cases hjr:j<r
   ·have q2:(r:Int)>(j:Int):=Gu;have e2:=sZ hf hjr;have N8:=Ah e1;have IU:=Ah e2;have IC:nf<=64:=by have h1:=CJ.out.1;have h2:=Ph f j;omega
    have GE:Hid (nf+1=(Hc f (j+1)).length/\nl=(Hq f (j+1)).length):=Ah ⟨by rw[IU.out,Bh,<-CJ.out.1];rfl,by rw[N8.out];exact CJ.out.2⟩;obtain⟨S,an,HSO⟩:=Og λW'=>W'.cell? ⟨N1,0,Ae⟩=Af (Ad (Af ⟨bb,o,Ae⟩) n c);have nk:Hid (∀W' cs,Bx w [(N,#[Aa Ab (a:Nat),Aa Ab (b:Nat)],25),(N1,#[Ad (Af ⟨bb,o,Ae⟩) n c],38),(N2,#[Aa Ab 0,Ad Ae 0 0,Ad Ae 0 0],40),(N3,cs,40)] W'->S W'):=Ah λW' cs h=>by subst an;exact(Me (h.b 1)).1
    clear an hf e1 e2 hrn;go_upto_region 11 with fail;refine Ao (S:=S) Gw (nk.out _ _ H5.drew) (λhS=>?_);have H6:=H5.drew;have XG:Hid (w5.drew.ownsRow M 56 2 (Ad fA nf fc) nf (Kf (Hc f j))/\w5.drew.ownsRow M 3 1 (Ad lA nl lc) nl (Ut (Hq f j))):=AF;have ru:M<=w5.drew.heap.size:=qi;clear AF qi H5;generalize w5.drew=X0 at hS H6 XG ru⊢;refine Hh 0 2 3 4 ?_;refine Ap (rs:=[1,5]) Gw Gx (Aq rfl (λK hK=>?_) (Aq rfl (λK hK=>?_) Ar))
    ·obtain⟨c0,c1,c2⟩:=(He (H6.b 3)).1;go_simp;refine hK.o hS (λhS=>?_);clear hK K c0 c1 c2;refine rdy 5 (λK hK=>?_);go_simp;refine(TR.out _ (Me (H6.b 1)).1 H6.below).mono ?_;rintro ee X1 ⟨rfl,ac⟩;have H7:=H6.call ac;have ep:=Ah (Cm (Vl XG.out.1 ac) (Vl XG.out.2 ac));have BG:M<=X1.heap.size:=Br ru ac.size;refine hK.o (nk.out _ _ H7) (λhS=>?_);clear hK K ac H6 XG ru;refine Kg 6 ?_;obtain⟨v',w7,hr,ak,hg⟩:=Ht (P:=Do) (X1.alloc (.cells #[j,r] 56)) M 37 37 56 j0 _ 2 16 Tryz.underlying37 IW.out b_.out c_.out d_.out rfl Gu (Ad fA nf fc) nf (Kf (Hc f j)) (ep.out.1.alloc _) (Af ⟨X1.heap.size,0,Ae⟩) 1 1 [Aa Ab j,Aa Ab r] (by simp[Dn]) (Pl _ 1 2 rfl rfl) Gx Gu Gu Hu;have dc:Below M X1 w7:=((Ag M X1).alloc BG _).grown hg Hu (λq hq=>(ep.out.1.lt q hq).1);have DV:=ep.out.2.alloc (.cells #[j,r] 56);have MN:=Vm DV hg (Wl DV (ep.out.1.alloc (.cells #[j,r] 56)) Ha);obtain⟨A',c',rfl,IB,GP⟩:=Hw ak;rw[show Kf (Hc f j)++[Value.int .i64 (j:Int),Aa Ab (r:Int)]=Kf (Hc f (j+1))by rw[IU.out,Sx];rfl]at ak;have G_:=Ah (nk.out _ _ (H7.other (.cells #[j,r] 56)));have e1:=(He (H7.b 3)).1.2.1;have e1a:=(He ((H7.other (.cells #[j,r] 56)).b 3)).1.2.1;have H8:=H7.keepM (jp.out _ _ _ _ _ _ _ _) sq.out dc;have HR:=Ah hr;obtain⟨z0,z1,z2⟩:=(He (H8.b 3)).2;obtain⟨c0,c1,c2⟩:=(He (H8.b 3)).1;have H9:=H8.set 3 1 rfl (Ad A' (nf+1) c');dsimp only[Cf,Cg]at H9;have FF:=KB.out.2.2.2;have XX:=Ml MN FF 1 (Ad A' (nf+1) c');have FU:=Ml ak FF 1 (Ad A' (nf+1) c');have HM9:Hid (M<=(w7.setCell ⟨N3,1,Ae⟩ (Ad A' (nf+1) c')).heap.size):=Ah (by have:=dc.size;simp;omega);rw[show Hq f j=Hq f (j+1)from N8.out.symm]at XX;have nj:=Ah (nk.out _ _ H8);have rm:=Ah (nk.out _ _ H9)
     have EJ:=Ah (Cm FU (Cm XX H9));clear hr ak hg dc MN DV XX FU H7 ep H8 H9;refine rdy 7 (λK hK=>?_);go_simp;refine hK.o G_.out (λhS=>?_);clear hK K e1 e1a;refine rdy 8 (λK hK=>?_);refine Zu (by simp[Dy,yielded]) (.tmp 50) (.tmp 56) 37 rfl _ _ Qs Qs _ _ HR.out ?_;refine hK.o nj.out (λhS=>?_);clear hK K;refine Kg 9 ?_;refine rdy 10 (λK hK=>?_);go_simp;refine hK.o rm.out (λhS=>?_);clear hK K;refine An Gw ?_ _;go_wp2
     go_roundw
     case rel=>exact⟨j+1,nf+1,c',nl,lc,A',lA,by go_num,fm.out,HM9.out,GE,EJ⟩
     case measure=>simp[intOf];omega
    ·go_simp;refine(TR.out _ (Me (H6.b 1)).1 H6.below).mono ?_;rintro ee X1 ⟨rfl,ac⟩;have H7:=H6.call ac;have ep:=Ah (Cm (Vl XG.out.1 ac) (Vl XG.out.2 ac));have BG:M<=X1.heap.size:=Br ru ac.size;refine hK.o (nk.out _ _ H7) (λhS=>?_);clear hK K ac H6 XG ru;refine Kg 6 ?_;obtain⟨v',w7,hr,ak,hg⟩:=Ht (P:=Do) (X1.alloc (.cells #[j,r] 56)) M 37 37 56 j0 _ 2 16 Tryz.underlying37 IW.out b_.out c_.out d_.out rfl Gu (Ad fA nf fc) nf (Kf (Hc f j)) (ep.out.1.alloc _) (Af ⟨X1.heap.size,0,Ae⟩) 1 1 [Aa Ab j,Aa Ab r] (by simp[Dn]) (Pl _ 1 2 rfl rfl) Gx Gu Gu Hu;have dc:Below M X1 w7:=((Ag M X1).alloc BG _).grown hg Hu (λq hq=>(ep.out.1.lt q hq).1);have DV:=ep.out.2.alloc (.cells #[j,r] 56);have MN:=Vm DV hg (Wl DV (ep.out.1.alloc (.cells #[j,r] 56)) Ha);obtain⟨A',c',rfl,IB,GP⟩:=Hw ak;rw[show Kf (Hc f j)++[Value.int .i64 (j:Int),Aa Ab (r:Int)]=Kf (Hc f (j+1))by rw[IU.out,Sx];rfl]at ak;have G_:=Ah (nk.out _ _ (H7.other (.cells #[j,r] 56)));have e1:=(He (H7.b 3)).1.2.1;have e1a:=(He ((H7.other (.cells #[j,r] 56)).b 3)).1.2.1;have H8:=H7.keepM (jp.out _ _ _ _ _ _ _ _) sq.out dc;have HR:=Ah hr;obtain⟨z0,z1,z2⟩:=(He (H8.b 3)).2;obtain⟨c0,c1,c2⟩:=(He (H8.b 3)).1;have H9:=H8.set 3 1 rfl (Ad A' (nf+1) c');dsimp only[Cf,Cg]at H9;have FF:=KB.out.2.2.2;have XX:=Ml MN FF 1 (Ad A' (nf+1) c');have FU:=Ml ak FF 1 (Ad A' (nf+1) c');have HM9:Hid (M<=(w7.setCell ⟨N3,1,Ae⟩ (Ad A' (nf+1) c')).heap.size):=Ah (by have:=dc.size;simp;omega);rw[show Hq f j=Hq f (j+1)from N8.out.symm]at XX;have nj:=Ah (nk.out _ _ H8);have rm:=Ah (nk.out _ _ H9);have EJ:=Ah (Cm FU (Cm XX H9));clear hr ak hg dc MN DV XX FU H7 ep H8 H9
     refine Ap (rs:=[1,7]) Gw Gx (Aq rfl (λK hK=>?_) (Aq rfl (λK hK=>?_) Ar));go_simp;refine hK.o hS (λhS=>?_);clear hK K e1 e1a;refine rdy 7 (λK hK=>?_);go_simp;refine hK.o G_.out (λhS=>?_);clear hK K;rotate_left;go_simp;refine hK.o G_.out (λhS=>?_);clear hK K;refine rdy 1 (λK hK=>?_);go_simp;refine hK.o G_.out (λhS=>?_);clear hK K e1 e1a
     all_goals
      refine rdy 8 (λK hK=>?_);refine Zu (by simp[Dy,yielded]) (.tmp 50) (.tmp 56) 37 rfl _ _ Qs Qs _ _ HR.out ?_;refine hK.o nj.out (λhS=>?_);clear hK K;refine Kg 9 ?_;refine rdy 10 (λK hK=>?_);go_simp;refine hK.o rm.out (λhS=>?_);clear hK K;refine An Gw ?_ _;go_wp2
      go_roundw
      case rel=>exact⟨j+1,nf+1,c',nl,lc,A',lA,by go_num,fm.out,HM9.out,GE,EJ⟩
      case measure=>simp[intOf];omega
   ·have q2:¬(r:Int)>(j:Int):=Gu;have e2:=sY hf hjr;have GE:Hid (nf=(Hc f (j+1)).length/\nl=(Hq f (j+1)).length):=Ah ⟨by rw[e2];exact CJ.out.1,by rw[e1];exact CJ.out.2⟩;have vm:=AF.out;rw[<-e1,<-e2]at vm;have HH8:=Ah (Cm vm.1 (Cm vm.2 H5));clear vm e1 e2 hf H5 AF hrn
    as_aux_lemma=>
    go_wp2
    go_roundw
    case rel=>exact⟨j+1,nf,fc,nl,lc,fA,lA,by go_num,fm.out,qi,GE,HH8⟩
    case measure=>simp[intOf];omega
 ·obtain rfl:j=n:=Gu;have q0:¬(j:Int)<(j:Int):=Gu;obtain⟨A1,k1,f1,f2,f3⟩:=Mi HB.out.1;obtain⟨A2,k2,l1,l2,l3⟩:=Mi HB.out.2.1;obtain⟨rfl,rfl⟩:fA=A1/\fc=k1:=by simpa using f1
  obtain⟨rfl,rfl⟩:lA=A2/\lc=k2:=by simpa using l1
  obtain⟨S,an,HSO⟩:=Og λW'=>W'.cell? ⟨N3,0,Ae⟩=Af (Aa Ab (j:Int))/\W'.cell? ⟨N3,1,Ae⟩=Af (Ad fA nf fc)/\W'.cell? ⟨N3,2,Ae⟩=Af (Ad lA nl lc);have nk:Hid (∀W' cs,Bx w [(N,#[Aa Ab (a:Nat),Aa Ab (b:Nat)],25),(N1,#[Ad A j c],38),(N2,cs,40),(N3,#[Aa Ab (j:Nat),Ad fA nf fc,Ad lA nl lc],40)] W'->S W'):=Ah λW' cs h=>by subst an;exact(He (h.b 3)).1
  have N6:=Ah (λ(W':Aj) (hb:Below wr.heap.size wr W') (v0 v1 v2:Ak)=>show BAt (((W'.setCell ⟨N2,0,Ae⟩ v0).setCell ⟨N2,1,Ae⟩ v1).setCell ⟨N2,2,Ae⟩ v2) f j fA lA nf nf nl nl from⟨CJ.out.1,CJ.out.2,Rd.of_own (Ml (Ml (Ml (Vl HB.out.1 hb) KB.out.2.2.1 0 v0) KB.out.2.2.1 1 v1) KB.out.2.2.1 2 v2),Rd.of_own (Ml (Ml (Ml (Vl HB.out.2.1 hb) KB.out.2.2.1 0 v0) KB.out.2.2.1 1 v1) KB.out.2.2.1 2 v2),f2.clip,l2.clip,⟨Am _,Br f3.1 f3.2⟩,⟨Am _,Br l3.1 l3.2⟩⟩);have IQ:Hid (Al7 w.heap.size fA lA):=Ah ⟨λq hq=>by have:=(HB.out.1.lt q.block (by rw[hq];rfl)).1;have:=sq.out;omega,λq hq=>by have:=(HB.out.2.1.lt q.block (by rw[hq];rfl)).1;have:=sq.out;omega⟩;have IS:=Ah (λ(w':Aj)=>xJ fA nf fc w' f3.1 f3.2);have FSz:=Ah (λ(w':Aj)=>Yp lA nl lc w' l3.1 l3.2);clear f1 f2 f3 l1 l2 l3 an a0 a1 b0 HB;go_upto_region 13 with fail;refine Ao (S:=S) Gw (nk.out _ _ H.drew) (λhS=>?_);have hb:Below wr.heap.size wr wr.drew:=(Ag _ _).drew;have H5:=H.drew;clear H;generalize wr.drew=X0 at hS H5 hb⊢;refine Hh 0 1 2 3 ?_;refine Qp 5 6 ?_;refine rdy 4 (λK hK=>?_);go_simp;refine(IS.out _).mono ?_;rintro ee X1 ⟨rfl,ac⟩;have H6:=H5.call ac;have hb:=hb.trans (ac.mono hb.size);refine hK.o (nk.out _ _ H6) (λhS=>?_);clear hK K ac H5;refine rdy 7 (λK hK=>?_);go_simp;refine(FSz.out _).mono ?_;rintro ee X2 ⟨rfl,ac⟩;have H7:=H6.call ac;have hb:=hb.trans (ac.mono hb.size);refine hK.o (nk.out _ _ H7) (λhS=>?_);clear hK K ac H6;refine Kg 8 ?_;obtain⟨d0,d1,d2⟩:=(He (H7.b 2)).1;obtain⟨z0,z1,z2⟩:=(He (H7.b 2)).2;have H9:=((H7.set 2 0 rfl (Aa Ab (j:Nat))).set 2 1 rfl (Ad fA nf nf)).set 2 2 rfl (Ad lA nl nl);dsimp only[Cf,Cg]at H9;have vr:wr.heap.size<=X2.heap.size:=hb.size;refine rdy 9 (λK hK=>?_);go_simp;refine hK.o (nk.out _ _ H9) (λhS=>?_);clear hK K
  refine An Gw ?_ _;go_wp2_with fail;exact Ai (Mm rfl rfl (H9.range 2 rfl) Tryz.underlying40 rfl Gw) rfl ⟨fA,lA,nf,nl,rfl,N6.out _ hb _ _ _,IQ.out,H9.below⟩
theorem Bs4 (x y:Int) (k q u c P:Nat) (A:Option Ci) (w:Aj) (hP:w.cell? ⟨P,0,Ae⟩=Af (Aa Ac (q:Nat))):
  Al Do 25 #[.agg #[x,y,Aa Ac (k:Nat),Ad A u c],.pointer (Af ⟨P,0,Ae⟩)] w (Gy (.bool (decide (k=q))) w):=by
 have H:=(Bx.start w).new #[x,y,Aa Ac (k:Nat),Ad A u c] 92 rfl;have hp:=Gv ((Ag _ w).alloc (Am _) (.cells #[x,y,Aa Ac (k:Nat),Ad A u c] 92)) hP;by_cases e:k=q
 ·subst e;go_enter Tryz.func25,Tryz.ntmps25;go_upto_region 1 with fail;generalize w.alloc _=W at H hp⊢;obtain⟨⟨a0,a1,a2,a3⟩,-⟩:=Jm (H.b 0);go_wp2;go_ret;exact⟨Gx,H.below⟩
 ·have q1:¬(k:Int)=(q:Int):=Gu;have hd:decide (k=q)=false:=Ly e;rw[hd];clear hd e;go_enter Tryz.func25,Tryz.ntmps25;go_upto_region 1 with fail;generalize w.alloc _=W at H hp⊢;obtain⟨⟨a0,a1,a2,a3⟩,-⟩:=Jm (H.b 0);go_wp2;go_ret;exact⟨by simp[q1],H.below⟩
theorem Bi4 (A:Option Ci) (l:List Stk) (n c q P k:Nat) (w:Aj) (hn:n=l.length) (h:Hz w A l) (hl:n<=1000) (hP:w.cell? ⟨P,0,Ae⟩=Af (Aa Ac (q:Nat))) (hk:k<l.length) (h1:l[k].c.q=q) (h2:∀j (hj:j<l.length),j<k->l[j].c.q≠q):
  Al Do 24 #[Ad A n c,.func (.func 25) #[] #[.pointer (Af ⟨P,0,Ae⟩)]] w (Gy (Aa Ab (k:Nat)) w):=by
 have HS:=Ah h;have HN:=Ah hn;have H1:=Ah h1;have H2:=Ah h2;have HP:=Ah (λ(w':Aj) (hb:Below w.heap.size w w')=>Gv hb hP);have HK:=Ah hk;clear h hn h1 h2 hP;go_enter Tryz.func24,Tryz.ntmps24;go_wp2
 go_loopw [5,8] (λ_ i wr=>∃j:Nat,j<=k/\i= Aa Ab j/\Below w.heap.size w wr) (λ_ i _=>n-(intOf i).toNat)
 case atStart=>exact⟨0,Gk _,rfl,Ag _ _⟩
 obtain⟨j,kj,rfl,hb⟩:=hrel;have lz:j<l.length:=oHx HK.out;obtain⟨bb,o,A',c',rfl,cj,⟨d0,d1,d2,d3⟩,-,-,-,-⟩:=(HS.out.below hb).get j lz;have q1:(j:Int)<(n:Int):=oHx HN.out;have hE:j<k->l[j].c.q≠q:=λh=>H2.out j lz h;have UU:j=k->l[j].c.q=q:=λh=>by subst h;exact H1.out
 obtain⟨⟨⟨x,y,z⟩,ids⟩,hr⟩:∃z,l[j]=z:=⟨_,rfl⟩;rw[hr]at d0 d1 d2 d3 hE UU;dsimp only at d0 d1 d2 d3 hE UU;obtain⟨u,hu⟩:=ey ids.length;rw[hu]at d3;have HQ:=Ah (λ(w':Aj) (hb:Below w.heap.size w w')=>Bs4 x y z q u c' P A' w' (HP.out _ hb));have HE:=Ah hE;have IU:=Ah UU;clear hr hu hE UU lz cj;go_wp2_with fail;refine(HQ.out _ hb).mono ?_;rintro e w2 ⟨rfl,aj⟩;have bm:=hb.trans (aj.mono hb.size);by_cases ad:j<k
 ·rw[Ly (HE.out ad)];have fm:=Ah ad;have OR:j<n:=by have h1:=HN.out;have h2:=HK.out;omega
  clear d0 d1 d2 d3 hb aj ad;go_wp2;exact⟨⟨j+1,fm.out,by go_num,bm⟩,by simp[intOf];omega⟩
 ·obtain rfl:j=k:=Gu;rw[Lb (IU.out rfl)];clear d0 d1 d2 d3 hb aj ad;go_wp2;go_ret;exact⟨rfl,bm⟩
def So (f:Nat->Option Nat) (n:Nat) (w:Aj) (e:Ending) (w':Aj):Prop:=∃fA lA nf nl,e= .returned (.tuple #[.agg #[(n:Nat),Ad fA nf nf,Ad lA nl nl],Aa Ab 0])/\BAt w' f n fA lA nf nf nl nl/\Al7 w.heap.size fA lA/\Below w.heap.size w w'
theorem Aa2 (a b:Nat) (s:St) (m:List Mv) (ls:List Nat) (hO:wZ a b s m ls) (q:Nat) (hq:q<4) (f:Nat->Option Nat) (L:List Nat) (k:Nat) (hk:k<s.l.length) (h1:s.l[k].c.q=q) (h2:∀j (hj:j<s.l.length),j<k->s.l[j].c.q≠q) (hL:s.l[k].ls=L) (n:Nat) (hn:n=L.length) (hF:Al8 a b L f) (hlen:n<=64)
  (pA:Option Ci) (pc:Nat) (A:Option Ci) (cc:Nat) (w:Aj) (hA:AOk pA s.cr.length pc) (fp:Rd w pA 3 s.cr.length (crs s.cr)) (br:Hz w A s.l) (hQ:Qf w) (hT:Tn w):
  Al Do 7 #[.agg #[Aa Ab s.a,Aa Ab s.b,Ad pA s.cr.length pc,Aa Ac s.root.t,Aa Ab s.root.x,Aa Ab s.root.y,Ad A s.l.length cc],Aa Ac (q:Nat)] w (So f n w):=by
 have hs:=hO.gs;have h4:=hO.four;have jk:s.a=(a:Int)/\s.b=(b:Int):=⟨hO.sa,hO.sb⟩
 have el:okS (a:Int) (b:Int)=true:=by
  have:=hs.pat.sheet
  rwa [jk.1,jk.2]at this
 have CL:=Ah (λ(w':Aj) (hb:Below w.heap.size w w')=>iS a b s m ls hO pA pc A cc w' hA (fp.below hb) (br.below hb) (hQ.below hb) (hT.below hb));have CG:=Ah (λ(w':Aj) (hb:Below w.heap.size w w') (P:Nat) (hP:w'.cell? ⟨P,0,Ae⟩=Af (Aa Ac (q:Nat)))=>Bi4 A s.l s.l.length cc q P k w' rfl (br.below hb) Gu hP hk h1 h2);have HBI:=Ah (λ(A':Option Ci) (c':Nat) (w':Aj) (hb:Below w.heap.size w w') (h:Rd w' A' 1 n (If L))=>An8 a b L f el hF A' n c' hn hlen w' h (hQ.below hb))
 have EH:Hid (∀(w':Aj),Below w.heap.size w w'->∃b o A' c',A=Af ⟨b,o,Ae⟩/\b<w'.heap.size/\w'.cell? ⟨b,o+k*4+3,Ae⟩=Af (Ad A' n c')/\Rd w' A' 1 n (If L)):=Ah λw' hb=>by
  obtain⟨b,o,A',c',e1,e2,⟨-,-,-,e3⟩,-,-,-,e4⟩:=(br.below hb).get k hk;rw[hL]at e3 e4;rw[hn];exact⟨b,o,A',c',e1,e2,e3,e4⟩
 have hk4:k<4:=Gu;obtain⟨SN,JJ⟩:=ey s.l.length;have ZT:SN=4:=by rw[<-JJ];exact h4
 subst ZT;rw[JJ]at CL CG⊢;obtain⟨sa,sb,cr,⟨rt,rx,ry⟩,sl⟩:=s;dsimp only at CL CG jk⊢;obtain⟨rfl,rfl⟩:=jk;obtain⟨pn,hpn2⟩:=ey cr.length;rw[hpn2]at CL⊢;unfold rO at CL;have H:=(((Bx.start w).new #[a,b,Ad pA pn pc,Aa Ac rt,rx,ry,Ad A 4 cc] 33 rfl).new #[Aa Ac (q:Nat)] 5 (N:=w.heap.size+1) Gx).new #[Aa Ab 0,Ad Ae 0 0,Ad Ae 0 0] 40 (N:=w.heap.size+1+1) Gx;have q3:¬(q:Int)>3:=Gu;have q4:(k:Int)<4:=Gu;clear hO hs fp br hQ hT h4 JJ hpn2 hA h1 h2 hL hF el hk hn hq hk4;go_enter Tryz.func7,Tryz.ntmps7;go_upto_region 1 with fail;obtain⟨N,hN⟩:=ez w.heap.size;rw[<-hN]at H⊢;have db:=Ah hN;clear hN;generalize ((w.alloc _).alloc _).alloc _=W at H⊢;obtain⟨N1,hN1⟩:=ey (N+1);rw[hN1]at H⊢;generalize N1+1=N2 at H⊢;clear hN1;obtain⟨a0,a1,a2,a3,a4,a5,a6⟩:=Ku (H.b 0);go_wp2_with fail;refine(CL.out _ H.below).mono ?_;rintro ee w2 ⟨hb,pgA0,yo,rfl,-⟩;have H2:=H.call hb;clear a0 a1 a2 a3 a4 a5 a6 hb CL H;obtain⟨a0,a1,a2,a3,a4,a5,a6⟩:=Ku (H2.b 0);obtain⟨b0,-⟩:=Me (H2.b 1);go_wp2_with fail;refine(CG.out _ H2.below N1 b0).mono ?_;rintro ee w3 ⟨rfl,hb⟩;have H3:=H2.call hb;clear a0 a1 a2 a3 a4 a5 a6 b0 hb CG H2;obtain⟨TH,so,A',c',rfl,BX,c3,be⟩:=EH.out _ H3.below;obtain⟨S,an,HSO⟩:=Og λW'=>W'.cell? ⟨N,0,Ae⟩=Af (Aa Ab (a:Nat))/\W'.cell? ⟨N,1,Ae⟩=Af (Aa Ab (b:Nat))/\W'.cell? ⟨N,6,Ae⟩=Af (Ad (Af ⟨TH,so,Ae⟩) 4 cc)/\W'.cell? ⟨TH,so+k*4+3,Ae⟩=Af (Ad A' n c');have R':=EH.out
 have G8:TH≠N2:=by
  obtain⟨b9,o9,A9,c9,e9,h9,-⟩:=EH.out w (Ag _ _);obtain⟨rfl,rfl⟩:TH=b9/\so=o9:=by simpa using e9
  have:=H3.lo 2 _ _ _ rfl;omega
 have nk:Hid (∀W' cs,Bx w [(N,#[Aa Ab a,Aa Ab b,Ad pA pn pc,Aa Ac rt,Aa Ab rx,Aa Ab ry,Ad (Af ⟨TH,so,Ae⟩) 4 cc],33),(N1,#[Aa Ac (q:Nat)],5),(N2,cs,40)] W'->W'.cell? ⟨TH,so+k*4+3,Ae⟩=Af (Ad A' n c')->S W'):=Ah λW' cs h hc=>by
  subst an;obtain⟨a0,a1,-,-,-,-,a6⟩:=Ku (h.b 0);exact⟨a0,a1,a6,hc⟩
 have HBI2:=Ah (λ(w':Aj) (hb:Below w3.heap.size w3 w')=>HBI.out A' c' w' (H3.below.trans (hb.mono H3.below.size)) (be.below hb));have XH:=Ah (λ(w':Aj) (hb:Below w3.heap.size w3 w')=>Gv hb c3);clear an R' BX c3 be EH HBI;go_upto_region 7 with fail;have hb:Below w3.heap.size w3 w3.drew:=(Ag _ _).drew;refine Ao (S:=S) Gw (nk.out _ _ H3.drew (XH.out _ hb)) (λhS=>?_);have H4:=H3.drew;clear H3;generalize w3.drew=X0 at hS H4 hb⊢;refine Hh 0 1 2 3 ?_;refine Hh 4 5 6 7 ?_;refine Kg 8 ?_;refine rdy 9 (λK hK=>?_);go_simp;refine(HBI2.out _ hb).mono ?_;rintro ee X1 ⟨fA,lA,nf,nl,rfl,pi,r',ac⟩;have H5:=H4.call ac;have R5:=H4.lt 2 rfl;have GJ:=H5.lo 2 _ _ _ rfl;have p':=Ah (Cm (((pi.set r' R5 (j:=0) (v:= Aa Ab (n:Nat))).set r' R5 (j:=1) (v:= Ad fA nf nf)).set r' R5 (j:=2) (v:= Ad lA nl nl)) (show Al7 w.heap.size fA lA from⟨λq hq=>by have:=r'.1 q hq;omega,λq hq=>by have:=r'.2 q hq;omega⟩));have hb:=hb.trans (ac.mono hb.size);refine hK.o (nk.out _ _ H5 (XH.out _ hb)) (λhS=>?_);clear hK K ac H4;obtain⟨d0,d1,d2⟩:=(He (H5.b 2)).1;obtain⟨z0,z1,z2⟩:=(He (H5.b 2)).2;have H6:=((H5.set 2 0 rfl (Aa Ab (n:Nat))).set 2 1 rfl (Ad fA nf nf)).set 2 2 rfl (Ad lA nl nl)
 try dsimp only[Cf,Cg]at H6
 have T0:((((X1.setCell ⟨N2,0,Ae⟩ (Aa Ab (n:Nat))).setCell ⟨N2,1,Ae⟩ (Ad fA nf nf)).setCell ⟨N2,2,Ae⟩ (Ad lA nl nl))).cell? ⟨TH,so+k*4+3,Ae⟩=Af (Ad A' n c'):=by
  rw[World.cell?_setCell_other _ _ _ _ (by intro e;exact G8 (congrArg Addr.block e).symm),World.cell?_setCell_other _ _ _ _ (by intro e;exact G8 (congrArg Addr.block e).symm),World.cell?_setCell_other _ _ _ _ (by intro e;exact G8 (congrArg Addr.block e).symm)];exact XH.out _ hb
 refine rdy 10 (λK hK=>?_);go_simp;refine hK.o (nk.out _ _ H6 T0) (λhS=>?_);clear hK K;refine Kg 11 ?_;refine An Gw ?_ _;go_wp2_with fail;exact Ai (Hj rfl rfl (H6.range 2 rfl) Tryz.underlying40 rfl Gw) rfl ⟨fA,lA,nf,nl,rfl,p'.out.1,p'.out.2,H6.below⟩
def cC (cnt:Nat->Nat) (k:Nat):List Ak:=(Dr 4).map λi=> Aa Ab ((if i<k then cnt i else 0:Nat):Int)
theorem Bs7 (cnt:Nat->Nat) (k:Nat):(cC cnt k).toArray.setIfInBounds k (Aa Ab (cnt k:Nat))=(cC cnt (k+1)).toArray:=by
 unfold cC;apply Array.ext
 ·simp
 ·intro i h1 h2;simp only[Array.size_setIfInBounds,Fp,Bo,Co]at h1;rw[Cs (by simpa using h1)];simp only[Ce,Gd,Di];by_cases e:k=i
  ·subst e;rw[Hd rfl,Hd (show k<k+1 by omega)]
  ·rw[Gz e];by_cases ad:i<k
   ·rw[Hd ad,Hd (show i<k+1 by omega)]
   ·rw[Gz ad,Gz (show¬i<k+1 by omega)]
theorem Bs6 (cnt:Nat->Nat):(cC cnt 4).toArray= #[Aa Ab (cnt 0:Nat),Aa Ab (cnt 1:Nat),Aa Ab (cnt 2:Nat),Aa Ab (cnt 3:Nat)]:=rfl
theorem Bf2 (cnt:Nat->Nat):(cC cnt 0).toArray= #[Aa Ab 0,Aa Ab 0,Aa Ab 0,Aa Ab 0]:=rfl
theorem sI (a b:Int) (pA:Option Ci) (pn pc rt:Nat) (rx ry:Int) (A:Option Ci) (ln cc n:Nat) (f:Nat->Nat->Option Nat) (w:Aj)
  (HB:∀(q:Nat) (w':Aj),q<4->Below w.heap.size w w'->Al Do 7 #[.agg #[a,b,Ad pA pn pc,Aa Ac (rt:Nat),rx,ry,Ad A ln cc],Aa Ac (q:Nat)] w' (So (f q) n w')):
  Al Do 19 #[.agg #[a,b,Ad pA pn pc,Aa Ac (rt:Nat),rx,ry,Ad A ln cc]] w (Gy (.tuple #[.agg #[Aa Ab ((Hc (f 0) n).length:Nat),Aa Ab ((Hc (f 1) n).length:Nat),Aa Ab ((Hc (f 2) n).length:Nat),Aa Ab ((Hc (f 3) n).length:Nat)],Aa Ab 0]) w):=by
 obtain⟨cnt,iz⟩:∃cnt:Nat->Nat,∀q,(Hc (f q) n).length=cnt q:=⟨_,λ_=>rfl⟩;rw[iz,iz,iz,iz];have qp:=Ah HB;have CB:=Ah iz;have H:=((Bx.start w).new #[a,b,Ad pA pn pc,Aa Ac (rt:Nat),rx,ry,Ad A ln cc] 33 rfl).new #[Aa Ab 0,Aa Ab 0,Aa Ab 0,Aa Ab 0] 77 (N:=w.heap.size+1) Gx;clear HB iz;go_enter Tryz.func19,Tryz.ntmps19;go_upto_region 1 with fail;obtain⟨N,hN⟩:=ez w.heap.size;rw[<-hN]at H⊢;have db:=Ah hN;clear hN;generalize (w.alloc _).alloc _=W at H⊢;generalize N+1=N1 at H⊢;obtain⟨N2,vr⟩:=ey W.heap.size;have H2:=H.new #[Aa Ab 0,Aa Ab 0,Aa Ab 0,Aa Ab 0] 77 vr;go_upto_region 2 with fail
 try rw[vr]
 generalize W.alloc _=W2 at H2⊢;clear vr H;have tw:Hid (Bx w [(N,#[Aa Ab a,Aa Ab b,Ad pA pn pc,Aa Ac (rt:Nat),Aa Ab rx,Aa Ab ry,Ad A ln cc],33),(N1,#[Aa Ab 0,Aa Ab 0,Aa Ab 0,Aa Ab 0],77),(N2,(cC cnt 0).toArray,77)] W2):=Ah (by rw[Bf2];exact H2);clear H2;go_wp2
 go_loopw [8] (λs8 wr=>∃k:Nat,k<=4/\s8= Aa Ab k/\Hid (Bx w [(N,#[Aa Ab a,Aa Ab b,Ad pA pn pc,Aa Ac (rt:Nat),Aa Ab rx,Aa Ab ry,Ad A ln cc],33),(N1,#[Aa Ab 0,Aa Ab 0,Aa Ab 0,Aa Ab 0],77),(N2,(cC cnt k).toArray,77)] wr)) (λs8 _=>4-(intOf s8).toNat)
 case atStart=>exact⟨0,Gk _,rfl,tw⟩
 obtain⟨k,hk,rfl,HX⟩:=hrel;clear tw;have H:=HX.out;by_cases ad:k<4
 ·have q0:(k:Int)<4:=Gu;have fm:=Ah ad;have e1:IntKind.u8.wrap (k:Int)=(k:Int):=IntWalk.u8_in _ Gu;obtain⟨a0,a1,a2,a3,a4,a5,a6⟩:=Ku (H.b 0);clear HX ad;go_wp2_with fail;refine(qp.out k _ fm.out H.below).mono ?_;rintro ee w3 ⟨fA,lA,nf,nl,rfl,pi,-,hb⟩;obtain⟨Q,hQ⟩:=ey w3.heap.size;have H3:=(H.call hb).new #[(n:Nat),Ad fA nf nf,Ad lA nl nl] 40 hQ;have IC:nf=cnt k:=by rw[pi.hf];exact CB.out k
  subst IC;clear a0 a1 a2 a3 a4 a5 a6 hb H pi e1;go_upto_region 6 with fail
  try rw[hQ]
  generalize w3.alloc _=W4 at H3⊢;clear hQ;obtain⟨⟨b0,b1,b2⟩,-⟩:=He (H3.b 3);have hg:=H3.b 2;have z0:=Tl hg k
  have y0:W4.cell? ⟨N2,k,Ae⟩=Af (Aa Ab 0):=by
   rw[By _ _ k _ _ _ hg];unfold cC;have:=fm.out;simp[this]
  have H5:=H3.set 2 k rfl (Aa Ab (cnt k:Nat));rw[Bs7]at H5;have IV:=Ah (H5.upto 3);clear H3 hg H5;go_wp2
  go_roundw
  case rel=>exact⟨k+1,fm.out,by go_num,IV⟩
  case measure=>simp[intOf];have:=fm.out;omega
 ·obtain rfl:k=4:=Gu;rw[Bs6]at H;obtain⟨b0,b1,b2,b3⟩:=(Jm (H.b 2)).1;obtain⟨d0,d1,d2,d3⟩:=(Jm (H.b 1)).1;obtain⟨z0,z1,z2,z3⟩:=(Jm (H.b 1)).2;have H9:=(((H.set 1 0 rfl (Aa Ab (cnt 0:Nat))).set 1 1 rfl (Aa Ab (cnt 1:Nat))).set 1 2 rfl (Aa Ab (cnt 2:Nat))).set 1 3 rfl (Aa Ab (cnt 3:Nat))
  try dsimp only[Cf,Cg]at H9
  clear H HX;go_wp2_with fail;exact Ai (Hj rfl rfl (H9.range 1 rfl) Tryz.underlying77 rfl Gw) rfl ⟨rfl,H9.below⟩
def rL (m:Nat) (A:Option Ci) (rs:List Ix):Prop:=(∀q,A=Af q->m<=q.block)/\∀r∈rs,∀q,r.A=Af q->m<=q.block
theorem Jl.set {w:Aj} {A:Option Ci} {rs:List Ix} {m g j:Nat} {v:Ak} (h:Jl w A rs) (hn:rL m A rs) (hg:g<m):Jl (w.setCell ⟨g,j,Ae⟩ v) A rs:=
 ⟨Si h.rd λq hq=>by have:=hn.1 q hq;omega,h.nil,λr hr=>⟨Si (h.row r hr).rd λq hq=>by have:=hn.2 r hr q hq;omega,(h.row r hr).nil⟩⟩
theorem rL.le {m m':Nat} {A:Option Ci} {rs:List Ix} (h:rL m A rs) (hm:m'<=m):rL m' A rs:=⟨λq hq=>Br hm (h.1 q hq),λr hr q hq=>Br hm (h.2 r hr q hq)⟩
def kys (rs:List Ix) (i:Nat):List Int:=(rs.getD i ⟨Ae,0,[]⟩).ks
theorem At4 {rs:List Ix} {i:Nat} (hi:i<rs.length):kys rs i=rs[i].ks:=by
 unfold kys;rw[Ds,Aw hi];rfl
def upd (ps:Nat->Nat) (y r:Nat):Nat->Nat:=λi=>if i=y then r else ps i
def Ri (rs:List Ix) (ps:Nat->Nat) (y:Nat):List Ak:=(Dr rs.length).map λi=>if i<y then Ad (Af ⟨ps i,0,Ae⟩) (kys rs i).length (kys rs i).length else Ad Ae 0 0
theorem tG (rs:List Ix) (ps:Nat->Nat):(Ri rs ps 0).toArray=Em rs.length (Ad Ae 0 0):=by
 rw[<-Gi]
 congr 1
 unfold Ri;apply Gj
 ·simp
 ·intro i h1 h2;simp
theorem Ac6 {rs:List Ix} {ps:Nat->Nat} {y r:Nat}:(Ri rs ps y).toArray.setIfInBounds y (Ad (Af ⟨r,0,Ae⟩) (kys rs y).length (kys rs y).length)=(Ri rs (upd ps y r) (y+1)).toArray:=by
 unfold Ri upd;apply Array.ext
 ·simp
 ·intro i h1 h2;simp only[Array.size_setIfInBounds,Fp,Bo,Co]at h1;rw[Cs (by simpa using h1)];simp only[Ce,Gd,Di];by_cases e:y=i
  ·subst e;rw[Hd rfl,Hd Gu,Hd rfl]
  ·rw[Gz e];by_cases ad:i<y
   ·rw[Hd ad,Hd Gu,Gz (λh=>e h.symm)]
   ·rw[Gz ad,Gz Gu]
theorem eH {rs:List Ix} {ps:Nat->Nat} {y i:Nat} (hi:i<rs.length):(Ri rs ps y)[i]? =Af (if i<y then Ad (Af ⟨ps i,0,Ae⟩) (kys rs i).length (kys rs i).length else Ad Ae 0 0):=by
 unfold Ri;simp[hi]
def Tm (rs:List Ix) (φ:Int->Int) (ps:Nat->Nat) (y:Nat):List (Nat×Array Ak×Cj):=(Dr y).map λi=>(ps i,(It ((kys rs i).map φ)).toArray,3)
theorem jB (rs:List Ix) (φ:Int->Int) (ps:Nat->Nat) (y:Nat):(Tm rs φ ps y).length=y:=by simp[Tm]
theorem vL (rs:List Ix) (φ:Int->Int) (ps:Nat->Nat) (y r:Nat):Tm rs φ (upd ps y r) (y+1)=Tm rs φ ps y++[(r,(It ((kys rs y).map φ)).toArray,3)]:=by
 unfold Tm;rw[List.range_succ,Ey]
 congr 1
 ·apply List.map_congr_left;intro i hi;have hi:=Ea.1 hi;unfold upd;rw[Gz Gu]
 ·simp[upd]
def gP (φ:Int->Int) (ks:List Int) (x:Nat):List Ak:=(Dr ks.length).map λi=> Aa Ab (if i<x then φ (ks.getD i 0)else 0)
theorem Ai8 (φ:Int->Int) (ks:List Int):(gP φ ks 0).toArray=Em ks.length (Aa Ab 0):=by
 rw[<-Gi]
 congr 1
 unfold gP;apply Gj
 ·simp
 ·intro i h1 h2;simp
theorem Ay6 {φ:Int->Int} {ks:List Int} {x:Nat} (hx:x<ks.length):(gP φ ks x).toArray.setIfInBounds x (Aa Ab (φ ks[x]))=(gP φ ks (x+1)).toArray:=by
 unfold gP;apply Array.ext
 ·simp
 ·intro i h1 h2;simp only[Array.size_setIfInBounds,Fp,Bo,Co]at h1;rw[Cs (by simpa using h1)];simp only[Ce,Gd,Di];by_cases e:x=i
  ·subst e;rw[Hd rfl,Hd Gu,Ds,Aw hx];rfl
  ·rw[Gz e];by_cases ad:i<x
   ·rw[Hd ad,Hd Gu]
   ·rw[Gz ad,Gz Gu]
theorem Ay5 (φ:Int->Int) (ks:List Int):gP φ ks ks.length=It (ks.map φ):=by
 unfold gP It;apply Gj
 ·simp
 ·intro i h1 h2;simp only[Bo,Co]at h1;simp[h1]
def lL (rs:List Ix) (φ:Int->Int) (ps:Nat->Nat):List Ix:=(Dr rs.length).map λi=>⟨Af ⟨ps i,0,Ae⟩,(kys rs i).length,(kys rs i).map φ⟩
theorem Bm0 (rs:List Ix) (φ:Int->Int) (ps:Nat->Nat):(lL rs φ ps).map (·.ks)=(rs.map (·.ks)).map (List.map φ):=by
 unfold lL;apply Gj
 ·simp
 ·intro i h1 h2;simp only[Bo,Co]at h1;simp[At4 h1]
theorem Aw1 (rs:List Ix) (φ:Int->Int) (ps:Nat->Nat):(lL rs φ ps).length=rs.length:=by simp[lL]
def jQ (φ:Int->Int) (rs:List Ix) (w:Aj) (e:Ending) (w':Aj):Prop:=∃(A:Option Ci) (rs':List Ix),e= .returned (Ad A rs.length rs.length)/\rs'.length=rs.length/\Jl w' A rs'/\rs'.map (·.ks)=(rs.map (·.ks)).map (List.map φ)/\(∀r∈rs',r.c=r.ks.length)/\rL w.heap.size A rs'/\Below w.heap.size w w'
theorem jQ.of {φ:Int->Int} {rs:List Ix} {w w':Aj} {G:Nat} {ps:Nat->Nat} {n:Nat} (hn:n=rs.length) (h:Bx w ((G,(Ri rs ps n).toArray,38)::Tm rs φ ps n) w'):jQ φ rs w (.returned (Ad (Af ⟨G,0,Ae⟩) n n)) w':=by
 subst hn
 have ag:∀i,i<rs.length->w'.heap[ps i]? =Af (Cn (It ((kys rs i).map φ)).toArray 3 (0,0))/\w.heap.size<=ps i:=λi hi=>by
  have hg:((G,(Ri rs ps rs.length).toArray,38)::Tm rs φ ps rs.length)[i+1]? =Af (ps i,(It ((kys rs i).map φ)).toArray,3):=by
   rw[Cw];unfold Tm;simp[hi]
  exact⟨h.blk _ _ _ _ hg,h.lo _ _ _ _ hg⟩
 have bp:∀r∈lL rs φ ps,∃i,i<rs.length/\r=⟨Af ⟨ps i,0,Ae⟩,(kys rs i).length,(kys rs i).map φ⟩:=λr hr=>by
  unfold lL at hr;obtain⟨i,hi,rfl⟩:=Dq.1 hr;exact⟨i,Ea.1 hi,rfl⟩
 have h0:=h.b 0;refine⟨_,lL rs φ ps,rfl,Aw1 _ _ _,⟨⟨Gx,λ_=>⟨G,0,rfl,h.lt 0 rfl,λi v hi=>?_⟩⟩,(λe=>by cases e),λr hr=>?_⟩,Bm0 _ _ _,λr hr=>?_,⟨λq hq=>?_,λr hr q hq=>?_⟩,h.below⟩
 ·rw[Bt,By _ _ i _ _ _ h0]
  have ad:i<rs.length:=by
   have:=(Ax.1 hi).1;simpa[lL]using this
  have hm:=eH (ps:=ps) (y:=rs.length) ad;rw[Hd ad]at hm;simp only[List.getElem?_toArray];rw[hm,<-hi];unfold lL;simp[ad,Ix.head]
 ·obtain⟨i,hi,rfl⟩:=bp r hr;obtain⟨h1,-⟩:=ag i hi;refine⟨⟨by simp[It],λ_=>⟨ps i,0,rfl,(Au.1 h1).1,λj v hj=>?_⟩⟩,(λe=>by cases e)⟩;rw[Bt,By _ _ j _ _ _ h1];simpa using hj
 ·obtain⟨i,hi,rfl⟩:=bp r hr;simp
 ·injection hq with hq;subst hq;exact h.lo 0 _ _ _ rfl
 ·obtain⟨i,hi,rfl⟩:=bp r hr;injection hq with hq;subst hq;exact(ag i hi).2
theorem Bs5 {w wr:Aj} {G r y:Nat} {hd:Array Ak} {l:List (Nat×Array Ak×Cj)} {c c':Array Ak} {t0 t:Cj} {x:Nat} {v:Ak} (hl:l.length=y) (h:Bx w ((G,hd,t0)::(l++[(r,c,t)])) wr) (hc:c.setIfInBounds x v=c'):Bx w ((G,hd,t0)::(l++[(r,c',t)])) (wr.setCell ⟨r,x,Ae⟩ v):=by
 have hi:((G,hd,t0)::(l++[(r,c,t)]))[y+1]? =Af (r,c,t):=by
  rw[Cw,<-hl];simp
 have:=h.set (y+1) x hi v;rw[hc]at this;rw[Cg,<-hl,List.set_append_right _ _ (Am _),Nat.sub_self,Cf]at this;exact this
theorem Bf0 {w wr:Aj} {G r y:Nat} {hd:Array Ak} {l:List (Nat×Array Ak×Cj)} {c:Array Ak} {t0 t:Cj} (hl:l.length=y) (h:Bx w ((G,hd,t0)::(l++[(r,c,t)])) wr):wr.heap[r]? =Af (.cells c t (0,0))/\r≠G/\w.heap.size<=r:=by
 have hi:((G,hd,t0)::(l++[(r,c,t)]))[y+1]? =Af (r,c,t):=by
  rw[Cw,<-hl];simp
 refine⟨h.blk _ _ _ _ hi,λe=>?_,h.lo _ _ _ _ hi⟩;subst e;exact absurd (h.inj _ 0 _ _ _ _ _ hi rfl) Gu
theorem tZ (F:FuncId) (qj:∀(args:Array Ak) (w:Aj),(callFunc F args).run Do w= .ok (.enter F args) w) (dd:Array Ak) (φ:Int->Int) (A:Option Ci) (rs:List Ix) (n c:Nat) (w:Aj) (hn:n=rs.length) (h:Jl w A rs) (hl:n<=100) (hk:∀r∈rs,r.ks.length<=100)
  (hf:∀(v:Int) (w':Aj),(∃r∈rs,v∈r.ks)->Below w.heap.size w w'->Al Do F (#[Aa Ab v]++dd) w' (Gy (Aa Ab (φ v)) w')):
  Al Do 89 #[Ad A n c,.func (.func F) #[] dd] w (jQ φ rs w):=by
 have HR:=Ah h;have HN:=Ah hn;have HK:=Ah hk;have CE:=Ah hf;have m1:=tY n Gu;clear h hn hk hf;go_enter Tryz.func89,Tryz.ntmps89;go_wp2_with fail;obtain⟨G,hG⟩:=ey w.heap.size;have H0:=(Bx.start w).new (Em n (Ad Ae 0 0)) 38 hG;have tw:Hid (Bx w ((G,(Ri rs (λ_=>0) 0).toArray,38)::Tm rs φ (λ_=>0) 0) (w.alloc (.cells (Em n (Ad Ae 0 0)) 38))):=Ah (by rw[tG,<-HN.out];exact H0);clear H0 m1
 try rw[hG]
 generalize w.alloc _=W1 at tw⊢;clear hG
 go_loopw [15] (λNI wr=>∃y:Nat,y<=n/\NI= Aa Ab y/\Hid (∃ps,Bx w ((G,(Ri rs ps y).toArray,38)::Tm rs φ ps y) wr)) (λNI _=>n-(intOf NI).toNat)
 case atStart=>exact⟨0,Gk _,rfl,Ah ⟨_,tw.out⟩⟩
 obtain⟨y,hy,rfl,HP⟩:=hrel;clear tw;by_cases ad:y<n
 ·have q0:(y:Int)<(n:Int):=Gu;have fm:=Ah ad;have JU:y<rs.length:=oHx HN.out;obtain⟨ps,hB⟩:=HP.out;obtain⟨bb,o,rfl,cj,c0⟩:=(HR.out.below hB.below).at' y JU;have bc:=HK.out rs[y] (Ay _);have ag:=HR.out.row rs[y] (Ay _);have bp:∀v∈rs[y].ks,∃r∈rs,v∈r.ks:=λv hv=>⟨rs[y],Ay _,hv⟩;have VO:=At4 JU
  have hhd:wr.cell? ⟨G,y,Ae⟩=Af (Ad Ae 0 0)/\wr.frozen? ⟨G,y,Ae⟩=false:=by
   have h0:=hB.b 0;refine⟨?_,Tl h0 y⟩;rw[By _ _ y _ _ _ h0];have:=eH (ps:=ps) (y:=y) JU;rw[Gz Gu]at this;simpa using this
  have hGl:=hB.lt 0 rfl;obtain⟨⟨rA,rc,ks⟩,hr⟩:=ey (rs[y]);rw[hr]at c0 bc ag bp VO;dsimp only at c0 bc ag bp VO;obtain⟨k,jn⟩:=ey ks.length;have m2:=tX k Gu;obtain⟨R,hR⟩:=ey wr.heap.size;have dl:=(hB.new (Em k (Aa Ab 0)) 3 hR).set 0 y rfl (Ad (Af ⟨R,0,Ae⟩) k k);have e1:=Ac6 (rs:=rs) (ps:=ps) (y:=y) (r:=R);rw[VO,jn]at e1;rw[Ep,Cf,e1]at dl;have e3:=Ai8 φ ks;rw[jn]at e3;have sh:Hid (Bx w ((G,(Ri rs (upd ps y R) (y+1)).toArray,38)::(Tm rs φ ps y++[(R,(gP φ ks 0).toArray,3)])) ((wr.alloc (.cells (Em k (Aa Ab 0)) 3)).setCell ⟨G,y,Ae⟩ (Ad (Af ⟨R,0,Ae⟩) k k))):=Ah (by rw[e3];exact dl);have z0:(wr.alloc (.cells (Em k (Aa Ab 0)) 3)).cell? ⟨G,y,Ae⟩=Af (Ad Ae 0 0):=Gv ((Ag _ wr).alloc (Am _) _) hhd.1;have z1:(wr.alloc (.cells (Em k (Aa Ab 0)) 3)).frozen? ⟨G,y,Ae⟩=false:=Tl ((hB.new (Em k (Aa Ab 0)) 3 hR).b 0) y;have yw:=Ah ag;have HMEM:=Ah bp;have HKY:=Ah VO;have vo:=Ah jn;rw[jn]at c0 bc;clear hB dl hhd ag bp hr VO jn e1 e3 cj JU ad hGl;go_upto_region 6 with fail
  try rw[hR]
  generalize (wr.alloc _).setCell _ _=W2 at sh⊢;clear z0 z1 c0 hR m2;go_wp2
  go_loopw [28] (λM3 wx=>∃x:Nat,x<=k/\M3= Aa Ab x/\Hid (Bx w ((G,(Ri rs (upd ps y R) (y+1)).toArray,38)::(Tm rs φ ps y++[(R,(gP φ ks x).toArray,3)])) wx)) (λM3 _=>k-(intOf M3).toNat)
  case atStart=>exact⟨0,Gk _,rfl,sh⟩
  obtain⟨x,hx,rfl,HB⟩:=hrel;clear sh;have H:=HB.out;by_cases ad:x<k
  ·have q1:(x:Int)<(k:Int):=Gu;have TR:=Ah ad;have vk:x<ks.length:=oHx vo.out;obtain⟨b2,o2,e2,aj,d0⟩:=(yw.out.below H.below).at' x vk;dsimp only at e2 d0;subst e2;obtain⟨v,hv⟩:=ey (ks[x]);have hC:=CE.out v;have pr:=HMEM.out ks[x] (Ay _);rw[hv]at d0 pr;have HC:=Ah (λ(w':Aj) (hb:Below w.heap.size w w')=>hC w' pr hb);obtain⟨ar,zc⟩:=ey (#[Value.int .i64 v]++dd);rw[zc]at HC;have dj:=Ay6 (φ:=φ) vk;rw[hv]at dj;have QD:=Ah dj;obtain⟨S,an,HSO⟩:=Og λW'=>W'.cell? ⟨G,y,Ae⟩=Af (Ad (Af ⟨R,0,Ae⟩) k k);have q2:(y:Int)<(n:Int):=oHx fm.out
   have nk:Hid (∀W' l,Bx w ((G,(Ri rs (upd ps y R) (y+1)).toArray,38)::l) W'->S W'):=Ah λW' l h=>by
    subst an;rw[By _ _ y _ _ _ (h.b 0)];have:=eH (rs:=rs) (ps:=upd ps y R) (y:=y+1) (i:=y) (by have h1:=HN.out;have h2:=fm.out;omega);rw[Hd Gu,HKY.out,vo.out]at this;unfold upd at this⊢;rw[Hd rfl]at this;simpa using this
   clear hC pr hv dj an vk aj ad;go_upto_region 9 with fail;refine Ao (S:=S) Gw (nk.out _ _ H.drew) (λhS=>?_);have H1:=H.drew;clear H;generalize wr.drew=X0 at hS H1⊢;refine Hh 0 1 2 3 ?_;refine Oe 4 5 6 ?_;refine rdy 7 (λK hK=>?_);go_simp;refine(HC.out _ H1.below).mono ?_;rintro ee X1 ⟨rfl,ac⟩;have H2:=H1.call ac;refine hK.o (nk.out _ _ H2) (λhS=>?_);clear hK K ac H1 HC;refine Kg 8 ?_;obtain⟨BJ,-,-⟩:=Bf0 (jB rs φ ps y) H2;have z0:=Tl BJ x
   have z1:X1.cell? ⟨R,x,Ae⟩=Af (Aa Ab 0):=by
    rw[By _ _ x _ _ _ BJ];unfold gP;have h1:=vo.out;have h2:=TR.out;simp[h1,h2]
   have H3:=Bs5 (jB rs φ ps y) H2 QD.out;have hS3:=nk.out _ _ H3;have NQ:=Ah H3;clear BJ H2 H3;refine rdy 9 (λK hK=>?_);go_simp;refine hK.o hS3 (λhS=>?_);clear hK K;refine An Gw ?_ _;go_wp2
   go_roundw
   case rel=>exact⟨x+1,TR.out,by go_num,NQ⟩
   case measure=>simp[intOf];have:=TR.out;omega
  ·obtain rfl:x=k:=Gu;have q1:¬(x:Int)<(x:Int):=Gu
   have XT:Hid (∃ps,Bx w ((G,(Ri rs ps (y+1)).toArray,38)::Tm rs φ ps (y+1)) wr):=Ah ⟨upd ps y R,by
    rw[vL,HKY.out,<-Ay5,vo.out];exact H⟩
   clear H HB;go_wp2
   go_roundw
   case rel=>exact⟨y+1,fm.out,by go_num,XT⟩
   case measure=>simp[intOf];have:=fm.out;omega
 ·obtain rfl:y=n:=Gu;have q0:¬(y:Int)<(y:Int):=Gu;obtain⟨ps,hB⟩:=HP.out;have HM:=Ah (jQ.of HN.out hB);clear hB HP;go_wp2;go_ret;exact HM.out
def wR (n q k p:Nat):Nat:=if p+k*q>n then 0 else p+k*q
def pP (h m k p:Nat):Nat:=if p<=h then p+k*h else m*(2*h)-k*h-(2*h-p)
def mB (n h m k p:Nat):Nat:=if pP h m k p>n then 0 else pP h m k p
def trV (g:Nat->Nat) (v:Int):Int:=if v<0 then-((g v.natAbs:Nat):Int)else ((g v.natAbs:Nat):Int)
def trR (g:Nat->Nat) (rows:List (List Int)):List (List Int):=rows.map λr=>r.map (trV g)
def Yb (n:Nat) (num:Nat->Nat) (p:Nat):Nat:=if num p>n then 0 else num p
theorem Ah9 (H:FuncId) (qj:∀(args:Array Ak) (w:Aj),(callFunc H args).run Do w= .ok (.enter H args) w) (hc:Array Ak) (num:Nat->Nat) (n k N2 K N1:Nat) (v:Int) (w:Aj)
  (h2:w.cell? ⟨N2,0,Ae⟩=Af (.func (.func H) #[] hc)) (hk:w.cell? ⟨K,0,Ae⟩=Af (Aa Ab (k:Nat))) (h1:w.cell? ⟨N1,0,Ae⟩=Af (Aa Ab (n:Nat))) (hv: -1000000<=v/\v<=1000000) (vh:num v.natAbs<=1000000000)
  (hH:∀w',Below w.heap.size w w'->Al Do H (#[Aa Ab (v.natAbs:Nat),Aa Ab (k:Nat)]++hc) w' (Gy (Aa Ab (num v.natAbs:Nat)) w')):
  Al Do 88 #[v,.pointer (Af ⟨N2,0,Ae⟩),.pointer (Af ⟨K,0,Ae⟩),.pointer (Af ⟨N1,0,Ae⟩)] w (Gy (Aa Ab (trV (Yb n num) v)) w):=by
 have e0:Ab.wrap (-v)= -v:=Ca _ Gu;have eM:max v (-v)=((v.natAbs:Nat):Int):=Gu;have HT:Hid (trV (Yb n num) v=if v<0 then-((Yb n num v.natAbs:Nat):Int)else ((Yb n num v.natAbs:Nat):Int)):=Ah rfl;have JA:Hid (Yb n num v.natAbs=if num v.natAbs>n then 0 else num v.natAbs):=Ah rfl;have hC:=hH w (Ag _ _);obtain⟨R,hR⟩:=ey (trV (Yb n num) v);obtain⟨P,hP⟩:=ey (Yb n num v.natAbs);obtain⟨p,hp⟩:=ey v.natAbs;rw[hp]at hC vh eM JA hP HT;rw[hR]at HT⊢;rw[hP]at JA HT;obtain⟨x,hx⟩:=ey (num p);rw[hx]at hC vh JA;obtain⟨ar,zc⟩:=ey (#[Value.int .i64 (p:Nat),Aa Ab (k:Nat)]++hc);rw[zc]at hC;have HC:=Ah hC;have HV:=Ah hv;clear hC hR hP hp hx hH hv;go_enter Tryz.func88,Tryz.ntmps88;go_wp2_with fail;refine HC.out.mono ?_;rintro ee w2 ⟨rfl,hb⟩;have h1:=Gv hb h1;clear HC h2 hk e0 eM;by_cases zh:x>n
 ·have q0:(x:Int)>(n:Int):=Gu
  have HF:Hid (R=0):=Ah (by
   rw[HT.out,JA.out,Hd zh]
   split<;>rfl)
  clear HT JA zh;go_wp2;go_ret;exact⟨by rw[HF.out];rfl,hb⟩
 ·have q0:¬(x:Int)>(n:Int):=Gu;have HQ:Hid (R=if v<0 then-(x:Int)else (x:Int)):=Ah (by rw[HT.out,JA.out,Gz zh]);clear HT JA zh;by_cases hn:v<0
  ·have e1:Ab.wrap (-(x:Int))= -(x:Int):=Ca _ Gu;have HF:Hid (R= -(x:Int)):=Ah (by rw[HQ.out,Hd hn]);clear HQ;go_wp2;go_ret;exact⟨by rw[HF.out];rfl,hb⟩
  ·have HF:Hid (R=(x:Int)):=Ah (by rw[HQ.out,Gz hn]);clear HQ;go_wp2;go_ret;exact⟨by rw[HF.out];rfl,hb⟩
structure FoR where
 FA:Option Ci
 c1:Nat
 fr:List Ix
 BA:Option Ci
 c2:Nat
 bk:List Ix
def FoR.h1 (r:FoR):Ak:= Ad r.FA r.fr.length r.c1
def FoR.h2 (r:FoR):Ak:= Ad r.BA r.bk.length r.c2
def FoR.cells (r:FoR):List Ak:=[r.h1,r.h2]
def Ab9 (l:List FoR):List Ak:=l.flatMap FoR.cells
theorem nY (l:List FoR):(Ab9 l).length=l.length*2:=by
 induction l with
 |nil=>rfl
 |cons x r ih=>
  unfold Ab9 at ih⊢;rw[Bf,Bh,ih,En];show 2+r.length*2=_;omega
theorem nX (l:List FoR):∀(j:Nat) (hj:j<l.length),(Ab9 l)[j*2]? =Af l[j].h1/\(Ab9 l)[j*2+1]? =Af l[j].h2:=by
 induction l with
 |nil=>intro j hj;exact absurd hj (Nat.not_lt_zero _)
 |cons p r ih=>
  intro j hj
  cases j with
  |zero=>exact⟨rfl,rfl⟩
  |succ j=>
   have:=ih j (by simpa using hj);rw[show(j+1)*2=j*2+2 by omega];exact this
structure rI (w:Aj) (r:FoR):Prop where
 f:Jl w r.FA r.fr
 b:Jl w r.BA r.bk
theorem rI.below {w w':Aj} {r:FoR} (h:rI w r) (hb:Below w.heap.size w w'):rI w' r:=⟨h.f.below hb,h.b.below hb⟩
structure Un (w:Aj) (A:Option Ci) (l:List FoR):Prop where
 rd:Rd w A 2 l.length (Ab9 l)
 nil:A=Ae->l.length=0
 row:∀r∈l,rI w r
theorem Un.below {w w':Aj} {A:Option Ci} {l:List FoR} (h:Un w A l) (hb:Below w.heap.size w w'):Un w' A l:=⟨h.rd.below hb,h.nil,λr hr=>(h.row r hr).below hb⟩
theorem Un.at' {w:Aj} {A:Option Ci} {l:List FoR} (h:Un w A l) (i:Nat) (hi:i<l.length):∃b o,A=Af ⟨b,o,Ae⟩/\b<w.heap.size/\w.cell? ⟨b,o+i*2,Ae⟩=Af l[i].h1/\w.cell? ⟨b,o+i*2+1,Ae⟩=Af l[i].h2:=by
 obtain⟨b,o,e,hb,hc⟩:=h.rd.2 Gu;obtain⟨g1,g2⟩:=nX l i hi;exact⟨b,o,e,hb,hc _ _ g1,hc _ _ g2⟩
def foC (fs:Nat->FoR) (m k:Nat):List Ak:=(Dr (2*m)).map λj=>if j/2<k then (if j%2=0 then (fs (j/2)).h1 else (fs (j/2)).h2)else Ad Ae 0 0
theorem Aq7 (fs:Nat->FoR) (m:Nat):(foC fs m 0).toArray=Em (2*m) (Ad Ae 0 0):=by
 rw[<-Gi]
 congr 1
 unfold foC;apply Gj
 ·simp
 ·intro i h1 h2;simp
def By0 (fs:Nat->FoR) (k:Nat) (r:FoR):Nat->FoR:=λi=>if i=k then r else fs i
theorem Bg3 (fs:Nat->FoR) (m k:Nat) (r:FoR):((foC fs m k).toArray.setIfInBounds (k*2) r.h1).setIfInBounds (k*2+1) r.h2=(foC (By0 fs k r) m (k+1)).toArray:=by
 unfold foC By0;apply Array.ext
 ·simp
 ·intro i h1 h2;simp only[Array.size_setIfInBounds,Fp,Bo,Co]at h1;rw[Cs (by simpa using h1),Cs (by simpa using h1)];simp only[Ce,Gd,Di];by_cases e1:k*2+1=i
  ·subst e1;rw[Hd rfl,Hd Gu,Gz Gu,Hd Gu]
  ·rw[Gz e1];by_cases e0:k*2=i
   ·subst e0;rw[Hd rfl,Hd (show k*2/2<k+1 by omega),Hd (show k*2%2=0 by omega),Hd (show k*2/2=k by omega)]
   ·rw[Gz e0];by_cases ad:i/2<k
    ·rw[Hd ad,Hd (show i/2<k+1 by omega),Gz (show¬i/2=k by omega)]
    ·rw[Gz ad,Gz (show¬i/2<k+1 by omega)]
theorem sX {fs:Nat->FoR} {m k j:Nat} (hj:j<2*m):(foC fs m k)[j]? =Af (if j/2<k then (if j%2=0 then (fs (j/2)).h1 else (fs (j/2)).h2)else Ad Ae 0 0):=by
 unfold foC;simp[hj]
theorem Bg2 (fs:Nat->FoR) (m:Nat):foC fs m m=Ab9 ((Dr m).map fs):=by
 apply List.ext_getElem?;intro j;by_cases hj:j<2*m
 ·rw[sX hj,Hd Gu];have h:=nX ((Dr m).map fs) (j/2) Hu;simp only[Gd,Di]at h;by_cases e:j%2=0
  ·rw[Hd e,<-h.1]
   congr 1
   omega
  ·rw[Gz e,<-h.2]
   congr 1
   omega
 ·rw[Ei (by simp[foC];omega),Ei (by rw[nY];simp;omega)]
def Am3 (G:Nat->Nat->Nat) (fr bk:List Ix) (m:Nat) (w:Aj) (e:Ending) (w':Aj):Prop:=∃(A:Option Ci) (l:List FoR),e= .returned (Ad A m m)/\l.length=m/\Un w' A l/\(∀k (hk:k<l.length),ksL l[k].fr=trR (G k) (ksL fr)/\ksL l[k].bk=trR (G k) (ksL bk)/\l[k].fr.length=fr.length/\l[k].bk.length=bk.length/\∀r∈l[k].fr++l[k].bk,r.c=r.ks.length)/\Below w.heap.size w w'
structure FoP (M:Nat) (fr bk:List Ix) (g:Nat->Nat) (w:Aj) (r:FoR):Prop where
 ok:rI w r
 n1:rL M r.FA r.fr
 n2:rL M r.BA r.bk
 k1:ksL r.fr=trR g (ksL fr)
 k2:ksL r.bk=trR g (ksL bk)
 l1:r.fr.length=fr.length
 l2:r.bk.length=bk.length
 cp:∀x∈r.fr++r.bk,x.c=x.ks.length
theorem FoP.below {M:Nat} {fr bk:List Ix} {g:Nat->Nat} {w w':Aj} {r:FoR} (h:FoP M fr bk g w r) (hb:Below w.heap.size w w'):FoP M fr bk g w' r:=⟨h.ok.below hb,h.n1,h.n2,h.k1,h.k2,h.l1,h.l2,h.cp⟩
theorem FoP.set {M:Nat} {fr bk:List Ix} {g:Nat->Nat} {w:Aj} {r:FoR} {b j:Nat} {v:Ak} (h:FoP M fr bk g w r) (hb:b<M):FoP M fr bk g (w.setCell ⟨b,j,Ae⟩ v) r:=⟨⟨h.ok.f.set h.n1 hb,h.ok.b.set h.n2 hb⟩,h.n1,h.n2,h.k1,h.k2,h.l1,h.l2,h.cp⟩
theorem tA:(Tryz.prog.info? 61).map (λi=>(i.zero,i.size,i.bytes))=Af (Af (.agg #[Ad Ae 0 0,Ad Ae 0 0]),2,48):=Gw
theorem Au2 (n:Nat):madeCells (Value.agg #[Ad Ae 0 0,Ad Ae 0 0]).cells n=Em n (Ad Ae 0 0):=by
 change(Array.range n).map (λx=>(#[Value.slice Ae 0 0,Ad Ae 0 0]:Array Ak)[x%2]!)=_;apply Array.ext
 ·simp
 ·intro i h1 h2;simp only[Array.getElem_map,Array.getElem_range,Array.getElem_replicate];have:i%2=0∨i%2=1:=Gu;rcases this with e|e
  ·rw[e];rfl
  ·rw[e];rfl
theorem pF (n:Nat) (h:n<=20000) (w:Aj):(Instr.makeSlice 64 (Aa Ab n) (Aa Ab n)).run Do w= .ok (Ad (Af ⟨w.heap.size,0,Ae⟩) n n) (w.alloc (.cells (Em (2*n) (Ad Ae 0 0)) 61)):=by
 obtain⟨i0,eh,dp,ap,ca⟩:=info_parts tA;have:=run_makeSlice (P:=Do) w 64 61 i0 _ Tryz.underlying64 eh dp .i64 .i64 n n Gu Gu (by rw[ap];simp;omega) (by rw[ca];omega) Gu;rw[ap,Int.toNat_natCast,Au2,Nat.mul_comm n 2]at this;exact this
theorem dW (H:FuncId) (qj:∀(args:Array Ak) (w:Aj),(callFunc H args).run Do w= .ok (.enter H args) w) (hc:Array Ak) (num:Nat->Nat->Nat) (n m:Nat) (FA BA:Option Ci) (fr bk:List Ix) (c1 c2 n1 n2:Nat) (w:Aj) (hF:dH w FA BA fr bk) (ff:n1=fr.length) (kr:n2=bk.length) (hm:m<=10000)
  (hv:∀r∈fr++bk,∀v∈r.ks,-1000000<=v/\v<=1000000) (vh:∀r∈fr++bk,∀v∈r.ks,∀k,k<m->num k v.natAbs<=1000000000)
  (hH:∀(v:Int) (k:Nat) (w':Aj),(∃r∈fr++bk,v∈r.ks)->k<m->Below w.heap.size w w'->Al Do H (#[Aa Ab (v.natAbs:Nat),Aa Ab (k:Nat)]++hc) w' (Gy (Aa Ab (num k v.natAbs:Nat)) w')):
  Al Do 40 #[.agg #[Ad FA n1 c1,Ad BA n2 c2],(n:Nat),(m:Nat),.func (.func H) #[] hc] w (Am3 (λk=>Yb n (num k)) fr bk m w):=by
 have HF:=Ah hF;have XT:=Ah ff;have TW:=Ah kr;have HE:=Ah qj;have mf:=pF m Gu
 have lm:Hid (∀(N2 K N1 k:Nat) (w0:Aj),k<m->Below w.heap.size w w0->w0.cell? ⟨N2,0,Ae⟩=Af (.func (.func H) #[] hc)->w0.cell? ⟨K,0,Ae⟩=Af (Aa Ab (k:Nat))->w0.cell? ⟨N1,0,Ae⟩=Af (Aa Ab (n:Nat))->∀(v:Int) (w':Aj),(∃r∈fr++bk,v∈r.ks)->Below w0.heap.size w0 w'->Al Do 88 (#[Aa Ab v]++ #[.pointer (Af ⟨N2,0,Ae⟩),.pointer (Af ⟨K,0,Ae⟩),.pointer (Af ⟨N1,0,Ae⟩)]) w' (Gy (Aa Ab (trV (Yb n (num k)) v)) w')):=Ah λN2 K N1 k w0 hk hb h2 jn h1 v w' hvm hb'=>by
  have de:Below w.heap.size w w':=hb.trans (hb'.mono hb.size);obtain⟨r,hr,J7⟩:=hvm;exact Ah9 H qj hc (num k) n k N2 K N1 v w' (Gv hb' h2) (Gv hb' jn) (Gv hb' h1) (hv r hr v J7) (vh r hr v J7 k hk) (λw2 aj=>hH v k w2 ⟨r,hr,J7⟩ hk (de.trans (aj.mono de.size)))
 have H0:=(((Bx.start w).new #[Ad FA n1 c1,Ad BA n2 c2] 61 rfl).new #[(n:Nat)] 3 (N:=w.heap.size+1) Gx).new #[.func (.func H) #[] hc] 104 (N:=w.heap.size+1+1) Gx;clear hF ff kr qj hv vh hH;go_enter Tryz.func40,Tryz.ntmps40;go_upto_region 1 with fail;obtain⟨N,hN⟩:=ez w.heap.size;rw[<-hN]at H0⊢;have db:=Ah hN;clear hN;generalize ((w.alloc _).alloc _).alloc _=W at H0⊢;obtain⟨N1,hN1⟩:=ey (N+1);rw[hN1]at H0⊢;generalize N1+1=N2 at H0⊢;clear hN1;obtain⟨G,hG⟩:=ey W.heap.size;have H1:=H0.new (Em (2*m) (Ad Ae 0 0)) 61 hG;go_upto_region 2 with fail
 try rw[hG]
 generalize W.alloc _=W1 at H1⊢;rw[<-Aq7 (λ_=>⟨Ae,0,[],Ae,0,[]⟩) m]at H1;clear mf hG H0;obtain⟨M,hM⟩:=ey W1.heap.size;have HGM:Hid (G<M/\w.heap.size<=M):=Ah ⟨hM▸H1.lt 3 rfl,hM▸H1.below.size⟩;have tw:Hid (∃fs,Bx w [(N,#[Ad FA n1 c1,Ad BA n2 c2],61),(N1,#[Aa Ab (n:Nat)],3),(N2,#[.func (.func H) #[] hc],104),(G,(foC fs m 0).toArray,61)] W1/\M<=W1.heap.size/\∀i,i<0->FoP M fr bk (Yb n (num i)) W1 (fs i)):=Ah ⟨_,H1,Nat.le_of_eq hM.symm,λi hi=>absurd hi (Nat.not_lt_zero _)⟩;clear H1 hM;go_wp2
 go_loopw [16] (λs16 wr=>∃k:Nat,k<=m/\s16= Aa Ab k/\Hid (∃fs,Bx w [(N,#[Ad FA n1 c1,Ad BA n2 c2],61),(N1,#[Aa Ab (n:Nat)],3),(N2,#[.func (.func H) #[] hc],104),(G,(foC fs m k).toArray,61)] wr/\M<=wr.heap.size/\∀i,i<k->FoP M fr bk (Yb n (num i)) wr (fs i))) (λs16 _=>m-(intOf s16).toNat)
 case atStart=>exact⟨0,Gk _,rfl,tw⟩
 obtain⟨k,hkm,rfl,HP⟩:=hrel;clear tw;obtain⟨fs,hB,jz,xm⟩:=HP.out;by_cases ad:k<m
 ·have q0:(k:Int)<(m:Int):=Gu;have fm:=Ah ad;obtain⟨K,hK0⟩:=ey wr.heap.size;have dl:=hB.new #[(k:Nat)] 3 hK0;have DG:Below wr.heap.size wr (wr.alloc (.cells #[(k:Nat)] 3)):=(Ag _ _).alloc (Am _) _;have JZ:=Ah (λi (hi:i<k)=>(xm i hi).below DG);have ZN:M<=(wr.alloc (.cells #[(k:Nat)] 3)).heap.size:=Br jz DG.size;clear hB xm ad jz DG;go_upto_region 5 with fail
  try rw[hK0]
  generalize wr.alloc _=W2 at dl JZ ZN⊢;clear hK0;obtain⟨S,an,HSO⟩:=Og λW'=>W'.cell? ⟨N,0,Ae⟩=Af (Ad FA n1 c1)/\W'.cell? ⟨N,1,Ae⟩=Af (Ad BA n2 c2)/\W'.cell? ⟨K,0,Ae⟩=Af (Aa Ab (k:Nat))
  have nk:Hid (∀W' cs,Bx w [(N,#[Ad FA n1 c1,Ad BA n2 c2],61),(N1,#[Aa Ab (n:Nat)],3),(N2,#[.func (.func H) #[] hc],104),(G,cs,61),(K,#[Aa Ab (k:Nat)],3)] W'->S W'):=Ah λW' cs h=>by
   subst an;exact⟨(Hn (h.b 0)).1.1,(Hn (h.b 0)).1.2,(Me (h.b 4)).1⟩
  clear an;go_upto_region 6 with fail;refine Ao (S:=S) Gw (nk.out _ _ dl.drew) (λhS=>?_);have H2:=dl.drew;have hb:Below W2.heap.size W2 W2.drew:=(Ag _ _).drew
  have AN:=Ah (λ(A:Option Ci) (rs:List Ix) (c nn:Nat) (DT:nn=rs.length) (w':Aj) (de:Below W2.heap.size W2 w') (hr:Jl w' A rs) (hs:∀r∈rs,r∈fr++bk) (D6:rs.length<=100)=>tZ 88 (λ_ _=>rfl) #[.pointer (Af ⟨N2,0,Ae⟩),.pointer (Af ⟨K,0,Ae⟩),.pointer (Af ⟨N1,0,Ae⟩)] (trV (Yb n (num k))) A rs nn c w' DT hr Gu (λr h=>HF.out.lk r (hs r h))
   (λv w9 hv bh=>by
    obtain⟨r,BT,OX⟩:=hv;have hX:=dl.call de;exact lm.out N2 K N1 k w' fm.out hX.below (Me (hX.b 2)).1 (Me (hX.b 4)).1 (Me (hX.b 1)).1 v w9 ⟨r,hs r BT,OX⟩ bh))
  clear lm;generalize W2.drew=X0 at hS H2 hb⊢;refine Hh 0 1 2 3 ?_;refine Hh 4 6 7 8 ?_;have mw:=AN.out FA fr c1 n1 XT.out X0 hb (HF.out.below H2.below).f (λr h=>Gb _ h) HF.out.lf;refine rdy 5 (λK hK=>?_);go_simp;refine mw.mono ?_;clear mw;rintro ee X1 ⟨A1,r1,rfl,gn,zq,hks1,hcp1,hnw1,ac⟩;rw[<-XT.out];have H3:=H2.call ac;have hX0:W2.heap.size<=X0.heap.size:=hb.size;have hb:=hb.trans (ac.mono hb.size);refine hK.o (nk.out _ _ H3) (λhS=>?_);clear hK K ac H2;have MA:=AN.out BA bk c2 n2 TW.out X1 hb (HF.out.below H3.below).b (λr h=>List.mem_append_right _ h) HF.out.lb;clear AN;refine rdy 9 (λK hK=>?_);go_simp;refine MA.mono ?_;clear MA;rintro ee X2 ⟨A2,r2,rfl,oa,IF,hks2,hcp2,hnw2,ac⟩;rw[<-TW.out];have H4:=H3.call ac;have zq:=zq.below ac;have hX1:W2.heap.size<=X1.heap.size:=hb.size;have hb:=hb.trans (ac.mono hb.size);refine hK.o (nk.out _ _ H4) (λhS=>?_);clear hK K ac H3;refine Qp 10 11 ?_;have hg:=H4.b 3;have z0:=Tl hg (k*2);have z1:=Tl hg (k*2+1)
  have y0:X2.cell? ⟨G,k*2,Ae⟩=Af (Ad Ae 0 0):=by
   rw[By _ _ _ _ _ _ hg];have:=sX (fs:=fs) (m:=m) (k:=k) (j:=k*2) (oHx fm.out);rw[Gz Gu]at this;simpa using this
  have y1:X2.cell? ⟨G,k*2+1,Ae⟩=Af (Ad Ae 0 0):=by
   rw[By _ _ _ _ _ _ hg];have:=sX (fs:=fs) (m:=m) (k:=k) (j:=k*2+1) (oHx fm.out);rw[Gz Gu]at this;simpa using this
  have I':G<M:=HGM.out.1;have hP0:FoP M fr bk (Yb n (num k)) X2 ⟨A1,n1,r1,A2,n2,r2⟩:=⟨⟨zq,IF⟩,hnw1.le (Br ZN hX0),hnw2.le (Br ZN hX1),hks1,hks2,gn,oa,λx hx=>(List.mem_append.1 hx).elim (hcp1 x) (hcp2 x)⟩;have vt:=(hP0.set I' (j:=k*2) (v:= Ad A1 n1 n1)).set I' (j:=k*2+1) (v:= Ad A2 n2 n2);have H5:=(H4.set 3 (k*2) rfl (Ad A1 n1 n1)).set 3 (k*2+1) rfl (Ad A2 n2 n2);have e5:=Bg3 fs m k ⟨A1,n1,r1,A2,n2,r2⟩;unfold FoR.h1 FoR.h2 at e5;dsimp only at e5;rw[gn,oa,<-XT.out,<-TW.out]at e5
  try dsimp only[Cf,Cg]at H5
  rw[e5]at H5;have R8:=nk.out _ _ H5
  have IV:Hid (∃fs,Bx w [(N,#[Ad FA n1 c1,Ad BA n2 c2],61),(N1,#[Aa Ab (n:Nat)],3),(N2,#[.func (.func H) #[] hc],104),(G,(foC fs m (k+1)).toArray,61)] ((X2.setCell ⟨G,k*2,Ae⟩ (Ad A1 n1 n1)).setCell ⟨G,k*2+1,Ae⟩ (Ad A2 n2 n2))/\M<=((X2.setCell ⟨G,k*2,Ae⟩ (Ad A1 n1 n1)).setCell ⟨G,k*2+1,Ae⟩ (Ad A2 n2 n2)).heap.size/\∀i,i<k+1->FoP M fr bk (Yb n (num i)) ((X2.setCell ⟨G,k*2,Ae⟩ (Ad A1 n1 n1)).setCell ⟨G,k*2+1,Ae⟩ (Ad A2 n2 n2)) (fs i)):=Ah ⟨_,H5.upto 4,by have:=hb.size;simp;omega,λi hi=>by
   unfold By0;by_cases e:i=k
   ·subst e;rw[Hd rfl];exact vt
   ·rw[Gz e];exact(((JZ.out i Gu).below hb).set I' (j:=k*2) (v:= Ad A1 n1 n1)).set I' (j:=k*2+1) (v:= Ad A2 n2 n2)⟩
  clear hP0 vt H5 e5 H4 hg zq IF hks1 hks2 hcp1 hcp2 hnw1 hnw2 gn oa hX0 hX1 I';refine rdy 12 (λK hK=>?_);go_simp;refine hK.o R8 (λhS=>?_);clear hK K;refine An Gw ?_ _;go_wp2
  go_roundw
  case rel=>exact⟨k+1,fm.out,by go_num,IV⟩
  case measure=>simp[intOf];have:=fm.out;omega
 ·obtain rfl:k=m:=Gu;have q0:¬(k:Int)<(k:Int):=Gu
  have HM:Hid (Am3 (λk=>Yb n (num k)) fr bk k w (.returned (Ad (Af ⟨G,0,Ae⟩) k k)) wr):=Ah (by
   have h0:=hB.b 3;rw[Bg2]at h0;refine⟨_,(Dr k).map fs,rfl,Gx,⟨⟨nY _,λ_=>⟨G,0,rfl,hB.lt 3 rfl,λi v hi=>?_⟩⟩,(λe=>by cases e),λr hr=>?_⟩,λi hi=>?_,hB.below⟩
   ·rw[Bt,By _ _ i _ _ _ h0];simpa using hi
   ·obtain⟨i,hi,rfl⟩:=Dq.1 hr;exact(xm i (Ea.1 hi)).ok
   ·simp only[Bo,Co]at hi;have h:=xm i hi;simp only[Gd,Di];exact⟨h.k1,h.k2,h.l1,h.l2,h.cp⟩)
  clear hB xm HP lm;go_wp2;go_ret;exact HM.out
theorem Ae1 (F:FuncId) (qj:∀(args:Array Ak) (w:Aj),(callFunc F args).run Do w= .ok (.enter F args) w) (dd:Array Ak) (p:Ix->Bool) (A:Option Ci) (l:List Ix) (n c:Nat) (w:Aj) (hn:n=l.length) (h:Jl w A l) (hl:n<=1000000)
  (hf:∀(r:Ix) (w':Aj),r∈l->Below w.heap.size w w'->Al Do F (#[Ad r.A r.ks.length r.c]++dd) w' (Gy (.bool (p r)) w')):
  Al Do 151 #[Ad A n c,.func (.func F) #[] dd] w λe w'=>(∃r:Int,e= .returned (Aa Ab r)/\((l.any p)=decide (0<=r)))/\Below w.heap.size w w':=by
 have dr:=Ah h;have HN:=Ah hn;have CE:=Ah hf;clear h hn hf;go_enter Tryz.func151,Tryz.ntmps151;go_wp2
 go_loopw [5,8] (λ_ i wr=>∃k:Nat,k<=n/\i= Aa Ab k/\Below w.heap.size w wr/\Hid (∀j (hj:j<l.length),j<k->p l[j]=false)) (λ_ i _=>n-(intOf i).toNat)
 case atStart=>exact⟨0,Gu,rfl,Ag _ _,Ah λj _ hj=>absurd hj Gu⟩
 obtain⟨k,hk,rfl,hb,HK⟩:=hrel;by_cases ad:k<n
 ·have bc:k<l.length:=oHx HN.out;obtain⟨bb,o,rfl,cj,c0⟩:=(dr.out.below hb).at' k bc;have q1:(k:Int)<(n:Int):=Gu;have bp:=Ay bc;obtain⟨r,hr⟩:=ey (l[k]);have jq:=Ah hr;rw[hr]at c0 bp;have hC:=CE.out r wr bp hb;obtain⟨ar,zc⟩:=ey (#[Value.slice r.A r.ks.length r.c]++dd);rw[zc]at hC;have HC:=Ah hC;clear hr bp hC;go_wp2_with fail;refine HC.out.mono ?_;rintro e w2 ⟨rfl,aj⟩;have bm:=hb.trans (aj.mono hb.size)
  cases he:p r
  ·have jf:=Ah (λj (hj:j<l.length) (h:j<k+1)=>show p l[j]=false by
    by_cases kj:j=k
    ·subst kj;rw[jq.out];exact he
    ·exact HK.out j hj Gu)
   go_wp2;exact⟨⟨k+1,Gu,by go_num,bm,jf⟩,by simp[intOf];omega⟩
  ·have HA:Hid ((l.any p)=true):=Ah (by rw[Ev];exact⟨l[k],Ay _,by rw[jq.out];exact he⟩);go_wp2;go_ret;exact⟨⟨k,rfl,by rw[HA.out];simp⟩,bm⟩
 ·have q1:¬(k:Int)<(n:Int):=Gu
  have HA:Hid ((l.any p)=false):=Ah (by
   rw[Dt];intro x hx;obtain⟨j,hj,rfl⟩:=Be.1 hx;simpa using HK.out j hj (oHx HN.out))
  go_wp2;go_ret;exact⟨⟨-1,rfl,by rw[HA.out];rfl⟩,hb⟩
theorem Aa9 (F:FuncId) (qj:∀(args:Array Ak) (w:Aj),(callFunc F args).run Do w= .ok (.enter F args) w) (dd:Array Ak) (p:Ix->Bool) (A:Option Ci) (l:List Ix) (n c:Nat) (w:Aj) (hn:n=l.length) (h:Jl w A l) (hl:n<=1000000)
  (hf:∀(r:Ix) (w':Aj),r∈l->Below w.heap.size w w'->Al Do F (#[Ad r.A r.ks.length r.c]++dd) w' (Gy (.bool (p r)) w')):
  Al Do 91 #[Ad A n c,.func (.func F) #[] dd] w (Gy (.bool (l.any p)) w):=by
 have HC:=Ah (Ae1 F qj dd p A l n c w hn h hl hf);generalize l.any p=R at HC⊢;clear hn h hl hf qj;go_enter Tryz.func91,Tryz.ntmps91;go_wp2_with fail;refine HC.out.mono ?_;rintro e w2 ⟨⟨r,rfl,hr⟩,hb⟩;go_wp2;go_ret;exact⟨by rw[hr];rfl,hb⟩
theorem oP (F:FuncId) (qj:∀(args:Array Ak) (w:Aj),(callFunc F args).run Do w= .ok (.enter F args) w) (dd:Array Ak) (p:FoR->Bool) (A:Option Ci) (l:List FoR) (n c:Nat) (w:Aj) (hn:n=l.length) (h:Un w A l) (hl:n<=1000000)
  (hf:∀(r:FoR) (w':Aj),r∈l->Below w.heap.size w w'->Al Do F (#[.agg #[r.h1,r.h2]]++dd) w' (Gy (.bool (p r)) w')):
  Al Do 90 #[Ad A n c,.func (.func F) #[] dd] w λe w'=>(∃r:Int,e= .returned (Aa Ab r)/\((l.any p)=decide (0<=r)))/\Below w.heap.size w w':=by
 have dr:=Ah h;have HN:=Ah hn;have CE:=Ah hf;clear h hn hf;go_enter Tryz.func90,Tryz.ntmps90;go_wp2
 go_loopw [5,8] (λ_ i wr=>∃k:Nat,k<=n/\i= Aa Ab k/\Below w.heap.size w wr/\Hid (∀j (hj:j<l.length),j<k->p l[j]=false)) (λ_ i _=>n-(intOf i).toNat)
 case atStart=>exact⟨0,Gu,rfl,Ag _ _,Ah λj _ hj=>absurd hj Gu⟩
 obtain⟨k,hk,rfl,hb,HK⟩:=hrel;by_cases ad:k<n
 ·have bc:k<l.length:=oHx HN.out;obtain⟨bb,o,rfl,cj,c0,c1⟩:=(dr.out.below hb).at' k bc;have q1:(k:Int)<(n:Int):=Gu;have bp:=Ay bc;obtain⟨r,hr⟩:=ey (l[k]);have jq:=Ah hr;rw[hr]at c0 c1 bp;have hC:=CE.out r wr bp hb;unfold FoR.h1 FoR.h2 at hC;unfold FoR.h1 at c0;unfold FoR.h2 at c1;obtain⟨ar,zc⟩:=ey (#[Value.agg #[Ad r.FA r.fr.length r.c1,Ad r.BA r.bk.length r.c2]]++dd);rw[zc]at hC;have HC:=Ah hC;clear hr bp hC;go_wp2_with fail;refine HC.out.mono ?_;rintro e w2 ⟨rfl,aj⟩;have bm:=hb.trans (aj.mono hb.size)
  cases he:p r
  ·have jf:=Ah (λj (hj:j<l.length) (h:j<k+1)=>show p l[j]=false by
    by_cases kj:j=k
    ·subst kj;rw[jq.out];exact he
    ·exact HK.out j hj Gu)
   go_wp2;exact⟨⟨k+1,Gu,by go_num,bm,jf⟩,by simp[intOf];omega⟩
  ·have HA:Hid ((l.any p)=true):=Ah (by rw[Ev];exact⟨l[k],Ay _,by rw[jq.out];exact he⟩);go_wp2;go_ret;exact⟨⟨k,rfl,by rw[HA.out];simp⟩,bm⟩
 ·have q1:¬(k:Int)<(n:Int):=Gu
  have HA:Hid ((l.any p)=false):=Ah (by
   rw[Dt];intro x hx;obtain⟨j,hj,rfl⟩:=Be.1 hx;simpa using HK.out j hj (oHx HN.out))
  go_wp2;go_ret;exact⟨⟨-1,rfl,by rw[HA.out];rfl⟩,hb⟩
theorem mV (F:FuncId) (qj:∀(args:Array Ak) (w:Aj),(callFunc F args).run Do w= .ok (.enter F args) w) (dd:Array Ak) (p:FoR->Bool) (A:Option Ci) (l:List FoR) (n c:Nat) (w:Aj) (hn:n=l.length) (h:Un w A l) (hl:n<=1000000)
  (hf:∀(r:FoR) (w':Aj),r∈l->Below w.heap.size w w'->Al Do F (#[.agg #[r.h1,r.h2]]++dd) w' (Gy (.bool (p r)) w')):
  Al Do 43 #[Ad A n c,.func (.func F) #[] dd] w (Gy (.bool (l.any p)) w):=by
 have HC:=Ah (oP F qj dd p A l n c w hn h hl hf);generalize l.any p=R at HC⊢;clear hn h hl hf qj;go_enter Tryz.func43,Tryz.ntmps43;go_wp2_with fail;refine HC.out.mono ?_;rintro e w2 ⟨⟨r,rfl,hr⟩,hb⟩;go_wp2;go_ret;exact⟨by rw[hr];rfl,hb⟩
theorem Aq4 (a n c P:Nat) (A:Option Ci) (w:Aj) (hP:w.cell? ⟨P,0,Ae⟩=Af (Aa Ab (a:Nat))):
  Al Do 92 #[Ad A n c,.pointer (Af ⟨P,0,Ae⟩)] w (Gy (.bool (decide (n≠a))) w):=by
 by_cases e:n=a
 ·subst e;go_enter Tryz.func92,Tryz.ntmps92;go_wp2;go_ret;exact⟨Gx,Ag _ _⟩
 ·have q0:((n:Int) != (a:Int))=true:=Hu;have q1:¬(n:Int)=(a:Int):=Gu;have hd:decide (n≠a)=true:=Lb e;rw[hd];clear hd e;go_enter Tryz.func92,Tryz.ntmps92;go_wp2;go_ret;exact⟨by simp[q1],Ag _ _⟩
def On (a b:Nat) (rs:List Ix):Bool:=decide (rs.length=b)&& !(rs.any λr=>decide (r.ks.length≠a))
theorem Qx {a b:Nat} {rs:List Ix} (h:On a b rs=true):rs.length=b/\∀r∈rs,r.ks.length=a:=by
 unfold On at h;simp only[El,Lg,Bool.not_eq_true',Dt]at h;exact⟨h.1,λr hr=>by simpa using h.2 r hr⟩
theorem nK (a b:Nat) (A:Option Ci) (rs:List Ix) (n c:Nat) (w:Aj) (hn:n=rs.length) (h:Jl w A rs) (hl:n<=1000000):
  Al Do 45 #[Ad A n c,.agg #[(a:Nat),(b:Nat)]] w (Gy (.bool (On a b rs)) w):=by
 have IS:=Ah (λ(P:Nat) (w':Aj) (hb:Below w.heap.size w w') (hP:w'.cell? ⟨P,0,Ae⟩=Af (Aa Ab (a:Nat)))=>Aa9 92 (λ_ _=>rfl) #[.pointer (Af ⟨P,0,Ae⟩)] (λr=>decide (r.ks.length≠a)) A rs n c w' hn (h.below hb) hl (λr w2 _ aj=>Aq4 a r.ks.length r.c P r.A w2 (Gv aj hP)));have H:=(Bx.start w).new #[(a:Nat),(b:Nat)] 25 rfl;unfold On;rw[<-hn];obtain⟨R,hR⟩:=ey ((rs.any λr=>decide (r.ks.length≠a)));rw[hR]at IS⊢;clear hn h hR;by_cases e:n=b
 ·subst e;rw[Lb rfl,Bool.true_and];go_enter Tryz.func45,Tryz.ntmps45;go_upto_region 1 with fail;obtain⟨P,hP⟩:=ey w.heap.size;rw[hP]at H⊢;generalize w.alloc _=W at H⊢;clear hP;obtain⟨⟨a0,a1⟩,-⟩:=Hn (H.b 0);go_wp2_with fail;refine(IS.out P _ H.below a0).mono ?_;rintro ee w2 ⟨rfl,hb⟩;have cj:=(H.call hb).below;clear a0 a1 hb H IS;go_wp2;go_ret;exact⟨rfl,cj⟩
 ·have q1:¬(n:Int)=(b:Int):=Gu;rw[Ly e,Bool.false_and];clear e;go_enter Tryz.func45,Tryz.ntmps45;go_upto_region 1 with fail;obtain⟨P,hP⟩:=ey w.heap.size;rw[hP]at H⊢;generalize w.alloc _=W at H⊢;clear hP;obtain⟨⟨a0,a1⟩,-⟩:=Hn (H.b 0);go_wp2;go_ret;exact⟨by simp[q1],H.below⟩
theorem Al3 (a b P:Nat) (r:FoR) (w:Aj) (h:rI w r) (l1:r.fr.length<=1000) (l2:r.bk.length<=1000) (hP:w.cell? ⟨P,0,Ae⟩=Af (Aa Ab (a:Nat))) (vt:w.cell? ⟨P,1,Ae⟩=Af (Aa Ab (b:Nat))) (JI:P<w.heap.size):
  Al Do 44 (#[.agg #[r.h1,r.h2]]++ #[.pointer (Af ⟨P,0,Ae⟩)]) w (Gy (.bool (!On a b r.fr|| !On a b r.bk)) w):=by
 obtain⟨FA,c1,fr,BA,c2,bk⟩:=r;unfold FoR.h1 FoR.h2;dsimp only at l1 l2⊢;obtain⟨n1,ff⟩:=ey fr.length;obtain⟨n2,kr⟩:=ey bk.length;have H1:=Ah (λ(w':Aj) (hb:Below w.heap.size w w')=>nK a b FA fr n1 c1 w' ff.symm (h.f.below hb) Gu);have H2:=Ah (λ(w':Aj) (hb:Below w.heap.size w w')=>nK a b BA bk n2 c2 w' kr.symm (h.b.below hb) Gu);have HP:=Ah (λ(w':Aj) (hb:Below w.heap.size w w')=>Cm (Gv hb hP) (Gv hb vt));rw[ff,kr];obtain⟨f1,ze⟩:=ey (On a b fr);obtain⟨f2,zf⟩:=ey (On a b bk);rw[ze]at H1⊢;rw[zf]at H2⊢;have H:=(Bx.start w).new #[Ad FA n1 c1,Ad BA n2 c2] 61 rfl;clear h l1 l2 hP vt ff kr ze zf;have e0: #[Value.agg #[Ad FA n1 c1,Ad BA n2 c2]]++ #[Value.pointer (Af ⟨P,0,Ae⟩)]= #[.agg #[Ad FA n1 c1,Ad BA n2 c2],.pointer (Af ⟨P,0,Ae⟩)]:=rfl;rw[e0];clear e0;go_enter Tryz.func44,Tryz.ntmps44;go_upto_region 1 with fail;generalize w.alloc _=W at H⊢;obtain⟨⟨a0,a1⟩,-⟩:=Hn (H.b 0);obtain⟨p0,p1⟩:=HP.out _ H.below;go_wp2_with fail;refine(H1.out _ H.below).mono ?_;rintro ee w2 ⟨rfl,hb⟩;have H3:=H.call hb;clear a0 a1 p0 p1 hb H H1
 cases f1
 ·go_wp2;go_ret;exact⟨rfl,H3.below⟩
 ·obtain⟨⟨a0,a1⟩,-⟩:=Hn (H3.b 0);obtain⟨p0,p1⟩:=HP.out _ H3.below;go_wp2_with fail;refine(H2.out _ H3.below).mono ?_;rintro ee w4 ⟨rfl,hb⟩;have cj:=(H3.call hb).below;clear a0 a1 p0 p1 hb H3 H2;go_wp2;go_ret;exact⟨Gx,cj⟩
def Nk (pl:List Pg):List Ak:=pl.flatMap pgV
theorem Tj (l:List Pg):(Nk l).length=l.length*4:=by
 induction l with
 |nil=>rfl
 |cons x r ih=>
  unfold Nk at ih⊢;rw[Bf,Bh,ih,En];show 4+r.length*4=_;omega
theorem Aw6 (l:List Pg):∀(j:Nat) (hj:j<l.length),(Nk l)[j*4]? =Af (Aa Ab (l[j].x:Nat))/\(Nk l)[j*4+1]? =Af (Aa Ab (l[j].y:Nat))/\(Nk l)[j*4+2]? =Af (.bool l[j].bk)/\(Nk l)[j*4+3]? =Af (.bool l[j].dn):=by
 induction l with
 |nil=>intro j hj;exact absurd hj (Nat.not_lt_zero _)
 |cons p r ih=>
  intro j hj
  cases j with
  |zero=>exact⟨rfl,rfl,rfl,rfl⟩
  |succ j=>
   have:=ih j (by simpa using hj);rw[show(j+1)*4=j*4+4 by omega];exact this
theorem Aw7 (a:Nat) (m:List Mv) (ids:List Nat):pgs a m ids=Nk ((Dr (2*ids.length)).map (pgK a m ids)):=by
 have key:∀(ids:List Nat),(Dr (2*ids.length)).map (pgK a m ids)=ids.flatMap λi=>[pgA a m i,(pgA a m i).flip]:=by
  intro ids
  induction ids with
  |nil=>rfl
  |cons i r ih=>
   rw[Bf,<-ih,En,show 2*(r.length+1)=2*r.length+1+1 by omega,List.range_succ_eq_map,Er,List.range_succ_eq_map,Er,Er,Fs,Fs];simp only[Ep,Et]
   congr 1
   congr 1
   apply List.map_congr_left;intro k _;unfold pgK;have e1:(k+1+1)%2=k%2:=Gu;have e2:(k+1+1)/2=k/2+1:=Gu;simp only[Function.comp,e1,e2];rfl
 rw[key];unfold pgs Nk pgI;rw[List.flatMap_assoc];rfl
theorem Bw6 {w:Aj} {A:Option Ci} {l:List Pg} {n:Nat} (h:Rd w A 4 n (Nk l)) {j:Nat} (hj:j<l.length):∃b o,A=Af ⟨b,o,Ae⟩/\b<w.heap.size/\w.cell? ⟨b,o+j*4,Ae⟩=Af (Aa Ab (l[j].x:Nat))/\w.cell? ⟨b,o+j*4+1,Ae⟩=Af (Aa Ab (l[j].y:Nat))/\w.cell? ⟨b,o+j*4+2,Ae⟩=Af (.bool l[j].bk)/\w.cell? ⟨b,o+j*4+3,Ae⟩=Af (.bool l[j].dn):=by
 have hl:=h.1;rw[Tj]at hl;obtain⟨b,o,e,hb,hc⟩:=h.2 Gu;obtain⟨g1,g2,g3,g4⟩:=Aw6 l j hj;exact⟨b,o,e,hb,hc _ _ g1,hc _ _ g2,hc _ _ g3,hc _ _ g4⟩
def Bw9 (p:Pg) (v:Int):Int:=if p.dn then Ab.wrap (-v)else v
def rdV (r:FoR) (p:Pg):Int:=Bw9 p (fmL (ksL r.fr) (ksL r.bk) p)
theorem Bz8 {r:FoR} {a b:Nat} {p:Pg} (h1:On a b r.fr=true) (h2:On a b r.bk=true) (hx:p.x<a) (hy:p.y<b):∃(y1:p.y<r.fr.length) (y2:p.y<r.bk.length) (x1:p.x<r.fr[p.y].ks.length) (x2:a-1-p.x<r.bk[p.y].ks.length),r.fr[p.y].ks.length=a/\r.bk[p.y].ks.length=a/\fmL (ksL r.fr) (ksL r.bk) p=if p.bk then r.bk[p.y].ks[a-1-p.x]else r.fr[p.y].ks[p.x]:=by
 obtain⟨l1,k1⟩:=Qx h1;obtain⟨l2,k2⟩:=Qx h2;have y1:p.y<r.fr.length:=Gu;have y2:p.y<r.bk.length:=Gu;have w1:=k1 _ (Ay y1);have w2:=k2 _ (Ay y2);refine⟨y1,y2,Gu,Gu,w1,w2,?_⟩;unfold fmL;rw[dD y1,dD y2,xV (l:=r.fr[p.y].ks) (x:=p.x) Gu,xV (l:=r.bk[p.y].ks) (x:=r.bk[p.y].ks.length-1-p.x) Gu];simp only[w2]
theorem Bw4 {w:Aj} {b b' e sz n:Nat} {v:Ak} {xs:List Ak} (h:w.ownsRow b e sz v n xs) (hb:b'<=b):w.ownsRow b' e sz v n xs:=
 ⟨h.1,h.2.imp id λ⟨g,cap,cur,r1,r2,r⟩=>⟨g,cap,cur,r1,Br hb r2,r⟩⟩
theorem iY (a b:Nat) (ha:a<=100) (r0:FoR) (h1:On a b r0.fr=true) (h2:On a b r0.bk=true) (pl:List Pg) (dw:∀p∈pl,p.x<a/\p.y<b) (PA:Option Ci) (n pc P:Nat) (w:Aj) (hr:rI w r0) (hn:n=pl.length) (jv:n<=100000) (hp:Rd w PA 4 n (Nk pl)) (hP:w.cell? ⟨P,0,Ae⟩=Af (Aa Ab (a:Nat))) (JI:P<w.heap.size):
  Al Do 46 #[.agg #[r0.h1,r0.h2],Ad PA n pc,.pointer (Af ⟨P,0,Ae⟩)] w (Nv 3 1 n (It (pl.map (rdV r0))) w):=by
 have HR:=Ah hr;have HN:=Ah hn;have CL:=Ah hp;have lm:=Ah dw;have HFM:=Ah (λ(p:Pg) (hx:p.x<a) (hy:p.y<b)=>Bz8 h1 h2 hx hy);have HP:=Ah (λ(w':Aj) (hb:Below w.heap.size w w')=>Gv hb hP);have xx:r0.fr.length=b/\r0.bk.length=b:=⟨(Qx h1).1,(Qx h2).1⟩;unfold FoR.h1 FoR.h2;rw[xx.1,xx.2];have H:=(Bx.start w).new #[Ad r0.FA b r0.c1,Ad r0.BA b r0.c2] 61 rfl;clear hr hn hp dw h1 h2 hP xx;go_enter Tryz.func46,Tryz.ntmps46;go_upto_region 1 with fail;obtain⟨N,hN⟩:=ez w.heap.size;rw[<-hN]at H⊢;have db:=Ah hN;clear hN;generalize w.alloc _=W at H⊢;obtain⟨M,hM⟩:=ey W.heap.size;have sq:Hid (w.heap.size<=M):=Ah (hM▸H.below.size);have JG:N<M:=hM▸H.lt 0 rfl
 have jp:Hid (∀x∈[(N,#[Value.slice r0.FA b r0.c1,Ad r0.BA b r0.c2],61)],x.1<M):=Ah (by
  intro x hx;simp only[Bk,Du,or_false]at hx;subst hx;exact JG)
 have tw:Hid (Bx w [(N,#[Ad r0.FA b r0.c1,Ad r0.BA b r0.c2],61)] W/\W.ownsRow M 3 1 (Ad Ae 0 0) 0 (It ((pl.take 0).map (rdV r0)))):=Ah ⟨H,⟨rfl,.inl ⟨rfl,rfl⟩⟩⟩;have QP:M<=W.heap.size:=Nat.le_of_eq hM.symm;clear H hM JG;go_wp2
 go_loopw [6,12] (λs6 TF wr=>∃(k c:Nat) (B:Option Ci),k<=n/\TF= Aa Ab k/\s6= Ad B k c/\M<=wr.heap.size/\Hid (Bx w [(N,#[Ad r0.FA b r0.c1,Ad r0.BA b r0.c2],61)] wr/\wr.ownsRow M 3 1 (Ad B k c) k (It ((pl.take k).map (rdV r0))))) (λ_ TF _=>n-(intOf TF).toNat)
 case atStart=>exact⟨0,0,Ae,Gk _,rfl,rfl,QP,tw⟩
 obtain⟨k,c,B,hk,rfl,rfl,BH,HB⟩:=hrel;clear tw QP;by_cases ad:k<n
 ·have q0:(k:Int)<(n:Int):=Gu;have fm:=Ah ad;have bc:k<pl.length:=oHx HN.out;have H:=HB.out.1;obtain⟨pb,po,rfl,BS,d0,d1,d2,d3⟩:=Bw6 (CL.out.below H.below) bc;obtain⟨hx,hy⟩:=lm.out pl[k] (Ay _);have fg:pl.take (k+1)=pl.take k++[pl[k]]:=Bc bc;obtain⟨p,hpp⟩:=ey (pl[k]);rw[hpp]at d0 d1 d2 d3 hx hy fg;obtain⟨y1,y2,x1,x2,w1,w2,GS⟩:=HFM.out p hx hy;obtain⟨fb,fo,eA,OP,f0⟩:=(HR.out.f.below H.below).at' p.y y1;obtain⟨gb,go',eB,xp,g0⟩:=(HR.out.b.below H.below).at' p.y y2;obtain⟨f2b,f2o,e2A,zf,f1⟩:=((HR.out.f.below H.below).row _ (Ay y1)).at' p.x x1;obtain⟨g2b,g2o,e2B,du,g1⟩:=((HR.out.b.below H.below).row _ (Ay y2)).at' (a-1-p.x) x2;rw[e2A,w1]at f0;rw[e2B,w2]at g0;have oh:=Ah fg;obtain⟨v1,km⟩:=ey (r0.fr[p.y].ks[p.x]);obtain⟨v2,tr⟩:=ey (r0.bk[p.y].ks[a-1-p.x]);rw[km]at f1 GS;rw[tr]at g1 GS;obtain⟨z,hz⟩:=ey (a-1-p.x);rw[hz]at g1
  have DX:rdV r0 p=if p.dn then Ab.wrap (-(if p.bk then v2 else v1))else if p.bk then v2 else v1:=by
   unfold rdV Bw9;rw[GS]
  have q1:(p.y:Int)<(b:Int):=Gu;have q2:(p.x:Int)<(a:Int):=Gu;have q3:(z:Int)<(a:Int):=Gu;have t1:Ab.wrap ((a:Int)-1)=(a:Int)-1:=Ca _ Gu
  have t2:Ab.wrap ((a:Int)-1-(p.x:Int))=(z:Int):=by
   rw[Ca _ Gu];omega
  obtain⟨cA,hcA⟩:=ey (r0.fr[p.y].c);obtain⟨cB,ub⟩:=ey (r0.bk[p.y].c);rw[hcA]at f0;rw[ub]at g0;have HAB:=Ah (Cm eA eB);obtain⟨px,py,pbk,pdn⟩:=p;dsimp only at d0 d1 d2 d3 f0 g0 f1 g1 DX q1 q2 q3 t1 t2;clear hpp fg GS hx hy y1 y2 x1 x2 w1 w2 e2A e2B km tr hz bc BS OP xp zf du hcA ub eA eB ad;obtain⟨Q,hQ⟩:=ey wr.heap.size;have cg:Below wr.heap.size wr (wr.alloc (.cells #[(px:Nat),(py:Nat),.bool pbk,.bool pdn] 108)):=(Ag _ _).alloc (Am _) _;have H2:=H.new #[(px:Nat),(py:Nat),.bool pbk,.bool pdn] 108 hQ;have HB:=Ah (Cm (H.call cg) (Vl HB.out.2 cg));have f0:=Gv cg f0;have f1:=Gv cg f1;have g0:=Gv cg g0;have g1:=Gv cg g1;have BH:M<=(wr.alloc (.cells #[(px:Nat),(py:Nat),.bool pbk,.bool pdn] 108)).heap.size:=Br BH cg.size;clear cg;go_upto_region 5 with fail
  try rw[hQ]
  generalize wr.alloc _=W2 at H2 HB f0 f1 g0 g1 BH⊢;clear hQ d0 d1 d2 d3 H;have p0:=HP.out _ H2.below;obtain⟨⟨a0,a1⟩,-⟩:=Hn (H2.b 0);rw[HAB.out.1]at a0;rw[HAB.out.2]at a1;obtain⟨⟨c0,c1,c2,c3⟩,-⟩:=Jm (H2.b 1);have H2:=H2.upto 1
  cases pbk with
  |false=>
   simp only[Ej,if_false]at DX;clear g0 g1 a1 t1 t2
   go_quiet (fail)
   cases pdn with
   |false=>
    have HU:Hid (rdV r0 ⟨px,py,false,false⟩=v1):=Ah DX;have H2:=H2.drewN nq;have ex:=Vn (w':=W2.drewN nq) HB.out.2 λ_ _=>rfl;have KR:M<=(W2.drewN nq).heap.size:=BH;obtain⟨A',c',w9,ah,pw,bh,-,RY,-,-,-⟩:=Yk (sl:=38) Dk Ns rfl Ha Ha (W2.drewN nq) M k (Ad B k c) _ ex KR Gu [Aa Ab (v1)] rfl (by simp[Dn])
    have jj:(It ((pl.take k).map (rdV r0)))++[Value.int .i64 (v1)]=It ((pl.take (k+1)).map (rdV r0)):=by
     rw[oh.out,<-HU.out];simp[It]
    rw[jj]at pw;have bg:=Ah ah;have uu:=(H2.keepM (M:=M) (w2:=w9) jp.out sq.out bh);have EJ:=Ah (Cm uu pw);clear ah pw bh jj uu ex KR H2 HB BH
    as_aux_lemma=>
    go_wp2_with (at_builtin;refine As _ rfl _ _ _ _ rfl _ _ rfl rfl _ _ bg.out ?_);go_wp2
    go_roundw
    case rel=>exact⟨k+1,c',A',fm.out,by go_num,rfl,RY,EJ⟩
    case measure=>simp[intOf];have:=fm.out;omega
   |true=>
    obtain⟨u,en⟩:=ey (Ab.wrap (-v1));have HU:Hid (rdV r0 ⟨px,py,false,true⟩=u):=Ah (DX.trans en);have H2:=H2.drewN nq;have ex:=Vn (w':=W2.drewN nq) HB.out.2 λ_ _=>rfl;have KR:M<=(W2.drewN nq).heap.size:=BH;obtain⟨A',c',w9,ah,pw,bh,-,RY,-,-,-⟩:=Yk (sl:=38) Dk Ns rfl Ha Ha (W2.drewN nq) M k (Ad B k c) _ ex KR Gu [Aa Ab (u)] rfl (by simp[Dn])
    have jj:(It ((pl.take k).map (rdV r0)))++[Value.int .i64 (u)]=It ((pl.take (k+1)).map (rdV r0)):=by
     rw[oh.out,<-HU.out];simp[It]
    rw[jj]at pw;have bg:=Ah ah;have uu:=(H2.keepM (M:=M) (w2:=w9) jp.out sq.out bh);have EJ:=Ah (Cm uu pw);clear ah pw bh jj uu ex KR H2 HB BH
    as_aux_lemma=>
    go_wp2_with (at_builtin;refine As _ rfl _ _ _ _ rfl _ _ rfl rfl _ _ bg.out ?_);go_wp2
    go_roundw
    case rel=>exact⟨k+1,c',A',fm.out,by go_num,rfl,RY,EJ⟩
    case measure=>simp[intOf];have:=fm.out;omega
  |true=>
   simp only[if_true]at DX
   go_quiet (fail)
   have H2:=H2.drewN nq;have HB:=Ah (Cm (HB.out.1.drewN nq) (Vn (w':=W2.drewN nq) HB.out.2 λ_ _=>rfl));have BH:M<=(W2.drewN nq).heap.size:=BH;have hd:Below W2.heap.size W2 (W2.drewN nq):=Ij (Ag _ _) nq;have g0:=Gv hd g0;have g1:=Gv hd g1;have p0:=Gv hd p0;have a1:=Gv hd a1;have c0:=Gv hd c0;have c1:=Gv hd c1;have c2:=Gv hd c2;have c3:=Gv hd c3;generalize W2.drewN nq=W3 at H2 HB BH g0 g1 p0 a1 c0 c1 c2 c3⊢;clear hd a0 f0 f1;go_upto_region 7 with fail
   go_quiet (fail)
   cases pdn with
   |false=>
    have HU:Hid (rdV r0 ⟨px,py,true,false⟩=v2):=Ah DX;have H2:=H2.drewN nq;have ex:=Vn (w':=W3.drewN nq) HB.out.2 λ_ _=>rfl;have KR:M<=(W3.drewN nq).heap.size:=BH;obtain⟨A',c',w9,ah,pw,bh,-,RY,-,-,-⟩:=Yk (sl:=38) Dk Ns rfl Ha Ha (W3.drewN nq) M k (Ad B k c) _ ex KR Gu [Aa Ab (v2)] rfl (by simp[Dn])
    have jj:(It ((pl.take k).map (rdV r0)))++[Value.int .i64 (v2)]=It ((pl.take (k+1)).map (rdV r0)):=by
     rw[oh.out,<-HU.out];simp[It]
    rw[jj]at pw;have bg:=Ah ah;have uu:=(H2.keepM (M:=M) (w2:=w9) jp.out sq.out bh);have EJ:=Ah (Cm uu pw);clear ah pw bh jj uu ex KR H2 HB BH
    as_aux_lemma=>
    go_wp2_with (at_builtin;refine As _ rfl _ _ _ _ rfl _ _ rfl rfl _ _ bg.out ?_);go_wp2
    go_roundw
    case rel=>exact⟨k+1,c',A',fm.out,by go_num,rfl,RY,EJ⟩
    case measure=>simp[intOf];have:=fm.out;omega
   |true=>
    obtain⟨u,en⟩:=ey (Ab.wrap (-v2));have HU:Hid (rdV r0 ⟨px,py,true,true⟩=u):=Ah (DX.trans en);have H2:=H2.drewN nq;have ex:=Vn (w':=W3.drewN nq) HB.out.2 λ_ _=>rfl;have KR:M<=(W3.drewN nq).heap.size:=BH;obtain⟨A',c',w9,ah,pw,bh,-,RY,-,-,-⟩:=Yk (sl:=38) Dk Ns rfl Ha Ha (W3.drewN nq) M k (Ad B k c) _ ex KR Gu [Aa Ab (u)] rfl (by simp[Dn])
    have jj:(It ((pl.take k).map (rdV r0)))++[Value.int .i64 (u)]=It ((pl.take (k+1)).map (rdV r0)):=by
     rw[oh.out,<-HU.out];simp[It]
    rw[jj]at pw;have bg:=Ah ah;have uu:=(H2.keepM (M:=M) (w2:=w9) jp.out sq.out bh);have EJ:=Ah (Cm uu pw);clear ah pw bh jj uu ex KR H2 HB BH
    as_aux_lemma=>
    go_wp2_with (at_builtin;refine As _ rfl _ _ _ _ rfl _ _ rfl rfl _ _ bg.out ?_);go_wp2
    go_roundw
    case rel=>exact⟨k+1,c',A',fm.out,by go_num,rfl,RY,EJ⟩
    case measure=>simp[intOf];have:=fm.out;omega
 ·obtain rfl:k=n:=Gu;have q0:¬(k:Int)<(k:Int):=Gu
  have HM:Hid (Nv 3 1 k (It (pl.map (rdV r0))) w (.returned (Ad B k c)) wr):=Ah ⟨_,rfl,by
   have:=Bw4 HB.out.2 sq.out;rw[List.take_of_length_le (oHx HN.out)]at this;exact this,HB.out.1.below⟩
  clear HB;go_wp2;go_ret;exact HM.out
end Go.Proofs.YtlgkpdfieaadaaaGreatDoor
namespace Go.Proofs.YtlgkpdfieaadaaaGreatDoor
open Go.RowKit Go.Shelf
attribute [local go_sem] Oper.semAt_some
theorem iX {α:Type} {F:Fence} {n:Nat} {P:Program} {g:Operand} {ps:Array Tmp} {assign body:Code} {Q:Exit->Act->Aj->Prop} {a:Act} {w:Aj}
  (JR:F.round=Ae) (h1:1<=n) {gf:Nat} {lb:Array Ak} (hg:a.eval g= .func (.func gf) #[] lb) (hFg:F.fn gf) (eg:∀args w,(callFunc gf args).run P w= .ok (.enter gf args) w)
  {CW:α->Array Ak} {Kp:Aj->Aj->Prop} {S Sp:List α->Prop} {N:Nat} {w0:Aj} (I0:SeqStopsK F (n-1) P gf lb CW Kp S Sp N w0)
  (hKt:∀{A B C:Aj},Kp A B->Kp B C->Kp A C) (R3:∀(W:Aj) (l:Nat) (o o':Obj),w.heap.size<=l->W.heap[l]? =Af o->o.isCells=false->o.isWalk=false->Kp W (W.putObj l o')) (lw:Below w0.heap.size w0 w) (lh:∀x,(CW x).size=ps.size)
  (I:List α->Aj->Prop) (hI:OwnFrom w.heap.size I) (h0:I [] w) (hIs:∀pre W,I pre W->w.heap.size<=W.heap.size) (hKa:∀pre (W:Aj) (o:Obj),I pre W->Kp W (W.alloc o)) (C:α->Array Ak) (t:Cj) (T:α->Nat->Array Ak)
  (xj:∀(l:Nat) (x:α) (W:Aj) (B:Nat) (K:Act->Aj->Prop),W.heap.size=B->K {tmps:=T x B,defers:=[]} (W.alloc (.cells (C x) t))->
   assign.wpIn (F.inRound l) (n-1-1) P (Exit.then K (λ_ _ _=>False)) {tmps:=(ps.zip (CW x)).foldl (λt (p,v)=>t.setIfInBounds p v) a.tmps,defers:=[]} W)
  (LF:∀(l:Nat) (pre:List α) (x:α) (B:Nat) (W:Aj),w.heap.size<=B->W.heap[B]? =Af (.cells (C x) t (0,0))->I pre W->pre.length<N->body.wpIn (F.inRound l) (n-1-1) P (ownPostG w.heap.size Kp I (λ_ _ _=>False) (pre++[x]) W) {tmps:=T x B,defers:=[]} W)
  (LL:∀(D:Nat) (xs:List α) (W:Aj),w.heap.size<=D->S xs->I xs W->W.heap[D]? =Af (.deferred (Af []))->Q .normal {a with defers:={target:= .collected D,args:=#[]}::a.defers} W):
  (Code.rangeFunc g ps assign body).wpIn F n P Q a w:=
 wpIn_rangeFunc_ownH JR h1 hg hFg eg I0 hKt R3 lw lh I (λ_ _ _=>False) hI (λ_ _ _ _ _ hs _ _=>hs) h0
  (λx a' W=>∃B,w.heap.size<=B/\W.heap[B]? =Af (.cells (C x) t (0,0))/\a'={tmps:=T x B,defers:=[]})
  (λx a' _ A' B' row hs hg hr=>by
   obtain⟨Bx,h1,h2,h3⟩:=hs;refine⟨Bx,h1,(hg.block Bx (Au.1 h2).1 λe=>?_).trans h2,h3⟩;obtain⟨_,o,ho,hc⟩:=hr Bx e.symm;rw[h2]at ho
   cases ho;cases hc)
  (λl pre x W K hi hK=>xj l x W _ K rfl (hK _ _ ((KeepsOthers.alloc W _).from _) (hKa pre W _ hi) (hI.alloc _ hi) ⟨W.heap.size,hIs pre W hi,Bz W _,rfl⟩))
  (λl pre x a' W _ _ hi ha hN=>by
   obtain⟨B,hB,hc,rfl⟩:=ha;exact LF l pre x B W hB hc hi hN)
  LL (λ_ _ _ _ _ _ h _=>h.elim)
abbrev FoA (L:List FoR):={r:FoR//r∈L}
def foE {L:List FoR} (x:FoA L):Array Ak:=#[.agg #[x.1.h1,x.1.h2]]
theorem Be1 {L:List FoR} {k:Nat} (hk:k<L.attach.length) (hl:k<L.length):(L.attach[k]).1=L[k]:=Gx
theorem Ar0 (L:List FoR) (hlen:L.length<=100000) (l n Bs n₀ cap:Nat) (hn:1<=n) (A:Option Ci) (J Jx:List (FoA L)->Aj->Prop) (W:Aj)
  (hJ:AbidesFrom W.heap.size J)
  (hY:∀pre x W1,J pre W1->pre.length<L.length->YieldAt Cu (n-1) Do l (foE x) W1 λe W'=>
   (e= .returned (.bool true)/\J (pre++[x]) W'/\Below n₀ W1 W')∨(e= .returned (.bool false)/\Jx (pre++[x]) W'))
  (UT:W.cell? ⟨Bs,0,Ae⟩=Af (Ad A L.length cap)) (vy:n₀<=W.heap.size) (hc:∀j (hj:j<L.length),∃b o,A=Af ⟨b,o,Ae⟩/\b<n₀/\W.cell? ⟨b,o+j*2,Ae⟩=Af L[j].h1/\W.cell? ⟨b,o+j*2+1,Ae⟩=Af L[j].h2) (h0:J [] W):
  CallsIn Cu n Do 93 #[.func (.yield l) #[] #[],.pointer (Af ⟨Bs,0,Ae⟩)] W λe W'=>(∃v,e= .returned v)/\
   ((∃ys,ys=L.attach/\J ys W')∨(∃pre,True/\Jx pre W')):=by
 refine callsIn_of_wp Tryz.func93 rfl trivial ?_ rfl;simp only[Tryz.ntmps93,Fp,En,Cq,Nat.reduceAdd,Nat.reduceSub,Da,Cz,List.push_toArray,Dd,Et,Ep];have jl:L.attach.length=L.length:=List.length_attach;have hag:∀k (hk:k<L.attach.length) (hl:k<L.length),(L.attach[k]).1=L[k]:=λk hk hl=>Be1 hk hl;obtain⟨zs,NG⟩:=ey L.attach;rw[NG]at jl hag⊢;obtain⟨N,hN⟩:=ey L.length;have HC:=Ah hc;have HAG:=Ah hag;have db:=Ah hN;rw[hN]at hlen hY jl UT;clear NG hag hc hN
 gi_wp2
 gi_loopw [7] (λi wr=>∃k:Nat,k<=N/\i= Aa Ab k/\J (zs.take k) wr/\n₀<=wr.heap.size/\Below n₀ W wr)
  (λi _=>N-(intOf i).toNat)
 case atStart=>exact⟨0,Gk _,rfl,h0,vy,Ag _ _⟩
 obtain⟨k,hk,rfl,R0,hnw,fg⟩:=hrel;by_cases ad:k<N
 ·have U6:k<L.length:=oHx db.out;obtain⟨b,o,rfl,hb,c0,c1⟩:=HC.out k U6;have c0:=(fg.cell (p:=⟨b,o+k*2,Ae⟩) hb).trans c0;have c1:=(fg.cell (p:=⟨b,o+k*2+1,Ae⟩) hb).trans c1;have q0:(k:Int)<(N:Int):=Gu;have LY:k<zs.length:=Gu;have WM:=HAG.out k LY U6;have ra:zs.take k++[zs[k]]=zs.take (k+1):=(Bc LY).symm;have HY:=Ah (λ(W1:Aj) (h:J (zs.take k) W1)=>hY _ zs[k] W1 h (by rw[Bm];omega));obtain⟨x,hx⟩:=ey (zs[k]);rw[hx]at WM ra HY;unfold foE at HY;rw[WM]at HY;obtain⟨r,hr⟩:=ey (L[k]);rw[hr]at c0 c1 HY;unfold FoR.h1 FoR.h2 at HY;unfold FoR.h1 at c0;unfold FoR.h2 at c1;have GH:=hJ _ _ _ Ae R0 (World.grownBy_alloc wr (.cells #[Ad r.FA r.fr.length r.c1,Ad r.BA r.bk.length r.c2] 61) Ae) (by intro r e;cases e);obtain⟨fn,tmps,assign,body,hy,hR⟩:=HY.out _ GH;clear hr hx WM
  gi_wp2
  refine hR.mono ?_;rintro e W3 (⟨rfl,ER,FD⟩|⟨rfl,uw⟩)
  ·rw[ra]at ER;have de:Below n₀ wr W3:=((Ag n₀ wr).alloc hnw _).trans FD
   gi_wp2
   go_roundw
   case rel=>exact⟨k+1,Gu,by go_num,ER,Br hnw de.size,fg.trans de⟩
   case measure=>simp[intOf];omega
  ·gi_wp2
   refine Ai (results_none rfl _ _ _) rfl ?_;exact⟨⟨_,rfl⟩,.inr ⟨_,trivial,uw⟩⟩
 ·obtain rfl:k=N:=Gu
  gi_wp2
  go_end0
  rw[<-jl,List.take_length]at R0;exact⟨⟨_,rfl⟩,.inl ⟨_,rfl,R0⟩⟩
theorem Ac0 (A:Option Ci) (n c:Nat) (w:Aj):
  Al Do 47 #[Ad A n c] w λe w'=>e= .returned (.func (.func 93) #[] #[.pointer (Af ⟨w.heap.size,0,Ae⟩)])/\w'=w.alloc (.cells #[Ad A n c] 64):=by
 go_enter Tryz.func47,Tryz.ntmps47;go_wp2;go_ret;exact⟨rfl,rfl⟩
theorem nZ (L:List FoR) (hlen:L.length<=100000) (n Bs n₀ cap:Nat) (hn:1<=n) (A:Option Ci) (w:Aj) (UT:Bs<w.heap.size) (vy:n₀<=w.heap.size)
  (hc:w.cell? ⟨Bs,0,Ae⟩=Af (Ad A L.length cap)) (hI:∀j (hj:j<L.length),∃b o,A=Af ⟨b,o,Ae⟩/\b<n₀/\w.cell? ⟨b,o+j*2,Ae⟩=Af L[j].h1/\w.cell? ⟨b,o+j*2+1,Ae⟩=Af L[j].h2):
  SeqStopsK Cu n Do 93 #[.pointer (Af ⟨Bs,0,Ae⟩)] (foE (L:=L)) (Below n₀) (λys=>ys=L.attach) (λ_=>True) L.length w:=λl J Jx W hW hJ _ hY h0=>
 Ar0 L hlen l n Bs n₀ cap hn A J Jx W hJ hY ((hW.cell (p:=⟨Bs,0,Ae⟩) UT).trans hc) (Br vy hW.size) (λj hj=>by
  obtain⟨b,o,rfl,hb,c0,c1⟩:=hI j hj;exact⟨b,o,rfl,hb,(hW.cell (p:=⟨b,o+j*2,Ae⟩) (by show b<_;omega)).trans c0,(hW.cell (p:=⟨b,o+j*2+1,Ae⟩) (by show b<_;omega)).trans c1⟩) h0
abbrev FbA (L:List FoR):={x:Nat×FoR//x.2∈L}
def fbL (L:List FoR):List (FbA L):=(Dr L.length).attach.map λk=>⟨(L.length-1-k.1,L[L.length-1-k.1]'(oHx (Ea.1 k.2))),Ay _⟩
def fbE {L:List FoR} (x:FbA L):Array Ak:=#[Aa Ab (x.1.1:Nat),.agg #[x.1.2.h1,x.1.2.h2]]
theorem kM {L:List FoR}:(fbL L).length=L.length:=by simp[fbL]
theorem xO {L:List FoR} {k:Nat} (hk:k<(fbL L).length):((fbL L)[k]).1=(L.length-1-k,L[L.length-1-k]'(by rw[kM]at hk;omega)):=by
 simp[fbL]
theorem Bt1 {L:List FoR}:(fbL L).map (·.1.2)=L.reverse:=by
 apply Gj
 ·simp[fbL]
 ·intro k h1 h2;rw[Gd,xO,List.getElem_reverse]
theorem Aq2 (L:List FoR) (hlen:L.length<=100000) (Bn n₀ cap l n:Nat) (A:Option Ci) (hn:1<=n) (J Jx:List (FbA L)->Aj->Prop) (W:Aj)
  (hY:∀pre x W1,J pre W1->pre.length<L.length->YieldAt Cu (n-1) Do l (fbE x) W1 λe W'=>
   (e= .returned (.bool true)/\J (pre++[x]) W'/\Mo n₀ Bn W1 W')∨(e= .returned (.bool false)/\Jx (pre++[x]) W'))
  (js:W.heap[Bn]? =Af (Cn #[Ad A L.length cap] 64 (0,0))) (vy:n₀<=W.heap.size) (hc:∀j (hj:j<L.length),∃b o,A=Af ⟨b,o,Ae⟩/\b<n₀/\W.cell? ⟨b,o+j*2,Ae⟩=Af L[j].h1/\W.cell? ⟨b,o+j*2+1,Ae⟩=Af L[j].h2) (h0:J [] W):
  CallsIn Cu n Do 94 #[.func (.yield l) #[] #[],.pointer (Af ⟨Bn,0,Ae⟩)] W λe W'=>(∃v,e= .returned v)/\
   ((∃ys,ys=fbL L/\J ys W')∨(∃pre,True/\Jx pre W')):=by
 refine callsIn_of_wp Tryz.func94 rfl trivial ?_ rfl;simp only[Tryz.ntmps94,Fp,En,Cq,Nat.reduceAdd,Nat.reduceSub,Da,Cz,List.push_toArray,Dd,Et,Ep];have cj:=kM (L:=L)
 have hbg:∀zs,fbL L=zs->∀k (hk:k<zs.length) j (hj:j<L.length),j=L.length-1-k->zs[k].1=(j,L[j]):=by
  rintro _ rfl k hk j hj rfl;exact xO hk
 obtain⟨zs,NG⟩:=ey (fbL L);have Y6:=Ah (hbg zs NG);rw[NG]at cj⊢;obtain⟨N,hN⟩:=ey L.length;have lw:W.cell? ⟨Bn,0,Ae⟩=Af (Ad A N cap):=by rw[By _ _ 0 _ _ _ js,<-hN];rfl
 have HC:=Ah hc;have db:=Ah hN;rw[hN]at hlen hY cj;have e1:wrap64 ((N:Int)-1)=(N:Int)-1:=Cb _ Gu;clear NG hbg hc hN
 gi_wp2
 gi_loopw [3] (λs3 wr=>∃(k:Nat) (i:Int),k<=N/\i=(N:Int)-1-k/\s3= Aa Ab i/\J (zs.take k) wr/\Mo n₀ Bn W wr) (λs3 _=>(intOf s3+1).toNat)
 case atStart=>exact⟨0,(N:Int)-1,Gk _,Gu,rfl,h0,Ag _ _,rfl⟩
 obtain⟨k,i,hk,hi,rfl,JE,hB⟩:=hrel;have c0:wr.cell? ⟨Bn,0,Ae⟩=Af (Ad A N cap):=(Uo hB.2 0).trans lw;by_cases ad:k<N
 ·obtain⟨j,rfl⟩:∃j:Nat,i=j:=⟨N-1-k,Gu⟩;have kj:j=N-1-k:=Gu;have hj:j<L.length:=oHx db.out;obtain⟨b,o,rfl,LE,d0,d1⟩:=HC.out j hj;have d0:=(hB.1.cell (p:=⟨b,o+j*2,Ae⟩) LE).trans d0;have d1:=(hB.1.cell (p:=⟨b,o+j*2+1,Ae⟩) LE).trans d1;obtain⟨r,hv⟩:=ey (L[j]);rw[hv]at d0 d1;have LY:k<zs.length:=Gu;have q0:(j:Int)>=0:=Gu;have q1:(j:Int)<(N:Int):=Gu;have e2:wrap64 ((j:Int)-1)=(j:Int)-1:=Cb _ Gu
  have hx:zs[k].1=(j,r):=by
   rw[Y6.out k LY j hj (oHx db.out),hv]
  obtain⟨fn,tmps,assign,body,hy,hR⟩:=hY _ zs[k] _ JE (by rw[Bm];omega);unfold fbE at hy;rw[hx]at hy;unfold FoR.h1 FoR.h2 at hy;unfold FoR.h1 at d0;unfold FoR.h2 at d1;dsimp only at hy;have ra:zs.take k++[zs[k]]=zs.take (k+1):=(Bc LY).symm;have HJK:=Ah kj;clear hv hx kj hi
  gi_wp2
  refine hR.mono ?_;rintro e W3 (⟨rfl,ER,FD⟩|⟨rfl,uw⟩)
  ·rw[ra]at ER
   gi_wp2
   go_roundw
   case rel=>exact⟨k+1,(j:Int)-1,Gu,by have:=HJK.out;omega,by go_num,ER,Ve hB FD⟩
   case measure=>simp[intOf]
  ·gi_wp2
   refine Ai (results_none rfl _ _ _) rfl ?_;exact⟨⟨_,rfl⟩,.inr ⟨_,trivial,uw⟩⟩
 ·obtain rfl:k=N:=Gu;have q0:¬i>=0:=Gu
  gi_wp2
  go_end0
  rw[<-cj,List.take_length]at JE;exact⟨⟨_,rfl⟩,.inl JE⟩
theorem Ab5 (A:Option Ci) (n c:Nat) (w:Aj):
  Al Do 48 #[Ad A n c] w λe w'=>e= .returned (.func (.func 94) #[] #[.pointer (Af ⟨w.heap.size,0,Ae⟩)])/\w'=w.alloc (.cells #[Ad A n c] 64):=by
 go_enter Tryz.func48,Tryz.ntmps48;go_wp2;go_ret;exact⟨rfl,rfl⟩
theorem nH (L:List FoR) (hlen:L.length<=100000) (Bn n₀ cap n:Nat) (A:Option Ci) (hn:1<=n) (w:Aj)
  (js:w.heap[Bn]? =Af (Cn #[Ad A L.length cap] 64 (0,0))) (vy:n₀<=w.heap.size) (hc:∀j (hj:j<L.length),∃b o,A=Af ⟨b,o,Ae⟩/\b<n₀/\w.cell? ⟨b,o+j*2,Ae⟩=Af L[j].h1/\w.cell? ⟨b,o+j*2+1,Ae⟩=Af L[j].h2):
  SeqStopsK Cu n Do 94 #[.pointer (Af ⟨Bn,0,Ae⟩)] (fbE (L:=L)) (Mo n₀ Bn) (λys=>ys=fbL L) (λ_=>True) L.length w:=λl J Jx W hW _ _ hY h0=>
 Aq2 L hlen Bn n₀ cap l n A hn J Jx W hY (kept hW js (Au.1 js).1) (Br vy hW.size) (λj hj=>by
  obtain⟨b,o,e,hb,c0,c1⟩:=hc j hj;exact⟨b,o,e,hb,(hW.cell (p:=⟨b,o+j*2,Ae⟩) (by show b<_;omega)).trans c0,(hW.cell (p:=⟨b,o+j*2+1,Ae⟩) (by show b<_;omega)).trans c1⟩) h0
theorem dN {W w1:Aj} {n₀ B:Nat} {t e:Cj} {size:Nat} {v v':Ak} {k m:Nat} {xs ys:List Ak}
  (hv:Boxed W B t v) (IL:t≠e) (ag:W.ownsRow n₀ e size v k xs) (vy:n₀<=W.heap.size) (hB:n₀<=B)
  (ak:w1.ownsRow n₀ e size v' m ys) (qk:W.grownBy w1 v.ownBlock):
  Boxed w1 B t v/\Boxed (w1.setCell ⟨B,0,Ae⟩ v') B t v'/\(w1.setCell ⟨B,0,Ae⟩ v').ownsRow n₀ e size v' m ys/\KeepsOthers W (w1.setCell ⟨B,0,Ae⟩ v')/\Below n₀ W (w1.setCell ⟨B,0,Ae⟩ v'):=by
 have km:Boxed w1 B t v:=hv.kept qk (hv.not_row IL ag);refine⟨km,km.set v',ak.kept (grownBy_setCell' w1 B v') (.inr (km.not_row IL ak).symm),?_,?_⟩
 ·refine(KeepsOthers.of_grownBy qk λj o ej hj=>?_).trans (KeepsOthers.setCell _ _ _);rcases ag.2 with⟨rfl,_⟩|⟨g,cap,cur,rfl,_,xp,_⟩
  ·simp[Dv]at ej
  ·obtain rfl:g=j:=by simpa[Dv]using ej
   rw[xp]at hj;cases hj;rfl
 ·refine((Ag n₀ W).grown qk vy λj ej=>?_).setCell (p:=⟨B,0,Ae⟩) hB v';rcases ag.2 with⟨rfl,_⟩|⟨g,cap,cur,rfl,hb,_,_⟩
  ·simp[Dv]at ej
  ·obtain rfl:g=j:=by simpa[Dv]using ej
   exact hb
theorem vK {w:Aj} {O e t sz n B:Nat} {v:Ak} {xs:List Ak} {cs:Array Ak} (h:w.ownsRow O e sz v n xs) (hB:w.heap[B]? =Af (.cells cs t (0,0))) (ht:t≠e):Af B≠v.ownBlock:=λe0=>by
 rcases h.2 with⟨rfl,-⟩|⟨g,cap,cur,rfl,r2,r3,-⟩
 ·simp[Dv]at e0
 ·obtain rfl:B=g:=by simpa[Dv]using e0
  rw[hB]at r3;injection r3 with r3;injection r3 with _ r3;exact ht r3
theorem Bm8 {w:Aj} {O e sz n D:Nat} {v:Ak} {xs:List Ak} {d:Option (List Deferred)} (h:w.ownsRow O e sz v n xs) (hD:w.heap[D]? =Af (.deferred d)):Af D≠v.ownBlock:=λe0=>by
 rcases h.2 with⟨rfl,-⟩|⟨g,cap,cur,rfl,r2,r3,-⟩
 ·simp[Dv]at e0
 ·obtain rfl:D=g:=by simpa[Dv]using e0
  rw[hD]at r3
  cases r3
theorem Bf9 {β:Type} {D B:Nat} {d:Option (List Deferred)} (hB:D<B):OwnFrom B (λ(_:β) W=>W.heap[D]? =Af (.deferred d)):=λ_ W W' row hs hg hr=>
 (hg.block D (Au.1 hs).1 λe=>by
  have:=(hr D e.symm).1;omega).trans hs
theorem Be7 {β:Type} {g:Nat} {cs:Array Ak} {t:Cj}:∀B,OwnFrom B (λ(_:β) W=>W.heap[g]? =Af (Cn cs t (0,0))):=λ_ _ _ _ _ hs hg hr=>Vz hs hg (λr e=>(hr r e).2)
theorem oT {B:Nat} {W W':Aj} (hb:Below W.heap.size W W'):KeepsFrom B W W':=
 ⟨hb.size,λk _ _ hk _=>(hb.block k (Au.1 hk).1).trans hk⟩
theorem bD (p:List Pg):∀l:List FoR,(l.flatMap λr=>p.map (rdV r)).length=l.length*p.length
 |[]=>Gx
 |r::l=>by
  rw[Bf,Bh,bD p l,Bo,En,Nat.add_mul,Nat.one_mul];omega
def yR (Q:Exit->Act->Aj->Prop):Exit->Act->Aj->Prop
 | .normal,a,w=>Q .normal a w
 |_,_,_=>False
theorem rF {P:Program} {c:Code} {Q:Exit->Act->Aj->Prop} {a:Act} {w:Aj} (h:c.wp P (yR Q) a w):c.wp P Q a w:=wp_mono h λe a w hh=>by
 cases e with
 |normal=>exact hh
 |_=>exact hh.elim
def Zo (l:List FoR) (p1 p2:List Pg):List Int:=(l.flatMap λr=>p1.map (rdV r))++l.reverse.flatMap λr=>p2.map (rdV r)
def wY (xs:List Int) (w:Aj) (e:Ending) (w':Aj):Prop:=∃A,e= .returned (.tuple #[Ad A xs.length xs.length,Aa Ab 0])/\Rd w' A 1 xs.length (It xs)/\Below w.heap.size w w'
theorem Ax8 {w:Aj} {A:Option Ci} {n k:Nat} {pl:List Pg} (h:Rd w A 4 n (Nk pl)) (hk:k<=pl.length):Rd w A 4 k (Nk (pl.take k)):=by
 have hl:=h.1;rw[Tj]at hl;refine⟨by rw[Tj,Bm,Nat.min_eq_left hk],λh0=>?_⟩;obtain⟨b,o,e,hb,hc⟩:=h.2 Gu;refine⟨b,o,e,hb,λi v hi=>hc i v ?_⟩
 have e1:Nk pl=Nk (pl.take k)++Nk (pl.drop k):=by
  unfold Nk;rw[<-Bi,Fc]
 rw[e1,List.getElem?_append_left (Ax.1 hi).1];exact hi
theorem Cc5 {w wr:Aj} {x1 x2 x3 x y:Nat×Array Ak×Cj} (h:Bx w [x1,x2,x3,x,y] wr):Bx w [x1,x2,x3,y,x] wr:=h.perm (List.Perm.cons _ (List.Perm.cons _ (List.Perm.cons _ (List.Perm.swap y x []))))
theorem yY {w:Aj} {b o sz n:Nat} {xs:List Ak} (h:Rd w (Af ⟨b,o,Ae⟩) sz n xs) (hn:0<n):b<w.heap.size:=by
 obtain⟨b',o',e,hb,-⟩:=h.2 hn;obtain⟨rfl,rfl⟩:b=b'/\o=o':=by simpa using e
 exact hb
theorem Ax5 {w:Aj} {b o n k j:Nat} {pl:List Pg} (h:Rd w (Af ⟨b,o,Ae⟩) 4 n (Nk pl)) (hk:k<=pl.length) (hj:j=o+k*4):Rd w (Af ⟨b,j,Ae⟩) 4 (n-k) (Nk (pl.drop k)):=by
 subst hj;have hl:=h.1;rw[Tj]at hl;refine⟨by rw[Tj,Dx];omega,λh0=>?_⟩;obtain⟨b',o',e,hb,hc⟩:=h.2 Gu;obtain⟨rfl,rfl⟩:b=b'/\o=o':=by simpa using e
 refine⟨b,o+k*4,rfl,hb,λi v hi=>?_⟩;rw[Nat.add_assoc];refine hc (k*4+i) v ?_
 have e1:Nk pl=Nk (pl.take k)++Nk (pl.drop k):=by
  unfold Nk;rw[<-Bi,Fc]
 have e2:(Nk (pl.take k)).length=k*4:=by rw[Tj,Bm,Nat.min_eq_left hk]
 rw[e1,List.getElem?_append_right Gu,e2,Nat.add_sub_cancel_left];exact hi
theorem Bm4 (a b:Nat) (s:St) (m:List Mv) (ls:List Nat) (hO:wZ a b s m ls) (el:∀k,k<2*ls.reverse.length->(pgK a m ls.reverse k).x<a/\(pgK a m ls.reverse k).y<b) (l:List FoR) (lA:Option Ci) (n lc:Nat) (hn:n=l.length) (U8:0<n) (ff:n<=10000) (nv:∀r∈l,On a b r.fr=true/\On a b r.bk=true)
  (ins:Bool) (np:Nat) (ob:np=2*ls.reverse.length) (SI:0<np) (h4:ins=true->np%4=0) (pl p1 p2:List Pg) (dw:pl=(Dr np).map (pgK a m ls.reverse)) (sg:p1=if ins then pl.take (np/2)else pl) (lx:p2=if ins then pl.drop (np/2)else[])
  (pA:Option Ci) (pc:Nat) (A:Option Ci) (cc:Nat) (w:Aj) (hl:Un w lA l) (hA:AOk pA s.cr.length pc) (fp:Rd w pA 3 s.cr.length (crs s.cr)) (br:Hz w A s.l) (hQ:Qf w) (hT:Tn w):
  Al Do 16 #[Ad lA n lc,.agg #[Aa Ab s.a,Aa Ab s.b,Ad pA s.cr.length pc,Aa Ac s.root.t,Aa Ab s.root.x,Aa Ab s.root.y,Ad A s.l.length cc],.bool ins] w (wY (Zo l p1 p2) w):=by
 have dm:=hO.bd;have hlen:=hO.len;have CL:=Ah (λ(w':Aj) (hb:Below w.heap.size w w')=>iS a b s m ls hO pA pc A cc w' hA (fp.below hb) (br.below hb) (hQ.below hb) (hT.below hb));have jk:s.a=(a:Int)/\s.b=(b:Int):=⟨hO.sa,hO.sb⟩
 have hplb:∀p∈pl,p.x<a/\p.y<b:=λp hp=>by
  rw[dw]at hp;obtain⟨k,hk,rfl⟩:=Dq.1 hp;exact el k (oHx (Ea.1 hk))
 have hpll:pl.length=np:=by rw[dw];simp
 have hnpb:np<=512:=by rw[ob,List.length_reverse];omega
 have ji:∀r∈l,r.fr.length=b/\r.bk.length=b:=λr hr=>⟨(Qx (nv r hr).1).1,(Qx (nv r hr).2).1⟩
 have I_:=Ah (λ(P:Nat) (w':Aj) (hb:Below w.heap.size w w') (hP:w'.cell? ⟨P,0,Ae⟩=Af (Aa Ab (a:Nat))/\w'.cell? ⟨P,1,Ae⟩=Af (Aa Ab (b:Nat))) (JI:P<w'.heap.size)=>mV 44 (λ_ _=>rfl) #[.pointer (Af ⟨P,0,Ae⟩)] (λr=> !On a b r.fr|| !On a b r.bk) lA l n lc w' hn (hl.below hb) Gu
  (λr w2 hr aj=>Al3 a b P r w2 ((hl.row r hr).below (hb.trans (aj.mono hb.size))) (oHx ((ji r hr).1)) (oHx ((ji r hr).2)) (Gv aj hP.1) (Gv aj hP.2) (Bq JI aj.size)))
 have hany:(l.any λr=> !On a b r.fr|| !On a b r.bk)=false:=by
  rw[Dt];intro r hr;obtain⟨e1,e2⟩:=nv r hr;rw[e1,e2]
  decide
 rw[hany]at I_;have XQ:=Ah (λ(w':Aj) (hb:Below w.heap.size w w')=>hl.below hb);have CD:=Ah nv;have yv:=Ah hplb;have lv:=Ah hn;have EN:=Ah sg;have yh:=Ah lx;have wu:=Ah hpll;have H4:=Ah h4;have XR:=Ah (show∀j (hj:j<l.length),∃b o,lA=Af ⟨b,o,Ae⟩/\b<w.heap.size/\w.cell? ⟨b,o+j*2,Ae⟩=Af l[j].h1/\w.cell? ⟨b,o+j*2+1,Ae⟩=Af l[j].h2 from λj hj=>hl.at' j hj);obtain⟨RL,hRL⟩:=ey (Zo l p1 p2);rw[hRL];have AY:=Ah hRL;obtain⟨sa,sb,cr,⟨rt,rx,ry⟩,sl⟩:=s;dsimp only at CL jk⊢;obtain⟨rfl,rfl⟩:=jk;obtain⟨pn,hpn2⟩:=ey cr.length;obtain⟨SN,JJ⟩:=ey sl.length;rw[hpn2,JJ]at CL⊢;unfold rO at CL;rw[<-ob]at CL;have hPV:Hid (pgs a m ls.reverse=Nk pl):=Ah (by rw[Aw7,dw,ob]);have H:=(Bx.start w).new #[a,b,Ad pA pn pc,Aa Ac rt,rx,ry,Ad A SN cc] 33 rfl;have q0:((n:Int)==0)=false:=Hu;have q0b:¬(n:Int)=0:=Gu;have q1:(np:Int).tmod 4=((np%4:Nat):Int):=by rw[Int.tmod_eq_emod_of_nonneg Gu];omega
 clear hO el fp br hQ hT hpn2 JJ hA nv hn hl hplb hpll dw sg lx ob ji hany hRL h4 hlen;refine(callsIn_wide (n:=9)).1 (callsIn_of_wp_marks Tryz.func16 rfl trivial ?_ rfl);simp only[Tryz.ntmps16,Fp,En,Cq,Nat.reduceAdd,Nat.reduceSub,Da,Cz,List.push_toArray,Dd,Et,Ep];refine wpIn_wide.2 ?_;go_upto_region 1 with fail;obtain⟨N,hN⟩:=ez w.heap.size;rw[<-hN]at H⊢;have db:=Ah hN;clear hN;generalize w.alloc _=W at H⊢;obtain⟨a0,a1,a2,a3,a4,a5,a6⟩:=Ku (H.b 0);go_wp2_with fail;refine(CL.out _ H.below).mono ?_;rintro ee w2 ⟨hb,pgA,yo,rfl,aa⟩;rw[hPV.out]at aa;have H2:=H.call hb;have be:=Rd.of_own aa;obtain⟨PA,kPC,f1,f2,f3⟩:=Mi aa;obtain⟨rfl,rfl⟩:pgA=PA/\yo=kPC:=by simpa using f1
 clear a0 a1 a2 a3 a4 a5 a6 hb CL H aa f1;obtain⟨a0,a1,a2,a3,a4,a5,a6⟩:=Ku (H2.b 0);obtain⟨N2,vr⟩:=ey w2.heap.size;have H3:=H2.new #[(a:Nat),(b:Nat)] 25 vr;have be:=be.alloc (.cells #[(a:Nat),(b:Nat)] 25);clear H2;go_upto_region 5 with fail
 try rw[vr]
 generalize w2.alloc _=W3 at H3 be⊢;clear a0 a1 a2 a3 a4 a5 a6 vr;go_cut [40]from 29 to 40 (λs40 wx=>s40= .bool false/\W3=wx)
 case first=>
  cases ins with
  |true=>
   have e0:=H4.out rfl;rw[e0]at q1;clear H3 be I_ XQ CD yv lv EN yh wu XR AY hPV f2 f3 e0
   as_aux_lemma=>
   go_wp2;go_meet;exact⟨rfl,rfl⟩
  |false=>
   clear H3 be I_ XQ CD yv lv EN yh wu XR AY hPV f2 f3
   as_aux_lemma=>
   go_wp2;go_meet;exact⟨rfl,rfl⟩
 obtain⟨rfl,rfl⟩:=hcut
 apply_assumption
 obtain⟨s0,s1⟩:=(Hn (H3.b 1)).1;go_wp2_with fail;refine(I_.out N2 _ H3.below ⟨s0,s1⟩ (H3.lt 1 rfl)).mono ?_;rintro ee w4 ⟨rfl,hb⟩;have H4':=H3.call hb;have be:=be.below hb;clear s0 s1 hb H3 I_;obtain⟨TI,ZD⟩:=ey w4.heap.size;have H5:=H4'.new #[.func (.func 46) #[] #[.pointer (Af ⟨N2,0,Ae⟩)]] 117 ZD;have be:=be.alloc (.cells #[.func (.func 46) #[] #[.pointer (Af ⟨N2,0,Ae⟩)]] 117);clear H4';go_upto_region 10 with fail
 try rw[ZD]
 generalize w4.alloc _=W5 at H5 be⊢;clear ZD
 obtain⟨pb,po,rfl⟩:∃pb po,pgA=Af ⟨pb,po,Ae⟩:=by
  rcases f2 with⟨-,h0,-⟩|⟨b9,o9,h9⟩
  ·omega
  ·exact⟨b9,o9,h9⟩
 clear f2;go_cut [12,13]from 12 to 49 (λTF NH wx=>∃(pf ph c2:Nat) (A2:Option Ci),TF= .pointer (Af ⟨pf,0,Ae⟩)/\NH= .pointer (Af ⟨ph,0,Ae⟩)/\Hid (Bx w [(N,#[Aa Ab a,Aa Ab b,Ad pA pn pc,Aa Ac rt,Aa Ab rx,Aa Ab ry,Ad A SN cc],33),(N2,#[Aa Ab (a:Nat),Aa Ab (b:Nat)],25),(TI,#[.func (.func 46) #[] #[.pointer (Af ⟨N2,0,Ae⟩)]],117),(pf,#[Ad (Af ⟨pb,po,Ae⟩) np yo],74),(ph,#[Ad A2 0 c2],74)] wx/\Rd wx (Af ⟨pb,po,Ae⟩) 4 np (Nk pl))/\Hid (pb≠pf/\pb≠ph))
 case first=>
  clear XQ CD yv lv EN yh wu XR AY hPV H4 q0 q0b q1;obtain⟨S,an⟩:∃S:Aj->Prop,S=λ_=>True:=⟨_,rfl⟩;have HSO:Hid (∀W',S W'->True):=Ah λW' h=>trivial;have HS:Hid (∀W',S W'):=Ah λW'=>by subst an;trivial
  clear an;refine rF ?_;refine Ao (S:=S) Gw (HS.out _) (λhS=>?_);have H5:=H5.drew;have be:=be.below (Ag _ _).drew;generalize W5.drew=X0 at hS H5 be⊢;refine Hh 0 1 2 3 ?_;refine Kg 4 ?_;generalize (if yo=np then Af (⟨pb,po,Ae⟩:Ci)else Af ⟨pb,po+np*4,Ae⟩)=A2;generalize yo-np=c2;refine Ap (rs:=[5,6]) Gw Gx (Aq rfl (λK hK=>?_) (Aq rfl (λK hK=>?_) Ar))
  ·obtain⟨pf,CZ⟩:=ey X0.heap.size;have H6:=H5.new #[Ad Ae 0 0] 74 CZ;have tn:=be.alloc (.cells #[Ad Ae 0 0] 74);have tl:pb≠pf:=oHx (yY be SI);go_simp;refine hK.o (HS.out _) (λhS=>?_);clear hK K
   try rw[CZ]
   generalize X0.alloc _=X1 at H6 tn⊢;clear CZ;refine rdy 6 (λK hK=>?_);obtain⟨ph,CZ⟩:=ey X1.heap.size;have H7:=H6.new #[Ad Ae 0 0] 74 CZ;have MU:=tn.alloc (.cells #[Ad Ae 0 0] 74);have zt:pb≠ph:=oHx (yY tn SI);go_simp;refine hK.o (HS.out _) (λhS=>?_);clear hK K
   try rw[CZ]
   generalize X1.alloc _=X2 at H7 MU⊢;clear CZ;obtain⟨c0,z0⟩:=Me (H7.b 3);obtain⟨c1,z1⟩:=Me (H7.b 4);have hne:pf≠ph:=H7.ne 3 4 Ha rfl rfl;have hne':ph≠pf:=hne.symm;refine rdy 7 (λK hK=>?_);go_simp;refine hK.o (HS.out _) (λhS=>?_);clear hK K;refine rdy 8 (λK hK=>?_);go_simp;refine hK.o (HS.out _) (λhS=>?_);clear hK K;refine An Gw ?_ _;simp only[yR];go_wp2;go_meet;exact⟨pf,ph,_,_,rfl,rfl,Ah ⟨(((H7.set 3 0 rfl (Ad (Af ⟨pb,po,Ae⟩) np yo)).set 4 0 rfl _)),Si (Si MU λq hq=>by injection hq with hq;subst hq;exact tl) λq hq=>by injection hq with hq;subst hq;exact zt⟩,Ah ⟨tl,zt⟩⟩
  ·obtain⟨ph,CZ⟩:=ey X0.heap.size;have H6:=H5.new #[Ad Ae 0 0] 74 CZ;have tn:=be.alloc (.cells #[Ad Ae 0 0] 74);have zt:pb≠ph:=oHx (yY be SI);go_simp;refine hK.o (HS.out _) (λhS=>?_);clear hK K
   try rw[CZ]
   generalize X0.alloc _=X1 at H6 tn⊢;clear CZ;refine rdy 5 (λK hK=>?_);obtain⟨pf,CZ⟩:=ey X1.heap.size;have H7:=H6.new #[Ad Ae 0 0] 74 CZ;have MU:=tn.alloc (.cells #[Ad Ae 0 0] 74);have tl:pb≠pf:=oHx (yY tn SI);go_simp;refine hK.o (HS.out _) (λhS=>?_);clear hK K
   try rw[CZ]
   generalize X1.alloc _=X2 at H7 MU⊢;clear CZ;obtain⟨c0,z0⟩:=Me (H7.b 4);obtain⟨c1,z1⟩:=Me (H7.b 3);have hne:pf≠ph:=H7.ne 4 3 Ha rfl rfl;have hne':ph≠pf:=hne.symm;refine rdy 7 (λK hK=>?_);go_simp;refine hK.o (HS.out _) (λhS=>?_);clear hK K;refine rdy 8 (λK hK=>?_);go_simp;refine hK.o (HS.out _) (λhS=>?_);clear hK K;refine An Gw ?_ _;simp only[yR];go_wp2;go_meet;exact⟨pf,ph,_,_,rfl,rfl,Ah ⟨(Cc5 ((H7.set 4 0 rfl (Ad (Af ⟨pb,po,Ae⟩) np yo)).set 3 0 rfl _)),Si (Si MU λq hq=>by injection hq with hq;subst hq;exact tl) λq hq=>by injection hq with hq;subst hq;exact zt⟩,Ah ⟨tl,zt⟩⟩
 obtain⟨pf,ph,c2,A2,rfl,rfl,HW,HPB⟩:=hcut;clear H5 be;go_upto_if 50 with fail;obtain⟨W6,rfl⟩:=ez wc;go_cut [50]from 51 to 60 (λs50 wx=>∃(n1 c1 n2 c2:Nat) (A1 A2:Option Ci),s50= .bool ins/\n1=p1.length/\n2=p2.length/\Hid (Bx w [(N,#[Aa Ab a,Aa Ab b,Ad pA pn pc,Aa Ac rt,Aa Ab rx,Aa Ab ry,Ad A SN cc],33),(N2,#[Aa Ab (a:Nat),Aa Ab (b:Nat)],25),(TI,#[.func (.func 46) #[] #[.pointer (Af ⟨N2,0,Ae⟩)]],117),(pf,#[Ad A1 n1 c1],74),(ph,#[Ad A2 n2 c2],74)] wx/\Rd wx A1 4 n1 (Nk p1)/\Rd wx A2 4 n2 (Nk p2)))
 case first=>
  have dw:=wu.out;have vt:=EN.out;have UZ:=yh.out;clear XQ CD yv lv EN yh wu XR AY hPV q0 q0b q1
  cases ins with
  |false=>
   simp only[Ej,if_false]at vt UZ;subst vt UZ;have HX:Hid (Bx w [(N,#[Aa Ab a,Aa Ab b,Ad pA pn pc,Aa Ac rt,Aa Ab rx,Aa Ab ry,Ad A SN cc],33),(N2,#[Aa Ab (a:Nat),Aa Ab (b:Nat)],25),(TI,#[.func (.func 46) #[] #[.pointer (Af ⟨N2,0,Ae⟩)]],117),(pf,#[Ad (Af ⟨pb,po,Ae⟩) np yo],74),(ph,#[Ad A2 0 c2],74)] W6/\Rd W6 (Af ⟨pb,po,Ae⟩) 4 np (Nk p1)/\Rd W6 A2 4 0 (Nk [])):=Ah ⟨HW.out.1,HW.out.2,⟨rfl,λh=>absurd h Gu⟩⟩;clear HW H4
   as_aux_lemma=>
   go_wp2;go_meet;exact⟨np,yo,0,c2,_,A2,rfl,dw.symm,rfl,HX⟩
  |true=>
   simp only[if_true]at vt UZ;have h4:=H4.out rfl;obtain⟨hf,hhf⟩:=ey (np/2);rw[hhf]at vt UZ;have t1:(np:Int).tdiv 2=(hf:Int):=by rw[Gh Gu];omega
   have t2:Ab.wrap (hf:Int)=(hf:Int):=Ca _ Gu;have hcap:hf<=yo:=Gu;have hnp2:hf<=np:=Gu;have hcne:¬yo=hf:=Gu;obtain⟨S,an⟩:∃S:Aj->Prop,S=λ_=>True:=⟨_,rfl⟩;have HSO:Hid (∀W',S W'->True):=Ah λW' h=>trivial;have HS:Hid (∀W',S W'):=Ah λW'=>by subst an;trivial
   clear an;have H5:=HW.out.1.drew;have be:=HW.out.2.below (Ag _ _).drew;have tl:pb≠pf:=HPB.out.1;have zt:pb≠ph:=HPB.out.2;have lm:=Ah (Cm vt (Cm UZ dw));clear HW H4 vt UZ dw hhf h4;go_upto_region 12 with fail;refine rF ?_;refine Ao (S:=S) Gw (HS.out _) (λhS=>?_);generalize W6.drew=X0 at hS H5 be⊢;refine Hh 0 1 2 3 ?_;refine Hh 4 5 6 7 ?_;refine Qp 8 9 ?_
   try rw[Gz hcne]
   obtain⟨c0,z0⟩:=Me (H5.b 3);obtain⟨c1,z1⟩:=Me (H5.b 4);have hne:pf≠ph:=H5.ne 3 4 Ha rfl rfl;have hne':ph≠pf:=hne.symm;obtain⟨c4,hc4⟩:=ey (yo-hf)
   try rw[hc4]
   obtain⟨n4,hn4⟩:=ey (np-hf)
   try rw[hn4]
   have H6:=(H5.set 3 0 rfl (Ad (Af ⟨pb,po,Ae⟩) hf yo)).set 4 0 rfl (Ad (Af ⟨pb,po+hf*4,Ae⟩) n4 c4);have tn:=Si (j:=0) (v:= Ad (Af ⟨pb,po+hf*4,Ae⟩) n4 c4) (g:=ph) (Si (j:=0) (v:= Ad (Af ⟨pb,po,Ae⟩) hf yo) (g:=pf) be λq hq=>by injection hq with hq;subst hq;exact tl) λq hq=>by injection hq with hq;subst hq;exact zt
   have HX:Hid (∃(n1 c1 n2 c2:Nat) (A1 A2:Option Ci),Value.bool true= .bool true/\n1=p1.length/\n2=p2.length/\Hid (Bx w [(N,#[Aa Ab a,Aa Ab b,Ad pA pn pc,Aa Ac rt,Aa Ab rx,Aa Ab ry,Ad A SN cc],33),(N2,#[Aa Ab (a:Nat),Aa Ab (b:Nat)],25),(TI,#[.func (.func 46) #[] #[.pointer (Af ⟨N2,0,Ae⟩)]],117),(pf,#[Ad A1 n1 c1],74),(ph,#[Ad A2 n2 c2],74)] ((X0.setCell ⟨pf,0,Ae⟩ (Ad (Af ⟨pb,po,Ae⟩) hf yo)).setCell ⟨ph,0,Ae⟩ (Ad (Af ⟨pb,po+hf*4,Ae⟩) n4 c4))/\Rd ((X0.setCell ⟨pf,0,Ae⟩ (Ad (Af ⟨pb,po,Ae⟩) hf yo)).setCell ⟨ph,0,Ae⟩ (Ad (Af ⟨pb,po+hf*4,Ae⟩) n4 c4)) A1 4 n1 (Nk p1)/\Rd ((X0.setCell ⟨pf,0,Ae⟩ (Ad (Af ⟨pb,po,Ae⟩) hf yo)).setCell ⟨ph,0,Ae⟩ (Ad (Af ⟨pb,po+hf*4,Ae⟩) n4 c4)) A2 4 n2 (Nk p2))):=Ah (by
    obtain⟨e1,e2,e3⟩:=lm.out;have l1:p1.length=hf:=by rw[e1,Bm];omega
    have l2:p2.length=n4:=by rw[e2,Dx];omega
    refine⟨hf,yo,n4,c4,Af ⟨pb,po,Ae⟩,Af ⟨pb,po+hf*4,Ae⟩,rfl,l1.symm,l2.symm,Ah ⟨H6,?_,?_⟩⟩
    ·rw[e1];exact Ax8 tn Gu
    ·rw[e2,<-hn4];exact Ax5 (by rw[hn4];exact tn) Gu rfl)
   clear H6 tn hc4 hn4 be H5 tl zt;refine rdy 10 (λK hK=>?_);go_simp;refine hK.o (HS.out _) (λhS=>?_);clear hK K;refine rdy 11 (λK hK=>?_);go_simp;refine hK.o (HS.out _) (λhS=>?_);clear hK K;refine An Gw ?_ _;simp only[yR];go_wp2;go_meet;obtain⟨n1,c1,n2,c2,A1,A2,-,h1,h2,h3⟩:=HX.out;exact⟨n1,c1,n2,c2,A1,A2,rfl,h1,h2,h3⟩
 obtain⟨n1,c1,n2,c2,A1,A2,rfl,gn,oa,HW⟩:=hcut;obtain⟨W7,rfl⟩:=ez wc;obtain⟨O,hO⟩:=ey W7.heap.size;have LC:Below W7.heap.size W7 (W7.alloc (.cells #[Ad Ae 0 0] 38)):=(Ag _ _).alloc (Am _) _;have hOlt:N<O/\N2<O/\TI<O/\pf<O/\ph<O:=hO▸⟨HW.out.1.lt 0 rfl,HW.out.1.lt 1 rfl,HW.out.1.lt 2 rfl,HW.out.1.lt 3 rfl,HW.out.1.lt 4 rfl⟩;have hwO:w.heap.size<=O:=hO▸HW.out.1.below.size;have HW8:=Ah (Cm (HW.out.1.call LC) (Cm (HW.out.2.1.below LC) (HW.out.2.2.below LC)));have bO:Boxed (W7.alloc (.cells #[Ad Ae 0 0] 38)) O 38 (Ad Ae 0 0):=by rw[<-hO];exact Boxed.new W7 _ _
 have BV:(W7.alloc (.cells #[Ad Ae 0 0] 38)).heap.size=O+1:=by rw[<-hO];simp
 have HO:=Ah hO;clear HPB;go_upto_region 14 with fail
 try rw[hO]
 generalize W7.alloc _=W8 at LC bO BV⊢;clear hO;go_wp2_with fail;refine(Ac0 lA n lc _).mono ?_;rintro e w9 ⟨rfl,JS⟩;rw[BV];have bh:Below W8.heap.size W8 w9:=by rw[JS];exact(Ag _ _).alloc (Am _) _
 have bV:Boxed w9 (O+1) 64 (Ad lA n lc):=by rw[JS,<-BV];exact Boxed.new W8 _ _
 have bO9:Boxed w9 O 38 (Ad Ae 0 0):=by rw[JS];exact bO.alloc _
 have hs9:w9.heap.size=O+2:=by rw[JS,World.size_alloc,BV]
 have HB79:=Ah (LC.trans (bh.mono LC.size))
 have K_:Hid (∀W,Below O w9 W->Bx w [(N,#[Aa Ab a,Aa Ab b,Ad pA pn pc,Aa Ac rt,Aa Ab rx,Aa Ab ry,Ad A SN cc],33),(N2,#[Aa Ab (a:Nat),Aa Ab (b:Nat)],25),(TI,#[.func (.func 46) #[] #[.pointer (Af ⟨N2,0,Ae⟩)]],117),(pf,#[Ad A1 n1 c1],74),(ph,#[Ad A2 n2 c2],74)] W/\Rd W A1 4 n1 (Nk p1)/\Rd W A2 4 n2 (Nk p2)):=Ah λW hW=>by
  have hb:Below W7.heap.size W7 W:=HB79.out.trans (by rw[HO.out];exact hW);exact⟨HW.out.1.call hb,HW.out.2.1.below hb,HW.out.2.2.below hb⟩
 have hp1b:∀p∈p1,p.x<a/\p.y<b:=λp hp=>yv.out p (by
  rw[EN.out]at hp
  split at hp
  ·exact List.mem_of_mem_take hp
  ·exact hp)
 have hp2b:∀p∈p2,p.x<a/\p.y<b:=λp hp=>yv.out p (by
  rw[yh.out]at hp
  split at hp
  ·exact List.mem_of_mem_drop hp
  ·cases hp)
 have hl1b:p1.length<=512:=by
  have:=wu.out;rw[EN.out]
  split
  ·rw[Bm];omega
  ·omega
 have hl2b:p2.length<=512:=by
  have:=wu.out;rw[yh.out]
  split
  ·rw[Dx];omega
  ·simp
 have HRC:Hid (∀(W:Aj) (r:FoR),r∈l->Below O w9 W->Al Do 46 #[.agg #[r.h1,r.h2],Ad A1 n1 c1,.pointer (Af ⟨N2,0,Ae⟩)] W (Nv 3 1 n1 (It (p1.map (rdV r))) W)/\Al Do 46 #[.agg #[r.h1,r.h2],Ad A2 n2 c2,.pointer (Af ⟨N2,0,Ae⟩)] W (Nv 3 1 n2 (It (p2.map (rdV r))) W)):=Ah λW r hr hW=>by
  obtain⟨hX,ui,ii⟩:=K_.out W hW;obtain⟨f1,f2⟩:=CD.out r hr;have xm:=(XQ.out W hX.below).row r hr;have hc:=(Hn (hX.b 1)).1.1;exact⟨iY a b Gu r f1 f2 p1 hp1b A1 n1 c1 N2 W xm gn Gu ui hc (hX.lt 1 rfl),iY a b Gu r f1 f2 p2 hp2b A2 n2 c2 N2 W xm oa Gu ii hc (hX.lt 1 rfl)⟩
 have hwO9:w.heap.size<=w9.heap.size:=Gu
 have V':∀j (hj:j<l.length),∃b o,lA=Af ⟨b,o,Ae⟩/\b<O/\w9.cell? ⟨b,o+j*2,Ae⟩=Af l[j].h1/\w9.cell? ⟨b,o+j*2+1,Ae⟩=Af l[j].h2:=λj hj=>by
  obtain⟨b0,o0,e0,lw,c0,c1⟩:=XR.out j hj;have de:=(K_.out w9 (Ag _ _)).1.below;exact⟨b0,o0,e0,Gu,(de.cell (p:=⟨b0,o0+j*2,Ae⟩) lw).trans c0,(de.cell (p:=⟨b0,o0+j*2+1,Ae⟩) lw).trans c1⟩
 obtain⟨i0,eh,dp,ap,ca⟩:=info_parts Ns;have fw:=Ah eh;have rn:=Ah dp;have mo:=Ah ap;have mq:=Ah ca;have D6:l.length<=10000:=oHx lv.out;have hVc:w9.cell? ⟨O+1,0,Ae⟩=Af (Ad lA l.length lc):=by rw[<-lv.out];exact bV.cell
 clear JS bO BV bh eh dp ap ca hp1b hp2b;go_wp2_with fail
 refine' wpIn_wide.1 (iX (F:=Cu) (n:=9) (w0:=w9) rfl Ha (gf:=93) (lb:=#[.pointer (Af ⟨O+1,0,Ae⟩)]) rfl trivial (enters_of Tryz.func93 Gw rfl)
  (nZ l Gu 8 (O+1) O lc Ha lA w9 Gu Gu hVc V') belowK_t (belowK_b Gu) (Ag _ _) (λ_=>rfl)
  (λpre W=>(∃v,Boxed W O 38 v/\W.ownsRow O 3 1 v (pre.length*n1) (It ((pre.map (·.1)).flatMap λr=>p1.map (rdV r)))/\True)/\Below O w9 W)
  (OwnFrom.and (Own.from (holdsRow_own O O 38 3 1 (λpre:List (FoA l)=>pre.length*n1) (λpre=>It ((pre.map (·.1)).flatMap λr=>p1.map (rdV r))) (λ_ _=>True)) _) (ownFrom_below Gu Gu))
  ⟨⟨_,bO9,by simpa[It]using World.ownsRow_nil _ _ _ _,trivial⟩,Ag _ _⟩ (λpre W hI=>hI.2.size) (λpre W o hI=>(Ag O W).alloc (oHx hI.2.size) o) (λx=>#[Ad x.1.FA x.1.fr.length x.1.c1,Ad x.1.BA x.1.bk.length x.1.c2]) 61 _ ?assign ?body ?done)
 case assign=>
  rintro l0 x W B K hB hK;unfold foE FoR.h1 FoR.h2;dsimp only at hK⊢
  gi_wp2
  try rw[hB]
  exact hK
 case body=>
  rintro l0 pre ⟨r,OW⟩ B W UT ub ⟨⟨v0,hv,ag,-⟩,OE⟩ ad;dsimp only at ub;have za:O<=W.heap.size:=oHx OE.size;have um:(pre.length*n1)<=10000*512:=Gp Gu Gu;have am:((pre++[(⟨r,OW⟩:FoA l)]).map (·.1)).flatMap (λr=>p1.map (rdV r))=(pre.map (·.1)).flatMap (λr=>p1.map (rdV r))++p1.map (rdV r):=Gx;have DI:(pre++[(⟨r,OW⟩:FoA l)]).length*n1=pre.length*n1+n1:=by rw[Bh,Nat.add_mul];simp
  obtain⟨HY,OF⟩:=ey p1;obtain⟨ppre,hpp⟩:=ey (pre++[(⟨r,OW⟩:FoA l)]);rw[hpp]at am DI⊢;have FV:=Ah (Cm am DI);obtain⟨xs,K1⟩:=ey ((pre.map (·.1)).flatMap (λr=>p1.map (rdV r)));obtain⟨k,jn⟩:=ey (pre.length*n1);rw[K1,jn]at ag;rw[jn]at um;rw[K1,jn,OF]at FV;have ww:=Ah (λ(W:Aj) (h:Below O w9 W)=>(HRC.out W r OW h).1);rw[OF]at ww;have hn1b:n1<=512:=Gu;have HLL1:Hid (HY.length=n1):=Ah (by rw[<-OF];exact gn.symm);unfold FoR.h1 FoR.h2 at ww;obtain⟨A9,k9,e9,-,-⟩:=Hw ag;subst e9;obtain⟨S,an,HSO⟩:=Og λW'=>W'.cell? ⟨TI,0,Ae⟩=Af (.func (.func 46) #[] #[.pointer (Af ⟨N2,0,Ae⟩)])/\W'.cell? ⟨B,0,Ae⟩=Af (Ad r.FA r.fr.length r.c1)/\W'.cell? ⟨B,1,Ae⟩=Af (Ad r.BA r.bk.length r.c2)/\W'.cell? ⟨pf,0,Ae⟩=Af (Ad A1 n1 c1)
  have wz:Hid (∀W',Below O w9 W'->W'.heap[B]? =Af (.cells #[Ad r.FA r.fr.length r.c1,Ad r.BA r.bk.length r.c2] 61 (0,0))->S W'):=Ah λW' h hb=>by
   subst an;obtain⟨hX,-,-⟩:=K_.out W' h;obtain⟨⟨b0,b1⟩,-⟩:=Hn hb;exact⟨(Me (hX.b 2)).1,b0,b1,(Me (hX.b 3)).1⟩
  have HHY:=Ah OF;clear OF gn oa;clear an am DI hpp K1 jn HRC XQ CD yv XR AY wu EN yh
  gi_wp2
  refine bG (S:=S) Gw (by rintro⟨_,_,h⟩;exact h) Gw (wz.out _ OE.drew ub) (λhS=>?_);have GN:Below W.heap.size W W.drew:=(Ag _ _).drew;have ZY:W.heap.size=W.drew.heap.size:=rfl;have BE:Below O w9 W.drew:=OE.drew;have KT:O<=W.drew.heap.size:=za;have hv:Boxed W.drew O 38 (Ad A9 k k9):=hv;have ag:W.drew.ownsRow O 3 1 (Ad A9 k k9) k (It xs):=ag;have ub:W.drew.heap[B]? =Af (.cells #[Ad r.FA r.fr.length r.c1,Ad r.BA r.bk.length r.c2] 61 (0,0)):=ub;generalize W.drew=X0 at GN ZY BE KT hv ag ub hS⊢;refine Oe 1 2 3 ?_;have J6:=hv.cell;refine Ap (rs:=[0,4]) Gw Gx (Aq rfl (λK hK=>?_) (Aq rfl (λK hK=>?_) Ar));go_simp;refine hK.o hS (λhS=>?_);clear hK K J6;refine rdy 4 (λK hK=>?_);go_simp;refine(ww.out X0 BE).mono ?_;rintro ee X1 ⟨v1,rfl,au,ac⟩;obtain⟨A3,c3,rfl,KN⟩:=Lw au;have km:Boxed X1 O 38 (Ad A9 k k9):=(ac.block O hv.lt).trans hv;have bw:=Hx ag (Am _) ac;have ET:O<=X1.heap.size:=Br KT ac.size;have it:=BE.trans (ac.mono KT);have kh:=(ac.block B (Au.1 ub).1).trans ub;have zb:=GN.trans (ac.mono (Nat.le_of_eq ZY));refine hK.o (wz.out _ it kh) (λhS=>?_);clear hK K;rotate_left;go_simp;refine(ww.out X0 BE).mono ?_;rintro ee X1 ⟨v1,rfl,au,ac⟩;obtain⟨A3,c3,rfl,KN⟩:=Lw au;have km:Boxed X1 O 38 (Ad A9 k k9):=(ac.block O hv.lt).trans hv;have bw:=Hx ag (Am _) ac;have ET:O<=X1.heap.size:=Br KT ac.size;have it:=BE.trans (ac.mono KT);have kh:=(ac.block B (Au.1 ub).1).trans ub;have zb:=GN.trans (ac.mono (Nat.le_of_eq ZY));refine hK.o (wz.out _ it kh) (λhS=>?_);clear hK K;have J6:=km.cell;refine rdy 0 (λK hK=>?_);go_simp;refine hK.o hS (λhS=>?_);clear hK K J6
  all_goals
   obtain⟨v',w7,hr,ak,hg⟩:=Ht (P:=Do) X1 O 38 38 3 i0 _ 1 8 Dk fw.out rn.out mo.out mq.out rfl Gu (Ad A9 k k9) k (It xs) bw A3 n1 c3 (It (HY.map (rdV r))) (eT _) (Rd.of_own au) KN Gu Gu ET;obtain⟨A',c',rfl,IB,GP⟩:=Hw ak;obtain⟨ym,tr,ii,DP,aj⟩:=dN km Ha bw ET (Am O) ak hg;have hnB:=vK bw kh Ha;have OL:=(hg.block B (Au.1 kh).1 hnB).trans kh;have dc:Below O X1 w7:=(Ag O X1).grown hg ET (λq hq=>(bw.lt q hq).1);have hBO:B≠O:=λe=>by subst e;rw[show X1.heap[B]? =_ from km]at kh;injection kh with kh;injection kh with _ h2;exact absurd h2 Ha
   have LI:(w7.setCell ⟨O,0,Ae⟩ (Ad A' (k+n1) c')).heap[B]? =Af (.cells #[Ad r.FA r.fr.length r.c1,Ad r.BA r.bk.length r.c2] 61 (0,0)):=(Is hBO).trans OL;have QC:=Ah (wz.out _ (it.trans dc) OL);have nj:=Ah (wz.out _ (it.trans aj) LI);have HR:=Ah hr;rw[<-eS]at ii;have aw:=Ah (Cm ((oT (B:=w9.heap.size) zb).trans (DP.from _)) (Cm (((zb.mono za).trans aj)) (Cm (⟨_,tr,ii,trivial⟩:∃v,Boxed (w7.setCell ⟨O,0,Ae⟩ (Ad A' (k+n1) c')) O 38 v/\(w7.setCell ⟨O,0,Ae⟩ (Ad A' (k+n1) c')).ownsRow O 3 1 v (k+n1) (It (xs++HY.map (rdV r)))/\True) (it.trans aj))));have y0:=ym.cell;have y1:=ym.frozen;clear hr ak hg tr ii DP aj OL LI ym bw km au;refine rdy 5 (λK hK=>?_);refine Zu (by simp[Dy,yielded]) (.tmp 64) (.tmp 68) 38 rfl _ _ Qs Qs _ _ HR.out ?_;refine hK.o QC.out (λhS=>?_);clear hK K;refine rdy 6 (λK hK=>?_);go_simp;refine hK.o nj.out (λhS=>?_);clear hK K;refine An Gw ?_ _
   gi_wp2
   obtain⟨k1,k2,⟨v9,OX,BT,-⟩,k4⟩:=aw.out;refine⟨k1,k2,⟨v9,OX,?_,trivial⟩,k4⟩;rw[HHY.out,FV.out.1,FV.out.2];exact BT
 case done=>
  rintro D ys W hD rfl ⟨⟨v,hv,ag,-⟩,hB⟩ hKD;rw[List.attach_map_subtype_val,List.length_attach]at ag;obtain⟨A8,k8,e8,-,-⟩:=Hw ag;subst e8;have hDW:=(Au.1 hKD).1;obtain⟨M4,SZ⟩:=ey ((l.flatMap λr=>p1.map (rdV r)));obtain⟨k0,di⟩:=ey (l.length*n1);rw[SZ,di]at ag;rw[di]at hv;have HX0:=Ah (Cm SZ di);have hk0b:k0<=10000*512:=by rw[<-di];exact Gp Gu Gu
  have HK0L:Hid (M4.length=k0):=Ah (by rw[<-SZ,bD,<-di,<-gn]);obtain⟨Bn,ZA⟩:=ey W.heap.size;have f_:=Ah (Cm gn oa);have hn2b:n2<=512:=Gu;clear SZ di gn oa bV hVc bO9;go_wp2_with fail;refine(Ab5 lA n lc _).mono ?_;rintro e ng ⟨rfl,SV⟩;rw[ZA];have EW:Below W.heap.size W ng:=by rw[SV];exact(Ag _ _).alloc (Am _) _
  have bN:ng.heap[Bn]? =Af (Cn #[Ad lA l.length lc] 64 (0,0)):=by rw[SV,<-ZA,<-lv.out];exact Bz W _
  have hs10:ng.heap.size=Bn+1:=by rw[SV,World.size_alloc,ZA]
  have J5:Boxed ng O 38 (Ad A8 (k0) k8):=(EW.block O hv.lt).trans hv;have mh:=Hx ag (Am _) EW;have hD10:=(EW.block D hDW).trans hKD;have za:O<=W.heap.size:=oHx hB.size;have QJ:Below O w9 ng:=hB.trans (EW.mono za)
  have U':∀j (hj:j<l.length),∃b o,lA=Af ⟨b,o,Ae⟩/\b<O/\ng.cell? ⟨b,o+j*2,Ae⟩=Af l[j].h1/\ng.cell? ⟨b,o+j*2+1,Ae⟩=Af l[j].h2:=λj hj=>by
   obtain⟨b0,o0,e0,lw,c0,c1⟩:=V' j hj;exact⟨b0,o0,e0,lw,(QJ.cell (p:=⟨b0,o0+j*2,Ae⟩) lw).trans c0,(QJ.cell (p:=⟨b0,o0+j*2+1,Ae⟩) lw).trans c1⟩
  clear SV EW hv ag hKD hB;go_wp2_with fail
  refine' wpIn_wide.1 (iX (F:=Cu) (n:=9) (w0:=ng) rfl Ha (gf:=94) (lb:=#[.pointer (Af ⟨Bn,0,Ae⟩)]) rfl trivial (enters_of Tryz.func94 Gw rfl)
   (nH l Gu Bn O lc 8 lA Ha ng bN Gu U') Ve (eU Gu Gu) (Ag _ _) (λ_=>rfl)
   (λpre W=>(∃v,Boxed W O 38 v/\W.ownsRow O 3 1 v (k0+pre.length*n2) (It (M4++(pre.map (·.1.2)).flatMap λr=>p2.map (rdV r)))/\True)/\W.heap[Bn]? =Af (Cn #[Ad lA l.length lc] 64 (0,0))/\W.heap[D]? =Af (.deferred (Af []))/\Below O ng W)
   (OwnFrom.and (Own.from (holdsRow_own O O 38 3 1 (λpre:List (FbA l)=>k0+pre.length*n2) (λpre=>It (M4++(pre.map (·.1.2)).flatMap λr=>p2.map (rdV r))) (λ_ _=>True)) _) (OwnFrom.and (Be7 _) (OwnFrom.and (Bf9 Gu) (ownFrom_below Gu Gu))))
   ⟨⟨_,J5,by simpa using mh,trivial⟩,bN,hD10,Ag _ _⟩ (λpre W hI=>hI.2.2.2.size) (λpre W o hI=>⟨(Ag O W).alloc (oHx hI.2.2.2.size) o,Below.heap_alloc W o Bn (Au.1 hI.2.1).1⟩) (λx=>#[Ad x.1.2.FA x.1.2.fr.length x.1.2.c1,Ad x.1.2.BA x.1.2.bk.length x.1.2.c2]) 61 _ ?assign ?body ?done)
  case assign=>
   rintro l0 x W B K hB hK;unfold fbE FoR.h1 FoR.h2;dsimp only at hK⊢
   gi_wp2
   try rw[hB]
   exact hK
  case body=>
   rintro l0 pre ⟨⟨ix,r⟩,OW⟩ B W UT ub ⟨⟨v0,hv,ag,-⟩,SF,OO,QL⟩ ad;dsimp only at ub OW;have OE:Below O w9 W:=QJ.trans QL;have za:O<=W.heap.size:=oHx OE.size
   have um:k0+(pre.length*n2)<=10000*512+10000*512:=by
    have:pre.length*n2<=10000*512:=Gp Gu Gu;omega
   have am:M4++((pre++[(⟨(ix,r),OW⟩:FbA l)]).map (·.1.2)).flatMap (λr=>p2.map (rdV r))=(M4++(pre.map (·.1.2)).flatMap (λr=>p2.map (rdV r)))++p2.map (rdV r):=Gx;have DI:k0+(pre++[(⟨(ix,r),OW⟩:FbA l)]).length*n2=(k0+pre.length*n2)+n2:=by rw[Bh,Nat.add_mul];simp;omega
   obtain⟨HY,OF⟩:=ey p2;obtain⟨ppre,hpp⟩:=ey (pre++[(⟨(ix,r),OW⟩:FbA l)]);rw[hpp]at am DI⊢;have FV:=Ah (Cm am DI);obtain⟨xs,K1⟩:=ey (M4++(pre.map (·.1.2)).flatMap (λr=>p2.map (rdV r)));obtain⟨k,jn⟩:=ey (k0+pre.length*n2);rw[K1,jn]at ag;rw[jn]at um;rw[K1,jn,OF]at FV;have ww:=Ah (λ(W:Aj) (h:Below O w9 W)=>(HRC.out W r OW h).2);rw[OF]at ww;have HHY:=Ah OF;unfold FoR.h1 FoR.h2 at ww;obtain⟨A9,k9,e9,-,-⟩:=Hw ag;subst e9;obtain⟨S,an,HSO⟩:=Og λW'=>W'.cell? ⟨TI,0,Ae⟩=Af (.func (.func 46) #[] #[.pointer (Af ⟨N2,0,Ae⟩)])/\W'.cell? ⟨B,0,Ae⟩=Af (Ad r.FA r.fr.length r.c1)/\W'.cell? ⟨B,1,Ae⟩=Af (Ad r.BA r.bk.length r.c2)/\W'.cell? ⟨ph,0,Ae⟩=Af (Ad A2 n2 c2)
   have wz:Hid (∀W',Below O w9 W'->W'.heap[B]? =Af (.cells #[Ad r.FA r.fr.length r.c1,Ad r.BA r.bk.length r.c2] 61 (0,0))->S W'):=Ah λW' h hb=>by
    subst an;obtain⟨hX,-,-⟩:=K_.out W' h;obtain⟨⟨b0,b1⟩,-⟩:=Hn hb;exact⟨(Me (hX.b 2)).1,b0,b1,(Me (hX.b 4)).1⟩
   clear OF;clear an am DI hpp K1 jn HRC XQ CD yv XR AY wu EN yh
   gi_wp2
   refine bG (S:=S) Gw (by rintro⟨_,_,h⟩;exact h) Gw (wz.out _ OE.drew ub) (λhS=>?_);have GN:Below W.heap.size W W.drew:=(Ag _ _).drew;have ZY:W.heap.size=W.drew.heap.size:=rfl;have BE:Below O w9 W.drew:=OE.drew;have KT:O<=W.drew.heap.size:=za;have hv:Boxed W.drew O 38 (Ad A9 k k9):=hv;have ag:W.drew.ownsRow O 3 1 (Ad A9 k k9) k (It xs):=ag;have ub:W.drew.heap[B]? =Af (.cells #[Ad r.FA r.fr.length r.c1,Ad r.BA r.bk.length r.c2] 61 (0,0)):=ub;have V0:=SF;have SF:W.drew.heap[Bn]? =Af (Cn #[Ad lA l.length lc] 64 (0,0)):=SF;have OO:W.drew.heap[D]? =Af (.deferred (Af [])):=OO;generalize W.drew=X0 at GN ZY BE KT hv ag ub hS SF OO⊢;refine Oe 1 2 3 ?_;have J6:=hv.cell;refine Ap (rs:=[0,4]) Gw Gx (Aq rfl (λK hK=>?_) (Aq rfl (λK hK=>?_) Ar));go_simp;refine hK.o hS (λhS=>?_);clear hK K J6;refine rdy 4 (λK hK=>?_);go_simp;refine(ww.out X0 BE).mono ?_;rintro ee X1 ⟨v1,rfl,au,ac⟩;obtain⟨A3,c3,rfl,KN⟩:=Lw au;have km:Boxed X1 O 38 (Ad A9 k k9):=(ac.block O hv.lt).trans hv;have bw:=Hx ag (Am _) ac;have ET:O<=X1.heap.size:=Br KT ac.size;have it:=BE.trans (ac.mono KT);have kh:=(ac.block B (Au.1 ub).1).trans ub;have zb:=GN.trans (ac.mono (Nat.le_of_eq ZY));refine hK.o (wz.out _ it kh) (λhS=>?_);clear hK K;have zp:=(ac.block Bn (Au.1 SF).1).trans SF;have GQ:=(ac.block D (Au.1 OO).1).trans OO;rotate_left;go_simp;refine(ww.out X0 BE).mono ?_;rintro ee X1 ⟨v1,rfl,au,ac⟩;obtain⟨A3,c3,rfl,KN⟩:=Lw au;have km:Boxed X1 O 38 (Ad A9 k k9):=(ac.block O hv.lt).trans hv;have bw:=Hx ag (Am _) ac;have ET:O<=X1.heap.size:=Br KT ac.size;have it:=BE.trans (ac.mono KT)
   have kh:=(ac.block B (Au.1 ub).1).trans ub;have zb:=GN.trans (ac.mono (Nat.le_of_eq ZY));refine hK.o (wz.out _ it kh) (λhS=>?_);clear hK K;have zp:=(ac.block Bn (Au.1 SF).1).trans SF;have GQ:=(ac.block D (Au.1 OO).1).trans OO;have J6:=km.cell;refine rdy 0 (λK hK=>?_);go_simp;refine hK.o hS (λhS=>?_);clear hK K J6
   all_goals
    obtain⟨v',w7,hr,ak,hg⟩:=Ht (P:=Do) X1 O 38 38 3 i0 _ 1 8 Dk fw.out rn.out mo.out mq.out rfl Gu (Ad A9 k k9) k (It xs) bw A3 n2 c3 (It (HY.map (rdV r))) (eT _) (Rd.of_own au) KN Gu Gu ET;obtain⟨A',c',rfl,IB,GP⟩:=Hw ak;obtain⟨ym,tr,ii,DP,aj⟩:=dN km Ha bw ET (Am O) ak hg;have hnB:=vK bw kh Ha;have OL:=(hg.block B (Au.1 kh).1 hnB).trans kh;have hnN:=vK bw zp Ha;have E4:=Bm8 bw GQ;have dc:Below O X1 w7:=(Ag O X1).grown hg ET (λq hq=>(bw.lt q hq).1);have hBO:B≠O:=λe=>by subst e;rw[show X1.heap[B]? =_ from km]at kh;injection kh with kh;injection kh with _ h2;exact absurd h2 Ha
    have LI:(w7.setCell ⟨O,0,Ae⟩ (Ad A' (k+n2) c')).heap[B]? =Af (.cells #[Ad r.FA r.fr.length r.c1,Ad r.BA r.bk.length r.c2] 61 (0,0)):=(Is hBO).trans OL;have R4:Bn≠O:=λe=>by subst e;rw[show X1.heap[Bn]? =_ from km]at zp;injection zp with zp;injection zp with _ h2;exact absurd h2 Ha
    have hDO:D≠O:=λe=>by subst e;rw[show X1.heap[D]? =_ from km]at GQ;cases GQ
    have hn8:=(Is (i:=0) (v:= Ad A' (k+n2) c') R4).trans ((hg.block Bn (Au.1 zp).1 hnN).trans zp);have hd8:=(Is (i:=0) (v:= Ad A' (k+n2) c') hDO).trans ((hg.block D (Au.1 GQ).1 E4).trans GQ);have QC:=Ah (wz.out _ (it.trans dc) OL);have nj:=Ah (wz.out _ (it.trans aj) LI);have HR:=Ah hr;rw[<-eS]at ii;have aw:=Ah (Cm ((oT (B:=ng.heap.size) zb).trans (DP.from _)) (Cm (show Mo O Bn W _ from⟨(zb.mono za).trans aj,hn8.trans V0.symm⟩) (Cm (⟨_,tr,ii,trivial⟩:∃v,Boxed (w7.setCell ⟨O,0,Ae⟩ (Ad A' (k+n2) c')) O 38 v/\(w7.setCell ⟨O,0,Ae⟩ (Ad A' (k+n2) c')).ownsRow O 3 1 v (k+n2) (It (xs++HY.map (rdV r)))/\True) (Cm hn8 (Cm hd8 (QL.trans ((zb.mono za).trans aj)))))));have y0:=ym.cell;have y1:=ym.frozen;clear hr ak hg tr ii DP aj OL LI ym bw km au hn8 hd8;refine rdy 5 (λK hK=>?_);refine Zu (by simp[Dy,yielded]) (.tmp 74) (.tmp 78) 38 rfl _ _ Qs Qs _ _ HR.out ?_;refine hK.o QC.out (λhS=>?_);clear hK K;refine rdy 6 (λK hK=>?_);go_simp;refine hK.o nj.out (λhS=>?_);clear hK K;refine An Gw ?_ _
    gi_wp2
    obtain⟨k1,k2,⟨v9,OX,BT,-⟩,k4⟩:=aw.out;refine⟨k1,k2,⟨v9,OX,?_,trivial⟩,k4⟩;rw[HHY.out,FV.out.1,FV.out.2];exact BT
  case done=>
   rintro D2 ys W hD2 rfl ⟨⟨v,hv,ag,-⟩,SF,OO,QL⟩ hK2;rw[Bt1,kM]at ag
   have ZQ:M4++(l.reverse.flatMap λr=>p2.map (rdV r))=RL:=by
    rw[<-AY.out,<-HX0.out.1];rfl
   have ZR:k0+l.length*n2=RL.length:=by
    rw[<-ZQ,Bh,bD,HK0L.out,List.length_reverse,f_.out.2]
   rw[ZQ,ZR]at ag
   have hRLb:RL.length<=10000*512+10000*512:=by
    rw[<-ZR];have:l.length*n2<=10000*512:=Gp Gu Gu;omega
   obtain⟨mr,hmr⟩:=ey RL.length;rw[hmr]at ag hRLb;have HMR:=Ah hmr;obtain⟨A9,k9,e9,h9a,h9b⟩:=Hw ag;subst e9;have hc:=hv.cell;have OE:Below O w9 W:=QJ.trans QL;have hwW:=(K_.out W OE).1.below;clear ZQ ZR hmr OE;go_wp2_with fail;refine(Yp A9 mr k9 _ h9a h9b).mono ?_;rintro e ED ⟨rfl,ka⟩;have CY:=(ka.block D2 (Au.1 hK2).1).trans hK2;have hD11:=(ka.block D (Au.1 OO).1).trans OO;have hne:D≠D2:=Gu;have ZI:(ED.putObj D2 (.deferred Ae)).heap[D]? =Af (.deferred (Af [])):=(World.putObj_heap_other hne).trans hD11;have yd:=ownsRow_putObj (ownsRow_putObj (Hx ag (Am _) ka) (.deferred Ae) CY rfl) (.deferred Ae) ZI rfl;have ze:Below w.heap.size w ED:=hwW.trans (ka.mono hwW.size);have zf:Below w.heap.size w (ED.putObj D2 (.deferred Ae)):=ze.trans (belowK_b (n₀:=w.heap.size) (w:=w9) hwO9 ED D2 _ _ Gu CY rfl rfl);have VH:Below w.heap.size w ((ED.putObj D2 (.deferred Ae)).putObj D (.deferred Ae)):=zf.trans (belowK_b (n₀:=w.heap.size) (w:=w9) hwO9 _ D _ _ hD ZI rfl rfl);have XM:=Ah (Cm (Rd.of_own yd) (Cm VH (Cm CY ZI)));clear yd ze zf VH ka ag hv hc;go_wp2_with fail;refine⟨Gx,.inl ⟨_,_,rfl,run_takeDeferred XM.out.2.2.1,?_⟩⟩;refine⟨Gx,.inl ⟨_,_,rfl,run_takeDeferred XM.out.2.2.2,?_⟩⟩;refine⟨.tuple #[Ad A9 mr mr,Aa Ab 0],by simp[results,Tryz.results16,go_sem],?_⟩;exact⟨A9,by rw[HMR.out],by rw[HMR.out];exact XM.out.1,XM.out.2.1⟩
end Go.Proofs.YtlgkpdfieaadaaaGreatDoor
namespace Go.Proofs.YtlgkpdfieaadaaaGreatDoor
theorem lZ {a b:Nat} {t:St} {m:List Mv} (I:Jp a b 1 1 t m) {q:Nat} (hq:q<4):∃h:q<t.l.length,t.l[q].c=⟨0,0,q⟩/\t.l[q].ls=atF t.l ⟨0,0,q⟩:=by
 have hf:=cD I
 have hl:t.l.length=4:=by
  have:=congrArg List.length hf;simpa using this
 have hc:∀i (hi:i<t.l.length),t.l[i].c=⟨0,0,i⟩:=λi hi=>by
  have h1:(t.l.map (·.c))[i]? =Af t.l[i].c:=by rw[Fq,Aw hi];rfl
  rw[hf]at h1;have:i=0∨i=1∨i=2∨i=3:=Gu;rcases this with rfl|rfl|rfl|rfl
  all_goals
   simp only[List.getElem?_cons_zero,Cw,Option.some.injEq]at h1;exact h1.symm
 refine⟨Gu,hc q Gu,?_⟩
 rw[An5 (i:=q) Gu (hc q Gu) λj hj ad=>by
  rw[hc j hj];intro e;injection e with _ _ e;omega]
def mL (a b:Nat) (L:List Nat) (fl:List (Option Nat)):Bool:=(Dr L.length).all λi=>match L[L.length-1-i]? with
 |none=>false
 |some y=>match fl.getD i Ae with
  |none=>decide ((nbI (a:Int) (b:Int) (y:Int) 0).2≠0)
  |some j=>decide (j<L.length)&&(match L[L.length-1-j]? with
   |none=>false
   |some x=>decide (nbI (a:Int) (b:Int) (y:Int) 0=((x:Int),0)))
def flF (fl:List (Option Nat)):Nat->Option Nat:=λi=>fl.getD i Ae
theorem Yn {a b:Nat} {L:List Nat} {fl:List (Option Nat)} (h:mL a b L fl=true):Uu a b L (flF fl):=λi hi=>by
 have h1:=Ec.1 h i (Ea.2 hi)
 cases hy:L[L.length-1-i]? with
 |none=>
  rw[hy]at h1
  cases h1
 |some y=>
  rw[hy]at h1;refine⟨y,rfl,?_⟩;unfold flF
  cases hf:fl.getD i Ae with
  |none=>
   rw[hf]at h1;exact .inl ⟨Rl h1,rfl⟩
  |some j=>
   rw[hf]at h1;simp only[El,Lg]at h1;obtain⟨h2,h3⟩:=h1
   cases hx:L[L.length-1-j]? with
   |none=>
    rw[hx]at h3
    cases h3
   |some x=>
    rw[hx]at h3;exact .inr ⟨j,x,h2,rfl,Rl h3,hx⟩
def fl0:List (Option Nat):=[Ae,Ae,Ae,Ae]
def fl1:List (Option Nat):=[Af 1,Af 0,Af 3,Af 2]
def fl2:List (Option Nat):=[Af 3,Af 2,Af 1,Af 0]
theorem Bg1 {fl:List (Option Nat)} {a b:Nat} (h:flF fl a=Af b):a<fl.length:=by
 refine Classical.byContradiction λhn=>?_;unfold flF at h;rw[Ds,Ei Gu]at h
 cases h
theorem Bo9 {fl:List (Option Nat)} (hl:fl.length=4) (h1:((Dr 4).all λa=>(Dr 4).all λb=>(flF fl a != Af b)||(decide (a≠b)&&(flF fl b==Af a)))=true) (h0:((Dr 4).all λa=>match flF fl a with|none=>true|some b=>decide (b<4))=true)
  (h2:((Dr 4).all λa=>(Dr 4).all λb=>(Dr 4).all λc=>(Dr 4).all λd=>(flF fl a != Af b)||(flF fl c != Af d)|| !(decide (a<b/\c<d/\a<c/\c<b))||decide (d<b))=true):Nc (flF fl) 4:=by
 have lt:∀a b,flF fl a=Af b->a<4/\b<4:=λa b h=>by
  have ha:a<4:=hl▸Bg1 h;have:=Ec.1 h0 a (Ea.2 ha);rw[h]at this;exact⟨ha,Rl this⟩
 refine⟨λa b h=>?_,λa b c d e1 e2 g1 g2 g3 g4=>?_⟩
 ·obtain⟨ha,hb⟩:=lt a b h;have:=Ec.1 (Ec.1 h1 a (Ea.2 ha)) b (Ea.2 hb);rw[h]at this;simp at this;exact⟨ha,hb,this⟩
 ·obtain⟨ha,hb⟩:=lt a b e1;obtain⟨hc,hd⟩:=lt c d e2;have:=Ec.1 (Ec.1 (Ec.1 (Ec.1 h2 a (Ea.2 ha)) b (Ea.2 hb)) c (Ea.2 hc)) d (Ea.2 hd);rw[e1,e2]at this;simp[g1,g2,g3,g4]at this;exact this
theorem Bt2:Nc (flF fl1) 4:=Bo9 rfl (by decide+kernel) (by decide+kernel) (by decide+kernel)
theorem Bt3:Nc (flF fl2) 4:=Bo9 rfl (by decide+kernel) (by decide+kernel) (by decide+kernel)
def Be9:Fd:=⟨1,1,1,true⟩
def By8:Fd:=⟨2,1,1,true⟩
def bxR:Bool:=(((Jq 2 2).do Be9).2.bind λv=>(v.do By8).2).any λu=>mL 2 2 (atF u.l ⟨0,0,0⟩) fl0&&mL 2 2 (atF u.l ⟨0,0,1⟩) fl1&&mL 2 2 (atF u.l ⟨0,0,2⟩) fl2&&mL 2 2 (atF u.l ⟨0,0,3⟩) fl0
theorem Bf1:bxR=true:=Gw
theorem mQ:Se 1 1 3=[Be9,By8]:=by decide+kernel
theorem By9 {t:St} (h:Uj (Se 1 1 3) (Jq 2 2) t):Uu 2 2 (atF t.l ⟨0,0,0⟩) (flF fl0)/\Uu 2 2 (atF t.l ⟨0,0,1⟩) (flF fl1)/\Uu 2 2 (atF t.l ⟨0,0,2⟩) (flF fl2)/\Uu 2 2 (atF t.l ⟨0,0,3⟩) (flF fl0):=by
 rw[mQ]at h;obtain⟨v,hv,-,-,-,u,hu,-,-,-,rfl⟩:=h;have:=Bf1;unfold bxR at this;rw[hv]at this;dsimp only[Option.bind]at this;rw[hu]at this;simp only[Option.any_some,El]at this;obtain⟨⟨⟨h1,h2⟩,h3⟩,h4⟩:=this;exact⟨Yn h1,Yn h2,Yn h3,Yn h4⟩
open Go.RowKit
def Wy (fr:List (List Int)):Nat:=2*fr.length*(fr.getD 0 []).length
theorem xQ {fr bk:List (List Int)} (h:fmE fr bk=0):0<fr.length/\fr.length=bk.length/\0<(fr.getD 0 []).length/\(∀r∈fr++bk,r.length=(fr.getD 0 []).length):=by
 unfold fmE at h
 split at h
 ·cases h
 ·rename_i h1
  split at h
  ·cases h
  ·rename_i h2;refine⟨Gu,Gu,Gu,λr hr=>?_⟩;rw[Eo,Dt]at h2;have:=h2 r hr;simpa using this
theorem zG (FA BA:Option Ci) (fr bk:List Ix) (c1 c2 n1 n2:Nat) (n:Nat) (w:Aj) (hF:dH w FA BA fr bk) (ff:n1=fr.length) (kr:n2=bk.length) (hE:fmE (ksL fr) (ksL bk)=0) (h1:1<=n) (h2:n<=10000):
  Al Do 39 #[.agg #[Ad FA n1 c1,Ad BA n2 c2],(n:Nat)] w (Gy (.tuple #[Aa Ab (Wy (ksL fr):Nat),Aa Ab ((n+Wy (ksL fr)-1)/Wy (ksL fr):Nat),Aa Ab 0]) w):=by
 have mi:=Ah (λ(w':Aj) (hb:Below w.heap.size w w')=>sU FA BA fr bk c1 c2 w' (hF.f.below hb) (hF.b.below hb) hF.lf hF.lb hF.lk);rw[<-ff,<-kr]at mi;obtain⟨p1,-,p2,-⟩:=xQ hE;unfold ksL at hE;rw[hE]at mi;have hl:0<fr.length:=by simpa[ksL]using p1
 have gn:=hF.lf;have JO:=hF.lk fr[0] (Gb _ (Ay _));have hw:(ksL fr).getD 0 []=fr[0].ks:=dD hl;obtain⟨wd,WK⟩:=ey (fr[0].ks.length)
 have hq:Wy (ksL fr)=2*n1*wd:=by
  unfold Wy;rw[hw,WK,ff];simp[ksL]
 rw[hw,WK]at p2;rw[WK]at JO;have EH:=Ah (λ(w':Aj) (hb:Below w.heap.size w w')=>(hF.f.below hb).at' 0 hl);rw[WK]at EH;obtain⟨q,hqq⟩:=ey (Wy (ksL fr));rw[hqq]at hq⊢;have hn1l:n1<=100:=Gu
 have SJ:q<=20000:=by
  rw[hq];have h3:2*n1*wd<=200*100:=Gp Gu JO;omega
 have zx:0<q:=by
  rw[hq];exact Nat.mul_pos Gu p2
 have e1:Ab.wrap (2*(n1:Int))=2*(n1:Int):=Ca _ Gu
 have e2:Ab.wrap (2*(n1:Int)*(wd:Int))=(q:Int):=by
  have h3:2*(n1:Int)*(wd:Int)=(q:Int):=by rw[hq];push_cast;rfl
  rw[h3];exact Ca _ Gu
 have e3:Ab.wrap ((n:Int)+(q:Int))=(n:Int)+(q:Int):=Ca _ Gu
 have e4:Ab.wrap ((n:Int)+(q:Int)-1)=((n+q-1:Nat):Int):=by
  rw[Ca _ Gu];omega
 obtain⟨u,hu⟩:=ey (n+q-1);rw[hu]at e4⊢;obtain⟨m,hm⟩:=ey (u/q);have VT:m<=u:=hm▸Nat.div_le_self u q;have e5:(u:Int).tdiv (q:Int)=(m:Int):=by rw[<-hm];exact Int.ofNat_tdiv u q
 have e6:Ab.wrap (m:Int)=(m:Int):=Ca _ Gu;have q2:((q:Int)==0)=false:=Hu;have q3:¬(q:Int)=0:=Gu;have q4:(0:Int)<(n1:Int):=Gu;have q5:¬(n:Int)<1:=Gu;have q6:¬(n:Int)>10000:=Gu;rw[hm];have H:=(Bx.start w).new #[Ad FA n1 c1,Ad BA n2 c2] 61 rfl;clear hF ff kr hE h1 h2 p1 p2 gn JO hw WK hq hqq SJ zx hn1l hu hm VT;go_enter Tryz.func39,Tryz.ntmps39;go_upto_region 1 with fail;generalize w.alloc _=W at H⊢;obtain⟨⟨a0,a1⟩,-⟩:=Hn (H.b 0);go_wp2_with fail;refine(mi.out _ H.below).mono ?_;rintro ee w2 ⟨rfl,hb⟩;have H2:=H.call hb;clear a0 a1 hb H mi;obtain⟨b,o,rfl,cj,c0⟩:=EH.out _ H2.below;simp only[De]at c0;have EY:=c0;obtain⟨⟨a0,a1⟩,-⟩:=Hn (H2.b 0);go_upto_region 8 with fail
 go_quiet (fail)
 clear a0 a1 c0 e1 e2;go_upto_region 9 with fail
 go_quiet (fail)
 go_wp2_with fail;refine Ai (v:= .tuple #[q,m,Aa Ab 0]) (by simp[results,Tryz.results39,go_sem]) rfl ?_;exact⟨rfl,Ij (Ij H2.below _) _⟩
theorem Ac1 (p k q P:Nat) (w:Aj) (hP:w.cell? ⟨P,0,Ae⟩=Af (Aa Ab (q:Nat))) (hb:p+k*q<=1000000000/\k*q<=1000000000):
  Al Do 41 #[(p:Nat),(k:Nat),.pointer (Af ⟨P,0,Ae⟩)] w (Gy (Aa Ab ((p+k*q:Nat):Int)) w):=by
 obtain⟨z,hz⟩:=ey (k*q);rw[hz]at hb⊢;have e0:(k:Int)*(q:Int)=(z:Int):=by rw[<-hz];push_cast;rfl
 have e1:Ab.wrap ((k:Int)*(q:Int))=(z:Int):=by rw[e0];exact Ca _ Gu
 have e2:Ab.wrap ((p:Int)+(z:Int))=((p+z:Nat):Int):=by rw[Ca _ Gu];omega
 clear e0 hz hb;go_enter Tryz.func41,Tryz.ntmps41;go_wp2;go_ret;exact⟨rfl,Ag _ _⟩
theorem As2 (p k h m P Q:Nat) (w:Aj) (hP:w.cell? ⟨P,0,Ae⟩=Af (Aa Ab ((2*h:Nat):Int))) (hQ:w.cell? ⟨Q,0,Ae⟩=Af (Aa Ab (m:Nat))) (hp:p<=2*h) (hk:k<m) (hb:m*(2*h)<=1000000000):
  Al Do 42 #[(p:Nat),(k:Nat),.pointer (Af ⟨P,0,Ae⟩),.pointer (Af ⟨Q,0,Ae⟩)] w (Gy (Aa Ab ((pP h m k p:Nat):Int)) w):=by
 obtain⟨q,hq⟩:=ey (2*h);have hkm:k*q<=m*q:=Ft q Gu;have hkh:k*h<=k*q:=Cx k Gu;have DP:k*q=k*h+k*h:=by rw[<-hq,Nat.mul_comm 2 h,<-Fg];omega
 have C9:k*q+q<=m*q:=by
  have:=Ft q (show k+1<=m by omega)
  rwa [Nat.add_mul,Nat.one_mul]at this
 rw[hq]at hP hp hb;have O7:Hid (pP h m k p=if p<=h then p+k*h else m*q-k*h-(q-p)):=Ah (by unfold pP;rw[hq]);obtain⟨z,hz⟩:=ey (k*q);obtain⟨y,hy⟩:=ey (k*h);obtain⟨x,hx⟩:=ey (m*q);rw[hz,hy]at DP;rw[hy,hx]at O7;rw[hz,hx]at C9;rw[hx]at hb;have t0:(k:Int)*(q:Int)=(z:Int):=by rw[<-hz];push_cast;rfl
 have t1:(m:Int)*(q:Int)=(x:Int):=by rw[<-hx];push_cast;rfl
 have e0:(q:Int).tdiv 2=(h:Int):=by rw[Gh Gu];omega
 have e1:(z:Int).tdiv 2=(y:Int):=by rw[Gh Gu];omega
 have e2:Ab.wrap ((k:Int)*(q:Int))=(z:Int):=by rw[t0];exact Ca _ Gu
 have e3:Ab.wrap ((m:Int)*(q:Int))=(x:Int):=by rw[t1];exact Ca _ Gu
 have e4:Ab.wrap (h:Int)=(h:Int):=Ca _ Gu;have e5:Ab.wrap (y:Int)=(y:Int):=Ca _ Gu;have e6:Ab.wrap ((p:Int)+(y:Int))=((p+y:Nat):Int):=by rw[Ca _ Gu];omega
 have e7:Ab.wrap ((x:Int)-(y:Int))=(x:Int)-(y:Int):=Ca _ Gu;have e8:Ab.wrap ((q:Int)-(p:Int))=(q:Int)-(p:Int):=Ca _ Gu;have e9:Ab.wrap ((x:Int)-(y:Int)-((q:Int)-(p:Int)))=((x-y-(q-p):Nat):Int):=by rw[Ca _ Gu];omega
 obtain⟨R,hR⟩:=ey (pP h m k p);rw[hR]at O7⊢;by_cases zv:p<=h
 ·have q0:(p:Int)<=(h:Int):=Gu;have HF:Hid (R=p+y):=Ah (by rw[O7.out,Hd zv]);clear O7 hR hz hy hx hkm hkh DP C9 hq t0 t1 hp hk hb zv e7 e8 e9;go_enter Tryz.func42,Tryz.ntmps42;go_wp2;go_ret;exact⟨by rw[HF.out];rfl,Ag _ _⟩
 ·have q0:¬(p:Int)<=(h:Int):=Gu;have HF:Hid (R=x-y-(q-p)):=Ah (by rw[O7.out,Gz zv]);clear O7 hR hz hy hx hkm hkh DP C9 hq t0 t1 hp hk hb zv e6;go_enter Tryz.func42,Tryz.ntmps42;go_wp2;go_ret;exact⟨by rw[HF.out];rfl,Ag _ _⟩
theorem Aq6 {fr bk:List (List Int)} (h:fmE fr bk=0):∀r∈fr++bk,∀v∈r,v≠0/\v.natAbs<=Wy fr:=λr hr v hv=>by
 obtain⟨p1,p2,p3,p4⟩:=xQ h;have hl:=aP (fr++bk) p4
 have hq:(fr++bk).flatten.length=Wy fr:=by
  rw[hl,Bh,<-p2];unfold Wy;rw[<-Nat.two_mul]
 have hn:Ag2 (fr++bk).flatten.length (fr++bk).flatten=true:=by
  unfold fmE at h;rw[Gz Gu,Gz]at h
  ·split at h
   ·assumption
   ·cases h
  ·rw[Eo,Dt];intro r hr;simpa using p4 r hr
 obtain⟨k,hk,rfl⟩:=Be.1 (List.mem_flatten.2 ⟨r,hr,hv⟩);have h1:=Ec.1 hn k (Ea.2 hk);unfold Xg at h1
 have e:(fr++bk).flatten.getD k 0=(fr++bk).flatten[k]:=by
  rw[Ds,Aw hk];rfl
 rw[e,hq]at h1;simp only[El,Lg]at h1;exact⟨h1.1.1,h1.1.2⟩
theorem zF {FA BA:Option Ci} {fr bk:List Ix} {w:Aj} (hF:dH w FA BA fr bk):Wy (ksL fr)<=20000:=by
 unfold Wy
 have h1:(ksL fr).length<=100:=by
  have:=hF.lf;simpa[ksL]using this
 have h2:((ksL fr).getD 0 []).length<=100:=by
  by_cases h0:0<fr.length
  ·rw[dD h0];exact hF.lk _ (Gb _ (Ay _))
  ·have:fr=[]:=List.eq_nil_of_length_eq_zero Gu;subst this;simp[ksL]
 have h3:2*(ksL fr).length*((ksL fr).getD 0 []).length<=200*100:=Gp Gu h2;omega
theorem yH {fr bk:List Ix} (hE:fmE (ksL fr) (ksL bk)=0):∀r∈fr++bk,∀v∈r.ks,v.natAbs<=Wy (ksL fr):=λr hr v hv=>by
 refine(Aq6 hE r.ks ?_ v hv).2;unfold ksL;rw[<-Ey];exact List.mem_map_of_mem hr
def Vw (G:Nat->Nat->Nat) (fr bk:List Ix) (m:Nat) (w:Aj) (e:Ending) (w':Aj):Prop:=∃(A:Option Ci) (l:List FoR),e= .returned (.tuple #[Ad A m m,Aa Ab 0])/\l.length=m/\Un w' A l/\(∀k (hk:k<l.length),ksL l[k].fr=trR (G k) (ksL fr)/\ksL l[k].bk=trR (G k) (ksL bk)/\l[k].fr.length=fr.length/\l[k].bk.length=bk.length/\∀r∈l[k].fr++l[k].bk,r.c=r.ks.length)/\Below w.heap.size w w'
theorem Ac2 (FA BA:Option Ci) (fr bk:List Ix) (c1 c2 n1 n2:Nat) (n q m:Nat) (w:Aj) (hF:dH w FA BA fr bk) (ff:n1=fr.length) (kr:n2=bk.length) (hE:fmE (ksL fr) (ksL bk)=0) (h1:1<=n) (h2:n<=10000) (hq:q=Wy (ksL fr)) (hm:m=(n+q-1)/q):
  Al Do 14 #[.agg #[Ad FA n1 c1,Ad BA n2 c2],(n:Nat)] w (Vw (λk=>wR n q k) fr bk m w):=by
 have om:=Ah (λ(w':Aj) (hb:Below w.heap.size w w')=>zG FA BA fr bk c1 c2 n1 n2 n w' (hF.below hb) ff kr hE h1 h2);have SJ:=zF hF;have jw:=yH hE;rw[<-hq]at SJ om jw;rw[<-hm]at om;have SE:m*q<=n+q-1:=by rw[hm];exact Nat.div_mul_le_self _ _
 have U7:∀k,k<m->k*q<=m*q:=λk hk=>Ft q Gu
 have mw:m<=10000:=by
  by_cases h0:q=0
  ·subst h0;simp at hm;omega
  ·have:m<=m*q:=Nat.le_mul_of_pos_right m Gu;rw[hm];refine Nat.div_le_of_le_mul ?_
   have:n+q-1<=q*n:=by
    obtain⟨d,rfl⟩:∃d,q=d+1:=⟨q-1,Gu⟩;rw[Nat.add_mul,Nat.one_mul];have:d<=d*n:=Nat.le_mul_of_pos_right d Gu;omega
   exact Br this (Cx q Gu)
 have JZ:=Ah (λ(P:Nat) (w':Aj) (hb:Below w.heap.size w w') (hP:w'.cell? ⟨P,0,Ae⟩=Af (Aa Ab (q:Nat)))=>dW 41 (λ_ _=>rfl) #[.pointer (Af ⟨P,0,Ae⟩)] (λk p=>p+k*q) n m FA BA fr bk c1 c2 n1 n2 w' (hF.below hb) ff kr mw
  (λr hr v hv=>by have:=jw r hr v hv;omega) (λr hr v hv k hk=>by have:=jw r hr v hv;have:=U7 k hk;(try dsimp only);omega)
  (λv k w2 hv hk aj=>by
   obtain⟨r,hr,J7⟩:=hv;have a1:=jw r hr v J7;have a2:=U7 k hk;exact Ac1 v.natAbs k q P w2 (Gv aj hP) ⟨Gu,Gu⟩))
 have H:=(Bx.start w).new #[Ad FA n1 c1,Ad BA n2 c2] 61 rfl;clear hF ff kr hE h1 h2 SJ jw SE U7 mw hq hm;go_enter Tryz.func14,Tryz.ntmps14;go_upto_region 1 with fail;generalize w.alloc _=W at H⊢;obtain⟨⟨a0,a1⟩,-⟩:=Hn (H.b 0);go_wp2_with fail;refine(om.out _ H.below).mono ?_;rintro ee w2 ⟨rfl,hb⟩;obtain⟨P,hP⟩:=ey w2.heap.size;have H2:=(H.call hb).new #[(q:Nat)] 3 hP;clear a0 a1 hb H om;go_upto_region 2 with fail
 try rw[hP]
 generalize w2.alloc _=W2 at H2⊢;clear hP;obtain⟨⟨a0,a1⟩,-⟩:=Hn (H2.b 0);go_wp2_with fail;refine(JZ.out P _ H2.below (Me (H2.b 1)).1).mono ?_;rintro ee w3 ⟨A,l,rfl,hl,xm,DQ,hb⟩;have H3:=H2.call hb;have HB:Hid (Vw (λk=>wR n q k) fr bk m w (.returned (.tuple #[Ad A m m,Aa Ab 0])) w3):=Ah ⟨A,l,rfl,hl,xm,DQ,H3.below⟩;clear a0 a1 hb H2 hl xm DQ JZ H3;go_wp2_with fail;refine Ai (v:= .tuple #[Ad A m m,Aa Ab 0]) (by simp[results,Tryz.results14,go_sem]) rfl ?_;exact HB.out
theorem Ad7 (FA BA:Option Ci) (fr bk:List Ix) (c1 c2 n1 n2:Nat) (n h m:Nat) (w:Aj) (hF:dH w FA BA fr bk) (ff:n1=fr.length) (kr:n2=bk.length) (hE:fmE (ksL fr) (ksL bk)=0) (h1:1<=n) (h2:n<=10000) (hq:2*h=Wy (ksL fr)) (h4:h%2=0) (hm:m=(n+2*h-1)/(2*h)):
  Al Do 15 #[.agg #[Ad FA n1 c1,Ad BA n2 c2],(n:Nat)] w (Vw (λk=>mB n h m k) fr bk m w):=by
 have om:=Ah (λ(w':Aj) (hb:Below w.heap.size w w')=>zG FA BA fr bk c1 c2 n1 n2 n w' (hF.below hb) ff kr hE h1 h2);have SJ:=zF hF;have jw:=yH hE;rw[<-hq]at om SJ jw;rw[<-hm]at om;have SE:m*(2*h)<=n+2*h-1:=by rw[hm];exact Nat.div_mul_le_self _ _
 have mw:m<=10000:=by
  by_cases h0:h=0
  ·subst h0;simp at hm;omega
  ·rw[hm];refine Nat.div_le_of_le_mul ?_
   have:n+2*h-1<=2*h*n:=by
    obtain⟨d,hd⟩:∃d,2*h=d+1:=⟨2*h-1,Gu⟩;rw[hd,Nat.add_mul,Nat.one_mul];have:d<=d*n:=Nat.le_mul_of_pos_right d Gu;omega
   exact Br this (Cx _ Gu)
 have JZ:=Ah (λ(P Q:Nat) (w':Aj) (hb:Below w.heap.size w w') (hP:w'.cell? ⟨P,0,Ae⟩=Af (Aa Ab ((2*h:Nat):Int))) (hQ:w'.cell? ⟨Q,0,Ae⟩=Af (Aa Ab (m:Nat)))=>dW 42 (λ_ _=>rfl) #[.pointer (Af ⟨P,0,Ae⟩),.pointer (Af ⟨Q,0,Ae⟩)] (λk p=>pP h m k p) n m FA BA fr bk c1 c2 n1 n2 w' (hF.below hb) ff kr mw
  (λr hr v hv=>by have:=jw r hr v hv;omega) (λr hr v hv k hk=>by
   have h5:=jw r hr v hv;have h6:k*h<=m*(2*h):=Gp Gu Gu
   try dsimp only
   unfold pP
   split<;>omega)
  (λv k w2 hv hk aj=>by
   obtain⟨r,hr,J7⟩:=hv;have a1:=jw r hr v J7;exact As2 v.natAbs k h m P Q w2 (Gv aj hP) (Gv aj hQ) a1 hk Gu))
 obtain⟨q,hqq⟩:=ey (2*h);rw[hqq]at JZ om SJ;have t1:(q:Int).tmod 4=0:=by rw[Int.tmod_eq_emod_of_nonneg Gu];omega
 have H:=(Bx.start w).new #[Ad FA n1 c1,Ad BA n2 c2] 61 rfl;clear hF ff kr hE h1 h2 SJ jw SE mw hq hm hqq h4;go_enter Tryz.func15,Tryz.ntmps15;go_upto_region 1 with fail;generalize w.alloc _=W at H⊢;obtain⟨⟨a0,a1⟩,-⟩:=Hn (H.b 0);go_wp2_with fail;refine(om.out _ H.below).mono ?_;rintro ee w2 ⟨rfl,hb⟩;obtain⟨P,hP⟩:=ey w2.heap.size;have H2:=((H.call hb).new #[(q:Nat)] 3 hP).new #[(m:Nat)] 3 (N:=P+1) (by simp[hP]);clear a0 a1 hb H om;go_upto_region 2 with fail
 try rw[hP]
 generalize (w2.alloc _).alloc _=W2 at H2⊢;clear hP;obtain⟨b0,-⟩:=Me (H2.b 1);obtain⟨d0,-⟩:=Me (H2.b 2);obtain⟨⟨a0,a1⟩,-⟩:=Hn (H2.b 0);go_wp2_with fail;refine(JZ.out P (P+1) _ H2.below (Me (H2.b 1)).1 (Me (H2.b 2)).1).mono ?_;rintro ee w3 ⟨A,l,rfl,hl,xm,DQ,hb⟩;have H3:=H2.call hb;have HB:Hid (Vw (λk=>mB n h m k) fr bk m w (.returned (.tuple #[Ad A m m,Aa Ab 0])) w3):=Ah ⟨A,l,rfl,hl,xm,DQ,H3.below⟩;clear a0 a1 b0 d0 hb H2 hl xm DQ JZ H3;go_wp2_with fail;refine Ai (v:= .tuple #[Ad A m m,Aa Ab 0]) (by simp[results,Tryz.results15,go_sem]) rfl ?_;exact HB.out
theorem Cc1 {a b:Nat} {t:St} {m:List Mv} (I:Jp a b 1 1 t m) (ha:a<=8) (hb:b<=4):wZ a b t m (atF t.l ⟨0,0,0⟩):=by
 have me:=I.G.pos;have e4:4*a*b=4*(a*b):=Fg 4 a b;have DB:1<=a:=Nat.pos_of_ne_zero λe=>by subst e;simp at me
 have ci:1<=b:=Nat.pos_of_ne_zero λe=>by subst e;simp at me
 have jk:a*b<=8*4:=Gp ha hb
 have qw:(atF t.l ⟨0,0,0⟩).length=a*b:=by
  have:=Yx I;unfold Ll at this
  rwa [List.length_reverse]at this
 have ig:=I.G.pl.len;obtain⟨h0,-,ij⟩:=lZ I (q:=0) Ha;refine⟨I.gs,I.G.sa,I.G.sb,⟨DB,Gu,ci,Gu⟩,λr hr=>?_,⟨_,I.G.both⟩,?_,?_,λi hi=>?_,Gu,Gu⟩
 ·obtain⟨h1,h2⟩:=I.flat r hr;unfold Cr.odd;rw[h1];rcases h2 with h2|h2<;>rw[h2]<;>rfl
 ·have:=congrArg List.length (cD I);simpa using this
 ·cases hl:t.l with
  |nil=>rw[hl]at h0;cases h0
  |cons x r=>
   refine⟨x,r,rfl,?_⟩;have h9:(x::r)[0].ls=atF t.l ⟨0,0,0⟩:=by simpa[hl]using ij
   rw[hl]at h9;exact h9
 ·have hm:i∈Ll t:=by unfold Ll;exact List.mem_reverse.2 hi
  obtain⟨h1,h2⟩:=Bh2 I hm;refine⟨h1,Gu,h2⟩
theorem Bo6 {a b:Nat} {t:St} {m:List Mv} (I:Jp a b 1 1 t m) (c:Cl):(atF t.l c).Nodup:=by
 have bj:(t.l.map (·.c)).Nodup:=(I.gs.lies (i:=0) (by rw[I.G.cnt];exact I.G.pos)).1;exact Pc (Ki I.gs.chkS).2.1 bj _
theorem By5 {a b:Nat} {t:St} {m:List Mv} (I:Jp a b 1 1 t m) {q:Nat} (hq:q<4):(atF t.l ⟨0,0,q⟩).length=a*b:=by
 have e4:4*a*b=4*(a*b):=Fg 4 a b;have bj:=Bo6 I ⟨0,0,q⟩
 have ad:∀i∈atF t.l ⟨0,0,q⟩,i/4<a*b:=λi hi=>by
  have:=((I.G.mem_at I.gs _ i).1 hi).1;omega
 have h1:((atF t.l ⟨0,0,q⟩).map (· /4)).Nodup:=by
  unfold List.Nodup;rw[Ez];refine bj.imp_of_mem λ{i j} hi hj hne e=>hne ?_;have e:i/4=j/4:=e;obtain⟨z,-,-,hz⟩:=Th I hq (ad i hi);rw[hz i hi rfl,hz j hj e.symm]
 have h2:((atF t.l ⟨0,0,q⟩).map (· /4)).Perm (Dr (a*b)):=(List.perm_ext_iff_of_nodup h1 List.nodup_range).2 λk=>by
  rw[Dq,Ea]
  constructor
  ·rintro⟨i,hi,rfl⟩;exact ad i hi
  ·intro hk;obtain⟨j,hj,hm,-⟩:=Th I hq hk;exact⟨4*k+j,hm,Gu⟩
 have:=h2.length_eq
 rwa [Bo,Co]at this
theorem mM {a b:Nat} {t:St} {m:List Mv} (I:Jp a b 1 1 t m) (ha:a<=8) (hb:b<=4) {q:Nat} (hq:q<4) {f:Nat->Option Nat} (hB:Uu a b (atF t.l ⟨0,0,q⟩) f)
  (pA:Option Ci) (pc:Nat) (A:Option Ci) (cc:Nat) (w:Aj) (hA:AOk pA t.cr.length pc) (fp:Rd w pA 3 t.cr.length (crs t.cr)) (br:Hz w A t.l) (hQ:Qf w) (hT:Tn w):
  Al Do 7 #[.agg #[Aa Ab t.a,Aa Ab t.b,Ad pA t.cr.length pc,Aa Ac t.root.t,Aa Ab t.root.x,Aa Ab t.root.y,Ad A t.l.length cc],Aa Ac (q:Nat)] w (So f (a*b) w):=by
 obtain⟨h0,h1,h2⟩:=lZ I hq;have jk:a*b<=8*4:=Gp ha hb;refine Aa2 a b t m _ (Cc1 I ha hb) q hq f _ q h0 (by rw[h1]) (λj hj ad=>?_) h2 (a*b) (By5 I hq).symm (hB.to (Bo6 I _)) Gu pA pc A cc w hA fp br hQ hT;obtain⟨hz,h3,-⟩:=lZ I (q:=j) Gu;rw[h3];show j≠q;omega
def rdK (F B:List (List Int)) (p:Pg):Int:=Bw9 p (fmL F B p)
def zB (ks:List (List (List Int)×List (List Int))) (p1 p2:List Pg):List Int:=(ks.flatMap λr=>p1.map (rdK r.1 r.2))++ks.reverse.flatMap λr=>p2.map (rdK r.1 r.2)
def ksF (r:FoR):List (List Int)×List (List Int):=(ksL r.fr,ksL r.bk)
theorem zC (l:List FoR) (p1 p2:List Pg):Zo l p1 p2=zB (l.map ksF) p1 p2:=by
 unfold Zo zB;rw[<-List.map_reverse,List.flatMap_map,List.flatMap_map];rfl
theorem At3 {l:List FoR} {m:Nat} {G:Nat->Nat->Nat} {F B:List (List Int)} (hl:l.length=m) (h:∀k (hk:k<l.length),ksL l[k].fr=trR (G k) F/\ksL l[k].bk=trR (G k) B):l.map ksF=(Dr m).map λk=>(trR (G k) F,trR (G k) B):=by
 apply Gj
 ·simp[hl]
 ·intro i h1 h2;simp only[Bo]at h1;obtain⟨e1,e2⟩:=h i h1;simp[ksF,e1,e2]
def Bg0 (a b:Nat) (F:List (List Int)):Bool:=decide (F.length=b)&&F.all λr=>decide (r.length=a)
theorem Bz7 {a b:Nat} {rs:List Ix} (h:Bg0 a b (ksL rs)=true):On a b rs=true:=by
 unfold Bg0 at h;simp only[El,Lg,Ec]at h;obtain⟨h1,h2⟩:=h;unfold On;rw[Lb (by simpa[ksL]using h1),Bool.true_and]
 have:(rs.any λr=>decide (r.ks.length≠a))=false:=by
  rw[Dt];intro r hr;have:=h2 r.ks (by unfold ksL;exact List.mem_map_of_mem hr);simpa using this
 rw[this];rfl
theorem kN {a b:Nat} {g:Nat->Nat} {F:List (List Int)} {rs:List Ix} (h:ksL rs=trR g F) (hF:Bg0 a b F=true):On a b rs=true:=by
 refine Bz7 ?_;rw[h];unfold Bg0 trR at*;simp only[El,Lg,Ec,Bo,Dq]at hF⊢;refine⟨hF.1,?_⟩;rintro r ⟨x,hx,rfl⟩;rw[Bo];exact hF.2 x hx
def pgT (p:Pg):Nat×Nat×Bool×Bool:=(p.x,p.y,p.bk,p.dn)
def px1:List Pg:=[⟨1,0,true,false⟩,⟨1,0,false,false⟩,⟨0,0,false,false⟩,⟨0,0,true,false⟩]
def By7:Bool:=((Jq 2 1).do Be9).2.any λu=>decide (((Dr (2*(Ll u).length)).map λk=>pgT (pgK u.a.toNat (Ia u.a u.b u.cr u.root).1.1 (Ll u) k))=px1.map pgT)
theorem Ao2:By7=true:=Gw
theorem gY:Se 1 0 1=[Be9]:=by decide+kernel
theorem yU:∀{l l':List Pg},l.map pgT=l'.map pgT->l=l'
 |[],[],_=>rfl
 |[],_::_,h=>by cases h
 |_::_,[],h=>by cases h
 |⟨x,y,b,d⟩::l,⟨x',y',b',d'⟩::l',h=>by
  simp only[Er,List.cons.injEq,pgT,Prod.mk.injEq]at h;obtain⟨⟨rfl,rfl,rfl,rfl⟩,h⟩:=h;rw[yU h]
theorem Cb1 {t:St} {m:List Mv} (I:Jp 2 1 1 1 t m) (h:Uj (Se 1 0 1) (Jq 2 1) t):(Dr (2*(Ll t).length)).map (pgK 2 m (Ll t))=px1:=by
 rw[gY]at h;obtain⟨u,hu,-,-,-,rfl⟩:=h;have:=Ao2;unfold By7 at this;rw[hu]at this;simp only[Option.any_some,Lg]at this;have h1:(Ia u.a u.b u.cr u.root).1.1=m:=by rw[I.G.both]
 have h2:u.a.toNat=2:=by rw[I.G.sa];rfl
 rw[h1,h2]at this;refine yU ?_;rw[Fs];exact this
theorem Cb8 {a b:Nat} {t:St} {m:List Mv} (I:Jp a b 1 1 t m) (ha:a<=8) (hb:b<=4) (l:List FoR) (lA:Option Ci) (n lc:Nat) (hn:n=l.length) (U8:0<n) (ff:n<=10000) (nv:∀r∈l,On a b r.fr=true/\On a b r.bk=true)
  (ins:Bool) (h4:ins=true->(2*(a*b))%4=0) (pl p1 p2:List Pg) (dw:(Dr (2*(a*b))).map (pgK a m (Ll t))=pl) (sg:p1=if ins then pl.take (a*b)else pl) (lx:p2=if ins then pl.drop (a*b)else[])
  (pA:Option Ci) (pc:Nat) (A:Option Ci) (cc:Nat) (w:Aj) (hl:Un w lA l) (hA:AOk pA t.cr.length pc) (fp:Rd w pA 3 t.cr.length (crs t.cr)) (br:Hz w A t.l) (hQ:Qf w) (hT:Tn w):
  Al Do 16 #[Ad lA n lc,.agg #[Aa Ab t.a,Aa Ab t.b,Ad pA t.cr.length pc,Aa Ac t.root.t,Aa Ab t.root.x,Aa Ab t.root.y,Ad A t.l.length cc],.bool ins] w (wY (Zo l p1 p2) w):=by
 have qw:=Yx I;have e:(atF t.l ⟨0,0,0⟩).reverse=Ll t:=rfl
 have me:0<a*b:=by
  have:=I.G.pos;have e4:4*a*b=4*(a*b):=Fg 4 a b;omega
 have e2:2*(a*b)/2=a*b:=Gu;refine Bm4 a b t m _ (Cc1 I ha hb) (λk hk=>?_) l lA n lc hn U8 ff nv ins (2*(a*b)) (by rw[e,qw]) Gu h4 pl p1 p2 dw.symm (by rw[e2];exact sg) (by rw[e2];exact lx) pA pc A cc w hl hA fp br hQ hT;rw[e,qw]at hk;exact(Bw5 I).lt k hk
theorem Cb9 {w:Aj} {A:Option Ci} {rs:List Ix} {ks:List Int} (h:Jl w A rs) (hk:ksL rs=[ks]) (hc:∀r∈rs,r.c=r.ks.length):∃b o B,A=Af ⟨b,o,Ae⟩/\w.cell? ⟨b,o,Ae⟩=Af (Ad B ks.length ks.length)/\Rd w B 1 ks.length (It ks):=by
 match rs,h,hk,hc with
 |[r],h,hk,hc=>
  obtain rfl:r.ks=ks:=by simpa[ksL]using hk
  obtain⟨b,o,e,-,c0⟩:=h.at' 0 Gx;have c1:=hc r (Ge.2 rfl);have c0:w.cell? ⟨b,o+0,Ae⟩=Af (Ad r.A r.ks.length r.c):=c0;rw[c1,De]at c0;exact⟨b,o,r.A,e,c0,(h.row r (Ge.2 rfl)).rd⟩
end Go.Proofs.YtlgkpdfieaadaaaGreatDoor
