/- What SignaturesForme writes into a forme, in plain Lean: two numbers exchanged, one negated. No function of the program is named; no condition. · The closures of SignaturesForme: where a page is printed; a number that is told, and set. · What holds in the loops of SignaturesForme: the walk's own blocks, the forme, the pages. -/
import Derived.Test.YthpcfeifmdbhnaaGreatDoorQFrm
import Derived.Test.YthpcfeifmdbhnaaGreatDoorQLrp
open Go renaming Calls→Al,Value→Ak,World→Aj,bodyPost_ret→Ai
open Go.IntKind renaming i64→Ab
open Go.IntWalk renaming i64_in→Ca
open Go.Lib renaming hid→Ah
open Go.RowKit.Below renaming refl→Ag
open Go.Value renaming int→Aa,slice→Ad
open List renaming getElem?_eq_some_iff→Ax,mem_cons→Bk
open Nat renaming le_refl→Am,lt_of_lt_of_le→Bq
open Option renaming none→Ae,some→Af
set_option maxHeartbeats 4000000
set_option maxRecDepth 100000
namespace Go.Proofs.YthpcfeifmdbhnaaGreatDoor
def swF (A B:Nat) (v:Nat→Int):Nat→Int:=λk=>if k=B then v A else if k=A then v B else v k
def ngF (C:Nat) (v:Nat→Int):Nat→Int:=λk=>if k=C then-(v C)else v k
def swK (A B k:Nat):Nat:=if k=B then A else if k=A then B else k
theorem Xb2 (A B:Nat) (v:Nat→Int) (k:Nat):swF A B v k=v (swK A B k):=by
 unfold swF swK
 split
 ·rfl
 ·split
  ·rfl
  ·rfl
theorem Xb0 {A B k n:Nat} (ha:A<n) (hb:B<n) (hk:k<n):swK A B k<n:=by
 unfold swK
 split
 ·exact ha
 ·split
  ·exact hb
  ·exact hk
theorem Xb7 {A B j k:Nat} (h:swK A B j=swK A B k):j=k:=by
 unfold swK at h
 split at h<;>split at h<;>(try split at h)<;>(try split at h)<;>omega
theorem Xb8 (C:Nat) (v:Nat→Int) (k:Nat):(ngF C v k).natAbs=(v k).natAbs:=by
 unfold ngF
 split
 ·rename_i h;rw[h,Int.natAbs_neg]
 ·rfl
def fmU (a:Nat) (pg:Nat→Pg) (v:Nat→Int) (s:Mt×Mt):Nat→Mt×Mt
 |0=>s
 |k+1=>fmS a (fmU a pg v s k) (pg k) (v k)
theorem Xa3 {a b n:Nat} {pg:Nat→Pg} (h:Af9 a b pg n) (v:Nat→Int) (s:Mt×Mt):∀k,k≤n→∀j,j<k→fmG a (fmU a pg v s k) (pg j)=v j
 |0,_,j,hj=>absurd hj (Nat.not_lt_zero _)
 |k+1,hk,j,hj=>by
  show fmG a (fmS a (fmU a pg v s k) (pg k) (v k)) (pg j)=_;rw[Ba0 _ _ _ _ (h.lt k hk).1 (h.lt j Ci).1];by_cases e:j=k
  ·subst e;rw[if_pos ⟨rfl,rfl,rfl⟩]
  ·rw[if_neg λhh=>e (h.inj j k Ci hk hh.1.symm hh.2.1.symm hh.2.2.symm)];exact Xa3 h v s k Ci j Ci
def wtF (pg:Nat→Pg) (A B C:Nat):Nat→Int:=ngF C (swF A B λk=>sgn (pg k) ((k:Int)+1))
theorem Xa0 (pg:Nat→Pg) (A B C k:Nat):(wtF pg A B C k).natAbs=swK A B k+1:=by
 unfold wtF;rw[Xb8,Xb2,(Ws _ _).2]
theorem Xc0 {a b n:Nat} {pg:Nat→Pg} {A B C:Nat} {s:Mt×Mt} (ha:0<a) (hb:0<b) (h:Af9 a b pg n) (hn:n=2*(a*b)) (hA:A<n) (hB:B<n):fmE (Hj a b (fmU a pg (wtF pg A B C) s n).1) (Hj a b (fmU a pg (wtF pg A B C) s n).2)=0:=
 Au7 ha hb h hn (v:=wtF pg A B C) (λk hk=>Xa3 h _ s n (Am _) k hk) (λk hk=>by
  have h1:=Xa0 pg A B C k;have h2:swK A B k<n:=Xb0 hA hB hk;exact⟨λe=>by rw[e]at h1;simp at h1,Ci⟩) λj k _ _ e=>by
  rw[Xa0,Xa0]at e;exact Xb7 (A:=A) (B:=B) Ci
def dnF (pg:Nat→Pg) (v:Nat→Int) (k:Nat):Nat→Int:=λj=>if j<k then sgn (pg j) (v j)else v j
theorem Xa9 (pg:Nat→Pg) (v:Nat→Int):dnF pg v 0=v:=by
 funext j
 unfold dnF;rw[if_neg Ci]
theorem Xb1 (pg:Nat→Pg) (v:Nat→Int) (k:Nat):(λj=>if j=k then sgn (pg k) (v k)else dnF pg v k j)=dnF pg v (k+1):=by
 funext j
 unfold dnF;by_cases e:j=k
 ·subst e;rw[if_pos rfl,if_pos Ci]
 ·rw[if_neg e];by_cases h:j<k
  ·rw[if_pos h,if_pos Ci]
  ·rw[if_neg h,if_neg Ci]
end Go.Proofs.YthpcfeifmdbhnaaGreatDoor
namespace Go.Proofs.YthpcfeifmdbhnaaGreatDoor
open Go.RowKit
theorem Xa7 (a T:Nat) (p:Pg) (hx:p.x<a) (ha:a≤1000) (w:Aj) (hT:w.cell? ⟨T,0,Ae⟩=Af (Aa Ab a)) (_hTl:T<w.heap.size):
  Al Tryz.prog 12 #[.agg #[Aa Ab p.x,Aa Ab p.y,.bool p.bk,.bool p.dn],.pointer (Af ⟨T,0,Ae⟩)] w (Co (.tuple #[Aa Ab p.y,Aa Ab ((if p.bk then a-1-p.x else p.x:Nat):Int),.bool p.bk]) w):=by
 obtain⟨x,y,bk,dn⟩:=p;dsimp only at hx⊢;have H:=(Bx.start w).new #[Aa Ab x,Aa Ab y,.bool bk,.bool dn] 50 rfl;have t0:=Cj H.below hT;obtain⟨j,hj⟩:=ey (a-1-x);have e1:Ab.wrap ((a:Int)-1)=(a:Int)-1:=Ca _ Ci;have e2:Ab.wrap ((a:Int)-1-(x:Int))=(j:Int):=by rw[Ca _ Ci];omega
 rw[hj];clear hT hj;go_enter Tryz.func12,Tryz.ntmps12;go_upto_region 1 with fail;obtain⟨N,hN⟩:=ez w.heap.size;rw[←hN]at H⊢;have HNN:=Ah hN;clear hN;obtain⟨W1,hW1⟩:=ez (w.alloc (.cells #[Aa Ab x,Aa Ab y,.bool bk,.bool dn] 50));rw[←hW1]at H t0⊢;clear hW1;obtain⟨⟨p0,p1,p2,p3⟩,-⟩:=Ez (H.blk 0 _ _ _ rfl)
 cases bk with
 |false=>
  go_wp2
  go_quiet (fail)
  go_wp2_with fail;refine Ai (v:= .tuple #[Aa Ab y,Aa Ab x,.bool false]) (by simp[results,Tryz.results12,go_sem]) rfl ?_;exact⟨rfl,(H.drewN nq).below⟩
 |true=>
  go_wp2
  go_quiet (fail)
  go_wp2_with fail;refine Ai (v:= .tuple #[Aa Ab y,Aa Ab j,.bool true]) (by simp[results,Tryz.results12,go_sem]) rfl ?_;exact⟨rfl,(H.drewN nq).below⟩
def Xa1 (G a b:Nat) (p:Pg) (was v:Int) (w:Aj) (e:Ending) (w':Aj):Prop:=e= .returned (Aa Ab was)∧∃wq,Below w.heap.size w wq∧(v=0→w'=wq)∧(v≠0→w'=wq.setCell ⟨(fmP G a b p).1,(fmP G a b p).2,Ae⟩ (Aa Ab v))
theorem Xa4 (G a b T C S:Nat) (s:Mt×Mt) (p:Pg) (v:Int) (hx:p.x<a) (hy:p.y<b) (ha:a≤1000) (hb1:1≤b) (w:Aj) (hT:w.cell? ⟨T,0,Ae⟩=Af (Aa Ab a)) (hTl:T<w.heap.size)
  (hC:w.cell? ⟨C,0,Ae⟩=Af (.func (.func 12) #[] #[.pointer (Af ⟨T,0,Ae⟩)])) (hS0:w.cell? ⟨S,0,Ae⟩=Af (Ad (Af ⟨G,0,Ae⟩) b b)) (hS1:w.cell? ⟨S,1,Ae⟩=Af (Ad (Af ⟨G+b+1,0,Ae⟩) b b)) (hF:FmA w G a b s):
  Al Tryz.prog 13 #[.agg #[Aa Ab p.x,Aa Ab p.y,.bool p.bk,.bool p.dn],Aa Ab v,.pointer (Af ⟨C,0,Ae⟩),.pointer (Af ⟨S,0,Ae⟩)] w (Xa1 G a b p (fmG a s p) v w):=by
 have hl:=hF.lt hb1;obtain⟨q0,q1⟩:=hF.cell hx hy;obtain⟨was,hwas⟩:=ey (fmG a s p);rw[hwas]at q0⊢;have HPL:=Ah (λ(w':Aj) (hb:Below w.heap.size w w')=>Xa7 a T p hx ha w' (Cj hb hT) (Bq hTl hb.size))
 have hrow:w.cell? ⟨(if p.bk then G+b+1 else G),p.y,Ae⟩=Af (Ad (Af ⟨(fmP G a b p).1,0,Ae⟩) a a):=by
  unfold fmP
  cases p.bk with
  |false=>
   have:=Ng hF.hF hy;unfold Rt at this;simpa using this
  |true=>
   have:=Ng hF.hB hy;unfold Rt at this;simpa using this
 have hin:=xU (G:=G) (a:=a) hy
 have hcol:(fmP G a b p).2=if p.bk then a-1-p.x else p.x:=by
  unfold fmP
  cases p.bk<;>rfl
 rw[←hcol]at HPL;have hcl:(fmP G a b p).2<a:=by rw[hcol];split<;>omega
 have HRET:Hid (∀wq,Below w.heap.size w wq→(v=0→Xa1 G a b p was v w (.returned (Aa Ab was)) wq)∧(v≠0→Xa1 G a b p was v w (.returned (Aa Ab was)) (wq.setCell ⟨(fmP G a b p).1,(fmP G a b p).2,Ae⟩ (Aa Ab v)))):=Ah λwq hb=>⟨λh=>⟨rfl,wq,hb,λ_=>rfl,λh'=>absurd h h'⟩,λh=>⟨rfl,wq,hb,λh'=>absurd h' h,λ_=>rfl⟩⟩;obtain⟨g,hg⟩:=ey ((fmP G a b p).1);obtain⟨c,hc⟩:=ey ((fmP G a b p).2);rw[hg]at hrow hin;rw[hc]at HPL hcl;rw[hg,hc]at q0 q1 HRET;obtain⟨SR,hSR⟩:=ey (Xa1 G a b p was v w);rw[hSR]at HRET⊢;clear hSR hwas hcol hg hc hF hT;obtain⟨x,y,bk,dn⟩:=p;dsimp only at hx hy HPL hrow⊢;have hgl:g<w.heap.size:=Ci;have H:=(Bx.start w).new #[Aa Ab x,Aa Ab y,.bool bk,.bool dn] 50 rfl;have HQ:=Ah (λ(w':Aj) (hb:Below w.heap.size w w')=>show w'.cell? ⟨g,c,Ae⟩=Af (Aa Ab was)∧w'.frozen? ⟨g,c,Ae⟩=false from⟨Cj hb q0,by simpa[World.frozen?,hb.block g hgl]using q1⟩);have d0:=Cj H.below hC;have i0:(y:Int)<(b:Int):=Ci;have i1:(c:Int)<(a:Int):=Ci;have i2:¬(y:Int)≥(b:Int):=Ci;have i3:¬(c:Int)<0:=Ci;have i4:¬(c:Int)≥(a:Int):=Ci;clear q0 q1 hx hin hcl hl hTl;go_enter Tryz.func13,Tryz.ntmps13;go_upto_region 1 with fail;obtain⟨N,hN⟩:=ez w.heap.size;rw[←hN]at H⊢;have HNN:=Ah hN;clear hN;obtain⟨W1,hW1⟩:=ez (w.alloc (.cells #[Aa Ab x,Aa Ab y,.bool bk,.bool dn] 50));rw[←hW1]at H d0⊢;clear hW1;obtain⟨⟨p0,p1,p2,p3⟩,-⟩:=Ez (H.blk 0 _ _ _ rfl);go_wp2_with fail;refine(HPL.out _ H.below).mono ?_;rintro ee w2 ⟨rfl,hb⟩;have hb2:=H.below.trans (hb.mono H.below.size);obtain⟨q0,q1⟩:=HQ.out _ hb2;have s0:=Cj hb2 hS0;have s1:=Cj hb2 hS1;have r0:=Cj hb2 hrow;have HR:=Ah (HRET.out _ hb2);clear HRET HQ hb hb2 H p0 p1 p2 p3 HPL hS0 hS1 hrow hC d0;by_cases hv:v=0
 ·subst hv;have HR2:=Ah (HR.out.1 rfl);clear HR
  cases bk with
  |false=>
   rw[if_neg Ct]at r0
   as_aux_lemma=>
   go_wp2_with fail;exact HR2.out
  |true=>
   rw[if_pos rfl]at r0
   as_aux_lemma=>
   go_wp2_with fail;exact HR2.out
 ·have qv:(v != 0)=true:=by simpa using hv
  have HR2:=Ah (HR.out.2 hv);clear HR hv
  cases bk with
  |false=>
   rw[if_neg Ct]at r0
   as_aux_lemma=>
   go_wp2_with fail;exact HR2.out
  |true=>
   rw[if_pos rfl]at r0
   as_aux_lemma=>
   go_wp2_with fail;exact HR2.out
structure FoI (w w2:Aj) (bl:List (Nat×Array Ak×TypeId)) (O G a b:Nat) (m:List Mv) (ids:List Nat) (pv:Ak) (n:Nat) (s:Mt×Mt) (wr:Aj):Prop where
 bx:Bx w bl wr
 fm:FmA wr G a b s
 ow:wr.ownsRow O 50 4 pv n (pgs a m ids)
 lo:∀q,pv.ownBlock=Af q→q<G∨G+2*b+2≤q
 no:∀(i g:Nat) (cs:Array Ak) (t:TypeId),bl[i]? =Af (g,cs,t)→g<G∨G+2*b+2≤g
 ne:∀q,pv.ownBlock=Af q→∀(i g:Nat) (cs:Array Ak) (t:TypeId),bl[i]? =Af (g,cs,t)→g≠q
 hw:w.heap.size≤G∧1≤b∧w2.heap.size≤G
 b2:Below w2.heap.size w2 wr
theorem FoI.call {w w2:Aj} {bl:List (Nat×Array Ak×TypeId)} {O G a b:Nat} {m:List Mv} {ids:List Nat} {pv:Ak} {n:Nat} {s:Mt×Mt} {wr wx:Aj} (h:FoI w w2 bl O G a b m ids pv n s wr) (hb:Below wr.heap.size wr wx):FoI w w2 bl O G a b m ids pv n s wx:=
 ⟨h.bx.call hb,h.fm.same λj _ hj=>hb.block j (Bq hj (h.fm.lt h.hw.2.1)),Kh h.ow λq hq=>hb.block q (h.ow.lt q hq).2,h.lo,h.no,h.ne,h.hw,h.b2.trans (hb.mono h.b2.size)⟩
theorem FoI.put {w w2:Aj} {bl:List (Nat×Array Ak×TypeId)} {O G a b:Nat} {m:List Mv} {ids:List Nat} {pv:Ak} {n:Nat} {s:Mt×Mt} {wr:Aj} (h:FoI w w2 bl O G a b m ids pv n s wr) {p:Pg} (hy:p.y<b) (v:Int):
  FoI w w2 bl O G a b m ids pv n (fmS a s p v) (wr.setCell ⟨(fmP G a b p).1,(fmP G a b p).2,Ae⟩ (Aa Ab v)):=by
 obtain⟨h1,h2⟩:=xU (G:=G) (a:=a) hy;refine⟨h.bx.same (h.bx.below.setCell (p:=⟨(fmP G a b p).1,(fmP G a b p).2,Ae⟩) (by show w.heap.size≤(fmP G a b p).1;have:=h.hw.1;omega) _) λi g cs t hi=>Db ?_,h.fm.set hy _,Kh h.ow λq hq=>Db ?_,h.lo,h.no,h.ne,h.hw,h.b2.setCell (p:=⟨(fmP G a b p).1,(fmP G a b p).2,Ae⟩) (by show w2.heap.size≤(fmP G a b p).1;have:=h.hw.2.2;omega) _⟩
 ·have:=h.no i g cs t hi;omega
 ·have:=h.lo q hq;omega
theorem FoI.new {w w2:Aj} {bl:List (Nat×Array Ak×TypeId)} {O G a b:Nat} {m:List Mv} {ids:List Nat} {pv:Ak} {n:Nat} {s:Mt×Mt} {wr:Aj} (h:FoI w w2 bl O G a b m ids pv n s wr) (cs:Array Ak) (t:TypeId) {N:Nat} (hN:wr.heap.size=N):
  FoI w w2 (bl++[(N,cs,t)]) O G a b m ids pv n s (wr.alloc (.cells cs t)):=by
 have hal:Below wr.heap.size wr (wr.alloc (.cells cs t)):=(Ag _ _).alloc (Am _) _;have h2:=h.call hal;have hl:=h.fm.lt h.hw.2.1;refine⟨h.bx.new cs t hN,h2.fm,h2.ow,h.lo,λi g ds u hi=>?_,λq hq i g ds u hi=>?_,h.hw,h2.b2⟩
 ·rcases Nat.lt_or_ge i bl.length with hlt|hge
  ·rw[List.getElem?_append_left hlt]at hi;exact h.no i g ds u hi
  ·rw[List.getElem?_append_right hge]at hi;have:=List.mem_of_getElem? hi;simp only[Bk,Prod.mk.injEq,List.not_mem_nil,or_false]at this;omega
 ·rcases Nat.lt_or_ge i bl.length with hlt|hge
  ·rw[List.getElem?_append_left hlt]at hi;exact h.ne q hq i g ds u hi
  ·rw[List.getElem?_append_right hge]at hi;have:=List.mem_of_getElem? hi;simp only[Bk,Prod.mk.injEq,List.not_mem_nil,or_false]at this;have:=(h.ow.lt q hq).2;omega
theorem FoI.set {w w2:Aj} {bl:List (Nat×Array Ak×TypeId)} {O G a b:Nat} {m:List Mv} {ids:List Nat} {pv:Ak} {n:Nat} {s:Mt×Mt} {wr:Aj} (h:FoI w w2 bl O G a b m ids pv n s wr) (i j:Nat) {g:Nat} {cs:Array Ak} {t:TypeId} (hi:bl[i]? =Af (g,cs,t)) (hg:w2.heap.size≤g) (v:Ak):
  FoI w w2 (bl.set i (g,cs.setIfInBounds j v,t)) O G a b m ids pv n s (wr.setCell ⟨g,j,Ae⟩ v):=by
 have hk:∀(k g':Nat) (ds:Array Ak) (u:TypeId),(bl.set i (g,cs.setIfInBounds j v,t))[k]? =Af (g',ds,u)→∃ds' u',bl[k]? =Af (g',ds',u'):=λk g' ds u hk=>by
  by_cases hki:k=i
  ·subst hki;rw[List.getElem?_set_self (Ax.1 hi).1]at hk;injection hk with hk;injection hk with h1 h2;exact⟨cs,t,by rw[hi,h1]⟩
  ·rw[List.getElem?_set_ne (λe=>hki e.symm)]at hk;exact⟨ds,u,hk⟩
 have hno:=h.no i g cs t hi;refine⟨h.bx.set i j hi v,h.fm.same λk h1 h2=>Db Ci,Kh h.ow λq hq=>Db (λe=>h.ne q hq i g cs t hi e.symm),h.lo,λk g' ds u hk'=>?_,λq hq k g' ds u hk'=>?_,h.hw,h.b2.setCell (by exact hg) _⟩
 ·obtain⟨ds',u',h'⟩:=hk k g' ds u hk';exact h.no k g' ds' u' h'
 ·obtain⟨ds',u',h'⟩:=hk k g' ds u hk';exact h.ne q hq k g' ds' u' h'
theorem Xa5 (n:Nat) (f:Nat→Int):Yw n (Tl f n)=Yw n f:=by
 have h:=uX f n;unfold Ms at h;injection h
theorem Xb5 (n A B:Nat) (f:Nat→Int):((Yw n f).setIfInBounds A (Aa Ab (f B))).setIfInBounds B (Aa Ab (f A))=Yw n (swF A B f):=by
 rw[Tg,Tg];rfl
theorem Xc2 (n A B:Nat) (f:Nat→Int):((Yw n f).setIfInBounds B (Aa Ab (f A))).setIfInBounds A (Aa Ab (f B))=Yw n (swF A B f):=by
 rw[Tg,Tg]
 congr 1
 funext j
 unfold swF;by_cases h1:j=A<;>by_cases h2:j=B
 ·subst h1 h2;simp
 ·rw[if_pos h1,if_neg h2,if_pos h1]
 ·rw[if_neg h1,if_pos h2,if_pos h2]
 ·rw[if_neg h1,if_neg h2,if_neg h2,if_neg h1]
theorem Xb3 (n C:Nat) (f:Nat→Int):(Yw n f).setIfInBounds C (Aa Ab (-(f C)))=Yw n (ngF C f):=Tg n f C _
end Go.Proofs.YthpcfeifmdbhnaaGreatDoor
