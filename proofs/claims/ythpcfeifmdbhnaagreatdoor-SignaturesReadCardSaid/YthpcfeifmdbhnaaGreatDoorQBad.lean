import Derived.WalkKit
import Derived.Test.YthpcfeifmdbhnaaGreatDoorQRsC
import Derived.Deep.QuietTactic
import Derived.BigQuiet
import Derived.StillTailTactics
import Derived.Deep.DeepCutAuto
import Derived.Deep.CutBlock
import Derived.Test.YthpcfeifmdbhnaaGreatDoorQStk
open Go renaming Calls→Al,World→Aj
open Go.IntKind renaming i64→Ab,u8→Ac
open Go.IntWalk renaming i64_in→Ca
open Go.Lib renaming hid→Ah
open Go.RowKit.Below renaming refl→Ag
open Go.Value renaming int→Aa,slice→Ad
open List renaming append_assoc→Bj,getElem?_eq_getElem→Aw,getElem?_eq_some_iff→Ax,getElem_mem→Ay,length_append→Bh,length_take→Bm,mem_append→Bl,mem_cons→Bk,mem_iff_getElem→Be,take_of_length_le→Bg,take_succ_eq_append_getElem→Bc
open Nat renaming le_refl→Am,le_trans→Br,lt_of_lt_of_le→Bq
open Option renaming none→Ae,some→Af
set_option maxHeartbeats 4000000
set_option maxRecDepth 100000
namespace Go.Proofs.YthpcfeifmdbhnaaGreatDoor.Rs
section
variable {α:Type} (t:α→Int)
def leT (a b:α):Bool:=decide (t a≤t b)
def mrg (a b:List α):List α:=a.merge b (leT t)
def srt:List α→List α
 |[]=>[]
 |x::l=>mrg t [x] (srt l)
def Km (l:List α):Prop:=l.Pairwise (λa b=>t a≤t b)
end
section
variable {α:Type} {t:α→Int}
theorem Kl (a:List α):mrg t a []=a:=by unfold mrg;simp
theorem Io (a:List α):mrg t [] a=a:=by unfold mrg;simp
theorem Iy {x y:α} {a b:List α} (h:t x≤t y):mrg t (x::a) (y::b)=x::mrg t a (y::b):=by
 unfold mrg;exact List.cons_merge_cons_pos _ _ _ (by simpa[leT]using h)
theorem Ib {x y:α} {a b:List α} (h:t y<t x):mrg t (x::a) (y::b)=y::mrg t (x::a) b:=by
 unfold mrg;exact List.cons_merge_cons_neg _ _ _ (by simp[leT];omega)
theorem qP (a b:List α):(mrg t a b).length=a.length+b.length:=by unfold mrg;exact List.length_merge _ _ _
theorem qO {a b:List α} (h:∀x∈a,∀y∈b,t x≤t y):mrg t a b=a++b:=by
 unfold mrg;exact List.merge_of_le λx y hx hy=>by simpa[leT]using h x hx y hy
theorem Al7 {a b:List α} (ha:Km t a) (hb:Km t b):Km t (mrg t a b):=by
 have h:=List.pairwise_merge (le:=leT t) (λa b c h1 h2=>by simp[leT]at*;omega) (λa b=>by simp[leT];omega) a b (ha.imp (λh=>by simpa[leT]using h)) (hb.imp (λh=>by simpa[leT]using h));exact h.imp (λh=>by simpa[leT]using h)
theorem Zv (n:Nat):∀(A1 A2 B1 B2:List α),A1.length+B1.length≤n→(∀x∈A1,∀y∈B2,t x≤t y)→(∀x∈A2,∀y∈B1,t y<t x)→mrg t (A1++A2) (B1++B2)=mrg t A1 B1++mrg t A2 B2:=by
 induction n with
 |zero=>
  intro A1 A2 B1 B2 hn _ _;have h1:A1=[]:=List.length_eq_zero_iff.1 Ci;have h2:B1=[]:=List.length_eq_zero_iff.1 Ci;subst h1 h2;simp[Io]
 |succ n ih=>
  intro A1 A2 B1 B2 hn h1 h2
  cases A1 with
  |nil=>
   cases B1 with
   |nil=>simp[Io]
   |cons y B1=>
    rw[Io,List.nil_append]
    cases A2 with
    |nil=>simp[Io]
    |cons x A2=>
     have hxy:=h2 x Cn y Cn;rw[List.cons_append,Ib hxy];have:=ih [] (x::A2) B1 B2 (by simp at hn⊢;omega) Cn (λx hx y hy=>h2 x hx y (by simp[hy]));rw[Io,List.nil_append]at this;rw[this];rfl
  |cons x A1=>
   cases B1 with
   |nil=>
    rw[Kl,List.nil_append]
    cases B2 with
    |nil=>simp[Kl]
    |cons y B2=>
     have hxy:=h1 x Cn y Cn;rw[List.cons_append,Iy hxy];have:=ih A1 A2 [] (y::B2) (by simp at hn⊢;omega) (λx hx y hy=>h1 x (by simp[hx]) y hy) Cn;rw[Kl,List.nil_append]at this;rw[this];rfl
   |cons y B1=>
    by_cases hxy:t x≤t y
    ·rw[List.cons_append,List.cons_append,Iy hxy,Iy hxy];have:=ih A1 A2 (y::B1) B2 (by simp at hn⊢;omega) (λx hx y hy=>h1 x (by simp[hx]) y hy) h2;rw[List.cons_append]at this;rw[this];rfl
    ·rw[List.cons_append,List.cons_append,Ib Ci,Ib Ci];have:=ih (x::A1) A2 B1 B2 (by simp at hn⊢;omega) h1 (λx hx y hy=>h2 x hx y (by simp[hy]));rw[List.cons_append]at this;rw[this];rfl
theorem Uq (A1 A2 B1 B2:List α) (h1:∀x∈A1,∀y∈B2,t x≤t y) (h2:∀x∈A2,∀y∈B1,t y<t x):mrg t (A1++A2) (B1++B2)=mrg t A1 B1++mrg t A2 B2:=
 Zv _ A1 A2 B1 B2 (Am _) h1 h2
theorem Zu (n:Nat):∀(A B C:List α),A.length+B.length+C.length≤n→mrg t (mrg t A B) C=mrg t A (mrg t B C):=by
 induction n with
 |zero=>
  intro A B C hn;have h1:A=[]:=List.length_eq_zero_iff.1 Ci;have h2:B=[]:=List.length_eq_zero_iff.1 Ci;subst h1 h2;simp[Io]
 |succ n ih=>
  intro A B C hn
  cases A with
  |nil=>simp[Io]
  |cons a A=>
   cases B with
   |nil=>simp[Io,Kl]
   |cons b B=>
    cases C with
    |nil=>simp[Kl]
    |cons c C=>
     simp only[List.length_cons]at hn;by_cases hab:t a≤t b
     ·rw[Iy hab];by_cases hac:t a≤t c
      ·rw[Iy hac,ih A (b::B) (c::C) (by simp;omega)];by_cases hbc:t b≤t c
       ·rw[Iy hbc,Iy hab]
       ·rw[Ib Ci,Iy hac]
      ·rw[Ib Ci,Ib (show t c<t b by omega),Ib Ci,←Iy hab,ih (a::A) (b::B) C (by simp;omega)]
     ·rw[Ib (show t b<t a by omega)];by_cases hbc:t b≤t c
      ·rw[Iy hbc,Iy hbc,Ib Ci,ih (a::A) B (c::C) (by simp;omega)]
      ·rw[Ib Ci,Ib (show t c<t b by omega),Ib Ci,←Ib (show t b<t a by omega),ih (a::A) (b::B) C (by simp;omega)]
theorem tW (A B C:List α):mrg t (mrg t A B) C=mrg t A (mrg t B C):=Zu _ A B C (Am _)
theorem rD (A B:List α):srt t (A++B)=mrg t (srt t A) (srt t B):=by
 induction A with
 |nil=>simp[srt,Io]
 |cons x A ih=>simp only[List.cons_append,srt,ih,tW]
theorem rE (x:α):srt t [x]=[x]:=by simp[srt,Kl]
theorem Og (A:List α):(srt t A).length=A.length:=by
 induction A with
 |nil=>rfl
 |cons x A ih=>simp[srt,qP,ih];omega
theorem Ag4 (x:α):Km t [x]:=List.pairwise_singleton _ _
theorem Tm (A:List α):Km t (srt t A):=by
 induction A with
 |nil=>exact List.Pairwise.nil
 |cons x A ih=>exact Al7 (Ag4 x) ih
theorem pI {A B:List α}:Km t (A++B)↔Km t A∧Km t B∧∀x∈A,∀y∈B,t x≤t y:=List.pairwise_append
theorem Me {A:List α} (h:Km t A) {i j:Nat} (hi:i<A.length) (hj:j<A.length) (hij:i≤j):t A[i]≤t A[j]:=by
 rcases Nat.lt_or_eq_of_le hij with hlt|rfl
 ·exact List.pairwise_iff_getElem.1 h i j hi hj hlt
 ·exact Int.le_refl _
theorem Yk {S1 S2:List α} {x:α} (h1:∀y∈S1,t y≤t x) (h2:∀y∈S2,t x<t y):mrg t (S1++S2) [x]=S1++x::S2:=by
 have:=Uq (t:=t) S1 S2 [x] [] Cn (by simpa using h2);rw[List.append_nil,Kl,qO (a:=S1) (b:=[x]) (by simpa using h1)]at this;rw[this,Bj];rfl
theorem tX {S1 S2:List α} {x:α} (h1:∀y∈S1,t y<t x) (h2:∀y∈S2,t x≤t y):mrg t [x] (S1++S2)=S1++x::S2:=by
 have:=Uq (t:=t) [] [x] S1 S2 Cn (by simpa using h1);rw[List.nil_append,Io,qO (a:=[x]) (b:=S2) (by simpa using h2)]at this;rw[this];rfl
theorem Al8 {A B:List α} {p q:Nat} (ha:Km t A) (hb:Km t B) (hp:p≤A.length) (hq:q≤B.length)
  (h1:p=0∨q=B.length∨∃x y,A[p-1]? =Af x∧B[q]? =Af y∧t x≤t y) (h2:p=A.length∨q=0∨∃x y,A[p]? =Af x∧B[q-1]? =Af y∧t y<t x):
  mrg t A B=mrg t (A.take p) (B.take q)++mrg t (A.drop p) (B.drop q):=by
 conv=>lhs;rw[←List.take_append_drop p A,←List.take_append_drop q B]
 refine Uq _ _ _ _ ?_ ?_
 ·intro x hx y hy;obtain⟨i,hi,rfl⟩:=Be.1 hx;obtain⟨j,hj,rfl⟩:=Be.1 hy;simp only[Bm,List.length_drop]at hi hj;rw[List.getElem_take,List.getElem_drop];rcases h1 with h|h|⟨u,v,hu,hv,huv⟩
  ·omega
  ·omega
  ·obtain⟨hpu,rfl⟩:=Ax.1 hu;obtain⟨hqv,rfl⟩:=Ax.1 hv;have e1:=Me ha (i:=i) (j:=p-1) Ci hpu Ci;have e2:=Me hb (i:=q) (j:=q+j) hqv Ci Ci;omega
 ·intro x hx y hy;obtain⟨i,hi,rfl⟩:=Be.1 hx;obtain⟨j,hj,rfl⟩:=Be.1 hy;simp only[Bm,List.length_drop]at hi hj;rw[List.getElem_take,List.getElem_drop];rcases h2 with h|h|⟨u,v,hu,hv,huv⟩
  ·omega
  ·omega
  ·obtain⟨hpu,rfl⟩:=Ax.1 hu;obtain⟨hqv,rfl⟩:=Ax.1 hv;have e1:=Me ha (i:=p) (j:=p+i) hpu Ci Ci;have e2:=Me hb (i:=j) (j:=q-1) Ci hqv Ci;omega
end
end Go.Proofs.YthpcfeifmdbhnaaGreatDoor.Rs
namespace Go.Proofs.YthpcfeifmdbhnaaGreatDoor.Rs
open Go.RowKit
theorem Ko {a b c:Aj} {g:Nat} (h:a.grownBy b (Af g)) (k:Below b.heap.size b c):a.grownBy c (Af g):=
 ⟨k.os.trans h.os,k.tape.trans h.tape,k.output.trans h.output,Br h.size k.size,λi hi hne=>(k.block i (Bq hi h.size)).trans (h.block i hi hne)⟩
def Fo (P S1:List Sr) (x:Sr) (S2 R:List Sr):List Sr:=P++(S1++x::S2)++R
theorem qE (P S1:List Sr) (y x:Sr) (S2 R:List Sr) {p q:Nat} (hp:p=P.length+S1.length+1) (hq:q=P.length+S1.length):
  (Fo P (S1++[y]) x S2 R)[p]? =Af x∧(Fo P (S1++[y]) x S2 R)[q]? =Af y∧((Fo P (S1++[y]) x S2 R).set p y).set q x=Fo P S1 x (y::S2) R:=by
 have e1:Fo P (S1++[y]) x S2 R=(P++S1)++y::([]++x::(S2++R)):=by simp[Fo]
 have e2:Fo P S1 x (y::S2) R=(P++S1)++x::([]++y::(S2++R)):=by simp[Fo]
 obtain⟨h1,h2,h3⟩:=Tq (P++S1) [] (S2++R) y x (i:=q) (j:=p) (by simp;omega) (by simp;omega);rw[e1,e2];refine⟨h2,h1,?_⟩;rw[←h3,List.set_comm _ _ Ci]
theorem Vo {a b:Aj} {r:Option Nat} (h:a.grownBy b r) (n:Nat):a.grownBy (b.drewN n) r:=⟨h.os,h.tape,h.output,h.size,h.block⟩
theorem Nh (P S1:List Sr) (x:Sr) (S2 R:List Sr):(Fo P S1 x S2 R).length=P.length+S1.length+1+S2.length+R.length:=by
 simp[Fo];omega
theorem Qr (base g n cap cc:Nat) (P X S:List Sr) (a b:Nat) (w:Aj) (ha:a=P.length) (hb:b=P.length+X.length) (hn:n=P.length+X.length+S.length) (hl:n≤1000000000)
  (hown:w.ownsRow base 89 4 (Ad (Af ⟨g,0,Ae⟩) n cap) n (recs (P++X++S))):
  Al Tryz.prog 173 #[Ad (Af ⟨g,0,Ae⟩) n cc,Aa Ab a,Aa Ab b,.func (.func 89) #[] #[]] w (Gu base g n cap (P++srt Sr.t X++S) w):=by
 have HA:=Ah ha;have HB:=Ah hb;have HN:=Ah hn;have HO:=Ah hown;have hab:a≤b:=Ci;have hbn:b≤n:=Ci;clear ha hb hn hown;go_enter Tryz.func173,Tryz.ntmps173;go_wp2
 go_loopw [8,9] (λs _ wr=>∃q i:Nat,1≤q∧a+q≤b+1∧i=a+q∧s= Aa Ab i∧wr.ownsRow base 89 4 (Ad (Af ⟨g,0,Ae⟩) n cap) n (recs (P++(srt Sr.t (X.take q)++X.drop q)++S))∧w.grownBy wr (Af g)) (λs _ _=>b+1-(intOf s).toNat)
 case atStart=>
  refine⟨1,a+1,Ci,Ci,rfl,by go_num,?_,Es _ _⟩
  have e:srt Sr.t (X.take 1)++X.drop 1=X:=by
   cases X with
   |nil=>rfl
   |cons x X=>simp[rE]
  rw[e];exact HO.out
 case round=>
  obtain⟨q,i,hq1,hqb,hi,rfl,hown,hgr⟩:=hrel;have HI:=Ah hi;by_cases hlt:a+q<b
  ·have hlt':(i:Int)<(b:Int):=Ci;have hlt2:a<i:=Ci;clear hi;have hqx:q<X.length:=by have:=HA.out;have:=HB.out;omega
   obtain⟨x,hx⟩:=ey (X[q]);have hsrt:srt Sr.t (X.take (q+1))=mrg Sr.t (srt Sr.t (X.take q)) [x]:=by rw[Bc hqx,rD,hx,rE]
   have hasc:Km Sr.t (srt Sr.t (X.take q)):=Tm _;have hlen:(srt Sr.t (X.take q)).length=q:=by rw[Og,Bm];omega
   rw[List.drop_eq_getElem_cons hqx,hx]at hown;obtain⟨R,hR⟩:=ez (X.drop (q+1)++S);have hRl:R.length=X.length-(q+1)+S.length:=by rw[hR];simp
   have hown0:wr.ownsRow base 89 4 (Ad (Af ⟨g,0,Ae⟩) n cap) n (recs (Fo P (srt Sr.t (X.take q)) x [] R)):=by
    have e:Fo P (srt Sr.t (X.take q)) x [] R=P++(srt Sr.t (X.take q)++x::X.drop (q+1))++S:=by rw[hR];simp[Fo]
    rw[e];exact hown
   have HO0:=Ah hown0;have HSRT:=Ah hsrt;have HASC:=Ah hasc;have HLEN:=Ah hlen;have HR:=Ah hR;have HRL:=Ah hRl;clear hown hown0 hsrt hasc hlen hR hRl hx HO;go_wp2_with fail;obtain⟨wo,rfl⟩:∃wo:Aj,wo=wr:=⟨_,rfl⟩
   go_loopw [9] (λs wr=>∃(S1 S2:List Sr) (j:Nat),j=a+S1.length∧s= Aa Ab j∧srt Sr.t (X.take q)=S1++S2∧(∀y∈S2,x.t<y.t)∧wr.ownsRow base 89 4 (Ad (Af ⟨g,0,Ae⟩) n cap) n (recs (Fo P S1 x S2 R))∧w.grownBy wr (Af g)) (λs _=>(intOf s).toNat)
   case atStart=>
    refine⟨srt Sr.t (X.take q),[],i,?_,rfl,Cn,Cn,HO0.out,hgr⟩;rw[HLEN.out];exact HI.out
   case round=>
    obtain⟨S1,S2,j,hj,rfl,hss,hgt,hown,hgr2⟩:=hrel;have hl12:S1.length+S2.length=q:=by rw[←HLEN.out,hss];simp
    have HSS:=Ah hss;have HGT:=Ah hgt;have hDl:n=(Fo P S1 x S2 R).length:=by rw[Nh];have:=HN.out;have:=HRL.out;omega
    clear hss hgt hgr HO0;rcases List.eq_nil_or_concat S1 with rfl|⟨S1,y,rfl⟩
    ·have hd:decide (((a:Int))<((a:Int)))=false:=Cn;have HO1:=Ah hown;have HDL:=Ah hDl;have HL12:=Ah hl12;clear hown hDl hl12;simp only[List.length_nil,Nat.add_zero]at hj;subst hj;go_wp2
     go_quiet (fail)
     go_wp2
     go_roundw
     case rel=>
      refine⟨q+1,i+1,Ci,Ci,by have:=HI.out;omega,by go_num,?_,Vo hgr2 _⟩
      have e:P++(srt Sr.t (X.take (q+1))++X.drop (q+1))++S=Fo P [] x S2 R:=by
       rw[HSRT.out,HSS.out,Yk (S1:=[]) (S2:=S2) (x:=x) Cn HGT.out,HR.out];simp[Fo]
      rw[e];exact HO1.out
     case measure=>simp[intOf];omega
    ·have hl1:(S1.concat y).length=S1.length+1:=Cn;simp only[List.concat_eq_append]at hown hDl HSS hl12;obtain⟨p,hp⟩:=ez (a+S1.length);obtain⟨r,hr⟩:=ez (p+1);obtain⟨g1,g2,g3⟩:=qE P S1 y x S2 R (p:=r) (q:=p) (by have:=HA.out;omega) (by have:=HA.out;omega);obtain⟨⟨c0,c1,c2,c3⟩,z0,z1,z2,z3⟩:=Gw hown hDl g1;obtain⟨⟨d0,d1,d2,d3⟩,y0,y1,y2,y3⟩:=Gw hown hDl g2
     have hpn:r<n:=by
      have:=Nh P (S1++[y]) x S2 R;rw[←hDl,Bh]at this;have h1:[y].length=1:=rfl;have h2:=HA.out;omega
     have HO1:=Ah hown;have e0:r=j:=by rw[hl1]at hj;omega
     have e1:(a:Int)<(r:Int):=Ci;have e1':decide ((a:Int)<(r:Int))=true:=by simpa using e1
     have e2:Ab.wrap ((r:Int)-1)=(p:Int):=by rw[Ca _ Ci];omega
     have e3:(p:Int)<(n:Int):=Ci;have e4:(r:Int)<(n:Int):=Ci;have e5:(0:Int)≤(p:Int):=Ci;have e6:(0:Int)≤(r:Int):=Ci;have HP:=Ah hp;have HRR:=Ah hr;have G3:=Ah g3;subst e0;have HDL:=Ah hDl;have HL12:=Ah hl12;have G1:=Ah g1;have G2:=Ah g2;clear hown g1 g2 g3 hp hr hj hl1 hDl hl12;go_wp2
     go_still_tail 14,Cm
     change wpList _ _ _ _ _ wr.drew;go_wp2_with fail;refine(Pu x y _).mono ?_;rintro e w2 ⟨rfl,hb2⟩;have hown2:=Dj HO1.out.drew (Am _) hb2;have hg2:w.grownBy w2 (Af g):=Ko (Lv hgr2) hb2;clear c0 c1 c2 c3 d0 d1 d2 d3 z0 z1 z2 z3 y0 y1 y2 y3 hb2 hgr2;by_cases hxy:x.t<y.t
     ·rw[Nu hxy];have HXY:=Ah hxy;obtain⟨⟨c0,c1,c2,c3⟩,z0,z1,z2,z3⟩:=Gw hown2 HDL.out G1.out;obtain⟨⟨d0,d1,d2,d3⟩,y0,y1,y2,y3⟩:=Gw hown2 HDL.out G2.out;have hsw:=Qn (a:=x) (b:=y) (i:=r) (j:=p) hown2 (by rw[←HDL.out];omega) (by rw[←HDL.out];omega);rw[G3.out]at hsw;have HSW:=Ah hsw;have hpr:¬p=r:=by have:=HRR.out;omega
      have hrp:¬r=p:=λh=>hpr h.symm;clear hxy hsw hown2;go_wp2
      go_region
      obtain⟨h1,h2⟩:=HSW.out;clear HSW c0 c1 c2 c3 d0 d1 d2 d3 z0 z1 z2 z3 y0 y1 y2 y3;obtain⟨W3,hW3⟩:=ez ((((((((((w2.setCell ⟨g,r*4,Ae⟩ (Aa Ab y.x)).setCell ⟨g,r*4+1,Ae⟩ (Aa Ab y.y)).setCell ⟨g,r*4+2,Ae⟩ (Aa Ac (y.q:Int))).setCell ⟨g,r*4+3,Ae⟩ (Ad y.A y.n y.c)).setCell ⟨g,p*4,Ae⟩ (Aa Ab x.x)).setCell ⟨g,p*4+1,Ae⟩ (Aa Ab x.y)).setCell ⟨g,p*4+2,Ae⟩ (Aa Ac (x.q:Int))).setCell ⟨g,p*4+3,Ae⟩ (Ad x.A x.n x.c)).drew));rw[←hW3]at h1 h2⊢;have H1:=Ah h1;have H2:=Ah (Ga hg2 h2);clear hW3 h1 h2 hg2;go_wp2
      go_roundw
      case rel=>
       refine⟨S1,y::S2,p,HP.out,rfl,?_,?_,H1.out,H2.out⟩
       ·rw[HSS.out];simp
       ·intro u hu;rcases Bk.1 hu with rfl|hu
        ·exact HXY.out
        ·exact HGT.out u hu
      case measure=>have:=HRR.out;simp[intOf];omega
     ·have hc:Dm x.t y.t=0∨Dm x.t y.t=1:=by unfold Dm;rw[if_neg hxy];split<;>simp
      have hc0:decide (Dm x.t y.t<0)=false:=by rcases hc with hc|hc<;>rw[hc]<;>rfl
      have HXY:=Ah hxy;have HO2:=Ah hown2;clear hxy hc hown2;go_wp2
      go_roundw
      case rel=>
       refine⟨q+1,i+1,Ci,Ci,by have:=HI.out;omega,by go_num,?_,hg2⟩;have hasc:=HASC.out;rw[HSS.out]at hasc;obtain⟨ha1,ha2,_⟩:=pI.1 hasc;obtain⟨_,_,ha3⟩:=pI.1 ha1;have hle:y.t≤x.t:=by have:=HXY.out;omega
       have e:P++(srt Sr.t (X.take (q+1))++X.drop (q+1))++S=Fo P (S1++[y]) x S2 R:=by
        rw[HSRT.out,HSS.out,Yk (S1:=S1++[y]) (S2:=S2) (x:=x) ?_ HGT.out,HR.out]
        ·simp[Fo]
        ·intro u hu;rcases Bl.1 hu with hu|hu
         ·exact Int.le_trans (ha3 u hu y Cn) hle
         ·rw[List.mem_singleton]at hu;subst hu;exact hle
       rw[e];exact HO2.out
      case measure=>simp[intOf];omega
  ·have hle:X.length≤q:=by have:=HA.out;have:=HB.out;omega
   have e:P++(srt Sr.t (X.take q)++X.drop q)++S=P++srt Sr.t X++S:=by
    rw[Bg hle,List.drop_of_length_le hle,List.append_nil]
   rw[e]at hown;have HO2:=Ah hown;have hlt':¬(i:Int)<(b:Int):=Ci;clear hown e hi;go_wp2_with fail
   go_end0
   refine⟨rfl,?_,hgr⟩;rw[←Bj];exact HO2.out
theorem yI (P S1:List Sr) (y x:Sr) (S2 R:List Sr) {p q:Nat} (hp:p=P.length+S1.length) (hq:q=P.length+S1.length+1):
  (Fo P S1 x (y::S2) R)[p]? =Af x∧(Fo P S1 x (y::S2) R)[q]? =Af y∧((Fo P S1 x (y::S2) R).set p y).set q x=Fo P (S1++[y]) x S2 R:=by
 have e1:Fo P S1 x (y::S2) R=(P++S1)++x::([]++y::(S2++R)):=by simp[Fo]
 have e2:Fo P (S1++[y]) x S2 R=(P++S1)++y::([]++x::(S2++R)):=by simp[Fo]
 rw[e1,e2];exact Tq (P++S1) [] (S2++R) x y (by simp;omega) (by simp;omega)
theorem Sg {P B S:List Sr} {i k:Nat} (hi:i<B.length) (hk:k=P.length+i):(P++B++S)[k]? =Af B[i]:=by
 subst hk;rw[Bj,List.getElem?_append_right Ci,Nat.add_sub_cancel_left,List.getElem?_append_left hi,Aw hi]
theorem yJ {P S1:List Sr} {x:Sr} {S2 R:List Sr} {i k:Nat} (hi:i<S2.length) (hk:k=P.length+S1.length+1+i):(Fo P S1 x S2 R)[k]? =Af S2[i]:=by
 have e:Fo P S1 x S2 R=(P++S1++[x])++S2++R:=by simp[Fo]
 rw[e];exact Sg hi (by simp;omega)
theorem sZ {P S1:List Sr} {x:Sr} {S2 R:List Sr} {i k:Nat} (hi:i<S1.length) (hk:k=P.length+i):(Fo P S1 x S2 R)[k]? =Af S1[i]:=by
 have e:Fo P S1 x S2 R=P++S1++(x::S2++R):=by simp[Fo]
 rw[e];exact Sg hi hk
theorem yK {P S1:List Sr} {x:Sr} {S2 R:List Sr} {k:Nat} (hk:k=P.length+S1.length):(Fo P S1 x S2 R)[k]? =Af x:=by
 have e:Fo P S1 x S2 R=(P++S1)++[x]++(S2++R):=by simp[Fo]
 rw[e];exact Sg (B:=[x]) (i:=0) Cn (by simp;omega)
theorem vM (base g n cap cc:Nat) (P B S:List Sr) (x:Sr) (a m b:Nat) (w:Aj) (ha:a=P.length) (hm:m=P.length+1) (hb:b=P.length+1+B.length) (hn:n=P.length+1+B.length+S.length) (hl:n≤1000000000) (hB:Km Sr.t B)
  (hown:w.ownsRow base 89 4 (Ad (Af ⟨g,0,Ae⟩) n cap) n (recs (Fo P [] x B S))):
  Al Tryz.prog 187 #[Ad (Af ⟨g,0,Ae⟩) n cc,Aa Ab a,Aa Ab m,Aa Ab b,.func (.func 89) #[] #[]] w (Gu base g n cap (P++mrg Sr.t [x] B++S) w):=by
 obtain⟨D',hD'⟩:=ez (P++mrg Sr.t [x] B++S);rw[←hD'];have HD:=Ah hD';have HA:=Ah ha;have HM:=Ah hm;have HB:=Ah hb;have HN:=Ah hn;have HO:=Ah hown;have HBA:=Ah hB;have hab:a<m:=Ci;have hmb:m≤b:=Ci;have hbn:b≤n:=Ci;have e1:(m:Int)-(a:Int)=1:=Ci;have e1b:((m:Int)-(a:Int)==1)=true:=by simpa using e1
 clear ha hm hb hn hown hB e1 hD';go_enter Tryz.func187,Tryz.ntmps187;go_wp2
 go_loopw [10,11,12] (λs10 s11 _ wr=>∃i j:Nat,m≤i∧i≤j∧j≤b∧s10= Aa Ab i∧s11= Aa Ab j∧Hid (∀q y,q+m<i→B[q]? =Af y→y.t<x.t)∧Hid (∀q y,j≤q+m→B[q]? =Af y→x.t≤y.t)∧wr.ownsRow base 89 4 (Ad (Af ⟨g,0,Ae⟩) n cap) n (recs (Fo P [] x B S))∧w.grownBy wr (Af g)) (λs10 s11 _ _=>(intOf s11).toNat-(intOf s10).toNat)
 case atStart=>
  refine⟨m,b,Ci,Ci,Ci,rfl,rfl,Ah (λq y h=>Ci),Ah (λq y h hy=>?_),HO.out,Es _ _⟩;have:=(Ax.1 hy).1;have:=HB.out;have:=HM.out;omega
 case round=>
  obtain⟨i,j,hmi,hij,hjb,rfl,rfl,H1,H2,hown,hgr⟩:=hrel;have hDl:n=(Fo P [] x B S).length:=by rw[Nh];have:=HN.out;simp;omega
  by_cases hlt:i<j
  ·obtain⟨h,hh⟩:=ez ((i+j)/2);have hhq:h-m<B.length:=by have:=HB.out;have:=HM.out;omega
   have gh:=yJ (P:=P) (S1:=[]) (x:=x) (R:=S) (k:=h) hhq (by have:=HM.out;simp;omega);have ga:=yK (P:=P) (S1:=[]) (x:=x) (S2:=B) (R:=S) (k:=a) (by have:=HA.out;simp;omega);obtain⟨y,hy⟩:=ey (B[h-m]);rw[hy]at gh;obtain⟨⟨c0,c1,c2,c3⟩,_⟩:=Gw hown hDl gh;obtain⟨⟨d0,d1,d2,d3⟩,_⟩:=Gw hown hDl ga;have HO1:=Ah hown;have HY:=Ah hy;have HH:=Ah hh;have HDL:=Ah hDl;have q1:(i:Int)<(j:Int):=Ci;have q2:((i:Int)+(j:Int))/2=(h:Int):=Ci;have q3:(h:Int)<(n:Int):=Ci;have q4:(a:Int)<(n:Int):=Ci;have q5:i≤h:=Ci;have q6:h<j:=Ci;clear hown hy hh gh ga hDl;go_wp2
   go_still_tail 9,Cm
   change wpList _ _ _ _ _ wr.drew;go_wp2_with fail;refine(Pu y x _).mono ?_;rintro e w2 ⟨rfl,hb2⟩;have hown2:=Dj HO1.out.drew (Am _) hb2;have hg2:w.grownBy w2 (Af g):=Ko (Lv hgr) hb2;clear c0 c1 c2 c3 d0 d1 d2 d3 hb2 hgr q2;by_cases hxy:y.t<x.t
   ·rw[Nu hxy];have HXY:=Ah hxy;have HO2:=Ah hown2;clear hxy hown2;go_wp2
    go_roundw
    case rel=>
     refine⟨h+1,j,Ci,Ci,Ci,by go_num,rfl,Ah (λq u hq hu=>?_),H2,HO2.out,hg2⟩;obtain⟨hql,rfl⟩:=Ax.1 hu;have h3:=Me HBA.out (i:=q) (j:=h-m) hql hhq Ci;rw[HY.out]at h3;have:=HXY.out;omega
    case measure=>simp[intOf];omega
   ·have hc:Dm y.t x.t=0∨Dm y.t x.t=1:=by unfold Dm;rw[if_neg hxy];split<;>simp
    have hc0:decide (Dm y.t x.t<0)=false:=by rcases hc with hc|hc<;>rw[hc]<;>rfl
    have HXY:=Ah hxy;have HO2:=Ah hown2;clear hxy hc hown2;go_wp2
    go_roundw
    case rel=>
     refine⟨i,h,Ci,Ci,Ci,rfl,rfl,H1,Ah (λq u hq hu=>?_),HO2.out,hg2⟩;obtain⟨hql,rfl⟩:=Ax.1 hu;have h3:=Me HBA.out (i:=h-m) (j:=q) hhq hql Ci;rw[HY.out]at h3;have:=HXY.out;omega
    case measure=>simp[intOf];omega
  ·obtain rfl:i=j:=Ci
   have hfin:D'=Fo P (B.take (i-m)) x (B.drop (i-m)) S:=by
    have e:=tX (t:=Sr.t) (S1:=B.take (i-m)) (S2:=B.drop (i-m)) (x:=x) (λu hu=>by
     obtain⟨q,hq,rfl⟩:=Be.1 hu;rw[Bm]at hq;rw[List.getElem_take];exact H1.out q _ Ci (Aw Ci)) (λu hu=>by
     obtain⟨q,hq,rfl⟩:=Be.1 hu;rw[List.length_drop]at hq;rw[List.getElem_drop];exact H2.out (i-m+q) _ Ci (Aw Ci))
    rw[List.take_append_drop]at e;rw[HD.out,e];rfl
   have HF:=Ah hfin;have HO1:=Ah hown;have hib:i-m≤B.length:=by have:=HB.out;have:=HM.out;omega
   clear hfin hown hDl H1 H2;go_wp2_with fail;obtain⟨wo,rfl⟩:∃wo:Aj,wo=wr:=⟨_,rfl⟩
   go_loopw [13] (λs13 wr=>∃k q:Nat,k=a+q∧q≤i-m∧s13= Aa Ab k∧wr.ownsRow base 89 4 (Ad (Af ⟨g,0,Ae⟩) n cap) n (recs (Fo P (B.take q) x (B.drop q) S))∧w.grownBy wr (Af g)) (λs13 _=>i-(intOf s13).toNat)
   case atStart=>exact⟨a,0,Ci,Ci,rfl,by simpa using HO1.out,hgr⟩
   case round=>
    obtain⟨k,q,hk,hq,rfl,hown,hgr2⟩:=hrel;have HK:=Ah hk;by_cases hlt2:q<i-m
    ·obtain⟨r,hr⟩:=ez (k+1);have hqB:q<B.length:=Ci;obtain⟨y,hy⟩:=ey (B[q]);rw[List.drop_eq_getElem_cons hqB,hy]at hown;have hlq:(B.take q).length=q:=by rw[Bm];omega
     obtain⟨g1,g2,g3⟩:=yI P (B.take q) y x (B.drop (q+1)) S (p:=k) (q:=r) (by rw[hlq];have:=HA.out;omega) (by rw[hlq];have:=HA.out;omega);have hDl:n=(Fo P (B.take q) x (y::B.drop (q+1)) S).length:=by rw[Nh,hlq];have:=HN.out;simp;omega
     obtain⟨⟨c0,c1,c2,c3⟩,z0,z1,z2,z3⟩:=Gw hown hDl g1;obtain⟨⟨d0,d1,d2,d3⟩,y0,y1,y2,y3⟩:=Gw hown hDl g2;have hsw:=Qn (a:=x) (b:=y) (i:=k) (j:=r) hown (by rw[←hDl];omega) (by rw[←hDl];omega);have et:B.take q++[y]=B.take (q+1):=by rw[Bc hqB,hy]
     rw[g3,et]at hsw;have HSW:=Ah hsw;have e2:Ab.wrap ((k:Int)+1)=(r:Int):=by rw[Ca _ Ci];omega
     have e3:(k:Int)<(n:Int):=Ci;have e4:(r:Int)<(n:Int):=Ci;have e5:(0:Int)≤(k:Int):=Ci;have e6:(0:Int)≤(r:Int):=Ci;have e7:(k:Int)<(i:Int)-1:=Ci;have hkr:¬k=r:=Ci;have hrk:¬r=k:=Ci;have HR:=Ah hr;clear hsw hown g1 g2 g3 hDl hlq et hy hr hk;go_wp2
     go_region
     obtain⟨h1,h2⟩:=HSW.out;clear HSW c0 c1 c2 c3 d0 d1 d2 d3 z0 z1 z2 z3 y0 y1 y2 y3;obtain⟨W3,hW3⟩:=ez ((((((((((wr.setCell ⟨g,k*4,Ae⟩ (Aa Ab y.x)).setCell ⟨g,k*4+1,Ae⟩ (Aa Ab y.y)).setCell ⟨g,k*4+2,Ae⟩ (Aa Ac (y.q:Int))).setCell ⟨g,k*4+3,Ae⟩ (Ad y.A y.n y.c)).setCell ⟨g,r*4,Ae⟩ (Aa Ab x.x)).setCell ⟨g,r*4+1,Ae⟩ (Aa Ab x.y)).setCell ⟨g,r*4+2,Ae⟩ (Aa Ac (x.q:Int))).setCell ⟨g,r*4+3,Ae⟩ (Ad x.A x.n x.c)).drew));rw[←hW3]at h1 h2⊢;have H1:=Ah h1;have H2:=Ah (Ga hgr2 h2);clear hW3 h1 h2 hgr2;go_wp2
     go_roundw
     case rel=>exact⟨r,q+1,by have:=HR.out;have:=HK.out;omega,Ci,rfl,H1.out,H2.out⟩
     case measure=>have:=HR.out;simp[intOf];omega
    ·obtain rfl:q=i-m:=Ci;have e7:¬(k:Int)<(i:Int)-1:=by have:=HA.out;have:=HM.out;omega
     have hown':=hown;rw[←HF.out]at hown';have HO2:=Ah hown';clear hown hown' hk;go_wp2_with fail
     go_end0
     exact⟨rfl,HO2.out,hgr2⟩
theorem Ad4 (base g n cap cc:Nat) (P B S:List Sr) (x:Sr) (a m b:Nat) (w:Aj) (ha:a=P.length) (hm:m=P.length+B.length) (hb:b=P.length+B.length+1) (hn:n=P.length+B.length+1+S.length) (hB2:2≤B.length) (hl:n≤1000000000) (hB:Km Sr.t B)
  (hown:w.ownsRow base 89 4 (Ad (Af ⟨g,0,Ae⟩) n cap) n (recs (Fo P B x [] S))):
  Al Tryz.prog 187 #[Ad (Af ⟨g,0,Ae⟩) n cc,Aa Ab a,Aa Ab m,Aa Ab b,.func (.func 89) #[] #[]] w (Gu base g n cap (P++mrg Sr.t B [x]++S) w):=by
 obtain⟨D',hD'⟩:=ez (P++mrg Sr.t B [x]++S);rw[←hD'];have HD:=Ah hD';have HA:=Ah ha;have HM:=Ah hm;have HB:=Ah hb;have HN:=Ah hn;have HO:=Ah hown;have HBA:=Ah hB;have hab:a<m:=Ci;have hmb:m≤b:=Ci;have hbn:b≤n:=Ci;have e1b:((m:Int)-(a:Int)==1)=false:=by simp;omega
 have e2b:((b:Int)-(m:Int)==1)=true:=by simp;omega
 clear ha hm hb hn hown hB hD';go_enter Tryz.func187,Tryz.ntmps187;go_wp2
 go_loopw [14,15,16] (λs10 s11 _ wr=>∃i j:Nat,a≤i∧i≤j∧j≤m∧s10= Aa Ab i∧s11= Aa Ab j∧Hid (∀q y,q+a<i→B[q]? =Af y→y.t≤x.t)∧Hid (∀q y,j≤q+a→B[q]? =Af y→x.t<y.t)∧wr.ownsRow base 89 4 (Ad (Af ⟨g,0,Ae⟩) n cap) n (recs (Fo P B x [] S))∧w.grownBy wr (Af g)) (λs10 s11 _ _=>(intOf s11).toNat-(intOf s10).toNat)
 case atStart=>
  refine⟨a,m,Ci,Ci,Ci,rfl,rfl,Ah (λq y h=>Ci),Ah (λq y h hy=>?_),HO.out,Es _ _⟩;have:=(Ax.1 hy).1;have:=HA.out;have:=HM.out;omega
 case round=>
  obtain⟨i,j,hmi,hij,hjb,rfl,rfl,H1,H2,hown,hgr⟩:=hrel;have hDl:n=(Fo P B x [] S).length:=by rw[Nh];have:=HN.out;simp;omega
  by_cases hlt:i<j
  ·obtain⟨h,hh⟩:=ez ((i+j)/2);have hhq:h-a<B.length:=by have:=HA.out;have:=HM.out;omega
   have gh:=sZ (P:=P) (x:=x) (S2:=[]) (R:=S) (k:=h) hhq (by have:=HA.out;omega);have ga:=yK (P:=P) (S1:=B) (x:=x) (S2:=[]) (R:=S) (k:=m) (by have:=HM.out;omega);obtain⟨y,hy⟩:=ey (B[h-a]);rw[hy]at gh;obtain⟨⟨c0,c1,c2,c3⟩,_⟩:=Gw hown hDl gh;obtain⟨⟨d0,d1,d2,d3⟩,_⟩:=Gw hown hDl ga;have HO1:=Ah hown;have HY:=Ah hy;have HH:=Ah hh;have HDL:=Ah hDl;have q1:(i:Int)<(j:Int):=Ci;have q2:((i:Int)+(j:Int))/2=(h:Int):=Ci;have q3:(h:Int)<(n:Int):=Ci;have q4:(m:Int)<(n:Int):=by have:=HM.out;have:=HN.out;omega
   have q5:i≤h:=Ci;have q6:h<j:=Ci;clear hown hy hh gh ga hDl;go_wp2
   go_still_tail 9,Cm
   change wpList _ _ _ _ _ wr.drew;go_wp2_with fail;refine(Pu x y _).mono ?_;rintro e w2 ⟨rfl,hb2⟩;have hown2:=Dj HO1.out.drew (Am _) hb2;have hg2:w.grownBy w2 (Af g):=Ko (Lv hgr) hb2;clear c0 c1 c2 c3 d0 d1 d2 d3 hb2 hgr q2;by_cases hxy:x.t<y.t
   ·rw[Nu hxy];have HXY:=Ah hxy;have HO2:=Ah hown2;clear hxy hown2;go_wp2
    go_roundw
    case rel=>
     refine⟨i,h,Ci,Ci,Ci,rfl,rfl,H1,Ah (λq u hq hu=>?_),HO2.out,hg2⟩;obtain⟨hql,rfl⟩:=Ax.1 hu;have h3:=Me HBA.out (i:=h-a) (j:=q) hhq hql Ci;rw[HY.out]at h3;have:=HXY.out;omega
    case measure=>simp[intOf];omega
   ·have hc:Dm x.t y.t=0∨Dm x.t y.t=1:=by unfold Dm;rw[if_neg hxy];split<;>simp
    have hc0:decide (Dm x.t y.t<0)=false:=by rcases hc with hc|hc<;>rw[hc]<;>rfl
    have HXY:=Ah hxy;have HO2:=Ah hown2;clear hxy hc hown2;go_wp2
    go_roundw
    case rel=>
     refine⟨h+1,j,Ci,Ci,Ci,by go_num,rfl,Ah (λq u hq hu=>?_),H2,HO2.out,hg2⟩;obtain⟨hql,rfl⟩:=Ax.1 hu;have h3:=Me HBA.out (i:=q) (j:=h-a) hql hhq Ci;rw[HY.out]at h3;have:=HXY.out;omega
    case measure=>simp[intOf];omega
  ·obtain rfl:i=j:=Ci
   have hfin:D'=Fo P (B.take (i-a)) x (B.drop (i-a)) S:=by
    have e:=Yk (t:=Sr.t) (S1:=B.take (i-a)) (S2:=B.drop (i-a)) (x:=x) (λu hu=>by
     obtain⟨q,hq,rfl⟩:=Be.1 hu;rw[Bm]at hq;rw[List.getElem_take];exact H1.out q _ Ci (Aw Ci)) (λu hu=>by
     obtain⟨q,hq,rfl⟩:=Be.1 hu;rw[List.length_drop]at hq;rw[List.getElem_drop];exact H2.out (i-a+q) _ Ci (Aw Ci))
    rw[List.take_append_drop]at e;rw[HD.out,e];rfl
   have HF:=Ah hfin;have HO1:=Ah hown;have hib:i-a≤B.length:=by have:=HA.out;have:=HM.out;omega
   clear hfin hown hDl H1 H2;go_wp2_with fail;obtain⟨wo,rfl⟩:∃wo:Aj,wo=wr:=⟨_,rfl⟩
   go_loopw [17] (λs13 wr=>∃k q:Nat,k=a+q∧i-a≤q∧q≤B.length∧s13= Aa Ab k∧wr.ownsRow base 89 4 (Ad (Af ⟨g,0,Ae⟩) n cap) n (recs (Fo P (B.take q) x (B.drop q) S))∧w.grownBy wr (Af g)) (λs13 _=>(intOf s13).toNat)
   case atStart=>exact⟨m,B.length,by have:=HA.out;have:=HM.out;omega,Ci,Ci,rfl,by simpa using HO1.out,hgr⟩
   case round=>
    obtain⟨k,q,hk,hq,hqB,rfl,hown,hgr2⟩:=hrel;have HK:=Ah hk;by_cases hlt2:i-a<q
    ·obtain⟨r,hr⟩:=ez (k-1);have hqB':q-1<B.length:=Ci;obtain⟨y,hy⟩:=ey (B[q-1])
     have et:B.take q=B.take (q-1)++[y]:=by
      have:=Bc hqB';rw[hy,Nat.sub_add_cancel Ci]at this;exact this
     have ed:y::B.drop q=B.drop (q-1):=by
      have:=List.drop_eq_getElem_cons hqB';rw[hy,Nat.sub_add_cancel Ci]at this;exact this.symm
     rw[et]at hown;have hlq:(B.take (q-1)).length=q-1:=by rw[Bm];omega
     obtain⟨g1,g2,g3⟩:=qE P (B.take (q-1)) y x (B.drop q) S (p:=k) (q:=r) (by rw[hlq];have:=HA.out;omega) (by rw[hlq];have:=HA.out;omega);have hDl:n=(Fo P (B.take (q-1)++[y]) x (B.drop q) S).length:=by rw[Nh,Bh,hlq];have:=HN.out;simp;omega
     obtain⟨⟨c0,c1,c2,c3⟩,z0,z1,z2,z3⟩:=Gw hown hDl g1;obtain⟨⟨d0,d1,d2,d3⟩,y0,y1,y2,y3⟩:=Gw hown hDl g2;have hkn:k<n:=by have:=HA.out;have:=HN.out;omega
     have hsw:=Qn (a:=x) (b:=y) (i:=k) (j:=r) hown (by rw[←hDl];omega) (by rw[←hDl];omega);rw[g3,ed]at hsw;have HSW:=Ah hsw;have e2:Ab.wrap ((k:Int)-1)=(r:Int):=by rw[Ca _ Ci];omega
     have e3:(k:Int)<(n:Int):=Ci;have e4:(r:Int)<(n:Int):=Ci;have e5:(0:Int)≤(k:Int):=Ci;have e6:(0:Int)≤(r:Int):=Ci;have e7:(i:Int)<(k:Int):=Ci;have hkr:¬k=r:=Ci;have hrk:¬r=k:=Ci;have HR:=Ah hr;clear hsw hown g1 g2 g3 hDl hlq et ed hy hr hk;go_wp2
     go_region
     obtain⟨h1,h2⟩:=HSW.out;clear HSW c0 c1 c2 c3 d0 d1 d2 d3 z0 z1 z2 z3 y0 y1 y2 y3;obtain⟨W3,hW3⟩:=ez ((((((((((wr.setCell ⟨g,k*4,Ae⟩ (Aa Ab y.x)).setCell ⟨g,k*4+1,Ae⟩ (Aa Ab y.y)).setCell ⟨g,k*4+2,Ae⟩ (Aa Ac (y.q:Int))).setCell ⟨g,k*4+3,Ae⟩ (Ad y.A y.n y.c)).setCell ⟨g,r*4,Ae⟩ (Aa Ab x.x)).setCell ⟨g,r*4+1,Ae⟩ (Aa Ab x.y)).setCell ⟨g,r*4+2,Ae⟩ (Aa Ac (x.q:Int))).setCell ⟨g,r*4+3,Ae⟩ (Ad x.A x.n x.c)).drew));rw[←hW3]at h1 h2⊢;have H1:=Ah h1;have H2:=Ah (Ga hgr2 h2);clear hW3 h1 h2 hgr2;go_wp2
     go_roundw
     case rel=>exact⟨r,q-1,by have:=HR.out;have:=HK.out;omega,Ci,Ci,rfl,H1.out,H2.out⟩
     case measure=>have:=HR.out;simp[intOf];omega
    ·obtain rfl:q=i-a:=Ci;have e7:¬(i:Int)<(k:Int):=Ci;have hown':=hown;rw[←HF.out]at hown';have HO2:=Ah hown';clear hown hown' hk;go_wp2_with fail
     go_end0
     exact⟨rfl,HO2.out,hgr2⟩
def pG (base g n cap cc c:Nat):Prop:=
 ∀(P A B S:List Sr) (a m b:Nat) (w:Aj),A.length+B.length≤c→0<A.length→0<B.length→a=P.length→m=P.length+A.length→b=P.length+A.length+B.length→n=P.length+A.length+B.length+S.length→Km Sr.t A→Km Sr.t B→
  w.ownsRow base 89 4 (Ad (Af ⟨g,0,Ae⟩) n cap) n (recs (P++A++B++S))→
  Al Tryz.prog 187 #[Ad (Af ⟨g,0,Ae⟩) n cc,Aa Ab a,Aa Ab m,Aa Ab b,.func (.func 89) #[] #[]] w (Gu base g n cap (P++mrg Sr.t A B++S) w)
def Ay6 (A B:List Sr) (a mid lo hi s r:Nat):Prop:=
 (s=lo∨∃x y,A[s-1-a]? =Af x∧B[mid-s]? =Af y∧x.t≤y.t)∧(r=hi∨∃x y,A[r-a]? =Af x∧B[mid-1-r]? =Af y∧y.t<x.t)
theorem Ao6 (base g n cap cc c:Nat) (hl:n≤1000000000) (IH:pG base g n cap cc c) (P A B S:List Sr) (a m b:Nat) (w:Aj) (hc:A.length+B.length≤c+1) (hA2:2≤A.length) (hB2:2≤B.length) (ha:a=P.length) (hm:m=P.length+A.length) (hb:b=P.length+A.length+B.length) (hn:n=P.length+A.length+B.length+S.length) (hA:Km Sr.t A) (hB:Km Sr.t B)
  (hown:w.ownsRow base 89 4 (Ad (Af ⟨g,0,Ae⟩) n cap) n (recs (P++A++B++S))):
  Al Tryz.prog 187 #[Ad (Af ⟨g,0,Ae⟩) n cc,Aa Ab a,Aa Ab m,Aa Ab b,.func (.func 89) #[] #[]] w (Gu base g n cap (P++mrg Sr.t A B++S) w):=by
 obtain⟨D',hD'⟩:=ez (P++mrg Sr.t A B++S);rw[←hD'];have HD:=Ah hD';have HA:=Ah ha;have HM:=Ah hm;have HB:=Ah hb;have HN:=Ah hn;have HO:=Ah hown;have HAA:=Ah hA;have HBA:=Ah hB;have hab:a+2≤m:=Ci;have hmb:m+2≤b:=Ci;have hbn:b≤n:=Ci;obtain⟨mid,hmid⟩:=ez ((a+b)/2);have e1b:((m:Int)-(a:Int)==1)=false:=by simp;omega
 have e2b:((b:Int)-(m:Int)==1)=false:=by simp;omega
 have e3b:((a:Int)+(b:Int))/2=(mid:Int):=Ci;have HMID:=Ah hmid;have hm1:a+2≤mid:=Ci;have hm2:mid+2≤b:=Ci;have hm3:2*mid≤a+b:=Ci;have hm4:a+b≤2*mid+1:=Ci;have HC:=Ah hc;clear ha hm hb hn hown hA hB hD' hmid hc;go_enter Tryz.func187,Tryz.ntmps187;go_upto_if 140 with fail;go_cut [20,21]from 138 to 146 (λs20 s21 wx=>∃lo hi:Nat,s20= Aa Ab lo∧s21= Aa Ab hi∧a≤lo∧lo≤hi∧hi≤m∧hi≤mid∧mid+m≤lo+b∧(lo=a∨lo+b=mid+m)∧(hi=m∨hi=mid)∧w=wx)
 case first=>
  by_cases hgt:mid<m
  ·have hgt':(mid:Int)<(m:Int):=Ci;go_wp2;go_meet;exact⟨mid+m-b,mid,by go_num,rfl,Ci,Ci,Ci,Ci,Ci,Ci,Ci,rfl⟩
  ·have hgt':¬(mid:Int)<(m:Int):=Ci;go_wp2;go_meet;exact⟨a,m,rfl,rfl,Ci,Ci,Ci,Ci,Ci,Ci,Ci,rfl⟩
 case rest=>
  obtain⟨lo,hi,rfl,rfl,l1,l2,l3,l4,l5,l6,l7,rfl⟩:=hcut;have L6:=Ah l6;have L7:=Ah l7;clear l6 l7;go_wp2
  go_loopw [20,21,23] (λs20 s21 _ wr=>∃s r:Nat,lo≤s∧s≤r∧r≤hi∧s20= Aa Ab s∧s21= Aa Ab r∧Ay6 A B a mid lo hi s r∧wr.ownsRow base 89 4 (Ad (Af ⟨g,0,Ae⟩) n cap) n (recs (P++A++B++S))∧w.grownBy wr (Af g)) (λs20 s21 _ _=>(intOf s21).toNat-(intOf s20).toNat)
  case atStart=>exact⟨lo,hi,Ci,Ci,Ci,rfl,rfl,⟨.inl rfl,.inl rfl⟩,HO.out,Es _ _⟩
  case round=>
   obtain⟨s,r,r1,r2,r3,rfl,rfl,hsym,hown,hgr⟩:=hrel;have HSYM:=Ah hsym;have HO1:=Ah hown;clear hsym hown;by_cases hlt:s<r
   ·obtain⟨h,hh⟩:=ez ((s+r)/2);obtain⟨p,hp⟩:=ez (mid+m-1-h);have i1:h-a<A.length:=by have:=HM.out;have:=HA.out;omega
    have i2:mid-1-h<B.length:=by have:=HM.out;have:=HB.out;omega
    obtain⟨x,hx⟩:=ey (A[h-a]);obtain⟨y,hy⟩:=ey (B[mid-1-h])
    have gx:(P++A++B++S)[h]? =Af x:=by
     rw[Bj,←hx];exact Sg i1 (by have:=HA.out;omega)
    have gy:(P++A++B++S)[p]? =Af y:=by
     rw[←hy];exact Sg i2 (by have:=HM.out;simp;omega)
    have hDl:n=(P++A++B++S).length:=by have:=HN.out;simp;omega
    obtain⟨⟨c0,c1,c2,c3⟩,_⟩:=Gw HO1.out hDl gx;obtain⟨⟨d0,d1,d2,d3⟩,_⟩:=Gw HO1.out hDl gy;have HX:=Ah hx;have HY:=Ah hy;have HH:=Ah hh;have q1:(s:Int)<(r:Int):=Ci;have q2:((s:Int)+(r:Int))/2=(h:Int):=Ci;have q3:(h:Int)<(n:Int):=Ci;have q4:(p:Int)<(n:Int):=Ci;have q7:Ab.wrap (p:Int)=(p:Int):=Ca _ Ci;have q8:(mid:Int)+(m:Int)-1-(h:Int)=(p:Int):=Ci;have q5:s≤h:=Ci;have q6:h<r:=Ci;clear hx hy hh hp gx gy hDl;go_wp2
    go_still_tail 11,Cm
    change wpList _ _ _ _ _ wr.drew;go_wp2_with fail;refine(Pu y x _).mono ?_;rintro e w2 ⟨rfl,hb2⟩;have hown2:=Dj HO1.out.drew (Am _) hb2;have hg2:w.grownBy w2 (Af g):=Ko (Lv hgr) hb2;have HO2:=Ah hown2;clear c0 c1 c2 c3 d0 d1 d2 d3 hb2 hgr q2 q7 q8 hown2;by_cases hxy:y.t<x.t
    ·rw[Nu hxy];have HXY:=Ah hxy;clear hxy
     as_aux_lemma=>
      go_wp2
      go_roundw
      case rel=>
       refine⟨s,h,Ci,Ci,Ci,rfl,rfl,⟨HSYM.out.1,.inr ⟨x,y,?_,?_,HXY.out⟩⟩,HO2.out,hg2⟩
       ·rw[Aw i1,HX.out]
       ·rw[Aw i2,HY.out]
      case measure=>simp[intOf];omega
    ·have hc:Dm y.t x.t=0∨Dm y.t x.t=1:=by unfold Dm;rw[if_neg hxy];split<;>simp
     have hc0:decide (Dm y.t x.t<0)=false:=by rcases hc with hc|hc<;>rw[hc]<;>rfl
     have HXY:=Ah hxy;clear hxy hc
     as_aux_lemma=>
      go_wp2
      go_roundw
      case rel=>
       refine⟨h+1,r,Ci,Ci,Ci,by go_num,rfl,⟨.inr ⟨x,y,?_,?_,by have:=HXY.out;omega⟩,HSYM.out.2⟩,HO2.out,hg2⟩
       ·rw[show h+1-1-a=h-a by omega,Aw i1,HX.out]
       ·rw[show mid-(h+1)=mid-1-h by omega,Aw i2,HY.out]
      case measure=>simp[intOf];omega
   ·obtain rfl:s=r:=Ci;obtain⟨en,hen⟩:=ez (mid+m-s);have hpA:s-a≤A.length:=by have:=HM.out;have:=HA.out;omega
    have hqB:mid-s≤B.length:=by have:=HM.out;have:=HB.out;omega
    have hspl:=Al8 (t:=Sr.t) (p:=s-a) (q:=mid-s) HAA.out HBA.out hpA hqB (by
     rcases HSYM.out.1 with h|⟨x,y,h1,h2,h3⟩
     ·rcases L6.out with h'|h'
      ·exact .inl Ci
      ·exact .inr (.inl (by have:=HM.out;have:=HB.out;omega))
     ·exact .inr (.inr ⟨x,y,by rw[show s-a-1=s-1-a by omega];exact h1,h2,h3⟩)) (by
     rcases HSYM.out.2 with h|⟨x,y,h1,h2,h3⟩
     ·rcases L7.out with h'|h'
      ·exact .inl (by have:=HM.out;have:=HA.out;omega)
      ·exact .inr (.inl Ci)
     ·exact .inr (.inr ⟨x,y,h1,by rw[show mid-s-1=mid-1-s by omega];exact h2,h3⟩))
    have hA12:A.take (s-a)++A.drop (s-a)=A:=List.take_append_drop _ _;have hB12:B.take (mid-s)++B.drop (mid-s)=B:=List.take_append_drop _ _;have hA1l:(A.take (s-a)).length=s-a:=by rw[Bm];omega
    have hB1l:(B.take (mid-s)).length=mid-s:=by rw[Bm];omega
    have hA2l:(A.drop (s-a)).length=m-s:=by rw[List.length_drop];have:=HM.out;have:=HA.out;omega
    have hB2l:(B.drop (mid-s)).length=b-en:=by rw[List.length_drop];have:=HM.out;have:=HB.out;omega
    have hA1a:Km Sr.t (A.take (s-a)):=HAA.out.sublist (List.take_sublist _ _);have hA2a:Km Sr.t (A.drop (s-a)):=HAA.out.sublist (List.drop_sublist _ _);have hB1a:Km Sr.t (B.take (mid-s)):=HBA.out.sublist (List.take_sublist _ _);have hB2a:Km Sr.t (B.drop (mid-s)):=HBA.out.sublist (List.drop_sublist _ _);obtain⟨A1,hA1⟩:=ez (A.take (s-a));obtain⟨A2,hA2⟩:=ez (A.drop (s-a));obtain⟨B1,hB1⟩:=ez (B.take (mid-s));obtain⟨B2,hB2⟩:=ez (B.drop (mid-s));rw[←hA1,←hA2,←hB1,←hB2]at hspl;rw[←hA1]at hA12 hA1l hA1a;rw[←hA2]at hA12 hA2l hA2a;rw[←hB1]at hB12 hB1l hB1a;rw[←hB2]at hB12 hB2l hB2a
    have hown1:wr.ownsRow base 89 4 (Ad (Af ⟨g,0,Ae⟩) n cap) n (recs (P++A1++A2++B1++B2++S)):=by
     have e:P++A1++A2++B1++B2++S=P++A++B++S:=by rw[←hA12,←hB12];simp
     rw[e];exact HO1.out
    have HSPL:=Ah hspl;have LA1:=Ah hA1l;have LA2:=Ah hA2l;have LB1:=Ah hB1l;have LB2:=Ah hB2l;have SA1:=Ah hA1a;have SA2:=Ah hA2a;have SB1:=Ah hB1a;have SB2:=Ah hB2a;have HOW:=Ah hown1;have HEN:=Ah hen;have q1:¬(s:Int)<(s:Int):=Ci;have q2:(mid:Int)+(m:Int)-(s:Int)=(en:Int):=Ci;have q3:s≤mid:=Ci;have q4:mid≤en:=Ci;have q5:en≤b:=Ci;have q6:m≤en:=Ci;have q7:s≤m:=Ci;clear hspl hA1l hA2l hB1l hB2l hA1a hA2a hB1a hB2a hA1 hA2 hB1 hB2 hA12 hB12 hown1 HSYM L6 L7 HO1 HO hen hpA hqB;obtain⟨cb,hcb⟩:=ez (decide (s<m∧m<en));have Hcb:=Ah hcb;clear hcb;go_upto_region 39 with fail;go_cut [185]from 178 to 185 (λsb wx=>sb= .bool cb∧wr=wx)
    case first=>
     by_cases k1:s<m
     ·by_cases k2:m<en
      ·have k1':(s:Int)<(m:Int):=Ci;have k2':(m:Int)<(en:Int):=Ci;go_wp2;go_meet;exact⟨by rw[Hcb.out,decide_eq_true ⟨k1,k2⟩],rfl⟩
      ·have k1':(s:Int)<(m:Int):=Ci;have k2':¬(m:Int)<(en:Int):=Ci;go_wp2;go_meet;exact⟨by rw[Hcb.out,decide_eq_false (λh=>k2 h.2)],rfl⟩
     ·have k1':¬(s:Int)<(m:Int):=Ci;go_wp2;go_meet;exact⟨by rw[Hcb.out,decide_eq_false (λh=>k1 h.1)],rfl⟩
    case rest=>
     obtain⟨rfl,rfl⟩:=hcut;go_upto_if 185 with fail;go_cut [191]from 186 to 191 (λ_ wx=>wx.ownsRow base 89 4 (Ad (Af ⟨g,0,Ae⟩) n cap) n (recs (P++A1++B1++A2++B2++S))∧w.grownBy wx (Af g))
     case first=>
      cases cb
      ·go_wp2;go_meet;refine⟨?_,hgr⟩;have hk:=of_decide_eq_false Hcb.out.symm
       have e:P++A1++B1++A2++B2++S=P++A1++A2++B1++B2++S:=by
        by_cases k1:s<m
        ·have:B1=[]:=List.length_eq_zero_iff.1 (by rw[LB1.out];have:=HEN.out;omega);subst this;simp
        ·have:A2=[]:=List.length_eq_zero_iff.1 (by rw[LA2.out];omega);subst this;simp
       rw[e];exact HOW.out
      ·have hk:=of_decide_eq_true Hcb.out.symm;have hrot:=nU base g n cap cc (P++A1) A2 B1 (B2++S) s m en (.func (.func 89) #[] #[]) wr (by have:=HA.out;have:=LA1.out;simp;omega) (by have:=HA.out;have:=LA1.out;have:=LA2.out;simp;omega) (by have:=HA.out;have:=LA1.out;have:=LA2.out;have:=LB1.out;have:=HEN.out;simp;omega) (by have:=HA.out;have:=HN.out;have:=HM.out;have:=HB.out;have:=LA1.out;have:=LA2.out;have:=LB1.out;have:=LB2.out;have:=HEN.out;simp;omega) (by rw[LA2.out];omega) (by rw[LB1.out];have:=HEN.out;omega) hl (by rw[←Bj];exact HOW.out);have e:P++A1++B1++A2++(B2++S)=P++A1++B1++A2++B2++S:=Cn;rw[e]at hrot;have HROT:=Ah hrot;clear hrot e hk;go_wp2_with fail;refine HROT.out.mono ?_;rintro e w2 ⟨rfl,hown2,hg2⟩;have HO2:=Ah hown2;clear hown2;go_wp2;go_meet;exact⟨HO2.out,Ga hgr hg2⟩
     case rest=>
      obtain⟨hownwd,hgrwd⟩:=hcut;obtain⟨wd,rfl⟩:∃wd:Aj,wd=wc:=⟨_,rfl⟩;have HOwd:=Ah hownwd;clear hownwd;obtain⟨cd,hcd⟩:=ez (decide (a<s∧s<mid));have Hcd:=Ah hcd;clear hcd;go_upto_region 41 with fail;go_cut [199]from 192 to 199 (λsb wx=>sb= .bool cd∧wd=wx)
      case first=>
       by_cases k1:a<s
       ·by_cases k2:s<mid
        ·have k1':(a:Int)<(s:Int):=Ci;have k2':(s:Int)<(mid:Int):=Ci;go_wp2;go_meet;exact⟨by rw[Hcd.out,decide_eq_true ⟨k1,k2⟩],rfl⟩
        ·have k1':(a:Int)<(s:Int):=Ci;have k2':¬(s:Int)<(mid:Int):=Ci;go_wp2;go_meet;exact⟨by rw[Hcd.out,decide_eq_false (λh=>k2 h.2)],rfl⟩
       ·have k1':¬(a:Int)<(s:Int):=Ci;go_wp2;go_meet;exact⟨by rw[Hcd.out,decide_eq_false (λh=>k1 h.1)],rfl⟩
      case rest=>
       obtain⟨rfl,rfl⟩:=hcut;go_upto_if 199 with fail;go_cut [205]from 200 to 205 (λ_ wx=>wx.ownsRow base 89 4 (Ad (Af ⟨g,0,Ae⟩) n cap) n (recs (P++mrg Sr.t A1 B1++A2++B2++S))∧w.grownBy wx (Af g))
       case first=>
        cases cd
        ·go_wp2;go_meet;refine⟨?_,hgrwd⟩;have hk:=of_decide_eq_false Hcd.out.symm
         have e:P++mrg Sr.t A1 B1++A2++B2++S=P++A1++B1++A2++B2++S:=by
          by_cases k1:a<s
          ·have:B1=[]:=List.length_eq_zero_iff.1 (by rw[LB1.out];omega);subst this;simp[Kl]
          ·have:A1=[]:=List.length_eq_zero_iff.1 (by rw[LA1.out];omega);subst this;simp[Io]
         rw[e];exact HOwd.out
        ·have hk:=of_decide_eq_true Hcd.out.symm;have hrot:=IH P A1 B1 (A2++B2++S) a s mid wd (by have:=HA.out;have:=HN.out;have:=HM.out;have:=HB.out;have:=HC.out;have:=LA1.out;have:=LA2.out;have:=LB1.out;have:=LB2.out;have:=HEN.out;omega) (by have:=HA.out;have:=HN.out;have:=HM.out;have:=HB.out;have:=HC.out;have:=LA1.out;have:=LA2.out;have:=LB1.out;have:=LB2.out;have:=HEN.out;omega) (by have:=HA.out;have:=HN.out;have:=HM.out;have:=HB.out;have:=HC.out;have:=LA1.out;have:=LA2.out;have:=LB1.out;have:=LB2.out;have:=HEN.out;omega) HA.out (by have:=HA.out;have:=HN.out;have:=HM.out;have:=HB.out;have:=HC.out;have:=LA1.out;have:=LA2.out;have:=LB1.out;have:=LB2.out;have:=HEN.out;omega) (by have:=HA.out;have:=HN.out;have:=HM.out;have:=HB.out;have:=HC.out;have:=LA1.out;have:=LA2.out;have:=LB1.out;have:=LB2.out;have:=HEN.out;omega) (by have:=HA.out;have:=HN.out;have:=HM.out;have:=HB.out;have:=HC.out;have:=LA1.out;have:=LA2.out;have:=LB1.out;have:=LB2.out;have:=HEN.out;simp;omega) SA1.out SB1.out (by simpa using HOwd.out);have e:P++mrg Sr.t A1 B1++(A2++B2++S)=P++mrg Sr.t A1 B1++A2++B2++S:=Cn;rw[e]at hrot;clear e;have HROT:=Ah hrot;clear hrot hk;go_wp2_with fail;refine HROT.out.mono ?_;rintro e w2 ⟨rfl,hown2,hg2⟩;have HO2:=Ah hown2;clear hown2;go_wp2;go_meet;exact⟨HO2.out,Ga hgrwd hg2⟩
       case rest=>
        obtain⟨hownwe,hgrwe⟩:=hcut;obtain⟨we,rfl⟩:∃we:Aj,we=wc:=⟨_,rfl⟩;have HOwe:=Ah hownwe;clear hownwe;obtain⟨ce,hce⟩:=ez (decide (mid<en∧en<b));have Hce:=Ah hce;clear hce;go_upto_region 43 with fail;go_cut [213]from 206 to 213 (λsb wx=>sb= .bool ce∧we=wx)
        case first=>
         by_cases k1:mid<en
         ·by_cases k2:en<b
          ·have k1':(mid:Int)<(en:Int):=Ci;have k2':(en:Int)<(b:Int):=Ci;go_wp2;go_meet;exact⟨by rw[Hce.out,decide_eq_true ⟨k1,k2⟩],rfl⟩
          ·have k1':(mid:Int)<(en:Int):=Ci;have k2':¬(en:Int)<(b:Int):=Ci;go_wp2;go_meet;exact⟨by rw[Hce.out,decide_eq_false (λh=>k2 h.2)],rfl⟩
         ·have k1':¬(mid:Int)<(en:Int):=Ci;go_wp2;go_meet;exact⟨by rw[Hce.out,decide_eq_false (λh=>k1 h.1)],rfl⟩
        case rest=>
         obtain⟨rfl,rfl⟩:=hcut;go_upto_if 213 with fail
         cases ce
         ·have hk:=of_decide_eq_false Hce.out.symm
          have e:D'=P++mrg Sr.t A1 B1++A2++B2++S:=by
           rw[HD.out,HSPL.out];by_cases k1:mid<en
           ·have:B2=[]:=List.length_eq_zero_iff.1 (by rw[LB2.out];omega);subst this;simp[Kl]
           ·have:A2=[]:=List.length_eq_zero_iff.1 (by rw[LA2.out];have:=HEN.out;omega);subst this;simp[Io]
          have hownF:=HOwe.out;rw[←e]at hownF;have HOF:=Ah hownF;clear hownF e hk;go_wp2_with fail
          go_end0
          exact⟨rfl,HOF.out,hgrwe⟩
         ·have hk:=of_decide_eq_true Hce.out.symm;have hML:(mrg Sr.t A1 B1).length=mid-a:=by rw[qP];have:=HA.out;have:=HN.out;have:=HM.out;have:=HB.out;have:=HC.out;have:=LA1.out;have:=LA2.out;have:=LB1.out;have:=LB2.out;have:=HEN.out;omega
          have hrot:=IH (P++mrg Sr.t A1 B1) A2 B2 S mid en b we (by have:=HA.out;have:=HN.out;have:=HM.out;have:=HB.out;have:=HC.out;have:=LA1.out;have:=LA2.out;have:=LB1.out;have:=LB2.out;have:=HEN.out;omega) (by have:=HA.out;have:=HN.out;have:=HM.out;have:=HB.out;have:=HC.out;have:=LA1.out;have:=LA2.out;have:=LB1.out;have:=LB2.out;have:=HEN.out;omega) (by have:=HA.out;have:=HN.out;have:=HM.out;have:=HB.out;have:=HC.out;have:=LA1.out;have:=LA2.out;have:=LB1.out;have:=LB2.out;have:=HEN.out;omega) (by have:=HA.out;have:=HN.out;have:=HM.out;have:=HB.out;have:=HC.out;have:=LA1.out;have:=LA2.out;have:=LB1.out;have:=LB2.out;have:=HEN.out;rw[Bh];omega) (by have:=HA.out;have:=HN.out;have:=HM.out;have:=HB.out;have:=HC.out;have:=LA1.out;have:=LA2.out;have:=LB1.out;have:=LB2.out;have:=HEN.out;rw[Bh];omega) (by have:=HA.out;have:=HN.out;have:=HM.out;have:=HB.out;have:=HC.out;have:=LA1.out;have:=LA2.out;have:=LB1.out;have:=LB2.out;have:=HEN.out;rw[Bh];omega) (by have:=HA.out;have:=HN.out;have:=HM.out;have:=HB.out;have:=HC.out;have:=LA1.out;have:=LA2.out;have:=LB1.out;have:=LB2.out;have:=HEN.out;rw[Bh];omega) SA2.out SB2.out HOwe.out
          have e:P++mrg Sr.t A1 B1++mrg Sr.t A2 B2++S=D':=by
           rw[HD.out,HSPL.out];simp
          rw[e]at hrot;have HROT:=Ah hrot;clear hrot hk e hML;go_wp2_with fail;refine HROT.out.mono ?_;rintro e w2 ⟨rfl,hown2,hg2⟩;have HO2:=Ah hown2;clear hown2;go_wp2_with fail
          go_end0
          exact⟨rfl,HO2.out,Ga hgrwe hg2⟩
theorem rI (base g n cap cc:Nat) (hl:n≤1000000000) (c:Nat):pG base g n cap cc c:=by
 induction c with
 |zero=>
  intro P A B S a m b w hc hA;omega
 |succ c ih=>
  intro P A B S a m b w hc hA0 hB0 ha hm hb hn hA hB hown
  match A,hA0 with
  |[x],_=>
   exact vM base g n cap cc P B S x a m b w ha (by simpa using hm) (by simpa using hb) (by simpa using hn) hl hB (by
    have e:Fo P [] x B S=P++[x]++B++S:=by simp[Fo]
    rw[e];exact hown)
  |x1::x2::A',_=>
   match B,hB0 with
   |[y],_=>
    exact Ad4 base g n cap cc P (x1::x2::A') S y a m b w ha hm (by simpa using hb) (by simpa using hn) Cn hl hA (by
     have e:Fo P (x1::x2::A') y [] S=P++(x1::x2::A')++[y]++S:=by simp[Fo]
     rw[e];exact hown)
   |y1::y2::B',_=>exact Ao6 base g n cap cc c hl ih P (x1::x2::A') (y1::y2::B') S a m b w hc Cn Cn ha hm hb hn hA hB hown
end Go.Proofs.YthpcfeifmdbhnaaGreatDoor.Rs
namespace Go.Proofs.YthpcfeifmdbhnaaGreatDoor.Rs
section
variable {α:Type} (t:α→Int)
def blks (bs:Nat):Nat→List α→List α
 |0,_=>[]
 |k+1,E=>srt t (E.take bs)++blks bs k (E.drop bs)
def St1 (a:Nat) (D D':List α):Prop:=∃k,a=20*k∧a≤D.length∧D'=blks t 20 k D++D.drop a
def St2 (bs:Nat) (D D':List α):Prop:=∃K,D.length≤bs*K∧D'=blks t bs K D
def St3 (bs a:Nat) (D D':List α):Prop:=∃k K,a=2*bs*k∧a≤D.length∧D.length≤a+bs*K∧D'=blks t (2*bs) k D++blks t bs K (D.drop a)
end
section
variable {α:Type} {t:α→Int}
theorem Wx (bs k:Nat):blks t bs k []=[]:=by
 induction k with
 |zero=>rfl
 |succ k ih=>simp[blks,srt,ih]
theorem Nb (bs k:Nat) (D:List α):blks t bs (k+1) D=blks t bs k D++srt t ((D.drop (bs*k)).take bs):=by
 induction k generalizing D with
 |zero=>simp[blks]
 |succ k ih=>
  rw[blks,ih (D.drop bs)]
  conv=>rhs;rw[blks]
  rw[List.drop_drop,Bj,show bs+bs*k=bs*(k+1)by rw[Nat.mul_succ];omega]
theorem Sd (bs k:Nat) (D:List α) (h:bs*k≤D.length):(blks t bs k D).length=bs*k:=by
 induction k generalizing D with
 |zero=>rfl
 |succ k ih=>
  rw[Nat.mul_succ]at h⊢;rw[blks,Bh,Og,Bm,ih _ (by rw[List.length_drop];omega)];omega
theorem vG (D:List α):St1 t 0 D D:=⟨0,rfl,Nat.zero_le _,by simp[blks]⟩
theorem Ac8 {a:Nat} {D D':List α} (h:St1 t a D D') (hn:a+20≤D.length):∃P X S,D'=P++X++S∧P.length=a∧X.length=20∧D.length=a+20+S.length∧St1 t (a+20) D (P++srt t X++S):=by
 obtain⟨k,rfl,ha,rfl⟩:=h;refine⟨blks t 20 k D,(D.drop (20*k)).take 20,D.drop (20*k+20),?_,Sd 20 k D ha,?_,?_,k+1,Ci,hn,?_⟩
 ·rw[Bj,←List.drop_drop,List.take_append_drop]
 ·rw[Bm,List.length_drop];omega
 ·rw[List.length_drop];omega
 ·rw[Nb]
theorem Ao1 {a:Nat} {D D':List α} (h:St1 t a D D') (hn:D.length<a+20):∃P X,D'=P++X++[]∧P.length=a∧a+X.length=D.length∧St2 t 20 D (P++srt t X++[]):=by
 obtain⟨k,rfl,ha,rfl⟩:=h;refine⟨blks t 20 k D,D.drop (20*k),Cn,Sd 20 k D ha,by rw[List.length_drop];omega,k+1,Ci,?_⟩;rw[Nb,Bg (by rw[List.length_drop];omega),List.append_nil]
theorem vH {bs:Nat} {D D':List α} (h:St2 t bs D D'):St3 t bs 0 D D':=by
 obtain⟨K,hK,rfl⟩:=h;exact⟨0,K,Cn,Cn,Ci,by simp[blks]⟩
theorem jN (bs:Nat) (E:List α):srt t (E.take (2*bs))=mrg t (srt t (E.take bs)) (srt t ((E.drop bs).take bs)):=by
 rw[←rD,Nat.two_mul,List.take_add]
theorem Ad0 {bs a:Nat} {D D':List α} (hb:0<bs) (h:St3 t bs a D D') (hn:a+2*bs≤D.length):
  ∃P A B S,D'=P++A++B++S∧P.length=a∧A.length=bs∧B.length=bs∧D.length=a+bs+bs+S.length∧Km t A∧Km t B∧St3 t bs (a+2*bs) D (P++mrg t A B++S):=by
 obtain⟨k,K,ha,haD,hK,rfl⟩:=h
 match K,hK with
 |0,hK=>simp at hK;omega
 |1,hK=>simp at hK;omega
 |K+2,hK=>
  have e:bs*(K+2)=bs+bs+bs*K:=by rw[Nat.mul_add];omega
  have hpl:(blks t (2*bs) k D).length=a:=by rw[Sd _ _ _ Ci,←ha]
  have hSl:(blks t bs K (D.drop (a+2*bs))).length+(a+2*bs)=D.length:=by
   have hall:∀(K:Nat) (E:List α),E.length≤bs*K→(blks t bs K E).length=E.length:=by
    intro K
    induction K with
    |zero=>intro E hE;simp at hE;subst hE;rfl
    |succ K ih=>
     intro E hE;rw[Nat.mul_succ]at hE;rw[blks,Bh,Og,ih _ (by rw[List.length_drop];omega),Bm,List.length_drop];omega
   rw[hall K _ (by rw[List.length_drop];omega),List.length_drop];omega
  refine⟨blks t (2*bs) k D,srt t ((D.drop a).take bs),srt t (((D.drop a).drop bs).take bs),blks t bs K (D.drop (a+2*bs)),?_,hpl,?_,?_,Ci,Tm _,Tm _,k+1,K,?_,hn,?_,?_⟩
  ·rw[blks,blks,List.drop_drop,List.drop_drop];simp only[Bj];rw[show a+bs+bs=a+2*bs by omega]
  ·rw[Og,Bm,List.length_drop];omega
  ·rw[Og,Bm,List.length_drop,List.length_drop];omega
  ·rw[Nat.mul_succ];omega
  ·omega
  ·rw[Nb,←ha,jN]
theorem Ac9 {bs a:Nat} {D D':List α} (_hb:0<bs) (h:St3 t bs a D D') (hn:D.length<a+2*bs) (hm:a+bs<D.length):
  ∃P A B,D'=P++A++B++[]∧P.length=a∧A.length=bs∧a+bs+B.length=D.length∧Km t A∧Km t B∧St2 t (2*bs) D (P++mrg t A B++[]):=by
 obtain⟨k,K,ha,haD,hK,rfl⟩:=h
 match K,hK with
 |0,hK=>simp at hK;omega
 |1,hK=>simp at hK;omega
 |K+2,hK=>
  have hpl:(blks t (2*bs) k D).length=a:=by rw[Sd _ _ _ Ci,←ha]
  refine⟨blks t (2*bs) k D,srt t ((D.drop a).take bs),srt t (((D.drop a).drop bs).take bs),?_,hpl,?_,?_,Tm _,Tm _,k+1,?_,?_⟩
  ·rw[blks,blks,List.drop_drop,List.drop_drop,List.drop_of_length_le (show D.length≤a+bs+bs by omega),Wx];simp only[Bj,List.append_nil]
  ·rw[Og,Bm,List.length_drop];omega
  ·rw[Og,Bm,List.length_drop,List.length_drop];omega
  ·rw[Nat.mul_succ];omega
  ·rw[Nb,←ha,jN,List.append_nil]
theorem Ao3 {bs a:Nat} {D D':List α} (h:St3 t bs a D D') (hn:D.length≤a+bs):St2 t (2*bs) D D':=by
 obtain⟨k,K,ha,haD,hK,rfl⟩:=h;refine⟨k+1,by rw[Nat.mul_succ];omega,?_⟩;have hdl:(D.drop a).length≤bs:=by rw[List.length_drop];omega
 rw[Nb,←ha,Bg (show(D.drop a).length≤2*bs by omega)]
 match K,hK with
 |0,hK=>
  have:D.drop a=[]:=List.length_eq_zero_iff.1 (by rw[List.length_drop];simp at hK;omega);rw[this];rfl
 |K+1,hK=>rw[blks,Bg hdl,List.drop_of_length_le hdl,Wx,List.append_nil]
theorem Ao2 {bs:Nat} {D D':List α} (h:St2 t bs D D') (hn:D.length≤bs):D'=srt t D:=by
 obtain⟨K,hK,rfl⟩:=h
 match K,hK with
 |0,hK=>
  have:D=[]:=List.length_eq_zero_iff.1 (by simp at hK;rw[hK];rfl);rw[this];rfl
 |K+1,hK=>rw[blks,Bg hn,List.drop_of_length_le hn,Wx,List.append_nil]
end
end Go.Proofs.YthpcfeifmdbhnaaGreatDoor.Rs
namespace Go.Proofs.YthpcfeifmdbhnaaGreatDoor.Rs
open Go.RowKit
theorem aB (base g n cap cc:Nat) (D:List Sr) (w:Aj) (hn:n=D.length) (hl:n≤100000000)
  (hown:w.ownsRow base 89 4 (Ad (Af ⟨g,0,Ae⟩) n cap) n (recs D)):
  Al Tryz.prog 142 #[Ad (Af ⟨g,0,Ae⟩) n cc,Aa Ab n,.func (.func 89) #[] #[]] w (Gu base g n cap (srt Sr.t D) w):=by
 have HN:=Ah hn;have HO:=Ah hown;clear hn hown;go_enter Tryz.func142,Tryz.ntmps142;go_wp2
 go_loopw [7,8] (λs7 s8 wr=>∃(a b:Nat) (D':List Sr),b=a+20∧a≤n∧s7= Aa Ab a∧s8= Aa Ab b∧St1 Sr.t a D D'∧wr.ownsRow base 89 4 (Ad (Af ⟨g,0,Ae⟩) n cap) n (recs D')∧w.grownBy wr (Af g)) (λ_ s8 _=>n+20-(intOf s8).toNat)
 case atStart=>exact⟨0,20,D,Ci,Ci,rfl,rfl,vG D,HO.out,Es _ _⟩
 case round=>
  obtain⟨a,b,D',hb,han,rfl,rfl,hst,hown,hgr⟩:=hrel;have HST:=Ah hst;have HO1:=Ah hown;have HB:=Ah hb;clear hst hown;by_cases hlt:b≤n
  ·obtain⟨P,X,S,hD',hP,hX,hS,hst'⟩:=Ac8 HST.out (by rw[←HN.out];omega);have hown:=HO1.out;rw[hD']at hown;have hins:=Qr base g n cap cc P X S a b wr hP.symm Ci (by rw[HN.out];omega) Ci hown;have HINS:=Ah hins;have HST':=Ah hst';have hlt':(b:Int)≤(n:Int):=Ci;clear hins hst' hown hD' hP hX hS hb HO1;go_wp2_with fail;refine HINS.out.mono ?_;rintro e w2 ⟨rfl,hown2,hg2⟩;have HO2:=Ah hown2;have HG2:=Ah (Ga hgr hg2);clear hown2 hgr hg2;go_wp2
   go_roundw
   case rel=>
    refine⟨b,b+20,P++srt Sr.t X++S,rfl,Ci,rfl,by go_num,?_,HO2.out,HG2.out⟩;rw[HB.out];exact HST'.out
   case measure=>simp[intOf];omega
  ·obtain⟨P,X,hD',hP,hX,hst'⟩:=Ao1 HST.out (by rw[←HN.out];omega);have hown:=HO1.out;rw[hD']at hown;have hins:=Qr base g n cap cc P X [] a n wr hP.symm (by rw[HN.out];omega) (by rw[HN.out];simp;omega) Ci hown;have HINS:=Ah hins;have HST':=Ah hst';have hlt':¬(b:Int)≤(n:Int):=Ci;clear hins hst' hown hD' hP hX hb HO1;go_wp2_with fail;refine HINS.out.mono ?_;rintro e w2 ⟨rfl,hown2,hg2⟩;have HO2:=Ah hown2;have HG2:=Ah (Ga hgr hg2);clear hown2 hgr hg2 HB;go_wp2_with fail;obtain⟨wo,rfl⟩:∃wo:Aj,wo=wr:=⟨_,rfl⟩
   go_loopw [6,7,8,9] (λs6 _ _ _ wr=>∃(bs:Nat) (D':List Sr),0<bs∧(bs≤20∨bs<2*n)∧s6= Aa Ab bs∧St2 Sr.t bs D D'∧wr.ownsRow base 89 4 (Ad (Af ⟨g,0,Ae⟩) n cap) n (recs D')∧w.grownBy wr (Af g)) (λs6 _ _ _ _=>2*n+20-(intOf s6).toNat)
   case atStart=>exact⟨20,_,Ci,Ci,rfl,HST'.out,HO2.out,HG2.out⟩
   case round=>
    obtain⟨bs,D1,hbs,hbn,rfl,hst2,hown3,hgr3⟩:=hrel;have HST2:=Ah hst2;have HO3:=Ah hown3;clear hst2 hown3;by_cases hlt2:bs<n
    ·have hlt2':(bs:Int)<(n:Int):=Ci;go_wp2_with fail;obtain⟨wp,rfl⟩:∃wp:Aj,wp=wr:=⟨_,rfl⟩
     go_loopw [7,8] (λs7 s8 wr=>∃(a b:Nat) (D':List Sr),b=a+2*bs∧a≤n∧s7= Aa Ab a∧s8= Aa Ab b∧St3 Sr.t bs a D D'∧wr.ownsRow base 89 4 (Ad (Af ⟨g,0,Ae⟩) n cap) n (recs D')∧w.grownBy wr (Af g)) (λ_ s8 _=>2*n+n-(intOf s8).toNat)
     case atStart=>exact⟨0,2*bs,D1,Ci,Ci,rfl,by go_num,vH HST2.out,HO3.out,hgr3⟩
     case round=>
      obtain⟨a,b,D2,hb,han,rfl,rfl,hst3,hown4,hgr4⟩:=hrel;have HST3:=Ah hst3;have HO4:=Ah hown4;have HB:=Ah hb;clear hst3 hown4;by_cases hlt3:b≤n
      ·obtain⟨P,A,B,S,hD',hP,hA,hB,hS,hAa,hBa,hst'⟩:=Ad0 hbs HST3.out (by rw[←HN.out];omega);have hown:=HO4.out;rw[hD']at hown;obtain⟨m,hm⟩:=ez (a+bs);have hsym:=rI base g n cap cc Ci (A.length+B.length) P A B S a m b wr (Am _) Ci Ci hP.symm Ci Ci (by rw[HN.out];omega) hAa hBa hown;have HSYM:=Ah hsym;have HST':=Ah hst';have hlt3':(b:Int)≤(n:Int):=Ci;have e1:(a:Int)+(bs:Int)=(m:Int):=Ci;clear hsym hst' hown hD' hP hA hB hS hAa hBa hb hm HO4;go_wp2_with fail;refine HSYM.out.mono ?_;rintro e w2 ⟨rfl,hown2,hg2⟩;have HO5:=Ah hown2;have HG5:=Ah (Ga hgr4 hg2);clear hown2 hgr4 hg2 e1
       as_aux_lemma=>
        go_wp2
        go_roundw
        case rel=>
         refine⟨b,b+2*bs,_,rfl,Ci,rfl,by go_num,?_,HO5.out,HG5.out⟩;rw[HB.out];exact HST'.out
        case measure=>simp[intOf];omega
      ·have hlt3':¬(b:Int)≤(n:Int):=Ci;obtain⟨m,hm⟩:=ez (a+bs);have e1:(a:Int)+(bs:Int)=(m:Int):=Ci;by_cases hmn:m<n
       ·obtain⟨P,A,B,hD',hP,hA,hB,hAa,hBa,hst'⟩:=Ac9 hbs HST3.out (by rw[←HN.out];omega) (by rw[←HN.out];omega);have hown:=HO4.out;rw[hD']at hown;have hsym:=rI base g n cap cc Ci (A.length+B.length) P A B [] a m n wr (Am _) Ci (by have:=HN.out;omega) hP.symm Ci (by rw[HN.out];omega) (by rw[HN.out];simp;omega) hAa hBa hown;have HSYM:=Ah hsym;have HST':=Ah hst';have hmn':(m:Int)<(n:Int):=Ci;clear hsym hst' hown hD' hP hA hB hAa hBa hb hm HO4;go_wp2_with fail;refine HSYM.out.mono ?_;rintro e w2 ⟨rfl,hown2,hg2⟩;have HO5:=Ah hown2;have HG5:=Ah (Ga hgr4 hg2);clear hown2 hgr4 hg2 e1
        as_aux_lemma=>
         go_wp2
         go_roundw
         case rel=>exact⟨2*bs,_,Ci,Ci,by go_num,HST'.out,HO5.out,HG5.out⟩
         case measure=>simp[intOf];omega
       ·have hst':=Ao3 HST3.out (by rw[←HN.out];omega);have HST':=Ah hst';have hmn':¬(m:Int)<(n:Int):=Ci;clear hst' hm hb
        as_aux_lemma=>
         go_wp2
         go_roundw
         case rel=>exact⟨2*bs,_,Ci,Ci,by go_num,HST'.out,HO4.out,hgr4⟩
         case measure=>simp[intOf];omega
    ·have hlt2':¬(bs:Int)<(n:Int):=Ci;have hfin:=Ao2 HST2.out (by rw[←HN.out];omega);have hown:=HO3.out;rw[hfin]at hown;have HO5:=Ah hown;clear hown hfin;go_wp2_with fail
     go_end0
     exact⟨rfl,HO5.out,hgr3⟩
theorem stable_any (base g n cap cc:Nat) (D:List Sr) (w:Aj) (hn:n=D.length) (hl:n≤100000000) (hown:w.ownsRow base 89 4 (Ad (Af ⟨g,0,Ae⟩) n cap) n (recs D)):
  Al Tryz.prog 88 #[Ad (Af ⟨g,0,Ae⟩) n cc,.func (.func 89) #[] #[]] w (Gu base g n cap (srt Sr.t D) w):=by
 have H:=Ah (aB base g n cap cc D w hn hl hown);clear hn hown;go_enter Tryz.func88,Tryz.ntmps88;go_wp2_with fail;refine H.out.mono ?_;rintro e w2 ⟨rfl,ho,hg⟩;have HO:=Ah ho;clear ho;go_wp2_with fail
 go_end0
 exact⟨rfl,HO.out,hg⟩
theorem xL (a b:Sr):Fg ⟨a.x,a.y,a.q⟩ ⟨b.x,b.y,b.q⟩≤0↔a.t≤b.t:=by
 rw[xK];unfold Dm
 split
 ·simp;omega
 ·split
  ·simp;omega
  ·simp;omega
theorem Aj1 (f:Sr→Stk) (hf:∀r,(f r).c=⟨r.x,r.y,r.q⟩) (x:Sr) (l:List Sr):gB (f x) (l.map f)=(mrg Sr.t [x] l).map f:=by
 induction l with
 |nil=>rw[Kl];rfl
 |cons y r ih=>
  unfold gB;rw[List.map_cons];dsimp only;rw[hf,hf];by_cases h:x.t≤y.t
  ·rw[if_pos ((xL x y).2 h),Iy h,Io];rfl
  ·rw[if_neg (λhh=>h ((xL x y).1 hh)),Ib Ci,List.map_cons,ih]
theorem sortC_srt (f:Sr→Stk) (hf:∀r,(f r).c=⟨r.x,r.y,r.q⟩) (l:List Sr):Iw (l.map f)=(srt Sr.t l).map f:=by
 induction l with
 |nil=>rfl
 |cons x r ih=>
  unfold srt;rw[List.map_cons,←Aj1 f hf,←ih];rfl
end Go.Proofs.YthpcfeifmdbhnaaGreatDoor.Rs
namespace Go.Proofs.YthpcfeifmdbhnaaGreatDoor
open Go.RowKit
theorem kI (x y:Int) (q:Nat) (A:Option Addr) (n c:Nat) (w:Aj):
  Al Tryz.prog 86 #[.agg #[Aa Ab x,Aa Ab y,Aa Ac q,Ad A n c]] w (Co (.bool (!okC x y q)) w):=by
 have H:=(Bx.start w).new #[Aa Ab x,Aa Ab y,Aa Ac q,Ad A n c] 89 rfl;go_enter Tryz.func86,Tryz.ntmps86;go_upto_region 1 with fail;obtain⟨W,hW⟩:=ez (w.alloc (.cells #[Aa Ab x,Aa Ab y,Aa Ac q,Ad A n c] 89));rw[←hW]at H⊢;obtain⟨N,hN⟩:=ez w.heap.size;rw[←hN]at H⊢;clear hW hN;obtain⟨⟨a0,a1,a2,a3⟩,_⟩:=Ez (H.blk 0 _ _ _ rfl);go_wp2_with fail;refine(El x y q _).mono ?_;rintro e w2 ⟨rfl,hb⟩;have H2:=H.call hb
 cases hk:okC x y q
 ·rw[Lj];have HK:=Ah hk;clear hk;go_wp2;go_ret;exact⟨by rw[HK.out];rfl,H2.below⟩
 ·rw[Gz];have HK:=Ah hk;clear hk;go_wp2;go_ret;exact⟨by rw[HK.out];rfl,H2.below⟩
theorem rT (A:Option Addr) (l:List Stk) (n c:Nat) (w:Aj) (hn:n=l.length) (h:Dh w A l) (hl:n≤1000000):
  Al Tryz.prog 141 #[Ad A n c,.func (.func 86) #[] #[]] w λe w'=>(∃r:Int,e= .returned (Aa Ab r)∧((l.any λx=> !x.c.ok)=decide (0≤r)))∧Below w.heap.size w w':=by
 have HRD:=Ah h;have HN:=Ah hn;clear h hn;go_enter Tryz.func141,Tryz.ntmps141;go_wp2
 go_loopw [5,8] (λ_ i wr=>∃k:Nat,k≤n∧i= Aa Ab k∧Below w.heap.size w wr∧Hid (∀j (hj:j<l.length),j<k→l[j].c.ok=true)) (λ_ i _=>n-(intOf i).toNat)
 case atStart=>exact⟨0,Ci,rfl,Ag _ _,Ah λj _ hj=>absurd hj Ci⟩
 case round=>
  obtain⟨k,hk,rfl,hb,HK⟩:=hrel;by_cases hlt:k<n
  ·have hkl:k<l.length:=by have:=HN.out;omega
   obtain⟨bb,o,A',c',rfl,hbl,⟨d0,d1,d2,d3⟩,_⟩:=(HRD.out.below hb).get k hkl;have q1:(k:Int)<(n:Int):=Ci;obtain⟨r,hr⟩:=ey (l[k]);have HRR:=Ah hr;rw[hr]at d0 d1 d2 d3;obtain⟨⟨x,y,q⟩,ids⟩:=r;dsimp only at d0 d1 d2 d3;have HC:=Ah λw'=>kI x y q A' ids.length c' w';have HCK:Hid (l[k].c.ok=okC x y q):=Ah (by rw[HRR.out];rfl);clear hr;go_wp2_with fail;refine(HC.out _).mono ?_;rintro e w2 ⟨rfl,hb2⟩;have hb3:=hb.trans (hb2.mono hb.size)
   cases he:okC x y q
   ·have HA:Hid ((l.any λx=> !x.c.ok)=true):=Ah (by rw[List.any_eq_true];exact⟨l[k],Ay _,by rw[HCK.out,he];rfl⟩);clear he;go_wp2;go_ret;exact⟨⟨k,rfl,by rw[HA.out];simp⟩,hb3⟩
   ·have HKN:=Ah (λj (hj:j<l.length) (h:j<k+1)=>show l[j].c.ok=true by
     by_cases hjk:j=k
     ·subst hjk;rw[HCK.out];exact he
     ·exact HK.out j hj Ci)
    clear he;go_wp2;exact⟨⟨k+1,Ci,by go_num,hb3,HKN⟩,by simp[intOf];omega⟩
  ·have q1:¬(k:Int)<(n:Int):=Ci
   have HA:Hid ((l.any λx=> !x.c.ok)=false):=Ah (by
    rw[List.any_eq_false];intro x hx;obtain⟨j,hj,rfl⟩:=Be.1 hx;simp[HK.out j hj (by have:=HN.out;omega)])
   go_wp2;go_ret;exact⟨⟨-1,rfl,by rw[HA.out];rfl⟩,hb⟩
theorem rS (A:Option Addr) (l:List Stk) (n c:Nat) (w:Aj) (hn:n=l.length) (h:Dh w A l) (hl:n≤1000000):
  Al Tryz.prog 85 #[Ad A n c,.func (.func 86) #[] #[]] w (Co (.bool (l.any λx=> !x.c.ok)) w):=by
 have HC:=Ah (rT A l n c w hn h hl);obtain⟨R,hR⟩:=ey ((l.any λx=> !x.c.ok));rw[hR]at HC⊢;clear hn h hR hl;go_enter Tryz.func85,Tryz.ntmps85;go_wp2_with fail;refine HC.out.mono ?_;rintro e w2 ⟨⟨r,rfl,hr⟩,hb⟩;go_wp2;go_ret;exact⟨by rw[hr];rfl,hb⟩
end Go.Proofs.YthpcfeifmdbhnaaGreatDoor
