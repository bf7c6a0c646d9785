import Derived.Test.YthpcfeifmdbhnaaGreatDoorQCel2
import Derived.Deep.RegionHeld3
import Derived.Lib.QuietBelow
import Derived.Laws.Cover3
open Array renaming getElem?_eq_some_iff→Au
open Go renaming Calls→Al,Value→Ak,World→Aj,bodyPost_ret→Ai,cell_of_row→By,heap_alloc_new→Bz
open Go.IntKind renaming i64→Ab,u8→Ac
open Go.IntWalk renaming i64_in→Ca
open Go.Lib renaming hid→Ah,wpList_append_run→As
open Go.RowKit.Below renaming refl→Ag
open Go.Value renaming int→Aa,slice→Ad
open List renaming getElem_mem→Ay,mem_cons→Bk,mem_iff_getElem→Be,replicate→Ba
open Nat renaming le_refl→Am,le_trans→Br,lt_of_lt_of_le→Bq,zero_add→Bt
open Option renaming none→Ae,some→Af
set_option maxHeartbeats 4000000
set_option maxRecDepth 100000
namespace Go.Proofs.YthpcfeifmdbhnaaGreatDoor
open Go.RowKit
def Ol (a b i:Int):Int×Int×Int×Int:=if Nd a b i then (i/4%a,i/4/a,i%4,0)else (0,0,0,7)
theorem Mu (a b i:Int) (w:Aj) (hs:okS a b=true):
  Al Tryz.prog 61 #[.agg #[Aa Ab a,Aa Ab b],Aa Ab i] w (Co (Ip (Ol a b i)) w):=by
 obtain⟨R,hR⟩:=ey (Ol a b i);rw[hR];have HR:=Ah hR;have HS:=Ah hs;obtain⟨n1,n2⟩:=Zx w (.cells #[Aa Ab a,Aa Ab b] 25) (.cells #[Aa Ab 0,Aa Ab 0,Aa Ac 0] 87);have hb1:Below w.heap.size w ((w.alloc (.cells #[Aa Ab a,Aa Ab b] 25)).alloc (.cells #[Aa Ab 0,Aa Ab 0,Aa Ac 0] 87)):=((Ag _ _).alloc (Am _) _).alloc Cn _;have hz1:w.heap.size+1<((w.alloc (.cells #[Aa Ab a,Aa Ab b] 25)).alloc (.cells #[Aa Ab 0,Aa Ab 0,Aa Ac 0] 87)).heap.size:=Cn;clear hR hs;go_enter Tryz.func61,Tryz.ntmps61;go_upto_region 1 with fail;obtain⟨W,hW⟩:=ez ((w.alloc (.cells #[Aa Ab a,Aa Ab b] 25)).alloc (.cells #[Aa Ab 0,Aa Ab 0,Aa Ac 0] 87));rw[←hW]at n1 n2 hb1 hz1⊢;obtain⟨N,hN⟩:=ez w.heap.size;rw[←hN]at n1 n2 hz1⊢;have HNN:=Ah hN;have N1:=Ah n1;have N2:=Ah n2;obtain⟨⟨x0,x1⟩,_⟩:=Cy n1;clear hW n1 n2 hN;go_wp2_with fail;refine(Ew a b _).mono ?_;rintro e w2 ⟨rfl,hb2⟩;rw[HS.out,Gz];have hb2':Below w.heap.size w w2:=hb1.trans (hb2.mono hb1.size);have M1:=Ah (kept hb2 N1.out Ci);have M2:=Ah (kept hb2 N2.out hz1);obtain⟨⟨y0,y1⟩,_⟩:=Cy M1.out;have hz2:N+1<w2.heap.size:=Bq hz1 hb2.size;clear x0 x1 hb2 N1 N2;go_wp2_with fail;refine(Ai4 a b i _ HS.out).mono ?_;rintro e w3 ⟨rfl,hb3⟩;have hb3':Below w.heap.size w w3:=hb2'.trans (hb3.mono hb2'.size);have P1:=Ah (kept hb3 M1.out Ci);have P2:=Ah (kept hb3 M2.out hz2);obtain⟨⟨v0,v1⟩,_⟩:=Cy P1.out;obtain⟨⟨r0,r1,r2⟩,z0,z1,z2⟩:=Cv P2.out;have hz3:N+1<w3.heap.size:=Bq hz2 hb3.size;clear y0 y1 hb3 M1 M2
 cases hi:Nd a b i
 ·have HI:=Ah hi;clear hi;go_wp2_with fail;refine Ai (v:=Ip (0,0,0,7)) (by simp[results,Tryz.results61,go_sem,r0,r1,r2,Ip]) rfl ⟨?_,?_⟩
  ·rw[←HR.out];unfold Ol;rw[HI.out];rfl
  ·have h9:=HNN.out;exact((hb3'.setCell (by simp;omega) _).setCell (by simp;omega) _).setCell (by simp;omega) _
 ·have HI:=Ah hi;clear hi;go_wp2_with fail;refine(eY a b i _ HS.out HI.out).mono ?_;rintro e w4 ⟨rfl,hb4⟩;have hb4':Below w.heap.size w w4:=hb3'.trans (hb4.mono hb3'.size);obtain⟨⟨s0,s1,s2⟩,y0,y1,y2⟩:=Cv (kept hb4 P2.out hz3);have hz4:N+1<w4.heap.size:=Bq hz3 hb4.size;clear v0 v1 r0 r1 r2 z0 z1 z2 hb4;go_wp2_with fail;refine Ai (v:=Ip (i/4%a,i/4/a,i%4,0)) (by simp[results,Tryz.results61,go_sem,s0,s1,s2,Ip]) rfl ⟨?_,?_⟩
  ·rw[←HR.out];unfold Ol;rw[HI.out];rfl
  ·have h9:=HNN.out;exact((hb4'.setCell (by simp;omega) _).setCell (by simp;omega) _).setCell (by simp;omega) _
def inS (a b x y q:Int):Bool:=okC x y q&&decide (0≤x)&&decide (x<a)&&decide (0≤y)&&decide (y<b)
theorem Sq {a b x y q:Int}:inS a b x y q=true↔okC x y q=true∧0≤x∧x<a∧0≤y∧y<b:=by
 unfold inS;simp only[Bool.and_eq_true,decide_eq_true_eq,and_assoc]
theorem yE {a b x y q:Int} (h:¬(okC x y q=true∧0≤x∧x<a∧0≤y∧y<b)):inS a b x y q=false:=by
 rw[←Bool.not_eq_true,Sq];exact h
def idI (a b x y q:Int):Int×Int:=if inS a b x y q then (4*(y*a+x)+q,0)else (0,7)
def Zs (r:Int×Int):Ak:= .tuple #[Aa Ab r.1,Aa Ab r.2]
theorem Aq5 {a b x y:Int} (hs:okS a b=true) (hx:0≤x∧x<a) (hy:0≤y∧y<b):0≤y*a∧y*a+x<a*b∧a*b≤256:=by
 obtain⟨m1,m2,m3,m4,m5,m6⟩:=Ho hs;refine⟨Int.mul_nonneg hy.1 Ci,?_,m2⟩;have h1:(y+1)*a≤b*a:=Int.mul_le_mul_of_nonneg_right Ci Ci;rw[Int.add_mul,Int.one_mul,Int.mul_comm b a]at h1;omega
theorem Au8 (a b x y q:Int) (w:Aj) (hs:okS a b=true) (hq:0≤q∧q≤255):
  Al Tryz.prog 139 #[.agg #[Aa Ab a,Aa Ab b],.agg #[Aa Ab x,Aa Ab y,Aa Ac q]] w (Co (Zs (idI a b x y q)) w):=by
 obtain⟨R,hR⟩:=ey (idI a b x y q);rw[hR];have HR:=Ah hR;have HS:=Ah hs;have hbd:=λhx hy=>Aq5 (a:=a) (b:=b) (x:=x) (y:=y) hs hx hy;have HBD:=Ah hbd;obtain⟨n1,n2⟩:=Zx w (.cells #[Aa Ab a,Aa Ab b] 25) (.cells #[Aa Ab x,Aa Ab y,Aa Ac q] 87);have hb1:Below w.heap.size w ((w.alloc (.cells #[Aa Ab a,Aa Ab b] 25)).alloc (.cells #[Aa Ab x,Aa Ab y,Aa Ac q] 87)):=((Ag _ _).alloc (Am _) _).alloc Cn _;have hz1:w.heap.size+1<((w.alloc (.cells #[Aa Ab a,Aa Ab b] 25)).alloc (.cells #[Aa Ab x,Aa Ab y,Aa Ac q] 87)).heap.size:=Cn;clear hR hs hbd;go_enter Tryz.func139,Tryz.ntmps139;go_upto_region 1 with fail;obtain⟨W,hW⟩:=ez ((w.alloc (.cells #[Aa Ab a,Aa Ab b] 25)).alloc (.cells #[Aa Ab x,Aa Ab y,Aa Ac q] 87));rw[←hW]at n1 n2 hb1 hz1⊢;obtain⟨N,hN⟩:=ez w.heap.size;rw[←hN]at n1 n2 hz1⊢;have N1:=Ah n1;have N2:=Ah n2;obtain⟨⟨x0,x1⟩,_⟩:=Cy n1;clear hW n1 n2 hN;go_wp2_with fail;refine(Ew a b _).mono ?_;rintro e w2 ⟨rfl,hb2⟩;rw[HS.out,Gz];have hb2':Below w.heap.size w w2:=hb1.trans (hb2.mono hb1.size);have M1:=Ah (kept hb2 N1.out Ci);have M2:=Ah (kept hb2 N2.out hz1);obtain⟨⟨y0,y1,y2⟩,_⟩:=Cv M2.out;have hz2:N+1<w2.heap.size:=Bq hz1 hb2.size;clear x0 x1 hb2 N1 N2;go_wp2_with fail;refine(El x y q _).mono ?_;rintro e w3 ⟨rfl,hb3⟩;have hb3':Below w.heap.size w w3:=hb2'.trans (hb3.mono hb2'.size);obtain⟨⟨v0,v1⟩,_⟩:=Cy (kept hb3 M1.out Ci);obtain⟨⟨r0,r1,r2⟩,_⟩:=Cv (kept hb3 M2.out hz2);clear y0 y1 y2 hb3 M1 M2
 cases hc:okC x y q
 ·have HC:=Ah hc;rw[Lj];clear hc;go_wp2_with fail
  go_ret2
  refine⟨?_,hb3'⟩;rw[←HR.out];unfold idI;rw[yE (λh=>by rw[HC.out]at h;cases h.1)];rfl
 ·have HC:=Ah hc;rw[Gz];clear hc;by_cases hin:(0≤x∧x<a)∧(0≤y∧y<b)
  ·obtain⟨⟨h1,h2⟩,h3,h4⟩:=hin;obtain⟨k1,k2,k3⟩:=HBD.out ⟨h1,h2⟩ ⟨h3,h4⟩;have k4:Ab.wrap q=q:=Ca _ Ci;have hma:=Wn.1 HS.out;obtain⟨p,hp⟩:=ey (y*a);rw[hp]at k1 k2;have HP:=Ah hp;clear hma;go_wp2_with fail
   go_ret2
   refine⟨?_,hb3'⟩;rw[←HR.out];unfold idI;rw[Sq.2 ⟨HC.out,h1,h2,h3,h4⟩,←HP.out];rfl
  ·have hno:=yE (a:=a) (b:=b) (x:=x) (y:=y) (q:=q) (λh=>hin ⟨⟨h.2.1,h.2.2.1⟩,h.2.2.2.1,h.2.2.2.2⟩);have hR':R=(0,7):=by rw[←HR.out];unfold idI;rw[hno];rfl
   have HR':=Ah hR';have HIN:=Ah hin;clear hno hR' hin;go_wp2_with fail
   all_goals go_ret2
   all_goals first|exact⟨by rw[HR'.out];rfl,hb3'⟩|exact absurd Ci HIN.out
def nbI (a b i e:Int):Int×Int:=
 if Nd a b i=false then (0,7)
 else if(nbr (i/4%a) (i/4/a) (i%4) e).2.2.2=0 then idI a b (nbr (i/4%a) (i/4/a) (i%4) e).1 (nbr (i/4%a) (i/4/a) (i%4) e).2.1 (nbr (i/4%a) (i/4/a) (i%4) e).2.2.1
 else (0,1)
theorem mO (x y q e:Int):0≤(nbr x y q e).2.2.1∧(nbr x y q e).2.2.1≤3:=by
 have h:=Ym q.toNat e.toNat;unfold nbr
 split
 ·exact⟨Ct,Ct⟩
 ·split
  ·exact⟨h.2.2.2.2.1,h.2.2.2.2.2⟩
  ·exact⟨Ct,Ct⟩
theorem Fi (a b i e:Int) (w:Aj) (hs:okS a b=true) (he:0≤e) (hQ:Qt w):
  Al Tryz.prog 83 #[.agg #[Aa Ab a,Aa Ab b],Aa Ab i,Aa Ac e] w (Co (Zs (nbI a b i e)) w):=by
 obtain⟨R,hR⟩:=ey (nbI a b i e);rw[hR];have HR:=Ah hR;have HS:=Ah hs;have hn1:(w.alloc (.cells #[Aa Ab a,Aa Ab b] 25)).heap[w.heap.size]? =Af (.cells #[Aa Ab a,Aa Ab b] 25 (0,0)):=Bz w _;have hb1:Below w.heap.size w (w.alloc (.cells #[Aa Ab a,Aa Ab b] 25)):=(Ag _ _).alloc (Am _) _;have hz1:w.heap.size<(w.alloc (.cells #[Aa Ab a,Aa Ab b] 25)).heap.size:=Cn;clear hR hs;go_enter Tryz.func83,Tryz.ntmps83;go_upto_region 1 with fail;obtain⟨W,hW⟩:=ez (w.alloc (.cells #[Aa Ab a,Aa Ab b] 25));rw[←hW]at hn1 hb1 hz1⊢;obtain⟨N,hN⟩:=ez w.heap.size;rw[←hN]at hn1 hz1⊢;have N1:=Ah hn1;obtain⟨⟨x0,x1⟩,_⟩:=Cy hn1;clear hW hn1 hN;go_wp2_with fail;refine(Mu a b i _ HS.out).mono ?_;rintro e' w2 ⟨rfl,hb2⟩;have hb2':Below w.heap.size w w2:=hb1.trans (hb2.mono hb1.size);have M1:=Ah (kept hb2 N1.out hz1);have hz2:N<w2.heap.size:=Bq hz1 hb2.size;have hs2:=hb2'.size;clear x0 x1 hb2 N1
 cases hi:Nd a b i
 ·have hc:Ol a b i=(0,0,0,7):=by unfold Ol;rw[hi];rfl
  have hr:R=(0,7):=by rw[←HR.out];unfold nbI;rw[if_pos hi]
  rw[hc];unfold Ip;have HRR:=Ah hr;clear hc hr hi;dsimp only;go_wp2_with fail
  go_ret2
  exact⟨by rw[HRR.out];rfl,(hb2'.alloc hs2 _)⟩
 ·have hc:Ol a b i=(i/4%a,i/4/a,i%4,0):=by unfold Ol;rw[hi];rfl
  have hi4:0≤i%4∧i%4≤3:=Ci
  have hr:R=if(nbr (i/4%a) (i/4/a) (i%4) e).2.2.2=0 then idI a b (nbr (i/4%a) (i/4/a) (i%4) e).1 (nbr (i/4%a) (i/4/a) (i%4) e).2.1 (nbr (i/4%a) (i/4/a) (i%4) e).2.2.1 else (0,1):=by
   rw[←HR.out];unfold nbI;rw[if_neg (by rw[hi];simp)]
  rw[hc];unfold Ip;obtain⟨cx,hcx⟩:=ez (i/4%a);obtain⟨cy,hcy⟩:=ez (i/4/a);obtain⟨cq,hcq⟩:=ez (i%4);rw[←hcx,←hcy,←hcq]at hr⊢;rw[←hcq]at hi4;have hbq:=mO cx cy cq e;obtain⟨⟨nx,ny,nq,ne⟩,hn⟩:=ey (nbr cx cy cq e);rw[hn]at hr hbq;have HRR:=Ah hr;have HNB:=Ah hn;dsimp only at hbq;clear hc hr hi hn hcx hcy hcq;dsimp only;go_wp2_with fail;have hQ2:=Ah (hQ.below (hb2'.alloc hs2 (.cells #[Aa Ab cx,Aa Ab cy,Aa Ac cq] 87)));refine(Mr cx cy cq e _ hi4.1 he hQ2.out).mono ?_;rintro e' w3 ⟨rfl,hb3⟩;rw[HNB.out];unfold Ip;dsimp only;have hb3':Below w.heap.size w w3:=(hb2'.alloc hs2 _).trans (hb3.mono (by simp;omega));have P1:=Ah (kept hb3 ((Below.heap_alloc _ _ _ hz2).trans M1.out) (by simp;omega));have hs3:=hb3'.size;have hz3:N<w3.heap.size:=by have:=hb3.size;simp at this;omega
  obtain⟨⟨v0,v1⟩,_⟩:=Cy P1.out;clear hb3 M1;by_cases hne:ne=0
  ·subst hne;go_wp2_with fail;refine(Au8 a b nx ny nq _ HS.out Ci).mono ?_;rintro e' w4 ⟨rfl,hb4⟩;have hb4':Below w.heap.size w w4:=(hb3'.alloc hs3 _).trans (hb4.mono (by simp;omega));obtain⟨⟨id,ie⟩,hid⟩:=ey (idI a b nx ny nq);have hfin:R=(id,ie):=by rw[HRR.out];exact hid
   rw[hid];unfold Zs;dsimp only;have HF:=Ah hfin;clear hfin hid v0 v1;go_wp2_with fail
   go_ret2
   exact⟨by rw[HF.out];rfl,hb4'⟩
  ·have hfin:R=(0,1):=by rw[HRR.out];exact if_neg hne
   have hb:(ne != 0)=true:=by simpa using hne
   have HF:=Ah hfin;clear hfin hne v0 v1;go_wp2_with fail
   go_ret2
   exact⟨by rw[HF.out];rfl,hb3'.alloc hs3 _⟩
def Dl (a b i e:Int):Int×Int×Int:=if(nbI a b i e).2=0 then (min i (nbI a b i e).1,e,0)else (0,0,(nbI a b i e).2)
def Pn (u:Int×Int×Int):Ak:= .tuple #[.agg #[Aa Ab u.1,Aa Ac u.2.1],Aa Ab u.2.2]
theorem Ta (a b i e:Int) (w:Aj) (hs:okS a b=true) (he:0≤e) (hQ:Qt w):
  Al Tryz.prog 105 #[.agg #[Aa Ab a,Aa Ab b],Aa Ab i,Aa Ac e] w (Co (Pn (Dl a b i e)) w):=by
 obtain⟨R,hR⟩:=ey (Dl a b i e);rw[hR];have HR:=Ah hR;have HS:=Ah hs;obtain⟨n1,n2⟩:=Zx w (.cells #[Aa Ab a,Aa Ab b] 25) (.cells #[Aa Ab 0,Aa Ac 0] 126);have hb1:Below w.heap.size w ((w.alloc (.cells #[Aa Ab a,Aa Ab b] 25)).alloc (.cells #[Aa Ab 0,Aa Ac 0] 126)):=((Ag _ _).alloc (Am _) _).alloc Cn _;have hz1:w.heap.size+1<((w.alloc (.cells #[Aa Ab a,Aa Ab b] 25)).alloc (.cells #[Aa Ab 0,Aa Ac 0] 126)).heap.size:=Cn;clear hR hs;go_enter Tryz.func105,Tryz.ntmps105;go_upto_region 1 with fail;obtain⟨W,hW⟩:=ez ((w.alloc (.cells #[Aa Ab a,Aa Ab b] 25)).alloc (.cells #[Aa Ab 0,Aa Ac 0] 126));rw[←hW]at n1 n2 hb1 hz1⊢;obtain⟨N,hN⟩:=ez w.heap.size;rw[←hN]at n1 n2 hz1⊢;have HNN:=Ah hN;have N2:=Ah n2;obtain⟨⟨x0,x1⟩,_⟩:=Cy n1;clear hW n1 n2 hN;go_wp2_with fail;refine(Fi a b i e _ HS.out he (hQ.below hb1)).mono ?_;rintro e' w2 ⟨rfl,hb2⟩;have hb2':Below w.heap.size w w2:=hb1.trans (hb2.mono hb1.size);have M2:=Ah (kept hb2 N2.out hz1);obtain⟨⟨r0,r1⟩,z0,z1⟩:=Cy M2.out;obtain⟨⟨id,ie⟩,hid⟩:=ey (nbI a b i e);rw[hid];unfold Zs;dsimp only;have HID:=Ah hid;have h9:=HNN.out;clear x0 x1 hb2 N2 hid;by_cases hne:ie=0
 ·subst hne;by_cases hmi:id<i
  ·have hfin:R=(id,e,0):=by rw[←HR.out];unfold Dl;rw[HID.out,if_pos rfl,Int.min_eq_right Ci]
   have HF:=Ah hfin;clear hfin h9;go_wp2_with fail;refine Ai (v:=Pn (id,e,0)) (by simp[results,Tryz.results105,go_sem,r0,r1,Pn]) rfl ⟨by rw[HF.out],?_⟩;have h9:=HNN.out;exact(hb2'.setCell (by simp;omega) _).setCell (by simp;omega) _
  ·have hfin:R=(i,e,0):=by rw[←HR.out];unfold Dl;rw[HID.out,if_pos rfl,Int.min_eq_left Ci]
   have HF:=Ah hfin;clear hfin h9;go_wp2_with fail;refine Ai (v:=Pn (i,e,0)) (by simp[results,Tryz.results105,go_sem,r0,r1,Pn]) rfl ⟨by rw[HF.out],?_⟩;have h9:=HNN.out;exact(hb2'.setCell (by simp;omega) _).setCell (by simp;omega) _
 ·have hfin:R=(0,0,ie):=by rw[←HR.out];unfold Dl;rw[HID.out,if_neg hne]
  have hb:(ie != 0)=true:=by simpa using hne
  have HF:=Ah hfin;clear hfin h9 hne;go_wp2_with fail;refine Ai (v:=Pn (0,0,ie)) (by simp[results,Tryz.results105,go_sem,r0,r1,Pn]) rfl ⟨by rw[HF.out],?_⟩;have h9:=HNN.out;exact(hb2'.setCell (by simp;omega) _).setCell (by simp;omega) _
structure Cr where
 c:Int
 e:Int
 k:Int
def Cr.cells (r:Cr):List Ak:=[Aa Ab r.c,Aa Ac r.e,Aa Ac r.k]
def crs (l:List Cr):List Ak:=l.flatMap Cr.cells
theorem cZ (r:Cr):r.cells.length=3:=rfl
theorem Ah8 (l:List Cr):(crs l).length=l.length*3:=Fv _ 3 cZ l
theorem pR (l:List Cr):∀u∈crs l,u.oneCell'=true:=by
 intro u hu;obtain⟨r,_,hr⟩:=List.mem_flatMap.1 hu;simp only[Cr.cells,Bk,List.not_mem_nil,or_false]at hr;rcases hr with h|h|h<;>subst h<;>rfl
theorem Qz {w:Aj} {A:Option Addr} {l:List Cr} (h:Rd w A 3 l.length (crs l)) (i:Nat) (hi:i<l.length):
  ∃b o,A=Af ⟨b,o,Ae⟩∧b<w.heap.size∧w.cell? ⟨b,o+i*3,Ae⟩=Af (Aa Ab l[i].c)∧w.cell? ⟨b,o+i*3+1,Ae⟩=Af (Aa Ac l[i].e)∧w.cell? ⟨b,o+i*3+2,Ae⟩=Af (Aa Ac l[i].k):=by
 obtain⟨b,o,e,hb,hc⟩:=h.2 Ci;refine⟨b,o,e,hb,?_,?_,?_⟩
 ·exact hc (i*3+0) _ ((Dz _ 3 cZ l i 0 hi Ci).trans rfl)
 ·exact hc (i*3+1) _ ((Dz _ 3 cZ l i 1 hi Ci).trans rfl)
 ·exact hc (i*3+2) _ ((Dz _ 3 cZ l i 2 hi Ci).trans rfl)
def Gd (c e c' e':Int):Int:=if c=c' then e-e' else c-c'
def Cr.fit (r:Cr):Prop:=(0≤r.c∧r.c≤1024)∧(0≤r.e∧r.e≤255)∧(0≤r.k∧r.k≤255)
theorem Tt (c e k:Int) (w:Aj):
  Al Tryz.prog 106 #[.agg #[Aa Ab c,Aa Ac e,Aa Ac k]] w (Co (.agg #[Aa Ab c,Aa Ac e]) w):=by
 go_enter Tryz.func106,Tryz.ntmps106;go_wp2_with fail;refine Ai (v:= .agg #[Aa Ab c,Aa Ac e]) (by simp[results,Tryz.results106,go_sem]) rfl ⟨rfl,?_⟩
 repeat' (first|exact Ag _ _|refine Below.drew ?_|refine Below.setCell ?_ Cn _|refine Below.alloc ?_ Cn _)
theorem aZ (c e c' e':Int) (w:Aj) (hc:0≤c∧c≤1024) (hc':0≤c'∧c'≤1024) (he:0≤e∧e≤255) (he':0≤e'∧e'≤255):
  Al Tryz.prog 107 #[.agg #[Aa Ab c,Aa Ac e],.agg #[Aa Ab c',Aa Ac e']] w (Co (Aa Ab (Gd c e c' e')) w):=by
 obtain⟨h1,h2⟩:=hc;obtain⟨h3,h4⟩:=hc';obtain⟨h5,h6⟩:=he;obtain⟨h7,h8⟩:=he';obtain⟨R,hR⟩:=ey (Gd c e c' e');rw[hR];have HR:=Ah hR;clear hR;by_cases hcc:c=c'
 ·have hb:(c != c')=false:=by simpa using hcc
  have HCC:=Ah hcc;clear hcc;have k1:Ab.wrap e=e:=Ca _ Ci;have k2:Ab.wrap e'=e':=Ca _ Ci;go_enter Tryz.func107,Tryz.ntmps107;go_wp2;go_ret;exact⟨Ed (by rw[←HR.out];unfold Gd;rw[if_pos HCC.out]),((Ag _ _).alloc (Am _) _).alloc Cn _⟩
 ·have hb:(c != c')=true:=by simpa using hcc
  have HCC:=Ah hcc;clear hcc;go_enter Tryz.func107,Tryz.ntmps107;go_wp2;go_ret;exact⟨Ed (by rw[←HR.out];unfold Gd;rw[if_neg HCC.out]),((Ag _ _).alloc (Am _) _).alloc Cn _⟩
def isK (k:Int):Bool:=decide (1≤k)&&decide (k≤3)
theorem lX (k:Int) (w:Aj):Al Tryz.prog 104 #[Aa Ac k] w λe w'=>e= .returned (.bool (isK k))∧w=w':=by
 obtain⟨R,hR⟩:=ey (isK k);rw[hR];have HR:=Ah hR;clear hR;go_enter Tryz.func104,Tryz.ntmps104;go_wp2_with fail
 all_goals go_ret
 ·exact⟨Mb (by rw[←HR.out];unfold isK;rw[decide_eq_true (show 1≤k by omega),Bool.true_and]),rfl⟩
 ·exact⟨Mb (by rw[←HR.out];unfold isK;rw[decide_eq_false (show¬1≤k by omega),Bool.false_and]),rfl⟩
theorem eP (r:Cr) (w:Aj):Al Tryz.prog 103 #[.agg #[Aa Ab r.c,Aa Ac r.e,Aa Ac r.k]] w (Co (.bool (!isK r.k)) w):=by
 obtain⟨R,hR⟩:=ey (isK r.k);rw[hR];have HR:=Ah hR;clear hR;go_enter Tryz.func103,Tryz.ntmps103;go_wp2_with fail;refine(lX r.k _).mono ?_;rintro e w2 ⟨rfl,rfl⟩;rw[HR.out]
 cases R
 ·go_wp2;go_ret;exact⟨rfl,(Ag _ _).alloc (Am _) _⟩
 ·go_wp2;go_ret;exact⟨rfl,(Ag _ _).alloc (Am _) _⟩
theorem gF (A:Option Addr) (l:List Cr) (n c:Nat) (w:Aj) (hn:n=l.length) (h:Rd w A 3 n (crs l)) (hk:∀r∈l,isK r.k=true) (hl:n≤1000000):
  Al Tryz.prog 102 #[Ad A n c,.func (.func 103) #[] #[]] w (Co (.bool false) w):=by
 have hix:Al Tryz.prog 146 #[Ad A n c,.func (.func 103) #[] #[]] w (Co (Aa Ab (-1)) w):=by
  subst hn;go_enter Tryz.func146,Tryz.ntmps146;go_wp2
  go_loopw [5,8] (λ_ i wr=>∃k:Nat,k≤l.length∧i= Aa Ab k∧Below w.heap.size w wr) (λ_ i _=>l.length-(intOf i).toNat)
  case atStart=>exact⟨0,Ci,rfl,Ag _ _⟩
  case round=>
   obtain⟨k,hk',rfl,hbr⟩:=hrel;by_cases hlt:k<l.length
   ·obtain⟨b,o,rfl,hbl,c0,c1,c2⟩:=Qz (h.below hbr) k hlt;have hkk:=hk l[k] (Ay _);obtain⟨r,hr⟩:=ey (l[k]);rw[hr]at c0 c1 c2 hkk;have HKK:=Ah hkk;clear hr hkk;go_wp2_with fail;refine(eP r _).mono ?_;rintro e w2 ⟨rfl,hb2⟩;rw[HKK.out];have hb2':Below w.heap.size w w2:=hbr.trans (hb2.mono hbr.size);go_wp2
    go_roundw
    case rel=>exact⟨k+1,Ci,by go_num,hb2'⟩
    case measure=>simp[intOf];omega
   ·go_wp2;go_ret;exact⟨rfl,hbr⟩
 have HIX:=Ah hix;clear hix hn h hk;go_enter Tryz.func102,Tryz.ntmps102;go_wp2_with fail;refine HIX.out.mono ?_;rintro e w2 ⟨rfl,hb2⟩;go_wp2;go_ret;exact⟨rfl,hb2⟩
structure Gx (a b:Int) (l:List Cr):Prop where
 sheet:okS a b=true
 kind:∀r∈l,isK r.k=true
 name:∀r∈l,Dl a b r.c r.e=(r.c,r.e,0)
 fit:∀r∈l,r.fit
 asc:l.Pairwise λr q=>Gd r.c r.e q.c q.e<0
 len:l.length≤1000000
theorem Uu (a b:Int) (A:Option Addr) (l:List Cr) (n c:Nat) (w:Aj) (hn:n=l.length) (h:Rd w A 3 n (crs l)) (hp:Gx a b l) (hQ:Qt w):
  Al Tryz.prog 56 #[.agg #[Aa Ab a,Aa Ab b,Ad A n c]] w (Co (Aa Ab 0) w):=by
 have HN:=Ah hn;have HRD:=Ah h;have HP:=Ah hp;have hlen:n≤1000000:=by have:=hp.len;omega
 have hn1:(w.alloc (.cells #[Aa Ab a,Aa Ab b,Ad A n c] 28)).heap[w.heap.size]? =Af (.cells #[Aa Ab a,Aa Ab b,Ad A n c] 28 (0,0)):=Bz w _;have hb1:Below w.heap.size w (w.alloc (.cells #[Aa Ab a,Aa Ab b,Ad A n c] 28)):=(Ag _ _).alloc (Am _) _;have hz1:w.heap.size<(w.alloc (.cells #[Aa Ab a,Aa Ab b,Ad A n c] 28)).heap.size:=Cn;clear hn h hp;go_enter Tryz.func56,Tryz.ntmps56;go_upto_region 1 with fail;obtain⟨W,hW⟩:=ez (w.alloc (.cells #[Aa Ab a,Aa Ab b,Ad A n c] 28));rw[←hW]at hn1 hb1 hz1⊢;obtain⟨N,hN⟩:=ez w.heap.size;rw[←hN]at hn1 hz1⊢;have N1:=Ah hn1;obtain⟨⟨x0,x1,x2⟩,_⟩:=Cv hn1;clear hW hn1 hN;go_wp2_with fail;refine(Ew a b _).mono ?_;rintro e w2 ⟨rfl,hb2⟩;rw[HP.out.sheet,Gz];have hb2':Below w.heap.size w w2:=hb1.trans (hb2.mono hb1.size);have M1:=Ah (kept hb2 N1.out hz1);obtain⟨⟨y0,y1,y2⟩,_⟩:=Cv M1.out;have hz2:N<w2.heap.size:=Bq hz1 hb2.size;clear x0 x1 x2 hb2 N1;go_wp2_with fail;refine(gF A l n c _ HN.out (HRD.out.below hb2') HP.out.kind hlen).mono ?_;rintro e w3 ⟨rfl,hb3⟩;have hb3':Below w.heap.size w w3:=hb2'.trans (hb3.mono hb2'.size);have P1:=Ah (kept hb3 M1.out hz2);obtain⟨⟨z0,z1,z2⟩,_⟩:=Cv P1.out;have hz3:N<w3.heap.size:=Bq hz2 hb3.size;clear y0 y1 y2 hb3 M1;go_wp2
 go_loopw [5,6,7,21] (λ_ _ _ i wr=>∃k:Nat,k≤n∧i= Aa Ab k∧wr.heap[N]? =Af (.cells #[Aa Ab a,Aa Ab b,Ad A n c] 28 (0,0))∧N<wr.heap.size∧Below w.heap.size w wr) (λ_ _ _ i _=>n-(intOf i).toNat)
 case atStart=>exact⟨0,Ci,rfl,P1.out,hz3,hb3'⟩
 case round=>
  obtain⟨k,hk,rfl,hbk,hNr,hbr⟩:=hrel;have HBK:=Ah hbk;obtain⟨⟨g0,g1,g2⟩,_⟩:=Cv hbk;have hsr:=hbr.size;clear z0 z1 z2 hbk;by_cases hlt:k<n
  ·have hkl:k<l.length:=by have:=HN.out;omega
   have hrd:=HRD.out.below hbr;rw[HN.out]at hrd;obtain⟨bb,o,rfl,hbl,c0,c1,c2⟩:=Qz hrd k hkl;have hnm:=HP.out.name l[k] (Ay _);have hft:=HP.out.fit l[k] (Ay _);obtain⟨r,hr⟩:=ey (l[k]);rw[hr]at c0 c1 c2 hnm hft;have HNM:=Ah hnm;have he0:0≤r.e:=hft.2.1.1;clear hr hnm hrd hft;have q1:(k:Int)<(n:Int):=Ci;go_wp2_with fail;have hQ2:=hQ.below (hbr.alloc hsr (.cells #[Aa Ab r.c,Aa Ac r.e,Aa Ac r.k] 124));refine(Ta a b r.c r.e _ HP.out.sheet he0 hQ2).mono ?_;rintro e w4 ⟨rfl,hb4⟩;rw[HNM.out];unfold Pn;dsimp only;have hs4:=hb4.size;simp only[World.size_alloc]at hs4;have hb4':Below w.heap.size w w4:=(hbr.alloc hsr _).trans (hb4.mono (by simp;omega));have m1:w4.heap[wr.heap.size]? =Af (.cells #[Aa Ab r.c,Aa Ac r.e,Aa Ac r.k] 124 (0,0)):=kept hb4 (Bz wr _) Cn;have m2:w4.heap[N]? =Af (.cells #[Aa Ab a,Aa Ab b,Ad (Af ⟨bb,o,Ae⟩) n c] 28 (0,0)):=kept hb4 ((Below.heap_alloc _ _ _ hNr).trans HBK.out) (by simp;omega);have k1:(w4.alloc (.cells #[Aa Ab r.c,Aa Ac r.e] 126)).heap[wr.heap.size]? =Af (.cells #[Aa Ab r.c,Aa Ac r.e,Aa Ac r.k] 124 (0,0)):=(Below.heap_alloc _ _ _ Ci).trans m1;have k2:(w4.alloc (.cells #[Aa Ab r.c,Aa Ac r.e] 126)).heap[w4.heap.size]? =Af (.cells #[Aa Ab r.c,Aa Ac r.e] 126 (0,0)):=Bz _ _;have k3:(w4.alloc (.cells #[Aa Ab r.c,Aa Ac r.e] 126)).heap[N]? =Af (.cells #[Aa Ab a,Aa Ab b,Ad (Af ⟨bb,o,Ae⟩) n c] 28 (0,0)):=(Below.heap_alloc _ _ _ Ci).trans m2;have hb5:Below w.heap.size w (w4.alloc (.cells #[Aa Ab r.c,Aa Ac r.e] 126)):=hb4'.alloc hb4'.size _;have hN5:N<(w4.alloc (.cells #[Aa Ab r.c,Aa Ac r.e] 126)).heap.size:=by simp;omega
   go_upto_region 10 with fail;obtain⟨V,hV⟩:=ez (w4.alloc (.cells #[Aa Ab r.c,Aa Ac r.e] 126));rw[←hV]at k1 k2 k3 hb5 hN5⊢;obtain⟨p1,hp1⟩:=ez wr.heap.size;obtain⟨p2,hp2⟩:=ez w4.heap.size;rw[←hp1]at k1⊢;rw[←hp2]at k2⊢;obtain⟨⟨f0,f1,f2⟩,_⟩:=Cv k1;obtain⟨⟨u0,u1⟩,_⟩:=Cy k2;have K3:=Ah k3;clear hV hp1 hp2 k1 k2 k3 m1 m2 c0 c1 c2 g0 g1 g2 hb4 hb4'
   go_region_held3 (λw'=>w'.cell? ⟨p2,0,Ae⟩=Af (Aa Ab r.c)∧w'.cell? ⟨p2,1,Ae⟩=Af (Aa Ac r.e)∧w'.cell? ⟨p1,0,Ae⟩=Af (Aa Ab r.c)∧w'.cell? ⟨p1,1,Ae⟩=Af (Aa Ac r.e)∧w'.cell? ⟨p1,2,Ae⟩=Af (Aa Ac r.k))
    (first|exact⟨u0,u1,f0,f1,f2⟩|exact⟨Cj (Cu hb6) u0,Cj (Cu hb6) u1,Cj (Cu hb6) f0,Cj (Cu hb6) f1,Cj (Cu hb6) f2⟩|go_keep)
    (first|(go_at_call 106;(with_reducible refine(Tt _ _ _ _).mono ?_);rintro e w6 ⟨rfl,hb6⟩)|fail)
   have hb7:=Cu hb6;have K6:=Ah (kept hb7 K3.out hN5);have hb6':Below w.heap.size w w6:=hb5.trans (hb7.mono hb5.size);have hN6:N<w6.heap.size:=Bq hN5 hb7.size;clear u0 u1 f0 f1 f2 hb6 hb7;go_wp2
   go_roundw
   case rel=>exact⟨k+1,Ci,by go_num,K6.out,hN6,hb6'⟩
   case measure=>simp[intOf];omega
  ·have q1:¬(k:Int)<(n:Int):=Ci;clear hlt;go_wp2_with fail;obtain⟨wo,rfl⟩:∃wo:Aj,wo=wr:=⟨_,rfl⟩
   go_loopw [8] (λs8 wr=>∃i:Nat,1≤i∧(i≤n∨i=1)∧s8= Aa Ab i∧wr.heap[N]? =Af (.cells #[Aa Ab a,Aa Ab b,Ad A n c] 28 (0,0))∧N<wr.heap.size∧Below w.heap.size w wr) (λs8 _=>n+1-(intOf s8).toNat)
   case atStart=>exact⟨1,Ci,Ci,rfl,HBK.out,hNr,hbr⟩
   case round=>
    obtain⟨i,hi1,hi2,rfl,hbk2,hNr2,hbr2⟩:=hrel;have HBK2:=Ah hbk2;obtain⟨⟨d0,d1,d2⟩,_⟩:=Cv hbk2;clear g0 g1 g2 hbk2;by_cases hlt:i<n
    ·obtain⟨p,hp⟩:∃p,i=p+1:=⟨i-1,Ci⟩;have hil:i<l.length:=by have:=HN.out;omega
     have hpl:p<l.length:=Ci;have hrd:=HRD.out.below hbr2;have hlenE:=HN.out;rw[hlenE]at hrd;obtain⟨bb,o,hA,hbl,c0,c1,c2⟩:=Qz hrd i hil;obtain⟨bb',o',hA',_,e0,e1,e2⟩:=Qz hrd p hpl;obtain⟨rfl,rfl⟩:bb=bb'∧o=o':=by rw[hA]at hA';simpa using hA'
     have hft:=HP.out.fit l[i] (Ay _);have hft':=HP.out.fit l[p] (Ay _);have hord:=List.pairwise_iff_getElem.1 HP.out.asc p i hpl hil Ci;obtain⟨x,hx⟩:=ey (l[i]);obtain⟨y,hy⟩:=ey (l[p]);rw[hx]at c0 c1 c2 hft hord;rw[hy]at e0 e1 e2 hft' hord;obtain⟨O,hO⟩:=ey (Gd y.c y.e x.c x.e);rw[hO]at hord;have HOO:=Ah hO;have hf1:=hft.1;have hf2:=hft.2.1;have hf3:=hft'.1;have hf4:=hft'.2.1;have HPP:=Ah hp;have w1:(i:Int)<(n:Int):=Ci;have w2':Ab.wrap ((i:Int)-1)=(p:Int):=by rw[Ca _ Ci];omega
     have w3':(p:Int)<(n:Int):=Ci;have w4':(0:Int)≤(p:Int):=Ci;have w5:(0:Int)≤(i:Int):=Ci;have hdo:decide (0≤O)=false:=by simp;omega
     clear hrd hlenE hA' hx hy hO hp hft hft';subst hA;go_wp2_with fail
     go_region_held3 (λw'=>w'.cell? ⟨N,2,Ae⟩=Af (Ad (Af ⟨bb,o,Ae⟩) n c)∧w'.cell? ⟨bb,o+i*3,Ae⟩=Af (Aa Ab x.c)∧w'.cell? ⟨bb,o+i*3+1,Ae⟩=Af (Aa Ac x.e)∧w'.cell? ⟨bb,o+i*3+2,Ae⟩=Af (Aa Ac x.k)∧w'.cell? ⟨bb,o+p*3,Ae⟩=Af (Aa Ab y.c)∧w'.cell? ⟨bb,o+p*3+1,Ae⟩=Af (Aa Ac y.e)∧w'.cell? ⟨bb,o+p*3+2,Ae⟩=Af (Aa Ac y.k))
      (first|exact⟨d2,c0,c1,c2,e0,e1,e2⟩|go_keep)
      (first
       |(go_at_call 106;(with_reducible refine(Tt _ _ _ _).mono ?_);rintro e w6 ⟨rfl,hb6⟩;have hbr2:=hbr2.trans ((Cu hb6).mono hbr2.size);have HBK2:=Ah (kept (Cu hb6) HBK2.out hNr2);have hNr2:=Bq hNr2 (Cu hb6).size;have d2:=Cj (Cu hb6) d2;have c0:=Cj (Cu hb6) c0;have c1:=Cj (Cu hb6) c1;have c2:=Cj (Cu hb6) c2;have e0:=Cj (Cu hb6) e0;have e1:=Cj (Cu hb6) e1;have e2:=Cj (Cu hb6) e2)
       |(go_at_call 106;(with_reducible refine(Tt _ _ _ _).mono ?_);rintro e w6 ⟨rfl,hb6⟩;have hbr2:=hbr2.trans (hb6.mono hbr2.size);have HBK2:=Ah (kept hb6 HBK2.out hNr2);have hNr2:=Bq hNr2 hb6.size;have d2:=Cj hb6 d2;have c0:=Cj hb6 c0;have c1:=Cj hb6 c1;have c2:=Cj hb6 c2;have e0:=Cj hb6 e0;have e1:=Cj hb6 e1;have e2:=Cj hb6 e2)
       |(go_at_call 107;(with_reducible refine(aZ y.c y.e x.c x.e _ hf3 hf1 hf4 hf2).mono ?_);rintro e w6 ⟨rfl,hb6⟩;rw[HOO.out];have hbr2:=hbr2.trans (hb6.mono hbr2.size);have HBK2:=Ah (kept hb6 HBK2.out hNr2);have hNr2:=Bq hNr2 hb6.size;have d2:=Cj hb6 d2;have c0:=Cj hb6 c0;have c1:=Cj hb6 c1;have c2:=Cj hb6 c2;have e0:=Cj hb6 e0;have e1:=Cj hb6 e1;have e2:=Cj hb6 e2)
       |fail)
     all_goals
      go_wp2
      go_roundw
      case rel=>exact⟨i+1,Ci,Ci,by go_num,HBK2.out,hNr2,hbr2⟩
      case measure=>simp[intOf];omega
    ·have q2:¬(i:Int)<(n:Int):=Ci;go_wp2;go_ret;exact⟨rfl,hbr2⟩
end Go.Proofs.YthpcfeifmdbhnaaGreatDoor
namespace Go.Proofs.YthpcfeifmdbhnaaGreatDoor
def Cp (a:Int) (i:Nat):Cl:=⟨(i:Int)/4%a,(i:Int)/4/a,i%4⟩
def It (l:List Cr) (c e:Int):Bool:=l.any λr=>decide (r.c=c)&&decide (r.e=e)
def qM (a b c e:Int):(Int×Int)×Int:=if Dl a b c e=(c,e,0)then Qu (Cp a c.toNat) e.toNat else ((0,0),7)
def On (l:Int×Int):Mv×Int:=if okL l.1 l.2 then (ofL l.1 l.2,0)else (mv0,1)
def Gi (a b:Mv):Mv×Int:=if a.ok&&b.ok then Pm a b else (mv0,1)
def Kq (m:Mv) (c:Cl):Cl×Int:=if m.ok&&c.ok then Gp m c else (cl0,1)
def Fj (a b:Int) (l:List Cr) (out:List Mv) (id e:Nat):Mv:=
 if It l (Dl a b id e).1 (Dl a b id e).2.1 then (Gi (On (qM a b (Dl a b id e).1 (Dl a b id e).2.1).1).1 (out.getD id mv0)).1 else out.getD id mv0
structure RS where
 out:List Mv
 known:List Bool
 wait:List Nat
def Jw (a b:Int) (l:List Cr) (id e:Nat) (s:RS):Option RS:=
 if(nbI a b id e).2≠0 then Af s
 else
  let n:=(nbI a b id e).1.toNat
  let m:=Fj a b l s.out id e
  let s':RS:=if s.known.getD n false then s else⟨s.out.set n m,s.known.set n true,s.wait++[n]⟩
  if s'.out.getD n mv0=m then Af s' else Ae
def Ll (a b:Int) (l:List Cr) (id:Nat) (s:RS):Option RS:=(Jw a b l id 0 s).bind λs=>(Jw a b l id 1 s).bind λs=>Jw a b l id 2 s
def Ml (a b:Int) (l:List Cr):Nat→RS→Option (List Mv)
 |0,s=>Af s.out
 |f+1,s=>match s.wait with
  |[]=>Af s.out
  |id::r=>(Ll a b l id ⟨s.out,s.known,r⟩).bind (Ml a b l f)
def Cq (a b:Int):Nat:=(4*a*b).toNat
def Od (a b:Int) (l:List Cr):Option (List Mv):=Ml a b l (Cq a b+1) ⟨Ba (Cq a b) mv0,true::Ba (Cq a b-1) false,[0]⟩
def Gy (a:Int) (root:Mv) (l:List Mv) (i:Nat):Int:=if(Gi (l.getD i mv0) root).2≠0 then (Gi (l.getD i mv0) root).2 else (Kq (Gi (l.getD i mv0) root).1 (Cp a i)).2
def Df (a b:Int) (l:List Cr) (root:Mv):(List Mv×List Cl)×Int:=
 if root.ok=false then (([],[]),1)
 else match Od a b l with
  |none=>(([],[]),11)
  |some m=>match(List.range m.length).find? λi=>Gy a root m i≠0 with
   |some i=>(([],[]),Gy a root m i)
   |none=>((m.map λx=>(Gi x root).1,(List.range m.length).map λi=>(Kq (Gi (m.getD i mv0) root).1 (Cp a i)).1),0)
def Hy (m:Mv):Bool:=m.ok&&decide (4≤m.t)
def upF (a b:Int) (l:List Cr) (root:Mv):List Bool×Int:=
 if(Df a b l root).2≠0 then ([],(Df a b l root).2)else ((Df a b l root).1.1.map λm=> !Hy m,0)
structure Stk where
 c:Cl
 ls:List Nat
def Ft (n:Nat) (l:List Stk) (i:Nat):Bool:=match l[i]? with
 |none=>false
 |some x=> !x.c.ok||(match i with|0=>false|j+1=>match l[j]? with|none=>false|some y=>decide (0≤Fg y.c x.c))||x.ls.isEmpty||x.ls.any λid=>decide (n≤id)
def Cw (l:List Stk):List Nat:=l.flatMap (·.ls)
def chkS (n:Nat) (l:List Stk):Int:=
 if(List.range l.length).any (Ft n l)then 1 else if¬(Cw l).Nodup then 8 else if(Cw l).length<n then 6 else 0
end Go.Proofs.YthpcfeifmdbhnaaGreatDoor
namespace Go.Proofs.YthpcfeifmdbhnaaGreatDoor
open Go.RowKit
def mvR (r:Mv×Int):Ak:= .tuple #[r.1.v,Aa Ab r.2]
theorem gH (t:Nat) (x y:Int) (w:Aj) (ht:t≤255):Al Tryz.prog 92 #[.agg #[Aa Ac t,Aa Ab x,Aa Ab y]] w (Co (mvR (Zt ⟨t,x,y⟩)) w):=by
 obtain⟨R,hR⟩:=ey (Zt ⟨t,x,y⟩);rw[hR];have HR:=Ah hR;have HC:=Ah (show 0≤(t:Int)∧(t:Int)≤255 by omega);have H:=((Bx.start w).new #[Aa Ac t,Aa Ab x,Aa Ab y] 30 rfl).new #[Aa Ac 0,Aa Ab 0,Aa Ab 0] 30 (N:=w.heap.size+1) Cn;clear hR;go_enter Tryz.func92,Tryz.ntmps92;go_upto_region 1 with fail;obtain⟨W,hW⟩:=ez ((w.alloc (.cells #[Aa Ac t,Aa Ab x,Aa Ab y] 30)).alloc (.cells #[Aa Ac 0,Aa Ab 0,Aa Ab 0] 30));rw[←hW]at H⊢;obtain⟨N,hN⟩:=ez w.heap.size;rw[←hN]at H⊢;clear hW hN;obtain⟨⟨a0,a1,a2⟩,_⟩:=Cv (H.blk 0 _ _ _ rfl);go_wp2_with fail;refine(Er t x y _ HC.out).mono ?_;rintro e w2 ⟨rfl,hb⟩;have H2:=H.call hb;obtain⟨⟨b0,b1,b2⟩,_⟩:=Cv (H2.blk 0 _ _ _ rfl);obtain⟨⟨c0,c1,c2⟩,d0,d1,d2⟩:=Cv (H2.blk 1 _ _ _ rfl);clear a0 a1 a2 hb H
 cases hk:okM t x y
 ·have hfin:R=(mv0,3):=by rw[←HR.out];unfold Zt Mv.ok;rw[hk];rfl
  rw[Lj];clear hk;go_wp2_with fail;have H3:=((H2.set 1 0 rfl (Aa Ac 0)).set 1 1 rfl (Aa Ab 0)).set 1 2 rfl (Aa Ab 0);exact Ai (Cs rfl rfl (H3.range 1 rfl) Tryz.underlying30 rfl Cm) rfl ⟨by rw[hfin];rfl,H3.below⟩
 ·have hfin:R=(⟨t,x,y⟩,0):=by rw[←HR.out];unfold Zt Mv.ok;rw[hk];rfl
  rw[Gz];clear hk;go_wp2_with fail;have H3:=((H2.set 1 0 rfl (Aa Ac t)).set 1 1 rfl (Aa Ab x)).set 1 2 rfl (Aa Ab y);exact Ai (Cs rfl rfl (H3.range 1 rfl) Tryz.underlying30 rfl Cm) rfl ⟨by rw[hfin];rfl,H3.below⟩
theorem sL (m:Mv) (w:Aj) (ht:m.t≤255):Al Tryz.prog 26 #[.agg #[Aa Ac m.t,Aa Ab m.x,Aa Ab m.y]] w (Co (.bool (Hy m)) w):=by
 obtain⟨R,hR⟩:=ey (Hy m);rw[hR];have HR:=Ah hR;obtain⟨t,x,y⟩:=m;dsimp only at ht⊢;have HC:=Ah (show 0≤(t:Int)∧(t:Int)≤255 by omega);have H:=(Bx.start w).new #[Aa Ac t,Aa Ab x,Aa Ab y] 30 rfl;clear hR;go_enter Tryz.func26,Tryz.ntmps26;go_upto_region 1 with fail;obtain⟨W,hW⟩:=ez (w.alloc (.cells #[Aa Ac t,Aa Ab x,Aa Ab y] 30));rw[←hW]at H⊢;obtain⟨N,hN⟩:=ez w.heap.size;rw[←hN]at H⊢;clear hW hN;obtain⟨⟨a0,a1,a2⟩,_⟩:=Cv (H.blk 0 _ _ _ rfl);go_wp2_with fail;refine(Er t x y _ HC.out).mono ?_;rintro e w2 ⟨rfl,hb⟩;have H2:=H.call hb;obtain⟨⟨b0,b1,b2⟩,_⟩:=Cv (H2.blk 0 _ _ _ rfl);clear a0 a1 a2 hb H
 cases hk:okM t x y
 ·have hfin:R=false:=by rw[←HR.out];unfold Hy Mv.ok;rw[hk];rfl
  rw[Lj];clear hk;go_wp2;go_ret;exact⟨by subst hfin;first|rfl|simp,H2.below⟩
 ·have hfin:R=decide (4≤t):=by rw[←HR.out];unfold Hy Mv.ok;rw[hk];rfl
  have HF:=Ah hfin;rw[Gz];clear hk hfin;by_cases h4:4≤t
  ·have h4':(4:Int)≤t:=Ci;go_wp2;go_ret;exact⟨Mb (by rw[HF.out,decide_eq_true h4];first|done|(simp;done)|(simp;omega)),H2.below⟩
  ·have h4':¬(4:Int)≤t:=Ci;go_wp2;go_ret;exact⟨Mb (by rw[HF.out,decide_eq_false h4];first|done|(simp;done)|(simp;omega)),H2.below⟩
theorem gO (s t:Nat) (hs:s<8) (ht:t<8):Gg (Du (mat s) (mat t))<8∧Du (mat s) (mat t)=mat (Gg (Du (mat s) (mat t))):=by
 have:∀s<8,∀t<8,Gg (Du (mat s) (mat t))<8∧Du (mat s) (mat t)=mat (Gg (Du (mat s) (mat t))):=Ct;exact this s hs t ht
theorem Mv.ok_iff {m:Mv}:m.ok=true↔m.t<8∧(-16384≤m.x∧m.x≤16384)∧(-16384≤m.y∧m.y≤16384)∧(m.x+m.y)%2=0:=by
 unfold Mv.ok;rw[Mg];omega
theorem Xa {w:Aj} {P b o j:Nat} {v x:Ak} (hne:b≠P) (h:w.cell? ⟨b,o,Ae⟩=Af v):(w.setCell ⟨P,j,Ae⟩ x).cell? ⟨b,o,Ae⟩=Af v:=by
 rw[World.cell?_setCell_other _ _ _ _ Cn];exact h
theorem Ej {w:Aj} {P b o i j k:Nat} {v x y z:Ak} (hne:b≠P) (h:w.cell? ⟨b,o,Ae⟩=Af v):(((w.setCell ⟨P,i,Ae⟩ x).setCell ⟨P,j,Ae⟩ y).setCell ⟨P,k,Ae⟩ z).cell? ⟨b,o,Ae⟩=Af v:=
 Xa hne (Xa hne (Xa hne h))
theorem Ao8 (m n:Mv) (w:Aj) (hm:m.ok=true) (hn:n.ok=true) (hT:Tn w):
  Al Tryz.prog 52 #[.agg #[Aa Ac m.t,Aa Ab m.x,Aa Ab m.y],.agg #[Aa Ac n.t,Aa Ab n.x,Aa Ab n.y]] w (Co (mvR (Pm m n)) w):=by
 obtain⟨⟨⟨rt,rx,ry⟩,re⟩,hR⟩:∃R,Pm m n=R:=⟨_,rfl⟩;rw[hR];obtain⟨m1,⟨m2,m3⟩,⟨m4,m5⟩,_⟩:=Mv.ok_iff.1 hm;obtain⟨n1,⟨n2,n3⟩,⟨n4,n5⟩,_⟩:=Mv.ok_iff.1 hn;obtain⟨k1,k2⟩:=gO m.t n.t m1 n1;obtain⟨t,x,y⟩:=m;obtain⟨u,p,q⟩:=n;dsimp only at m1 m2 m3 m4 m5 n1 n2 n3 n4 n5 k1 k2⊢;have hOf:=λw=>dN u x y w Ci Ci;have hTh:=λw=>Ad6 t u w;obtain⟨⟨ob1,ob2⟩,ob3,ob4⟩:=Yi u (x:=x) (y:=y) (B:=16384) Ci Ci;unfold Pm at hR;dsimp only at hR;obtain⟨r,hr⟩:=ey (Gg (Du (mat t) (mat u)));rw[hr]at k1 k2 hR;rw[k2]at hTh;obtain⟨⟨sx,sy⟩,hs⟩:=ey (Dk (mat u) x y);rw[hs]at hOf hR ob1 ob2 ob3 ob4;dsimp only at hOf hR ob1 ob2 ob3 ob4;obtain⟨⟨a1,a2,a3,a4⟩,hat⟩:=ey (mat t);obtain⟨⟨b1,b2,b3,b4⟩,hau⟩:=ey (mat u);have hct:=λ(w':Aj) (h:Tn w')=>h.at' t m1;have hcu:=λ(w':Aj) (h:Tn w')=>h.at' u n1;rw[hat]at hTh hct;rw[hau]at hOf hTh hcu;have hnum:=λw h=>mS r k1 w h;obtain⟨⟨c1,c2,c3,c4⟩,har⟩:=ey (mat r);rw[har]at hnum;unfold Ba3 at hTh;rw[har]at hTh;dsimp only at hTh hct hcu hOf hnum;have hlim:=λw=>gH r (sx+p) (sy+q) w Ci;rw[hR]at hlim;have e1:okM t x y=true:=hm;have e2:okM u p q=true:=hn;have E1:=Ah e1;have E2:=Ah e2;have HOF:=Ah hOf;have HTH:=Ah hTh;have HCT:=Ah hct;have HCU:=Ah hcu;have HNUM:=Ah hnum;have HLIM:=Ah hlim;have B1:=Ah (show 0≤(t:Int)∧(t:Int)≤255 by omega);have B2:=Ah (show 0≤(u:Int)∧(u:Int)≤255 by omega);have w1:Ab.wrap (sx+p)=sx+p:=Ca _ Ci;have w2':Ab.wrap (sy+q)=sy+q:=Ca _ Ci;have q1:(t:Int)<8:=Ci;have q2:(u:Int)<8:=Ci;have H:=(((Bx.start w).new #[Aa Ac t,Aa Ab x,Aa Ab y] 30 rfl).new #[Aa Ac u,Aa Ab p,Aa Ab q] 30 (N:=w.heap.size+1) Cn).new #[Aa Ac 0,Aa Ab 0,Aa Ab 0] 30 (N:=w.heap.size+2) Cn;have HT:=Ah hT;clear hR hOf hTh hct hcu hnum hlim e1 e2 hm hn hs hr hat hau har k2 hT;go_enter Tryz.func52,Tryz.ntmps52;go_upto_region 1 with fail
 obtain⟨W,hW⟩:=ez (((w.alloc (.cells #[Aa Ac t,Aa Ab x,Aa Ab y] 30)).alloc (.cells #[Aa Ac u,Aa Ab p,Aa Ab q] 30)).alloc (.cells #[Aa Ac 0,Aa Ab 0,Aa Ab 0] 30));rw[←hW]at H⊢;obtain⟨N,hN⟩:=ez w.heap.size;rw[←hN]at H⊢;obtain⟨P,hP⟩:=ez (N+2);rw[←hP]at H;rw[show N+1+1=P from hP.symm];have hne1:N≠P:=Ci;have hne2:N+1≠P:=Ci;have hne3:0≠P:=by have:=HT.out.lt;omega
 clear hW hN hP;obtain⟨⟨f0,f1,f2⟩,_⟩:=Cv (H.blk 0 _ _ _ rfl);obtain⟨⟨g0,g1,g2⟩,_⟩:=Cv (H.blk 1 _ _ _ rfl);go_wp2_with fail;refine(Er t x y _ B1.out).mono ?_;rintro e w2 ⟨rfl,hb⟩;rw[E1.out,Gz];have H2:=H.call hb;clear f0 f1 f2 g0 g1 g2 hb H;obtain⟨⟨f0,f1,f2⟩,_⟩:=Cv (H2.blk 0 _ _ _ rfl);obtain⟨⟨g0,g1,g2⟩,_⟩:=Cv (H2.blk 1 _ _ _ rfl);go_wp2_with fail;refine(Er u p q _ B2.out).mono ?_;rintro e w3 ⟨rfl,hb⟩;rw[E2.out,Gz];have H3:=H2.call hb;clear f0 f1 f2 g0 g1 g2 hb H2;obtain⟨⟨f0,f1,f2⟩,_⟩:=Cv (H3.blk 0 _ _ _ rfl);obtain⟨⟨g0,g1,g2⟩,_⟩:=Cv (H3.blk 1 _ _ _ rfl);have HT3:=HT.out.below H3.below;obtain⟨u0,u1,u2,u3⟩:=HCU.out _ HT3;go_upto_region 3 with fail
 go_region_held3 (λw'=>w'.cell? ⟨N,1,Ae⟩=Af (Aa Ab x)∧w'.cell? ⟨N,2,Ae⟩=Af (Aa Ab y)∧w'.cell? ⟨N+1,0,Ae⟩=Af (Aa Ac u)∧w'.cell? ⟨0,u*4,Ae⟩=Af (Aa Ab b1)∧w'.cell? ⟨0,u*4+1,Ae⟩=Af (Aa Ab b2)∧w'.cell? ⟨0,u*4+2,Ae⟩=Af (Aa Ab b3)∧w'.cell? ⟨0,u*4+3,Ae⟩=Af (Aa Ab b4))
  (first|exact⟨f1,f2,g0,u0,u1,u2,u3⟩|go_keep)
  (first|(go_at_call 91;(with_reducible refine(HOF.out _).mono ?_);rintro e w4 ⟨rfl,hb4⟩;have H3:=H3.call (Cu hb4);have f1:=Cj (Cu hb4) f1;have f2:=Cj (Cu hb4) f2;have g0:=Cj (Cu hb4) g0;have u0:=Cj (Cu hb4) u0;have u1:=Cj (Cu hb4) u1;have u2:=Cj (Cu hb4) u2;have u3:=Cj (Cu hb4) u3)|fail)
 have HT4:=HT.out.below H3.below;obtain⟨v0,v1,v2,v3⟩:=HCT.out _ HT4;obtain⟨u0,u1,u2,u3⟩:=HCU.out _ HT4;clear f0 f1 f2 g0 g1 g2;obtain⟨⟨f0,f1,f2⟩,_⟩:=Cv (H3.blk 0 _ _ _ rfl);obtain⟨⟨g0,g1,g2⟩,_⟩:=Cv (H3.blk 1 _ _ _ rfl);obtain⟨_,z0,z1,z2⟩:=Cv (H3.blk 2 _ _ _ rfl);clear HT3;go_upto_region 4 with fail
 go_region_held3 (λw'=>w'.cell? ⟨N,0,Ae⟩=Af (Aa Ac t)∧w'.cell? ⟨N+1,0,Ae⟩=Af (Aa Ac u)∧w'.cell? ⟨N+1,1,Ae⟩=Af (Aa Ab p)∧w'.cell? ⟨N+1,2,Ae⟩=Af (Aa Ab q)∧w'.cell? ⟨0,t*4,Ae⟩=Af (Aa Ab a1)∧w'.cell? ⟨0,t*4+1,Ae⟩=Af (Aa Ab a2)∧w'.cell? ⟨0,t*4+2,Ae⟩=Af (Aa Ab a3)∧w'.cell? ⟨0,t*4+3,Ae⟩=Af (Aa Ab a4)∧w'.cell? ⟨0,u*4,Ae⟩=Af (Aa Ab b1)∧w'.cell? ⟨0,u*4+1,Ae⟩=Af (Aa Ab b2)∧w'.cell? ⟨0,u*4+2,Ae⟩=Af (Aa Ab b3)∧w'.cell? ⟨0,u*4+3,Ae⟩=Af (Aa Ab b4))
  (first|exact⟨f0,g0,g1,g2,v0,v1,v2,v3,u0,u1,u2,u3⟩|exact⟨Ej hne1 f0,Ej hne2 g0,Ej hne2 g1,Ej hne2 g2,Ej hne3 v0,Ej hne3 v1,Ej hne3 v2,Ej hne3 v3,Ej hne3 u0,Ej hne3 u1,Ej hne3 u2,Ej hne3 u3⟩|go_keep)
  (first
   |(go_at_call 94;(with_reducible refine(HTH.out _).mono ?_);rintro e w5 ⟨rfl,hb5⟩;have H3:=H3.call (Cu hb5);have HT4:=HT4.below (Cu hb5);have f0:=Cj (Cu hb5) f0;have g0:=Cj (Cu hb5) g0;have g1:=Cj (Cu hb5) g1;have g2:=Cj (Cu hb5) g2;have v0:=Cj (Cu hb5) v0;have v1:=Cj (Cu hb5) v1;have v2:=Cj (Cu hb5) v2;have v3:=Cj (Cu hb5) v3;have u0:=Cj (Cu hb5) u0;have u1:=Cj (Cu hb5) u1;have u2:=Cj (Cu hb5) u2;have u3:=Cj (Cu hb5) u3)
   |(go_at_call 93;(with_reducible refine(HNUM.out _ HT4).mono ?_);rintro e w6 ⟨rfl,hb6⟩;have H3:=H3.call hb6;have f0:=Cj hb6 f0;have g0:=Cj hb6 g0;have g1:=Cj hb6 g1;have g2:=Cj hb6 g2;have v0:=Cj hb6 v0;have v1:=Cj hb6 v1;have v2:=Cj hb6 v2;have v3:=Cj hb6 v3;have u0:=Cj hb6 u0;have u1:=Cj hb6 u1;have u2:=Cj hb6 u2;have u3:=Cj hb6 u3)
   |(go_at_call 92;(with_reducible refine(HLIM.out _).mono ?_);rintro e w7 ⟨rfl,hb7⟩;unfold mvR Mv.v;dsimp only;have H3:=H3.call hb7;obtain⟨⟨y0,y1,y2⟩,z0,z1,z2⟩:=Cv (H3.blk 2 _ _ _ rfl);have f0:=Cj hb7 f0;have g0:=Cj hb7 g0;have g1:=Cj hb7 g1;have g2:=Cj hb7 g2;have v0:=Cj hb7 v0;have v1:=Cj hb7 v1;have v2:=Cj hb7 v2;have v3:=Cj hb7 v3;have u0:=Cj hb7 u0;have u1:=Cj hb7 u1;have u2:=Cj hb7 u2;have u3:=Cj hb7 u3)
   |fail)
 go_wp2_with fail;have H5:=((H3.set 2 0 rfl (Aa Ac rt)).set 2 1 rfl (Aa Ab rx)).set 2 2 rfl (Aa Ab ry);exact Ai (Cs rfl rfl (H5.range 2 rfl) Tryz.underlying30 rfl Cm) rfl ⟨rfl,H5.below⟩
theorem Rm (k c:Int) (w:Aj) (hk0:0≤k):Al Tryz.prog 48 #[.agg #[Aa Ac k,Aa Ab c]] w (Co (mvR (On (k,c))) w):=by
 obtain⟨R,hR⟩:=ey (On (k,c));rw[hR];have HR:=Ah hR;have H:=((Bx.start w).new #[Aa Ac k,Aa Ab c] 72 rfl).new #[Aa Ac 0,Aa Ab 0,Aa Ab 0] 30 (N:=w.heap.size+1) Cn;clear hR;go_enter Tryz.func48,Tryz.ntmps48;go_upto_region 1 with fail;obtain⟨W,hW⟩:=ez ((w.alloc (.cells #[Aa Ac k,Aa Ab c] 72)).alloc (.cells #[Aa Ac 0,Aa Ab 0,Aa Ab 0] 30));rw[←hW]at H⊢;obtain⟨N,hN⟩:=ez w.heap.size;rw[←hN]at H⊢;clear hW hN;obtain⟨⟨a0,a1⟩,_⟩:=Cy (H.blk 0 _ _ _ rfl);go_wp2_with fail;refine(Ep k c _).mono ?_;rintro e w2 ⟨rfl,hb⟩;have H2:=H.call hb;clear a0 a1 hb H;obtain⟨⟨a0,a1⟩,_⟩:=Cy (H2.blk 0 _ _ _ rfl);obtain⟨⟨c0,c1,c2⟩,d0,d1,d2⟩:=Cv (H2.blk 1 _ _ _ rfl)
 cases hL:okL k c
 ·have hfin:R=(mv0,1):=by rw[←HR.out];unfold On;rw[hL];rfl
  rw[Lj];clear hL;go_wp2_with fail;have H3:=((H2.set 1 0 rfl (Aa Ac 0)).set 1 1 rfl (Aa Ab 0)).set 1 2 rfl (Aa Ab 0);exact Ai (Cs rfl rfl (H3.range 1 rfl) Tryz.underlying30 rfl Cm) rfl ⟨by rw[hfin];rfl,H3.below⟩
 ·obtain⟨l1,l2,l3,l4⟩:=Ic.1 hL;have hfin:R=(ofL k c,0):=by rw[←HR.out];unfold On;rw[hL];rfl
  have HF:=Ah hfin;rw[Gz];clear hL hfin;have h4:k=1∨k=2∨k=3∨k=4:=Ci;rcases h4 with rfl|rfl|rfl|rfl
  ·go_wp2_with fail;have H3:=((H2.set 1 0 rfl (Aa Ac 4)).set 1 1 rfl (Aa Ab (2*c))).set 1 2 rfl (Aa Ab 0);exact Ai (Cs rfl rfl (H3.range 1 rfl) Tryz.underlying30 rfl Cm) rfl ⟨by rw[HF.out];rfl,H3.below⟩
  ·go_wp2_with fail;have H3:=((H2.set 1 0 rfl (Aa Ac 6)).set 1 1 rfl (Aa Ab 0)).set 1 2 rfl (Aa Ab (2*c));exact Ai (Cs rfl rfl (H3.range 1 rfl) Tryz.underlying30 rfl Cm) rfl ⟨by rw[HF.out];rfl,H3.below⟩
  ·go_wp2_with fail;have H3:=((H2.set 1 0 rfl (Aa Ac 5)).set 1 1 rfl (Aa Ab c)).set 1 2 rfl (Aa Ab c);exact Ai (Cs rfl rfl (H3.range 1 rfl) Tryz.underlying30 rfl Cm) rfl ⟨by rw[HF.out];rfl,H3.below⟩
  ·have wn:Ab.wrap (-c)= -c:=Ca _ Ci;go_wp2_with fail;have H3:=((H2.set 1 0 rfl (Aa Ac 7)).set 1 1 rfl (Aa Ab (-c))).set 1 2 rfl (Aa Ab c);exact Ai (Cs rfl rfl (H3.range 1 rfl) Tryz.underlying30 rfl Cm) rfl ⟨by rw[HF.out];rfl,H3.below⟩
theorem Ao7 (m n:Mv) (w:Aj) (hm:m.t≤255) (hn:n.t≤255) (h:(m.ok&&n.ok)=false):
  Al Tryz.prog 52 #[.agg #[Aa Ac m.t,Aa Ab m.x,Aa Ab m.y],.agg #[Aa Ac n.t,Aa Ab n.x,Aa Ab n.y]] w (Co (mvR (mv0,1)) w):=by
 obtain⟨t,x,y⟩:=m;obtain⟨u,p,q⟩:=n;dsimp only at hm hn⊢;unfold Mv.ok at h;dsimp only at h;have HH:=Ah h;have B1:=Ah (show 0≤(t:Int)∧(t:Int)≤255 by omega);have B2:=Ah (show 0≤(u:Int)∧(u:Int)≤255 by omega);have H:=(((Bx.start w).new #[Aa Ac t,Aa Ab x,Aa Ab y] 30 rfl).new #[Aa Ac u,Aa Ab p,Aa Ab q] 30 (N:=w.heap.size+1) Cn).new #[Aa Ac 0,Aa Ab 0,Aa Ab 0] 30 (N:=w.heap.size+2) Cn;clear h;go_enter Tryz.func52,Tryz.ntmps52;go_upto_region 1 with fail;obtain⟨W,hW⟩:=ez (((w.alloc (.cells #[Aa Ac t,Aa Ab x,Aa Ab y] 30)).alloc (.cells #[Aa Ac u,Aa Ab p,Aa Ab q] 30)).alloc (.cells #[Aa Ac 0,Aa Ab 0,Aa Ab 0] 30));rw[←hW]at H⊢;obtain⟨N,hN⟩:=ez w.heap.size;rw[←hN]at H⊢;obtain⟨P,hP⟩:=ez (N+2);rw[←hP]at H;rw[show N+1+1=P from hP.symm];clear hW hN hP;obtain⟨⟨f0,f1,f2⟩,_⟩:=Cv (H.blk 0 _ _ _ rfl);go_wp2_with fail;refine(Er t x y _ B1.out).mono ?_;rintro e w2 ⟨rfl,hb⟩;have H2:=H.call hb;clear f0 f1 f2 hb H;obtain⟨⟨g0,g1,g2⟩,_⟩:=Cv (H2.blk 1 _ _ _ rfl)
 cases h1:okM t x y
 ·rw[Lj];clear h1;obtain⟨⟨c0,c1,c2⟩,d0,d1,d2⟩:=Cv (H2.blk 2 _ _ _ rfl);go_wp2_with fail;have H3:=((H2.set 2 0 rfl (Aa Ac 0)).set 2 1 rfl (Aa Ab 0)).set 2 2 rfl (Aa Ab 0);exact Ai (Cs rfl rfl (H3.range 2 rfl) Tryz.underlying30 rfl Cm) rfl ⟨rfl,H3.below⟩
 ·have h2:okM u p q=false:=by have:=HH.out;rw[h1]at this;simpa using this
  have HB:=Ah h2;rw[Gz];clear h1 h2;go_wp2_with fail;refine(Er u p q _ B2.out).mono ?_;rintro e w3 ⟨rfl,hb⟩;rw[HB.out,Lj];have H3:=H2.call hb;clear g0 g1 g2 hb H2;obtain⟨⟨c0,c1,c2⟩,d0,d1,d2⟩:=Cv (H3.blk 2 _ _ _ rfl);go_wp2_with fail;have H4:=((H3.set 2 0 rfl (Aa Ac 0)).set 2 1 rfl (Aa Ab 0)).set 2 2 rfl (Aa Ab 0);exact Ai (Cs rfl rfl (H4.range 2 rfl) Tryz.underlying30 rfl Cm) rfl ⟨rfl,H4.below⟩
theorem Ve (m n:Mv) (w:Aj) (hm:m.t≤255) (hn:n.t≤255) (hT:Tn w):
  Al Tryz.prog 52 #[.agg #[Aa Ac m.t,Aa Ab m.x,Aa Ab m.y],.agg #[Aa Ac n.t,Aa Ab n.x,Aa Ab n.y]] w (Co (mvR (Gi m n)) w):=by
 unfold Gi
 cases h:(m.ok&&n.ok)
 ·exact Ao7 m n w hm hn h
 ·obtain⟨h1,h2⟩:=Bool.and_eq_true_iff.1 h;exact Ao8 m n w h1 h2 hT
def ptR (x y e:Int):Ak:= .tuple #[.agg #[Aa Ab x,Aa Ab y],Aa Ab e]
theorem iL (m:Mv) (p q:Int) (w:Aj) (hm:m.ok=true) (hp: -10000≤p∧p≤10000) (hq: -10000≤q∧q≤10000) (hT:Tn w):
  Al Tryz.prog 150 #[.agg #[Aa Ac m.t,Aa Ab m.x,Aa Ab m.y],.agg #[Aa Ab p,Aa Ab q]] w (Co (ptR (Ee m p q).1 (Ee m p q).2 0) w):=by
 obtain⟨⟨X,Y⟩,hR⟩:=ey (Ee m p q);rw[hR];dsimp only;obtain⟨m1,⟨m2,m3⟩,⟨m4,m5⟩,_⟩:=Mv.ok_iff.1 hm;obtain⟨t,x,y⟩:=m;dsimp only at m1 m2 m3 m4 m5⊢;have hOf:=λw=>dN t p q w Ci Ci;obtain⟨⟨ob1,ob2⟩,ob3,ob4⟩:=Yi t (x:=p) (y:=q) (B:=10000) hp hq;unfold Ee at hR;dsimp only at hR;obtain⟨⟨sx,sy⟩,hs⟩:=ey (Dk (mat t) p q);rw[hs]at hOf hR ob1 ob2 ob3 ob4;dsimp only at hOf hR ob1 ob2 ob3 ob4;obtain⟨rfl,rfl⟩:X=sx+2*x∧Y=sy+2*y:=by simp at hR;omega
 obtain⟨⟨a1,a2,a3,a4⟩,hat⟩:=ey (mat t);have hct:=λ(w':Aj) (h:Tn w')=>h.at' t m1;rw[hat]at hOf hct;dsimp only at hct hOf;have e1:okM t x y=true:=hm;have e2:okP p q=true:=Qd.2 Ci;have e3:okP (sx+2*x) (sy+2*y)=true:=Qd.2 Ci;have E1:=Ah e1;have E2:=Ah e2;have E3:=Ah e3;have HOF:=Ah hOf;have HCT:=Ah hct;have B1:=Ah (show 0≤(t:Int)∧(t:Int)≤255 by omega);have q1:(t:Int)<8:=Ci;have H:=(((Bx.start w).new #[Aa Ac t,Aa Ab x,Aa Ab y] 30 rfl).new #[Aa Ab p,Aa Ab q] 259 (N:=w.heap.size+1) Cn).new #[Aa Ab 0,Aa Ab 0] 259 (N:=w.heap.size+2) Cn;have HT:=Ah hT;clear hR hOf hct e1 e2 e3 hm hs hat hT;go_enter Tryz.func150,Tryz.ntmps150;go_upto_region 1 with fail;obtain⟨W,hW⟩:=ez (((w.alloc (.cells #[Aa Ac t,Aa Ab x,Aa Ab y] 30)).alloc (.cells #[Aa Ab p,Aa Ab q] 259)).alloc (.cells #[Aa Ab 0,Aa Ab 0] 259));rw[←hW]at H⊢;obtain⟨N,hN⟩:=ez w.heap.size;rw[←hN]at H⊢;obtain⟨P,hP⟩:=ez (N+2);rw[←hP]at H;rw[show N+1+1=P from hP.symm];clear hW hN hP;obtain⟨⟨f0,f1,f2⟩,_⟩:=Cv (H.blk 0 _ _ _ rfl);go_wp2_with fail;refine(Er t x y _ B1.out).mono ?_;rintro e w2 ⟨rfl,hb⟩;rw[E1.out,Gz];have H2:=H.call hb;clear f0 f1 f2 hb H;obtain⟨⟨g0,g1⟩,_⟩:=Cy (H2.blk 1 _ _ _ rfl);go_wp2_with fail;refine(Jm p q _).mono ?_;rintro e w3 ⟨rfl,hb⟩;rw[E2.out,Gz];have H3:=H2.call hb;clear g0 g1 hb H2;obtain⟨⟨f0,f1,f2⟩,_⟩:=Cv (H3.blk 0 _ _ _ rfl);obtain⟨⟨g0,g1⟩,_⟩:=Cy (H3.blk 1 _ _ _ rfl);have HT3:=HT.out.below H3.below;obtain⟨v0,v1,v2,v3⟩:=HCT.out _ HT3;go_upto_region 3 with fail
 go_region_held3 (λw'=>w'.cell? ⟨N,0,Ae⟩=Af (Aa Ac t)∧w'.cell? ⟨N+1,0,Ae⟩=Af (Aa Ab p)∧w'.cell? ⟨N+1,1,Ae⟩=Af (Aa Ab q)∧w'.cell? ⟨0,t*4,Ae⟩=Af (Aa Ab a1)∧w'.cell? ⟨0,t*4+1,Ae⟩=Af (Aa Ab a2)∧w'.cell? ⟨0,t*4+2,Ae⟩=Af (Aa Ab a3)∧w'.cell? ⟨0,t*4+3,Ae⟩=Af (Aa Ab a4))
  (first|exact⟨f0,g0,g1,v0,v1,v2,v3⟩|go_keep)
  (first|(go_at_call 91;(with_reducible refine(HOF.out _).mono ?_);rintro e w4 ⟨rfl,hb4⟩;have H3:=H3.call (Cu hb4);have f0:=Cj (Cu hb4) f0;have g0:=Cj (Cu hb4) g0;have g1:=Cj (Cu hb4) g1;have v0:=Cj (Cu hb4) v0;have v1:=Cj (Cu hb4) v1;have v2:=Cj (Cu hb4) v2;have v3:=Cj (Cu hb4) v3)|fail)
 clear f0 f1 f2 g0 g1 v0 v1 v2 v3 HT3;obtain⟨⟨f0,f1,f2⟩,_⟩:=Cv (H3.blk 0 _ _ _ rfl);have H4:=H3.new #[Aa Ab (sx+2*x),Aa Ab (sy+2*y)] 259 rfl;have k1:Ab.wrap (2*x)=2*x:=Ca _ Ci;have k2:Ab.wrap (2*y)=2*y:=Ca _ Ci;have k3:Ab.wrap (sx+2*x)=sx+2*x:=Ca _ Ci;have k4:Ab.wrap (sy+2*y)=sy+2*y:=Ca _ Ci;go_wp2_with fail;refine(Jm _ _ _).mono ?_;rintro e w5 ⟨rfl,hb⟩;rw[E3.out,Gz];have H5:=H4.call hb;clear f0 f1 f2 hb;obtain⟨⟨c0,c1⟩,d0,d1⟩:=Cy (H5.blk 2 _ _ _ rfl);obtain⟨⟨b0,b1⟩,_⟩:=Cy (H5.blk 3 _ _ _ rfl);go_wp2_with fail;have H6:=(H5.set 2 0 rfl (Aa Ab (sx+2*x))).set 2 1 rfl (Aa Ab (sy+2*y));exact Ai (Cs rfl rfl (H6.range 2 rfl) Tryz.underlying259 rfl Cm) rfl ⟨rfl,H6.below⟩
theorem Ig (a b:Int) (w:Aj):Al Tryz.prog 99 #[Aa Ab a,Aa Ab b] w (Co (Aa Ab (Dm a b)) w):=by
 obtain⟨R,hR⟩:=ey (Dm a b);rw[hR];have HR:=Ah hR;clear hR;go_enter Tryz.func99,Tryz.ntmps99;go_wp2_with (go_in)
 all_goals go_ret
 all_goals refine⟨Ed ?_,Ag _ _⟩
 all_goals rw[←HR.out]
 all_goals first|rw[Nu Ci]|rw[cU Ci]|rw[cS Ci Ci]
def Ix (p q r:Int):Int:=if p≠0 then p else if q≠0 then q else r
theorem mX (g cp:Nat) (a0 b0 a1 b1 a2 b2:Int) (w:Aj) (h:w.rangeAt g 0 [Aa Ab a0,Aa Ab b0,Aa Ab a1,Aa Ab b1,Aa Ab a2,Aa Ab b2]):
  Al Tryz.prog 133 #[Ad (Af ⟨g,0,Ae⟩) 3 cp] w (Co (Aa Ab (Ix (Dm a0 b0) (Dm a1 b1) (Dm a2 b2))) w):=by
 obtain⟨p,hp⟩:=ey (Dm a0 b0);obtain⟨q,hq⟩:=ey (Dm a1 b1);obtain⟨r,hr⟩:=ey (Dm a2 b2);rw[hp,hq,hr];have P:=Ah hp;have Q:=Ah hq;have R:=Ah hr;have c0:=h 0 _ rfl;have c1:=h 1 _ rfl;have c2:=h 2 _ rfl;have c3:=h 3 _ rfl;have c4:=h 4 _ rfl;have c5:=h 5 _ rfl;simp only[Nat.reduceAdd]at c0 c1 c2 c3 c4 c5;have hgl:g<w.heap.size:=World.block_lt_of_cell? w ⟨g,0,Ae⟩ c0;clear hp hq hr h;go_enter Tryz.func133,Tryz.ntmps133;go_wp2
 go_loopw [8] (λi wr=>∃k:Nat,k≤3∧i= Aa Ab k∧Below w.heap.size w wr∧(1≤k→p=0)∧(2≤k→q=0)∧(k=3→r=0)) (λi _=>3-(intOf i).toNat)
 case atStart=>exact⟨0,Ci,rfl,Ag _ _,Ci,Ci,Ci⟩
 case round=>
  obtain⟨k,hk,rfl,hb,h1,h2,h3⟩:=hrel;have c0:=Cj hb c0;have c1:=Cj hb c1;have c2:=Cj hb c2;have c3:=Cj hb c3;have c4:=Cj hb c4;have c5:=Cj hb c5;have hgl:g<wr.heap.size:=Bq hgl hb.size;have hs:=hb.size;have h4:k=0∨k=1∨k=2∨k=3:=Ci;rcases h4 with rfl|rfl|rfl|rfl
  ·as_aux_lemma=>
    by_cases hz:p=0
    ·go_wp2_with fail;refine(Ig a0 b0 _).mono ?_;rintro e w2 ⟨rfl,hb2⟩;rw[P.out];have hb3:Below w.heap.size w w2:=(hb.alloc hs _).trans (hb2.mono (by simp;omega));have hz':(p != 0)=false:=by simpa using hz
     go_wp2;exact⟨⟨1,Ci,rfl,hb3,λ_=>hz,Ci,Ci⟩,by simp[intOf]⟩
    ·go_wp2_with fail;refine(Ig a0 b0 _).mono ?_;rintro e w2 ⟨rfl,hb2⟩;rw[P.out];have hb3:Below w.heap.size w w2:=(hb.alloc hs _).trans (hb2.mono (by simp;omega));have hz':(p != 0)=true:=by simpa using hz
     go_wp2;go_ret;exact⟨Ed (by unfold Ix;rw[if_pos hz]),hb3⟩
  ·as_aux_lemma=>
    have hp0:=h1 Ci;by_cases hz:q=0
    ·go_wp2_with fail;refine(Ig a1 b1 _).mono ?_;rintro e w2 ⟨rfl,hb2⟩;rw[Q.out];have hb3:Below w.heap.size w w2:=(hb.alloc hs _).trans (hb2.mono (by simp;omega));have hz':(q != 0)=false:=by simpa using hz
     go_wp2;exact⟨⟨2,Ci,rfl,hb3,λ_=>hp0,λ_=>hz,Ci⟩,by simp[intOf]⟩
    ·go_wp2_with fail;refine(Ig a1 b1 _).mono ?_;rintro e w2 ⟨rfl,hb2⟩;rw[Q.out];have hb3:Below w.heap.size w w2:=(hb.alloc hs _).trans (hb2.mono (by simp;omega));have hz':(q != 0)=true:=by simpa using hz
     go_wp2;go_ret;exact⟨Ed (by unfold Ix;rw[if_neg (by simpa using hp0),if_pos hz]),hb3⟩
  ·as_aux_lemma=>
    have hp0:=h1 Ci;have hq0:=h2 Ci;by_cases hz:r=0
    ·go_wp2_with fail;refine(Ig a2 b2 _).mono ?_;rintro e w2 ⟨rfl,hb2⟩;rw[R.out];have hb3:Below w.heap.size w w2:=(hb.alloc hs _).trans (hb2.mono (by simp;omega));have hz':(r != 0)=false:=by simpa using hz
     go_wp2;exact⟨⟨3,Ci,rfl,hb3,λ_=>hp0,λ_=>hq0,λ_=>hz⟩,by simp[intOf]⟩
    ·go_wp2_with fail;refine(Ig a2 b2 _).mono ?_;rintro e w2 ⟨rfl,hb2⟩;rw[R.out];have hb3:Below w.heap.size w w2:=(hb.alloc hs _).trans (hb2.mono (by simp;omega));have hz':(r != 0)=true:=by simpa using hz
     go_wp2;go_ret;exact⟨Ed (by unfold Ix;rw[if_neg (by simpa using hp0),if_neg (by simpa using hq0)]),hb3⟩
  ·as_aux_lemma=>
    have hp0:=h1 Ci;have hq0:=h2 Ci;have hr0:=h3 rfl;go_wp2;go_ret;exact⟨Ed (by first|rfl|simp[Ix,hp0,hq0,hr0]),hb⟩
theorem Vj (c d:Cl) (w:Aj) (hc:c.q≤255) (hd:d.q≤255):Al Tryz.prog 77 #[.agg #[Aa Ab c.x,Aa Ab c.y,Aa Ac c.q],.agg #[Aa Ab d.x,Aa Ab d.y,Aa Ac d.q]] w (Co (Aa Ab (Fg c d)) w):=by
 have hfin:Fg c d=Ix (Dm c.y d.y) (Dm c.x d.x) (Dm c.q d.q):=rfl;rw[hfin];obtain⟨x,y,q⟩:=c;obtain⟨x',y',q'⟩:=d;dsimp only at hc hd⊢;have k1:Ab.wrap (q:Int)=q:=Ca _ Ci;have k2:Ab.wrap (q':Int)=q':=Ca _ Ci;have H:=((Bx.start w).new #[Aa Ab x,Aa Ab y,Aa Ac q] 87 rfl).new #[Aa Ab x',Aa Ab y',Aa Ac q'] 87 (N:=w.heap.size+1) Cn;clear hfin;go_enter Tryz.func77,Tryz.ntmps77;go_upto_region 1 with fail;obtain⟨W,hW⟩:=ez ((w.alloc (.cells #[Aa Ab x,Aa Ab y,Aa Ac q] 87)).alloc (.cells #[Aa Ab x',Aa Ab y',Aa Ac q'] 87));rw[←hW]at H⊢;obtain⟨N,hN⟩:=ez w.heap.size;rw[←hN]at H⊢;clear hW hN;obtain⟨⟨a0,a1,a2⟩,_⟩:=Cv (H.blk 0 _ _ _ rfl);obtain⟨⟨b0,b1,b2⟩,_⟩:=Cv (H.blk 1 _ _ _ rfl);go_wp2_with fail;have H3:=H.new #[Aa Ab y,Aa Ab y',Aa Ab x,Aa Ab x',Aa Ab q,Aa Ab q'] 250 rfl;refine(mX W.heap.size 3 y y' x x' q q' _ (H3.range 2 rfl)).mono ?_;rintro e w2 ⟨rfl,hb⟩;have H4:=H3.call hb;clear a0 a1 a2 b0 b1 b2;go_wp2;go_ret;exact⟨rfl,H4.below⟩
theorem mH (c:Cl) (w:Aj) (hx: -5000≤c.x∧c.x≤5000) (hy: -5000≤c.y∧c.y≤5000):Al Tryz.prog 149 #[.agg #[Aa Ab c.x,Aa Ab c.y,Aa Ac c.q]] w (Co (.agg #[Aa Ab (2*c.x+1),Aa Ab (2*c.y+1)]) w):=by
 obtain⟨x,y,q⟩:=c;dsimp only at hx hy⊢;have k1:Ab.wrap (2*x)=2*x:=Ca _ Ci;have k2:Ab.wrap (2*y)=2*y:=Ca _ Ci;have k3:Ab.wrap (2*x+1)=2*x+1:=Ca _ Ci;have k4:Ab.wrap (2*y+1)=2*y+1:=Ca _ Ci;have H:=((Bx.start w).new #[Aa Ab x,Aa Ab y,Aa Ac q] 87 rfl).new #[Aa Ab 0,Aa Ab 0] 259 (N:=w.heap.size+1) Cn;go_enter Tryz.func149,Tryz.ntmps149;go_upto_region 1 with fail;obtain⟨W,hW⟩:=ez ((w.alloc (.cells #[Aa Ab x,Aa Ab y,Aa Ac q] 87)).alloc (.cells #[Aa Ab 0,Aa Ab 0] 259));rw[←hW]at H⊢;obtain⟨N,hN⟩:=ez w.heap.size;rw[←hN]at H⊢;clear hW hN;obtain⟨⟨a0,a1,a2⟩,_⟩:=Cv (H.blk 0 _ _ _ rfl);obtain⟨⟨b0,b1⟩,c0,c1⟩:=Cy (H.blk 1 _ _ _ rfl);go_wp2_with fail;have H4:=(H.set 1 0 rfl (Aa Ab (2*x+1))).set 1 1 rfl (Aa Ab (2*y+1));exact Ai (Ht rfl rfl (H4.range 1 rfl) Tryz.underlying259 rfl Cm) rfl ⟨rfl,H4.below⟩
structure Bd (w w':Aj):Prop where
 b:Below w.heap.size w w'
 d:w.drawn≤w'.drawn
theorem Bd.refl (w:Aj):Bd w w:=⟨Ag _ _,Am _⟩
theorem Bd.trans {a b c:Aj} (h:Bd a b) (k:Bd b c):Bd a c:=⟨h.b.trans (k.b.mono h.b.size),Br h.d k.d⟩
theorem Bd.alloc {a b:Aj} (h:Bd a b) (o:Obj):Bd a (b.alloc o):=⟨h.b.alloc h.b.size o,h.d⟩
theorem Bd.drew {a b:Aj} (h:Bd a b):Bd a b.drew:=⟨h.b.drew,Nat.le_succ_of_le h.d⟩
theorem Bd.grow {w w':Aj} (h:Bd w w'):∃q os,w'=Go.Sort.grow (w.drewN q) os:=by
 obtain⟨p,hp⟩:=regrown_of_below h.b;have hd:=h.d;refine⟨w'.drawn-w.drawn,p.os,?_⟩;have e:p.d=w'.drawn:=by rw[hp];rfl
 have e2:w.drewN (w'.drawn-w.drawn)=redrawn w p.d:=by
  unfold redrawn;rw[e];show({w with drawn:=w.drawn+(w'.drawn-w.drawn)}:Aj)=_
  congr 1
  omega
 rw[e2];exact hp
def Ot (v:Ak) (w:Aj) (e:Ending) (w':Aj):Prop:=e= .returned v∧Bd w w'
theorem Im (a b:Int) (w:Aj):Al Tryz.prog 99 #[Aa Ab a,Aa Ab b] w (Ot (Aa Ab (Dm a b)) w):=by
 obtain⟨R,hR⟩:=ey (Dm a b);rw[hR];have HR:=Ah hR;clear hR;go_enter Tryz.func99,Tryz.ntmps99;go_wp2_with (go_in)
 all_goals go_ret
 all_goals refine⟨Ed ?_,Bd.refl _⟩
 all_goals rw[←HR.out]
 all_goals first|rw[Nu Ci]|rw[cU Ci]|rw[cS Ci Ci]
theorem uC (g cp:Nat) (a0 b0 a1 b1 a2 b2:Int) (w:Aj) (h:w.rangeAt g 0 [Aa Ab a0,Aa Ab b0,Aa Ab a1,Aa Ab b1,Aa Ab a2,Aa Ab b2]):
  Al Tryz.prog 133 #[Ad (Af ⟨g,0,Ae⟩) 3 cp] w (Ot (Aa Ab (Ix (Dm a0 b0) (Dm a1 b1) (Dm a2 b2))) w):=by
 obtain⟨p,hp⟩:=ey (Dm a0 b0);obtain⟨q,hq⟩:=ey (Dm a1 b1);obtain⟨r,hr⟩:=ey (Dm a2 b2);rw[hp,hq,hr];have P:=Ah hp;have Q:=Ah hq;have R:=Ah hr;have c0:=h 0 _ rfl;have c1:=h 1 _ rfl;have c2:=h 2 _ rfl;have c3:=h 3 _ rfl;have c4:=h 4 _ rfl;have c5:=h 5 _ rfl;simp only[Nat.reduceAdd]at c0 c1 c2 c3 c4 c5;have hgl:g<w.heap.size:=World.block_lt_of_cell? w ⟨g,0,Ae⟩ c0;clear hp hq hr h;go_enter Tryz.func133,Tryz.ntmps133;go_wp2
 go_loopw [8] (λi wr=>∃k:Nat,k≤3∧i= Aa Ab k∧Bd w wr∧(1≤k→p=0)∧(2≤k→q=0)∧(k=3→r=0)) (λi _=>3-(intOf i).toNat)
 case atStart=>exact⟨0,Ci,rfl,Bd.refl _,Ci,Ci,Ci⟩
 case round=>
  obtain⟨k,hk,rfl,hbd,h1,h2,h3⟩:=hrel;have hb:=hbd.b;have c0:=Cj hb c0;have c1:=Cj hb c1;have c2:=Cj hb c2;have c3:=Cj hb c3;have c4:=Cj hb c4;have c5:=Cj hb c5;have hgl:g<wr.heap.size:=Bq hgl hb.size;have hs:=hb.size;have h4:k=0∨k=1∨k=2∨k=3:=Ci;rcases h4 with rfl|rfl|rfl|rfl
  ·as_aux_lemma=>
    by_cases hz:p=0
    ·go_wp2_with fail;refine(Im a0 b0 _).mono ?_;rintro e w2 ⟨rfl,hb2⟩;rw[P.out];have hb3:Bd w w2:=(hbd.alloc _).trans hb2;have hz':(p != 0)=false:=by simpa using hz
     go_wp2;exact⟨⟨1,Ci,rfl,hb3,λ_=>hz,Ci,Ci⟩,by simp[intOf]⟩
    ·go_wp2_with fail;refine(Im a0 b0 _).mono ?_;rintro e w2 ⟨rfl,hb2⟩;rw[P.out];have hb3:Bd w w2:=(hbd.alloc _).trans hb2;have hz':(p != 0)=true:=by simpa using hz
     go_wp2;go_ret;exact⟨Ed (by unfold Ix;rw[if_pos hz]),hb3⟩
  ·as_aux_lemma=>
    have hp0:=h1 Ci;by_cases hz:q=0
    ·go_wp2_with fail;refine(Im a1 b1 _).mono ?_;rintro e w2 ⟨rfl,hb2⟩;rw[Q.out];have hb3:Bd w w2:=(hbd.alloc _).trans hb2;have hz':(q != 0)=false:=by simpa using hz
     go_wp2;exact⟨⟨2,Ci,rfl,hb3,λ_=>hp0,λ_=>hz,Ci⟩,by simp[intOf]⟩
    ·go_wp2_with fail;refine(Im a1 b1 _).mono ?_;rintro e w2 ⟨rfl,hb2⟩;rw[Q.out];have hb3:Bd w w2:=(hbd.alloc _).trans hb2;have hz':(q != 0)=true:=by simpa using hz
     go_wp2;go_ret;exact⟨Ed (by unfold Ix;rw[if_neg (by simpa using hp0),if_pos hz]),hb3⟩
  ·as_aux_lemma=>
    have hp0:=h1 Ci;have hq0:=h2 Ci;by_cases hz:r=0
    ·go_wp2_with fail;refine(Im a2 b2 _).mono ?_;rintro e w2 ⟨rfl,hb2⟩;rw[R.out];have hb3:Bd w w2:=(hbd.alloc _).trans hb2;have hz':(r != 0)=false:=by simpa using hz
     go_wp2;exact⟨⟨3,Ci,rfl,hb3,λ_=>hp0,λ_=>hq0,λ_=>hz⟩,by simp[intOf]⟩
    ·go_wp2_with fail;refine(Im a2 b2 _).mono ?_;rintro e w2 ⟨rfl,hb2⟩;rw[R.out];have hb3:Bd w w2:=(hbd.alloc _).trans hb2;have hz':(r != 0)=true:=by simpa using hz
     go_wp2;go_ret;exact⟨Ed (by unfold Ix;rw[if_neg (by simpa using hp0),if_neg (by simpa using hq0)]),hb3⟩
  ·as_aux_lemma=>
    have hp0:=h1 Ci;have hq0:=h2 Ci;have hr0:=h3 rfl;go_wp2;go_ret;exact⟨Ed (by first|rfl|simp[Ix,hp0,hq0,hr0]),hbd⟩
theorem Nv (c d:Cl) (w:Aj) (hc:c.q≤255) (hd:d.q≤255):Al Tryz.prog 77 #[.agg #[Aa Ab c.x,Aa Ab c.y,Aa Ac c.q],.agg #[Aa Ab d.x,Aa Ab d.y,Aa Ac d.q]] w (Ot (Aa Ab (Fg c d)) w):=by
 have hfin:Fg c d=Ix (Dm c.y d.y) (Dm c.x d.x) (Dm c.q d.q):=rfl;rw[hfin];obtain⟨x,y,q⟩:=c;obtain⟨x',y',q'⟩:=d;dsimp only at hc hd⊢;have k1:Ab.wrap (q:Int)=q:=Ca _ Ci;have k2:Ab.wrap (q':Int)=q':=Ca _ Ci;have hbd:Bd w ((w.alloc (.cells #[Aa Ab x,Aa Ab y,Aa Ac q] 87)).alloc (.cells #[Aa Ab x',Aa Ab y',Aa Ac q'] 87)):=((Bd.refl w).alloc _).alloc _;have H:=((Bx.start w).new #[Aa Ab x,Aa Ab y,Aa Ac q] 87 rfl).new #[Aa Ab x',Aa Ab y',Aa Ac q'] 87 (N:=w.heap.size+1) Cn;clear hfin;go_enter Tryz.func77,Tryz.ntmps77;go_upto_region 1 with fail;obtain⟨W,hW⟩:=ez ((w.alloc (.cells #[Aa Ab x,Aa Ab y,Aa Ac q] 87)).alloc (.cells #[Aa Ab x',Aa Ab y',Aa Ac q'] 87));rw[←hW]at H hbd⊢;obtain⟨N,hN⟩:=ez w.heap.size;rw[←hN]at H⊢;clear hW hN;obtain⟨⟨a0,a1,a2⟩,_⟩:=Cv (H.blk 0 _ _ _ rfl);obtain⟨⟨b0,b1,b2⟩,_⟩:=Cv (H.blk 1 _ _ _ rfl);go_wp2_with fail;have H3:=H.new #[Aa Ab y,Aa Ab y',Aa Ab x,Aa Ab x',Aa Ab q,Aa Ab q'] 250 rfl;refine(uC W.heap.size 3 y y' x x' q q' _ (H3.range 2 rfl)).mono ?_;rintro e w2 ⟨rfl,hb⟩;have hbd4:=(hbd.alloc (.cells #[Aa Ab y,Aa Ab y',Aa Ab x,Aa Ab x',Aa Ab q,Aa Ab q'] 250)).trans hb;clear a0 a1 a2 b0 b1 b2;go_wp2;go_ret;exact⟨rfl,hbd4⟩
theorem Ds {t e:TypeId} (a:Option Addr) (l c:Nat) (h:Tryz.prog.underlying t=Af (.slice e)) (w:Aj):(binOp .eql t (Ad a l c) (Ad Ae 0 0)).run Tryz.prog w= .ok (.bool a.isNone) w:=by
 simp only[binOp];simp[run_equal_slice_nil w t e a l c h]
def AOk (A:Option Addr) (n c:Nat):Prop:=(A=Ae∧n=0∧c=0)∨∃b o,A=Af ⟨b,o,Ae⟩
theorem Ja {w:Aj} {base:Nat} {e:TypeId} {sz n:Nat} {v:Ak} {xs:List Ak} (h:w.ownsRow base e sz v n xs):∃A c,v= Ad A n c∧AOk A n c∧n≤c∧c≤maxLen:=by
 rcases h.2 with⟨rfl,h0⟩|⟨g,cap,cur,r1,_,_,r2,r3,_⟩
 ·exact⟨Ae,0,by rw[h0],.inl ⟨rfl,h0,rfl⟩,Ci,by simp[maxLen]⟩
 ·exact⟨_,cap,r1,.inr ⟨g,0,rfl⟩,r2,r3⟩
theorem Ss:(Tryz.prog.info? 3).map (λi=>(i.zero,i.size,i.bytes))=Af (Af (Aa Ab 0),1,8):=Cm
theorem cN (A:Option Addr) (n c:Nat) (w:Aj) (h:n≤c) (_hm:c≤maxLen):
  Al Tryz.prog 129 #[Ad A n c] w (Co (Ad A n n) w):=by
 unfold maxLen at _hm;go_enter Tryz.func129,Tryz.ntmps129
 go_wp2
 go_ret;exact⟨rfl,Ag _ _⟩
theorem Xe (A:Option Addr) (n c:Nat) (xs:List Ak) (w:Aj) (hA:AOk A n c) (h:Rd w A 1 n xs) (h1:∀u∈xs,u.oneCell'=true) (hn:n≤1000000):
  Al Tryz.prog 130 #[Ad A n c] w (Mo 3 1 n xs w):=by
 rcases hA with⟨rfl,rfl,rfl⟩|⟨b,o,rfl⟩
 ·have hx:xs=[]:=by have:=h.1;simpa using this
  subst hx;clear hn h h1;have heq:=Ds Ae 0 0 Tryz.underlying46;go_enter Tryz.func130,Tryz.ntmps130;go_wp2;go_ret;exact⟨_,rfl,⟨rfl,.inl ⟨rfl,rfl⟩⟩,Ag _ _⟩
 ·obtain⟨i0,hi,hz,hs,hb⟩:=info_parts Ss;have hown:(w.alloc (.cells #[] 3)).ownsRow w.heap.size 3 1 (Ad (Af ⟨w.heap.size,0,Ae⟩) 0 0) 0 []:=Ly (Am _) (Bz w _) (Am _) (by simp[maxLen]) rfl;obtain⟨v',w',hr,h2,h3⟩:=Dx (P:=Tryz.prog) (w.alloc (.cells #[] 3)) w.heap.size 46 46 3 i0 _ 1 8 Tryz.underlying46 hi hz hs hb rfl Ct _ 0 [] hown (Af ⟨b,o,Ae⟩) n c xs h1 (h.alloc _) (λh=>by cases h) Ci Ct Cn;rw[Bt,List.nil_append]at h2;have hbw:Below w.heap.size w w':=((Ag _ _).alloc (Am _) _).grown h3 Cn (λk hk=>by simp[Value.ownBlock]at hk;omega);clear hown h3 hi hz hs hb h1 h hn;have heq:=Ds (Af ⟨b,o,Ae⟩) n c Tryz.underlying46;go_enter Tryz.func130,Tryz.ntmps130;go_wp2_with (at_builtin;refine As _ rfl _ _ _ _ rfl _ _ rfl rfl _ _ hr ?_);go_ret;exact⟨v',rfl,h2,hbw⟩
theorem yF:(Tryz.prog.info? 124).map (λi=>(i.zero,i.size,i.bytes))=Af (Af (.agg #[Aa Ab 0,Aa Ac 0,Aa Ac 0]),3,16):=Cm
theorem Au1 (A:Option Addr) (n c:Nat) (w:Aj) (h:n≤c) (_hm:c≤maxLen):
  Al Tryz.prog 101 #[Ad A n c] w (Co (Ad A n n) w):=by
 unfold maxLen at _hm;go_enter Tryz.func101,Tryz.ntmps101
 go_wp2
 go_ret;exact⟨rfl,Ag _ _⟩
theorem pP (A:Option Addr) (n c:Nat) (xs:List Ak) (w:Aj) (hA:AOk A n c) (h:Rd w A 3 n xs) (h1:∀u∈xs,u.oneCell'=true) (hn:n≤1000000):
  Al Tryz.prog 95 #[Ad A n c] w (Mo 124 3 n xs w):=by
 rcases hA with⟨rfl,rfl,rfl⟩|⟨b,o,rfl⟩
 ·have hx:xs=[]:=by have:=h.1;simpa using this
  subst hx;clear hn h h1;have heq:=Ds Ae 0 0 Tryz.underlying26;go_enter Tryz.func95,Tryz.ntmps95;go_wp2;go_ret;exact⟨_,rfl,⟨rfl,.inl ⟨rfl,rfl⟩⟩,Ag _ _⟩
 ·obtain⟨i0,hi,hz,hs,hb⟩:=info_parts yF;have hown:(w.alloc (.cells #[] 124)).ownsRow w.heap.size 124 3 (Ad (Af ⟨w.heap.size,0,Ae⟩) 0 0) 0 []:=Ly (Am _) (Bz w _) (Am _) (by simp[maxLen]) rfl;obtain⟨v',w',hr,h2,h3⟩:=Dx (P:=Tryz.prog) (w.alloc (.cells #[] 124)) w.heap.size 26 26 124 i0 _ 3 16 Tryz.underlying26 hi hz hs hb rfl Ct _ 0 [] hown (Af ⟨b,o,Ae⟩) n c xs h1 (h.alloc _) (λh=>by cases h) Ci Ct Cn;rw[Bt,List.nil_append]at h2;have hbw:Below w.heap.size w w':=((Ag _ _).alloc (Am _) _).grown h3 Cn (λk hk=>by simp[Value.ownBlock]at hk;omega);clear hown h3 hi hz hs hb h1 h hn;have heq:=Ds (Af ⟨b,o,Ae⟩) n c Tryz.underlying26;go_enter Tryz.func95,Tryz.ntmps95;go_wp2_with (at_builtin;refine As _ rfl _ _ _ _ rfl _ _ rfl rfl _ _ hr ?_);go_ret;exact⟨v',rfl,h2,hbw⟩
theorem Ai7:(Tryz.prog.info? 89).map (λi=>(i.zero,i.size,i.bytes))=Af (Af (.agg #[Aa Ab 0,Aa Ab 0,Aa Ac 0,Ad Ae 0 0]),4,48):=Cm
theorem cQ (A:Option Addr) (n c:Nat) (w:Aj) (h:n≤c) (_hm:c≤maxLen):
  Al Tryz.prog 78 #[Ad A n c] w (Co (Ad A n n) w):=by
 unfold maxLen at _hm;go_enter Tryz.func78,Tryz.ntmps78
 go_wp2
 go_ret;exact⟨rfl,Ag _ _⟩
theorem xG (A:Option Addr) (n c:Nat) (xs:List Ak) (w:Aj) (hA:AOk A n c) (h:Rd w A 4 n xs) (h1:∀u∈xs,u.oneCell'=true) (hn:n≤1000000):
  Al Tryz.prog 79 #[Ad A n c] w (Mo 89 4 n xs w):=by
 rcases hA with⟨rfl,rfl,rfl⟩|⟨b,o,rfl⟩
 ·have hx:xs=[]:=by have:=h.1;simpa using this
  subst hx;clear hn h h1;have heq:=Ds Ae 0 0 Tryz.underlying31;go_enter Tryz.func79,Tryz.ntmps79;go_wp2;go_ret;exact⟨_,rfl,⟨rfl,.inl ⟨rfl,rfl⟩⟩,Ag _ _⟩
 ·obtain⟨i0,hi,hz,hs,hb⟩:=info_parts Ai7;have hown:(w.alloc (.cells #[] 89)).ownsRow w.heap.size 89 4 (Ad (Af ⟨w.heap.size,0,Ae⟩) 0 0) 0 []:=Ly (Am _) (Bz w _) (Am _) (by simp[maxLen]) rfl;obtain⟨v',w',hr,h2,h3⟩:=Dx (P:=Tryz.prog) (w.alloc (.cells #[] 89)) w.heap.size 31 31 89 i0 _ 4 48 Tryz.underlying31 hi hz hs hb rfl Ct _ 0 [] hown (Af ⟨b,o,Ae⟩) n c xs h1 (h.alloc _) (λh=>by cases h) Ci Ct Cn;rw[Bt,List.nil_append]at h2;have hbw:Below w.heap.size w w':=((Ag _ _).alloc (Am _) _).grown h3 Cn (λk hk=>by simp[Value.ownBlock]at hk;omega);clear hown h3 hi hz hs hb h1 h hn;have heq:=Ds (Af ⟨b,o,Ae⟩) n c Tryz.underlying31;go_enter Tryz.func79,Tryz.ntmps79;go_wp2_with (at_builtin;refine As _ rfl _ _ _ _ rfl _ _ rfl rfl _ _ hr ?_);go_ret;exact⟨v',rfl,h2,hbw⟩
theorem gA:(Tryz.prog.info? 297).map (λi=>(i.zero,i.size,i.bytes))=Af (Af (.agg #[Aa Ab 0,Aa Ab 0]),2,16):=Cm
theorem xE (A:Option Addr) (n c:Nat) (w:Aj) (h:n≤c) (_hm:c≤maxLen):
  Al Tryz.prog 166 #[Ad A n c] w (Co (Ad A n n) w):=by
 unfold maxLen at _hm;go_enter Tryz.func166,Tryz.ntmps166
 go_wp2
 go_ret;exact⟨rfl,Ag _ _⟩
theorem sH (A:Option Addr) (n c:Nat) (xs:List Ak) (w:Aj) (hA:AOk A n c) (h:Rd w A 2 n xs) (h1:∀u∈xs,u.oneCell'=true) (hn:n≤1000000):
  Al Tryz.prog 167 #[Ad A n c] w (Mo 297 2 n xs w):=by
 rcases hA with⟨rfl,rfl,rfl⟩|⟨b,o,rfl⟩
 ·have hx:xs=[]:=by have:=h.1;simpa using this
  subst hx;clear hn h h1;have heq:=Ds Ae 0 0 Tryz.underlying170;go_enter Tryz.func167,Tryz.ntmps167;go_wp2;go_ret;exact⟨_,rfl,⟨rfl,.inl ⟨rfl,rfl⟩⟩,Ag _ _⟩
 ·obtain⟨i0,hi,hz,hs,hb⟩:=info_parts gA;have hown:(w.alloc (.cells #[] 297)).ownsRow w.heap.size 297 2 (Ad (Af ⟨w.heap.size,0,Ae⟩) 0 0) 0 []:=Ly (Am _) (Bz w _) (Am _) (by simp[maxLen]) rfl;obtain⟨v',w',hr,h2,h3⟩:=Dx (P:=Tryz.prog) (w.alloc (.cells #[] 297)) w.heap.size 170 170 297 i0 _ 2 16 Tryz.underlying170 hi hz hs hb rfl Ct _ 0 [] hown (Af ⟨b,o,Ae⟩) n c xs h1 (h.alloc _) (λh=>by cases h) Ci Ct Cn;rw[Bt,List.nil_append]at h2;have hbw:Below w.heap.size w w':=((Ag _ _).alloc (Am _) _).grown h3 Cn (λk hk=>by simp[Value.ownBlock]at hk;omega);clear hown h3 hi hz hs hb h1 h hn;have heq:=Ds (Af ⟨b,o,Ae⟩) n c Tryz.underlying170;go_enter Tryz.func167,Tryz.ntmps167;go_wp2_with (at_builtin;refine As _ rfl _ _ _ _ rfl _ _ rfl rfl _ _ hr ?_);go_ret;exact⟨v',rfl,h2,hbw⟩
theorem fZ:(Tryz.prog.info? 176).map (λi=>(i.zero,i.size,i.bytes))=Af (Af (.agg #[Aa Ac 0,Aa Ab 0,Aa Ab 0]),3,24):=Cm
theorem xD (A:Option Addr) (n c:Nat) (w:Aj) (h:n≤c) (_hm:c≤maxLen):
  Al Tryz.prog 168 #[Ad A n c] w (Co (Ad A n n) w):=by
 unfold maxLen at _hm;go_enter Tryz.func168,Tryz.ntmps168
 go_wp2
 go_ret;exact⟨rfl,Ag _ _⟩
theorem sG (A:Option Addr) (n c:Nat) (xs:List Ak) (w:Aj) (hA:AOk A n c) (h:Rd w A 3 n xs) (h1:∀u∈xs,u.oneCell'=true) (hn:n≤1000000):
  Al Tryz.prog 169 #[Ad A n c] w (Mo 176 3 n xs w):=by
 rcases hA with⟨rfl,rfl,rfl⟩|⟨b,o,rfl⟩
 ·have hx:xs=[]:=by have:=h.1;simpa using this
  subst hx;clear hn h h1;have heq:=Ds Ae 0 0 Tryz.underlying171;go_enter Tryz.func169,Tryz.ntmps169;go_wp2;go_ret;exact⟨_,rfl,⟨rfl,.inl ⟨rfl,rfl⟩⟩,Ag _ _⟩
 ·obtain⟨i0,hi,hz,hs,hb⟩:=info_parts fZ;have hown:(w.alloc (.cells #[] 176)).ownsRow w.heap.size 176 3 (Ad (Af ⟨w.heap.size,0,Ae⟩) 0 0) 0 []:=Ly (Am _) (Bz w _) (Am _) (by simp[maxLen]) rfl;obtain⟨v',w',hr,h2,h3⟩:=Dx (P:=Tryz.prog) (w.alloc (.cells #[] 176)) w.heap.size 171 171 176 i0 _ 3 24 Tryz.underlying171 hi hz hs hb rfl Ct _ 0 [] hown (Af ⟨b,o,Ae⟩) n c xs h1 (h.alloc _) (λh=>by cases h) Ci Ct Cn;rw[Bt,List.nil_append]at h2;have hbw:Below w.heap.size w w':=((Ag _ _).alloc (Am _) _).grown h3 Cn (λk hk=>by simp[Value.ownBlock]at hk;omega);clear hown h3 hi hz hs hb h1 h hn;have heq:=Ds (Af ⟨b,o,Ae⟩) n c Tryz.underlying171;go_enter Tryz.func169,Tryz.ntmps169;go_wp2_with (at_builtin;refine As _ rfl _ _ _ _ rfl _ _ rfl rfl _ _ hr ?_);go_ret;exact⟨v',rfl,h2,hbw⟩
def Di (l:List Nat):List Ak:=l.map λ(i:Nat)=>Value.int .i64 (i:Int)
theorem Ha (l:List Nat):(Di l).length=l.length:=by simp[Di]
theorem Sk (l:List Nat):∀u∈Di l,u.oneCell'=true:=by
 intro u hu;obtain⟨i,_,rfl⟩:=List.mem_map.1 hu;rfl
theorem Mi {w:Aj} {A:Option Addr} {l:List Nat} {n:Nat} (h:Rd w A 1 n (Di l)) (i:Nat) (hi:i<l.length):
  ∃b o,A=Af ⟨b,o,Ae⟩∧b<w.heap.size∧w.cell? ⟨b,o+i,Ae⟩=Af (Aa Ab (l[i]:Int)):=by
 have hl:=h.1;rw[Ha]at hl;obtain⟨b,o,e,hb,hc⟩:=h.2 Ci;exact⟨b,o,e,hb,hc i _ (by simp[Di,hi])⟩
def Gh (l:List Nat) (v:Nat):Int:=match l.findIdx? (λx=>decide (x=v))with
 |some i=>(i:Int)
 |none=> -1
theorem qT {l:List Nat} {v i:Nat} (hi:i<l.length) (h:l[i]=v) (hb:∀j (hj:j<l.length),j<i→l[j]≠v):Gh l v=i:=by
 unfold Gh
 have:l.findIdx? (λx=>decide (x=v))=Af i:=by
  rw[List.findIdx?_eq_some_iff_getElem];exact⟨hi,by simp[h],λj hj=>by simp[hb j Ci hj]⟩
 rw[this]
theorem uQ {l:List Nat} {v:Nat} (hb:∀j (hj:j<l.length),l[j]≠v):Gh l v= -1:=by
 unfold Gh
 have:l.findIdx? (λx=>decide (x=v))=Ae:=by
  rw[List.findIdx?_eq_none_iff];intro x hx;obtain⟨j,hj,rfl⟩:=Be.1 hx;simp[hb j hj]
 rw[this]
theorem sY (A:Option Addr) (l:List Nat) (n c v:Nat) (w:Aj) (hn:n=l.length) (h:Rd w A 1 n (Di l)) (hl:n≤1000000):
  Al Tryz.prog 171 #[Ad A n c,Aa Ab v] w (Co (Aa Ab (Gh l v)) w):=by
 have HRD:=Ah h;have HN:=Ah hn;clear h hn;go_enter Tryz.func171,Tryz.ntmps171;go_wp2
 go_loopw [5,8] (λ_ i wr=>∃k:Nat,k≤n∧i= Aa Ab k∧Below w.heap.size w wr∧Hid (∀j (hj:j<l.length),j<k→l[j]≠v)) (λ_ i _=>n-(intOf i).toNat)
 case atStart=>exact⟨0,Ci,rfl,Ag _ _,Ah λj _ hj=>absurd hj Ci⟩
 case round=>
  obtain⟨k,hk,rfl,hb,HK⟩:=hrel;by_cases hlt:k<n
  ·have hkl:k<l.length:=by have:=HN.out;omega
   obtain⟨bb,o,rfl,hbl,c0⟩:=Mi (HRD.out.below hb) k hkl;have q1:(k:Int)<(n:Int):=Ci;by_cases he:l[k]=v
   ·have HF:=Ah (qT hkl he λj hj h=>HK.out j hj h);rw[he]at c0;clear he;go_wp2;go_ret;exact⟨by rw[HF.out];rfl,hb⟩
   ·obtain⟨r,hr⟩:=ey (l[k])
    have HKN:=Ah (λj (hj:j<l.length) (h:j<k+1)=>show l[j]≠v by
     by_cases hjk:j=k
     ·subst hjk;exact he
     ·exact HK.out j hj Ci)
    rw[hr]at c0 he;have hne:((v:Int)==(r:Int))=false:=by simp;omega
    clear hr;go_wp2;exact⟨⟨k+1,Ci,by go_num,hb,HKN⟩,by simp[intOf];omega⟩
  ·have q1:¬(k:Int)<(n:Int):=Ci;have HF:=Ah (uQ (l:=l) (v:=v) λj hj=>HK.out j hj (by have:=HN.out;omega));go_wp2;go_ret;exact⟨by rw[HF.out];rfl,hb⟩
def En (w:Aj) (base:Nat) (e:TypeId) (sz:Nat) (A:Option Addr) (n:Nat) (xs:List Ak):Prop:=
 xs.length=n*sz∧((A=Ae∧n=0)∨∃g cur,A=Af ⟨g,0,Ae⟩∧base≤g∧w.heap[g]? =Af (Obj.cells cur e (0,0))∧n*sz≤cur.size∧cur.toList.take (n*sz)=xs)
theorem En.of_own {w:Aj} {base:Nat} {e:TypeId} {sz n c:Nat} {A:Option Addr} {xs:List Ak} (h:w.ownsRow base e sz (Ad A n c) n xs):En w base e sz A n xs:=by
 refine⟨h.1,?_⟩;rcases h.2 with⟨h0,h1⟩|⟨g,cap,cur,hv,hb,hg,hn,_,hs,ht⟩
 ·have hA:A=Ae:=by injection h0
  exact .inl ⟨hA,h1⟩
 ·have hA:A=Af ⟨g,0,Ae⟩:=by injection hv
  refine .inr ⟨g,cur,hA,hb,hg,?_,ht⟩;rw[hs];exact Nat.mul_le_mul_right _ hn
theorem En.below {w w':Aj} {base:Nat} {e:TypeId} {sz n:Nat} {A:Option Addr} {xs:List Ak} (h:En w base e sz A n xs) (hb:Below w.heap.size w w'):En w' base e sz A n xs:=by
 refine⟨h.1,?_⟩;rcases h.2 with h0|⟨g,cur,r1,r2,r3,r4⟩
 ·exact .inl h0
 ·exact .inr ⟨g,cur,r1,r2,kept hb r3 (Au.1 r3).1,r4⟩
theorem En.rd {w:Aj} {base:Nat} {e:TypeId} {sz n:Nat} {A:Option Addr} {xs:List Ak} (h:En w base e sz A n xs):Rd w A sz n xs:=by
 refine⟨h.1,λhn=>?_⟩;rcases h.2 with⟨_,h0⟩|⟨g,cur,hA,hb,hg,hs,ht⟩
 ·omega
 ·refine⟨g,0,hA,(Au.1 hg).1,λj u hu=>?_⟩;rw[Bt,By w g j cur e (0,0) hg];rw[←ht,List.getElem?_take]at hu
  split at hu
  ·simpa using hu
  ·cases hu
theorem En.setCell {w:Aj} {base:Nat} {e:TypeId} {sz n:Nat} {A:Option Addr} {xs:List Ak} (h:En w base e sz A n xs) {b j:Nat} (v:Ak) (hb:b<base):En (w.setCell ⟨b,j,Ae⟩ v) base e sz A n xs:=by
 refine⟨h.1,?_⟩;rcases h.2 with h0|⟨g,cur,r1,r2,r3,r4⟩
 ·exact .inl h0
 ·exact .inr ⟨g,cur,r1,r2,(Below.heap_setCell w ⟨b,j,Ae⟩ v g (by show g≠b;omega)).trans r3,r4⟩
theorem En.base {w:Aj} {base base':Nat} {e:TypeId} {sz n:Nat} {A:Option Addr} {xs:List Ak} (h:En w base e sz A n xs) (hb:base'≤base):En w base' e sz A n xs:=by
 refine⟨h.1,?_⟩;rcases h.2 with h0|⟨g,cur,r1,r2,r3⟩
 ·exact .inl h0
 ·exact .inr ⟨g,cur,r1,Ci,r3⟩
theorem AOk.clip {A:Option Addr} {n c:Nat} (h:AOk A n c):AOk A n n:=by
 rcases h with⟨h1,h2,_⟩|h
 ·exact .inl ⟨h1,h2,h2⟩
 ·exact .inr h
def wI (c:Cl) (l:List Nat) (w:Aj) (en:Ending) (w':Aj):Prop:=
 ∃A,en= .returned (.agg #[Aa Ab c.x,Aa Ab c.y,Aa Ac c.q,Ad A l.length l.length])∧AOk A l.length l.length∧En w' w.heap.size 3 1 A l.length (Di l)∧Below w.heap.size w w'
theorem Lu (c:Cl) (A:Option Addr) (l:List Nat) (n cc:Nat) (w:Aj) (hn:n=l.length) (hA:AOk A n cc) (h:Rd w A 1 n (Di l)) (hl:n≤1000000):
  Al Tryz.prog 74 #[.agg #[Aa Ab c.x,Aa Ab c.y,Aa Ac c.q,Ad A n cc]] w (wI c l w):=by
 obtain⟨x,y,q⟩:=c;have HCL:=Ah λ(w':Aj) (hb:Below w.heap.size w w')=>Xe A n cc (Di l) w' hA (h.below hb) (Sk l) hl;have HN:=Ah hn;unfold wI;dsimp only;rw[←hn];have H:=((Bx.start w).new #[Aa Ab x,Aa Ab y,Aa Ac q,Ad A n cc] 89 rfl).new #[Aa Ab 0,Aa Ab 0,Aa Ac 0,Ad Ae 0 0] 89 (N:=w.heap.size+1) Cn;clear hn hA h hl;go_enter Tryz.func74,Tryz.ntmps74;go_upto_region 1 with fail;obtain⟨W,hW⟩:=ez ((w.alloc (.cells #[Aa Ab x,Aa Ab y,Aa Ac q,Ad A n cc] 89)).alloc (.cells #[Aa Ab 0,Aa Ab 0,Aa Ac 0,Ad Ae 0 0] 89));rw[←hW]at H⊢;obtain⟨N,hN⟩:=ez w.heap.size;rw[←hN]at H⊢;have HNN:=Ah hN;clear hW hN;have hWl:N+1<W.heap.size:=H.lt 1 rfl;obtain⟨⟨a0,a1,a2,a3⟩,_⟩:=Ez (H.blk 0 _ _ _ rfl)
 go_region_held3 (λw'=>w'.cell? ⟨N,0,Ae⟩=Af (Aa Ab x)∧w'.cell? ⟨N,1,Ae⟩=Af (Aa Ab y)∧w'.cell? ⟨N,2,Ae⟩=Af (Aa Ac q)∧w'.cell? ⟨N,3,Ae⟩=Af (Ad A n cc))
  (first|exact⟨a0,a1,a2,a3⟩|go_keep)
  (first
   |(go_at_call 130;(with_reducible refine(HCL.out _ H.below.drew).mono ?_);rintro e w3 ⟨v,rfl,hown,hb3⟩;obtain⟨A',c',rfl,hA',hnc,hcm⟩:=Ja hown;have H:=H.call (Cu hb3);have a0:=Cj (Cu hb3) a0;have a1:=Cj (Cu hb3) a1;have a2:=Cj (Cu hb3) a2;have a3:=Cj (Cu hb3) a3)
   |(go_at_call 129;(with_reducible refine(cN A' n c' _ hnc hcm).mono ?_);rintro e w4 ⟨rfl,hb4⟩;have H:=H.call hb4;have hrow:=(En.of_own hown).below hb4;have a0:=Cj hb4 a0;have a1:=Cj hb4 a1;have a2:=Cj hb4 a2;have a3:=Cj hb4 a3;obtain⟨⟨y0,y1,y2,y3⟩,z0,z1,z2,z3⟩:=Ez (H.blk 1 _ _ _ rfl))
   |fail)
 have hlt:N+1<W.drew.heap.size:=hWl;have hrow2:=(((hrow.setCell (j:=0) (Aa Ab x) hlt).setCell (j:=1) (Aa Ab y) hlt).setCell (j:=2) (Aa Ac q) hlt).setCell (j:=3) (Ad A' n n) hlt;have H5:=(((H.set 1 0 rfl (Aa Ab x)).set 1 1 rfl (Aa Ab y)).set 1 2 rfl (Aa Ac q)).set 1 3 rfl (Ad A' n n);have hbase:w.heap.size≤W.drew.heap.size:=by have:=HNN.out;omega
 go_wp2_with fail;exact Ai (Ht rfl rfl (H5.range 1 rfl) Tryz.underlying89 rfl Cm) rfl ⟨A',rfl,hA'.clip,hrow2.base hbase,H5.below⟩
def Eg (x:Stk×(Option Addr×Nat)):List Ak:=[Aa Ab x.1.c.x,Aa Ab x.1.c.y,Aa Ac x.1.c.q,Ad x.2.1 x.1.ls.length x.2.2]
theorem Gm (x:Stk×(Option Addr×Nat)):(Eg x).length=4:=rfl
def Dh (w:Aj) (A:Option Addr) (l:List Stk):Prop:=
 ∃hs:List (Option Addr×Nat),hs.length=l.length∧Rd w A 4 l.length ((l.zip hs).flatMap Eg)∧
  ∀(i:Nat) (h:i<l.length) (h':i<hs.length),AOk hs[i].1 l[i].ls.length hs[i].2∧l[i].ls.length≤hs[i].2∧hs[i].2≤maxLen∧Rd w hs[i].1 1 l[i].ls.length (Di l[i].ls)
theorem Dh.below {w w':Aj} {A:Option Addr} {l:List Stk} (h:Dh w A l) (hb:Below w.heap.size w w'):Dh w' A l:=by
 obtain⟨hs,h1,h2,h3⟩:=h;exact⟨hs,h1,h2.below hb,λi hi hi'=>⟨(h3 i hi hi').1,(h3 i hi hi').2.1,(h3 i hi hi').2.2.1,(h3 i hi hi').2.2.2.below hb⟩⟩
theorem Dh.get {w:Aj} {A:Option Addr} {l:List Stk} (h:Dh w A l) (i:Nat) (hi:i<l.length):
  ∃b o A' c',A=Af ⟨b,o,Ae⟩∧b<w.heap.size∧(w.cell? ⟨b,o+i*4,Ae⟩=Af (Aa Ab l[i].c.x)∧w.cell? ⟨b,o+i*4+1,Ae⟩=Af (Aa Ab l[i].c.y)∧w.cell? ⟨b,o+i*4+2,Ae⟩=Af (Aa Ac l[i].c.q)∧w.cell? ⟨b,o+i*4+3,Ae⟩=Af (Ad A' l[i].ls.length c'))∧
   AOk A' l[i].ls.length c'∧l[i].ls.length≤c'∧c'≤maxLen∧Rd w A' 1 l[i].ls.length (Di l[i].ls):=by
 obtain⟨hs,h1,h2,h3⟩:=h;have hi':i<hs.length:=Ci;obtain⟨b,o,e,hb,hc⟩:=h2.2 Ci;have hz:i<(l.zip hs).length:=by simp;omega
 have hat:∀f,f<4→((l.zip hs).flatMap Eg)[i*4+f]? =(Eg (l[i],hs[i]))[f]? :=λf hf=>by
  rw[Dz Eg 4 Gm _ i f hz hf,List.getElem_zip]
 obtain⟨g1,g2,g3,g4⟩:=h3 i hi hi';refine⟨b,o,hs[i].1,hs[i].2,e,hb,⟨?_,?_,?_,?_⟩,g1,g2,g3,g4⟩
 ·exact hc (i*4+0) _ ((hat 0 Ci).trans rfl)
 ·exact hc (i*4+1) _ ((hat 1 Ci).trans rfl)
 ·exact hc (i*4+2) _ ((hat 2 Ci).trans rfl)
 ·exact hc (i*4+3) _ ((hat 3 Ci).trans rfl)
def Le (k c s:Int):Bool:=okL k c&&decide (s≤1)
theorem Zr (k c s:Int) (v:Bool) (w:Aj):Al Tryz.prog 46 #[.agg #[Aa Ac k,Aa Ab c,Aa Ac s,.bool v]] w (Co (Aa Ab (ec (Le k c s) 1)) w):=by
 have H:=(Bx.start w).new #[Aa Ac k,Aa Ab c,Aa Ac s,.bool v] 74 rfl;obtain⟨R,hR⟩:=ey (Le k c s);rw[hR];have HR:=Ah hR;clear hR;go_enter Tryz.func46,Tryz.ntmps46;go_upto_region 1 with fail;obtain⟨W,hW⟩:=ez (w.alloc (.cells #[Aa Ac k,Aa Ab c,Aa Ac s,.bool v] 74));rw[←hW]at H⊢;obtain⟨N,hN⟩:=ez w.heap.size;rw[←hN]at H⊢;clear hW hN;obtain⟨⟨a0,a1,a2,a3⟩,_⟩:=Ez (H.blk 0 _ _ _ rfl);go_wp2_with fail;refine(Ep k c _).mono ?_;rintro e w2 ⟨rfl,hb⟩;have H2:=H.call hb;clear a0 a1 a2 a3 hb H;obtain⟨⟨a0,a1,a2,a3⟩,_⟩:=Ez (H2.blk 0 _ _ _ rfl)
 cases hL:okL k c
 ·have HF:Hid (R=false):=Ah (by rw[←HR.out];unfold Le;rw[hL];rfl);rw[Lj];clear hL;go_wp2;go_ret;exact⟨by rw[HF.out];rfl,H2.below⟩
 ·have HF:Hid (R=decide (s≤1)):=Ah (by rw[←HR.out];unfold Le;rw[hL];rfl);rw[Gz];clear hL;by_cases h1:s≤1
  ·have h2:¬1<s:=Ci;go_wp2;go_ret;exact⟨by rw[HF.out,decide_eq_true h1];rfl,H2.below⟩
  ·have h2:1<s:=Ci;go_wp2;go_ret;exact⟨by rw[HF.out,decide_eq_false Ci];rfl,H2.below⟩
end Go.Proofs.YthpcfeifmdbhnaaGreatDoor
