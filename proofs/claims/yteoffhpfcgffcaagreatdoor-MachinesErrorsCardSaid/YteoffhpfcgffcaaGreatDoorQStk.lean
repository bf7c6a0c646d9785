import Derived.Test.YteoffhpfcgffcaaGreatDoorQCel2
import Derived.Deep.RegionHeld3
import Derived.Lib.QuietBelow
import Derived.Laws.Cover3
open Array renaming getElem?_eq_some_iff→Aq
open Go renaming Calls→Ai,Value→Ah,World→Ag,bodyPost_ret→Af,cell_of_row→Bs,heap_alloc_new→Bt
open Go.IntKind renaming i64→Ab,u8→Ac
open Go.IntWalk renaming i64_in→Bu
open Go.Lib renaming hid→Ae,wpList_append_run→Ap
open Go.Value renaming int→Aa,slice→Ad
open List renaming getElem_mem→Au,mem_cons→Bh,mem_iff_getElem→Ay,replicate→Aw
open Nat renaming le_refl→Aj,le_trans→Bo,lt_of_lt_of_le→Bm,zero_add→Bp
set_option maxHeartbeats 4000000
set_option maxRecDepth 100000
namespace Go.Proofs.YteoffhpfcgffcaaGreatDoor
open Go.RowKit
def Mm (a b i:Int):Int×Int×Int×Int:=if Oj a b i then (i/4%a,i/4/a,i%4,0)else (0,0,0,7)
theorem Lf (a b i:Int) (w:Ag) (hs:okS a b=true):
  Ai Tryz.prog 142 #[.agg #[Aa Ab a,Aa Ab b],Aa Ab i] w (Cg (Gu (Mm a b i)) w):=by
 obtain⟨R,hR⟩:=ey (Mm a b i);rw[hR];have HR:=Ae hR;have HS:=Ae hs;obtain⟨n1,n2⟩:=Vt w (.cells #[Aa Ab a,Aa Ab b] 35) (.cells #[Aa Ab 0,Aa Ab 0,Aa Ac 0] 123);have hb1:Below w.heap.size w ((w.alloc (.cells #[Aa Ab a,Aa Ab b] 35)).alloc (.cells #[Aa Ab 0,Aa Ab 0,Aa Ac 0] 123)):=((Below.refl _ _).alloc (Aj _) _).alloc (by simp) _;have hz1:w.heap.size+1<((w.alloc (.cells #[Aa Ab a,Aa Ab b] 35)).alloc (.cells #[Aa Ab 0,Aa Ab 0,Aa Ac 0] 123)).heap.size:=by simp
 clear hR hs;go_enter Tryz.func142,Tryz.ntmps142;go_upto_region 1 with fail;obtain⟨W,hW⟩:=ez ((w.alloc (.cells #[Aa Ab a,Aa Ab b] 35)).alloc (.cells #[Aa Ab 0,Aa Ab 0,Aa Ac 0] 123));rw[←hW]at n1 n2 hb1 hz1⊢;obtain⟨N,hN⟩:=ez w.heap.size;rw[←hN]at n1 n2 hz1⊢;have HNN:=Ae hN;have N1:=Ae n1;have N2:=Ae n2;obtain⟨⟨x0,x1⟩,_⟩:=Cu n1;clear hW n1 n2 hN;go_wp2_with fail;refine(Ev a b _).mono ?_;rintro e w2 ⟨rfl,hb2⟩;rw[HS.out,Fo];have hb2':Below w.heap.size w w2:=hb1.trans (hb2.mono hb1.size);have M1:=Ae (kept hb2 N1.out (by omega));have M2:=Ae (kept hb2 N2.out hz1);obtain⟨⟨y0,y1⟩,_⟩:=Cu M1.out;have hz2:N+1<w2.heap.size:=Bm hz1 hb2.size;clear x0 x1 hb2 N1 N2;go_wp2_with fail;refine(wA a b i _ HS.out).mono ?_;rintro e w3 ⟨rfl,hb3⟩;have hb3':Below w.heap.size w w3:=hb2'.trans (hb3.mono hb2'.size);have P1:=Ae (kept hb3 M1.out (by omega));have P2:=Ae (kept hb3 M2.out hz2);obtain⟨⟨v0,v1⟩,_⟩:=Cu P1.out;obtain⟨⟨r0,r1,r2⟩,z0,z1,z2⟩:=Ci P2.out;have hz3:N+1<w3.heap.size:=Bm hz2 hb3.size;clear y0 y1 hb3 M1 M2
 cases hi:Oj a b i
 ·have HI:=Ae hi;clear hi;go_wp2_with fail;refine Af (v:=Gu (0,0,0,7)) (by simp[results,Tryz.results142,go_sem,r0,r1,r2,Gu]) rfl ⟨?_,?_⟩
  ·rw[←HR.out];unfold Mm;rw[HI.out];rfl
  ·have h9:=HNN.out;exact((hb3'.setCell (by simp;omega) _).setCell (by simp;omega) _).setCell (by simp;omega) _
 ·have HI:=Ae hi;clear hi;go_wp2_with fail;refine(Zh a b i _ HS.out HI.out).mono ?_;rintro e w4 ⟨rfl,hb4⟩;have hb4':Below w.heap.size w w4:=hb3'.trans (hb4.mono hb3'.size);obtain⟨⟨s0,s1,s2⟩,y0,y1,y2⟩:=Ci (kept hb4 P2.out hz3);have hz4:N+1<w4.heap.size:=Bm hz3 hb4.size;clear v0 v1 r0 r1 r2 z0 z1 z2 hb4;go_wp2_with fail;refine Af (v:=Gu (i/4%a,i/4/a,i%4,0)) (by simp[results,Tryz.results142,go_sem,s0,s1,s2,Gu]) rfl ⟨?_,?_⟩
  ·rw[←HR.out];unfold Mm;rw[HI.out];rfl
  ·have h9:=HNN.out;exact((hb4'.setCell (by simp;omega) _).setCell (by simp;omega) _).setCell (by simp;omega) _
def inS (a b x y q:Int):Bool:=okC x y q&&decide (0≤x)&&decide (x<a)&&decide (0≤y)&&decide (y<b)
theorem Xx {a b x y q:Int}:inS a b x y q=true↔okC x y q=true∧0≤x∧x<a∧0≤y∧y<b:=by
 unfold inS;simp only[Bool.and_eq_true,decide_eq_true_eq,and_assoc]
theorem qJ {a b x y q:Int} (h:¬(okC x y q=true∧0≤x∧x<a∧0≤y∧y<b)):inS a b x y q=false:=by
 rw[←Bool.not_eq_true,Xx];exact h
def idI (a b x y q:Int):Int×Int:=if inS a b x y q then (4*(y*a+x)+q,0)else (0,7)
def Ug (r:Int×Int):Ah:= .tuple #[Aa Ab r.1,Aa Ab r.2]
theorem yR {a b x y:Int} (hs:okS a b=true) (hx:0≤x∧x<a) (hy:0≤y∧y<b):0≤y*a∧y*a+x<a*b∧a*b≤256:=by
 obtain⟨m1,m2,m3,m4,m5,m6⟩:=Me hs;refine⟨Int.mul_nonneg hy.1 (by omega),?_,m2⟩;have h1:(y+1)*a≤b*a:=Int.mul_le_mul_of_nonneg_right (by omega) (by omega);rw[Int.add_mul,Int.one_mul,Int.mul_comm b a]at h1;omega
theorem Aa2 (a b x y q:Int) (w:Ag) (hs:okS a b=true) (hq:0≤q∧q≤255):
  Ai Tryz.prog 144 #[.agg #[Aa Ab a,Aa Ab b],.agg #[Aa Ab x,Aa Ab y,Aa Ac q]] w (Cg (Ug (idI a b x y q)) w):=by
 obtain⟨R,hR⟩:=ey (idI a b x y q);rw[hR];have HR:=Ae hR;have HS:=Ae hs;have hbd:=fun hx hy=>yR (a:=a) (b:=b) (x:=x) (y:=y) hs hx hy;have HBD:=Ae hbd;obtain⟨n1,n2⟩:=Vt w (.cells #[Aa Ab a,Aa Ab b] 35) (.cells #[Aa Ab x,Aa Ab y,Aa Ac q] 123);have hb1:Below w.heap.size w ((w.alloc (.cells #[Aa Ab a,Aa Ab b] 35)).alloc (.cells #[Aa Ab x,Aa Ab y,Aa Ac q] 123)):=((Below.refl _ _).alloc (Aj _) _).alloc (by simp) _;have hz1:w.heap.size+1<((w.alloc (.cells #[Aa Ab a,Aa Ab b] 35)).alloc (.cells #[Aa Ab x,Aa Ab y,Aa Ac q] 123)).heap.size:=by simp
 clear hR hs hbd;go_enter Tryz.func144,Tryz.ntmps144;go_upto_region 1 with fail;obtain⟨W,hW⟩:=ez ((w.alloc (.cells #[Aa Ab a,Aa Ab b] 35)).alloc (.cells #[Aa Ab x,Aa Ab y,Aa Ac q] 123));rw[←hW]at n1 n2 hb1 hz1⊢;obtain⟨N,hN⟩:=ez w.heap.size;rw[←hN]at n1 n2 hz1⊢;have N1:=Ae n1;have N2:=Ae n2;obtain⟨⟨x0,x1⟩,_⟩:=Cu n1;clear hW n1 n2 hN;go_wp2_with fail;refine(Ev a b _).mono ?_;rintro e w2 ⟨rfl,hb2⟩;rw[HS.out,Fo];have hb2':Below w.heap.size w w2:=hb1.trans (hb2.mono hb1.size);have M1:=Ae (kept hb2 N1.out (by omega));have M2:=Ae (kept hb2 N2.out hz1);obtain⟨⟨y0,y1,y2⟩,_⟩:=Ci M2.out;have hz2:N+1<w2.heap.size:=Bm hz1 hb2.size;clear x0 x1 hb2 N1 N2;go_wp2_with fail;refine(Dk x y q _).mono ?_;rintro e w3 ⟨rfl,hb3⟩;have hb3':Below w.heap.size w w3:=hb2'.trans (hb3.mono hb2'.size);obtain⟨⟨v0,v1⟩,_⟩:=Cu (kept hb3 M1.out (by omega));obtain⟨⟨r0,r1,r2⟩,_⟩:=Ci (kept hb3 M2.out hz2);clear y0 y1 y2 hb3 M1 M2
 cases hc:okC x y q
 ·have HC:=Ae hc;rw[Ji];clear hc;go_wp2_with fail
  go_ret2
  refine⟨?_,hb3'⟩;rw[←HR.out];unfold idI;rw[qJ (fun h=>by rw[HC.out]at h;cases h.1)];rfl
 ·have HC:=Ae hc;rw[Fo];clear hc;by_cases hin:(0≤x∧x<a)∧(0≤y∧y<b)
  ·obtain⟨⟨h1,h2⟩,h3,h4⟩:=hin;obtain⟨k1,k2,k3⟩:=HBD.out ⟨h1,h2⟩ ⟨h3,h4⟩;have k4:IntKind.i64.wrap q=q:=Bu _ (by omega);have hma:=Tb.1 HS.out;obtain⟨p,hp⟩:=ey (y*a);rw[hp]at k1 k2;have HP:=Ae hp;clear hma;go_wp2_with fail
   go_ret2
   refine⟨?_,hb3'⟩;rw[←HR.out];unfold idI;rw[Xx.2 ⟨HC.out,h1,h2,h3,h4⟩,←HP.out];rfl
  ·have hno:=qJ (a:=a) (b:=b) (x:=x) (y:=y) (q:=q) (fun h=>hin ⟨⟨h.2.1,h.2.2.1⟩,h.2.2.2.1,h.2.2.2.2⟩);have hR':R=(0,7):=by rw[←HR.out];unfold idI;rw[hno];rfl
   have HR':=Ae hR';have HIN:=Ae hin;clear hno hR' hin;go_wp2_with fail
   all_goals go_ret2
   all_goals first|exact⟨by rw[HR'.out];rfl,hb3'⟩|exact absurd (by omega) HIN.out
def nbI (a b i e:Int):Int×Int:=
 if Oj a b i=false then (0,7)
 else if(nbr (i/4%a) (i/4/a) (i%4) e).2.2.2=0 then idI a b (nbr (i/4%a) (i/4/a) (i%4) e).1 (nbr (i/4%a) (i/4/a) (i%4) e).2.1 (nbr (i/4%a) (i/4/a) (i%4) e).2.2.1
 else (0,1)
theorem fD (x y q e:Int):0≤(nbr x y q e).2.2.1∧(nbr x y q e).2.2.1≤3:=by
 have h:=fH q.toNat e.toNat;unfold nbr
 split
 ·exact⟨by decide,by decide⟩
 ·split
  ·exact⟨h.2.2.2.2.1,h.2.2.2.2.2⟩
  ·exact⟨by decide,by decide⟩
theorem Ea (a b i e:Int) (w:Ag) (hs:okS a b=true) (he:0≤e) (hQ:Qt w):
  Ai Tryz.prog 75 #[.agg #[Aa Ab a,Aa Ab b],Aa Ab i,Aa Ac e] w (Cg (Ug (nbI a b i e)) w):=by
 obtain⟨R,hR⟩:=ey (nbI a b i e);rw[hR];have HR:=Ae hR;have HS:=Ae hs;have hn1:(w.alloc (.cells #[Aa Ab a,Aa Ab b] 35)).heap[w.heap.size]? =some (.cells #[Aa Ab a,Aa Ab b] 35 (0,0)):=Bt w _;have hb1:Below w.heap.size w (w.alloc (.cells #[Aa Ab a,Aa Ab b] 35)):=(Below.refl _ _).alloc (Aj _) _;have hz1:w.heap.size<(w.alloc (.cells #[Aa Ab a,Aa Ab b] 35)).heap.size:=by simp
 clear hR hs;go_enter Tryz.func75,Tryz.ntmps75;go_upto_region 1 with fail;obtain⟨W,hW⟩:=ez (w.alloc (.cells #[Aa Ab a,Aa Ab b] 35));rw[←hW]at hn1 hb1 hz1⊢;obtain⟨N,hN⟩:=ez w.heap.size;rw[←hN]at hn1 hz1⊢;have N1:=Ae hn1;obtain⟨⟨x0,x1⟩,_⟩:=Cu hn1;clear hW hn1 hN;go_wp2_with fail;refine(Lf a b i _ HS.out).mono ?_;rintro e' w2 ⟨rfl,hb2⟩;have hb2':Below w.heap.size w w2:=hb1.trans (hb2.mono hb1.size);have M1:=Ae (kept hb2 N1.out hz1);have hz2:N<w2.heap.size:=Bm hz1 hb2.size;have hs2:=hb2'.size;clear x0 x1 hb2 N1
 cases hi:Oj a b i
 ·have hc:Mm a b i=(0,0,0,7):=by unfold Mm;rw[hi];rfl
  have hr:R=(0,7):=by rw[←HR.out];unfold nbI;rw[if_pos hi]
  rw[hc];unfold Gu;have HRR:=Ae hr;clear hc hr hi;dsimp only;go_wp2_with fail
  go_ret2
  exact⟨by rw[HRR.out];rfl,(hb2'.alloc hs2 _)⟩
 ·have hc:Mm a b i=(i/4%a,i/4/a,i%4,0):=by unfold Mm;rw[hi];rfl
  have hi4:0≤i%4∧i%4≤3:=by omega
  have hr:R=if(nbr (i/4%a) (i/4/a) (i%4) e).2.2.2=0 then idI a b (nbr (i/4%a) (i/4/a) (i%4) e).1 (nbr (i/4%a) (i/4/a) (i%4) e).2.1 (nbr (i/4%a) (i/4/a) (i%4) e).2.2.1 else (0,1):=by
   rw[←HR.out];unfold nbI;rw[if_neg (by rw[hi];simp)]
  rw[hc];unfold Gu;obtain⟨cx,hcx⟩:=ez (i/4%a);obtain⟨cy,hcy⟩:=ez (i/4/a);obtain⟨cq,hcq⟩:=ez (i%4);rw[←hcx,←hcy,←hcq]at hr⊢;rw[←hcq]at hi4;have hbq:=fD cx cy cq e;obtain⟨⟨nx,ny,nq,ne⟩,hn⟩:=ey (nbr cx cy cq e);rw[hn]at hr hbq;have HRR:=Ae hr;have HNB:=Ae hn;dsimp only at hbq;clear hc hr hi hn hcx hcy hcq;dsimp only;go_wp2_with fail;have hQ2:=Ae (hQ.below (hb2'.alloc hs2 (.cells #[Aa Ab cx,Aa Ab cy,Aa Ac cq] 123)));refine(Ja cx cy cq e _ hi4.1 he hQ2.out).mono ?_;rintro e' w3 ⟨rfl,hb3⟩;rw[HNB.out];unfold Gu;dsimp only;have hb3':Below w.heap.size w w3:=(hb2'.alloc hs2 _).trans (hb3.mono (by simp;omega));have P1:=Ae (kept hb3 ((Below.heap_alloc _ _ _ hz2).trans M1.out) (by simp;omega));have hs3:=hb3'.size;have hz3:N<w3.heap.size:=by have:=hb3.size;simp at this;omega
  obtain⟨⟨v0,v1⟩,_⟩:=Cu P1.out;clear hb3 M1;by_cases hne:ne=0
  ·subst hne;go_wp2_with fail;refine(Aa2 a b nx ny nq _ HS.out (by omega)).mono ?_;rintro e' w4 ⟨rfl,hb4⟩;have hb4':Below w.heap.size w w4:=(hb3'.alloc hs3 _).trans (hb4.mono (by simp;omega));obtain⟨⟨id,ie⟩,hid⟩:=ey (idI a b nx ny nq);have hfin:R=(id,ie):=by rw[HRR.out];exact hid
   rw[hid];unfold Ug;dsimp only;have HF:=Ae hfin;clear hfin hid v0 v1;go_wp2_with fail
   go_ret2
   exact⟨by rw[HF.out];rfl,hb4'⟩
  ·have hfin:R=(0,1):=by rw[HRR.out];exact if_neg hne
   have hb:(ne != 0)=true:=by simpa using hne
   have HF:=Ae hfin;clear hfin hne v0 v1;go_wp2_with fail
   go_ret2
   exact⟨by rw[HF.out];rfl,hb3'.alloc hs3 _⟩
def Fz (a b i e:Int):Int×Int×Int:=if(nbI a b i e).2=0 then (min i (nbI a b i e).1,e,0)else (0,0,(nbI a b i e).2)
def Nl (u:Int×Int×Int):Ah:= .tuple #[.agg #[Aa Ab u.1,Aa Ac u.2.1],Aa Ab u.2.2]
theorem Qn (a b i e:Int) (w:Ag) (hs:okS a b=true) (he:0≤e) (hQ:Qt w):
  Ai Tryz.prog 41 #[.agg #[Aa Ab a,Aa Ab b],Aa Ab i,Aa Ac e] w (Cg (Nl (Fz a b i e)) w):=by
 obtain⟨R,hR⟩:=ey (Fz a b i e);rw[hR];have HR:=Ae hR;have HS:=Ae hs;obtain⟨n1,n2⟩:=Vt w (.cells #[Aa Ab a,Aa Ab b] 35) (.cells #[Aa Ab 0,Aa Ac 0] 91);have hb1:Below w.heap.size w ((w.alloc (.cells #[Aa Ab a,Aa Ab b] 35)).alloc (.cells #[Aa Ab 0,Aa Ac 0] 91)):=((Below.refl _ _).alloc (Aj _) _).alloc (by simp) _;have hz1:w.heap.size+1<((w.alloc (.cells #[Aa Ab a,Aa Ab b] 35)).alloc (.cells #[Aa Ab 0,Aa Ac 0] 91)).heap.size:=by simp
 clear hR hs;go_enter Tryz.func41,Tryz.ntmps41;go_upto_region 1 with fail;obtain⟨W,hW⟩:=ez ((w.alloc (.cells #[Aa Ab a,Aa Ab b] 35)).alloc (.cells #[Aa Ab 0,Aa Ac 0] 91));rw[←hW]at n1 n2 hb1 hz1⊢;obtain⟨N,hN⟩:=ez w.heap.size;rw[←hN]at n1 n2 hz1⊢;have HNN:=Ae hN;have N2:=Ae n2;obtain⟨⟨x0,x1⟩,_⟩:=Cu n1;clear hW n1 n2 hN;go_wp2_with fail;refine(Ea a b i e _ HS.out he (hQ.below hb1)).mono ?_;rintro e' w2 ⟨rfl,hb2⟩;have hb2':Below w.heap.size w w2:=hb1.trans (hb2.mono hb1.size);have M2:=Ae (kept hb2 N2.out hz1);obtain⟨⟨r0,r1⟩,z0,z1⟩:=Cu M2.out;obtain⟨⟨id,ie⟩,hid⟩:=ey (nbI a b i e);rw[hid];unfold Ug;dsimp only;have HID:=Ae hid;have h9:=HNN.out;clear x0 x1 hb2 N2 hid;by_cases hne:ie=0
 ·subst hne;by_cases hmi:id<i
  ·have hfin:R=(id,e,0):=by rw[←HR.out];unfold Fz;rw[HID.out,if_pos rfl,Int.min_eq_right (by omega)]
   have HF:=Ae hfin;clear hfin h9;go_wp2_with fail;refine Af (v:=Nl (id,e,0)) (by simp[results,Tryz.results41,go_sem,r0,r1,Nl]) rfl ⟨by rw[HF.out],?_⟩;have h9:=HNN.out;exact(hb2'.setCell (by simp;omega) _).setCell (by simp;omega) _
  ·have hfin:R=(i,e,0):=by rw[←HR.out];unfold Fz;rw[HID.out,if_pos rfl,Int.min_eq_left (by omega)]
   have HF:=Ae hfin;clear hfin h9;go_wp2_with fail;refine Af (v:=Nl (i,e,0)) (by simp[results,Tryz.results41,go_sem,r0,r1,Nl]) rfl ⟨by rw[HF.out],?_⟩;have h9:=HNN.out;exact(hb2'.setCell (by simp;omega) _).setCell (by simp;omega) _
 ·have hfin:R=(0,0,ie):=by rw[←HR.out];unfold Fz;rw[HID.out,if_neg hne]
  have hb:(ie != 0)=true:=by simpa using hne
  have HF:=Ae hfin;clear hfin h9 hne;go_wp2_with fail;refine Af (v:=Nl (0,0,ie)) (by simp[results,Tryz.results41,go_sem,r0,r1,Nl]) rfl ⟨by rw[HF.out],?_⟩;have h9:=HNN.out;exact(hb2'.setCell (by simp;omega) _).setCell (by simp;omega) _
structure Cr where
 c:Int
 e:Int
 k:Int
def Cr.cells (r:Cr):List Ah:=[Aa Ab r.c,Aa Ac r.e,Aa Ac r.k]
def crs (l:List Cr):List Ah:=l.flatMap Cr.cells
theorem Xp (r:Cr):r.cells.length=3:=rfl
theorem vV (l:List Cr):(crs l).length=l.length*3:=Dl _ 3 Xp l
theorem iN (l:List Cr):∀u∈crs l,u.oneCell'=true:=by
 intro u hu;obtain⟨r,_,hr⟩:=List.mem_flatMap.1 hu;simp only[Cr.cells,Bh,List.not_mem_nil,or_false]at hr;rcases hr with h|h|h<;>subst h<;>rfl
theorem Qv {w:Ag} {A:Option Addr} {l:List Cr} (h:Rd w A 3 l.length (crs l)) (i:Nat) (hi:i<l.length):
  ∃b o,A=some ⟨b,o,none⟩∧b<w.heap.size∧w.cell? ⟨b,o+i*3,none⟩=some (Aa Ab l[i].c)∧w.cell? ⟨b,o+i*3+1,none⟩=some (Aa Ac l[i].e)∧w.cell? ⟨b,o+i*3+2,none⟩=some (Aa Ac l[i].k):=by
 obtain⟨b,o,e,hb,hc⟩:=h.2 (by omega);refine⟨b,o,e,hb,?_,?_,?_⟩
 ·exact hc (i*3+0) _ ((Dc _ 3 Xp l i 0 hi (by omega)).trans rfl)
 ·exact hc (i*3+1) _ ((Dc _ 3 Xp l i 1 hi (by omega)).trans rfl)
 ·exact hc (i*3+2) _ ((Dc _ 3 Xp l i 2 hi (by omega)).trans rfl)
def Eh (c e c' e':Int):Int:=if c=c' then e-e' else c-c'
def Cr.fit (r:Cr):Prop:=(0≤r.c∧r.c≤1024)∧(0≤r.e∧r.e≤255)∧(0≤r.k∧r.k≤255)
theorem Rc (c e k:Int) (w:Ag):
  Ai Tryz.prog 42 #[.agg #[Aa Ab c,Aa Ac e,Aa Ac k]] w (Cg (.agg #[Aa Ab c,Aa Ac e]) w):=by
 go_enter Tryz.func42,Tryz.ntmps42;go_wp2_with fail;refine Af (v:= .agg #[Aa Ab c,Aa Ac e]) (by simp[results,Tryz.results42,go_sem]) rfl ⟨rfl,?_⟩
 repeat' (first|exact Below.refl _ _|refine Below.drew ?_|refine Below.setCell ?_ (by simp) _|refine Below.alloc ?_ (by simp) _)
theorem Wt (c e c' e':Int) (w:Ag) (hc:0≤c∧c≤1024) (hc':0≤c'∧c'≤1024) (he:0≤e∧e≤255) (he':0≤e'∧e'≤255):
  Ai Tryz.prog 43 #[.agg #[Aa Ab c,Aa Ac e],.agg #[Aa Ab c',Aa Ac e']] w (Cg (Aa Ab (Eh c e c' e')) w):=by
 obtain⟨h1,h2⟩:=hc;obtain⟨h3,h4⟩:=hc';obtain⟨h5,h6⟩:=he;obtain⟨h7,h8⟩:=he';obtain⟨R,hR⟩:=ey (Eh c e c' e');rw[hR];have HR:=Ae hR;clear hR;by_cases hcc:c=c'
 ·have hb:(c != c')=false:=by simpa using hcc
  have HCC:=Ae hcc;clear hcc;have k1:IntKind.i64.wrap e=e:=Bu _ (by omega);have k2:IntKind.i64.wrap e'=e':=Bu _ (by omega);go_enter Tryz.func43,Tryz.ntmps43;go_wp2_with fail;go_ret;exact⟨Dm (by rw[←HR.out];unfold Eh;rw[if_pos HCC.out]),((Below.refl _ _).alloc (Aj _) _).alloc (by simp) _⟩
 ·have hb:(c != c')=true:=by simpa using hcc
  have HCC:=Ae hcc;clear hcc;go_enter Tryz.func43,Tryz.ntmps43;go_wp2_with fail;go_ret;exact⟨Dm (by rw[←HR.out];unfold Eh;rw[if_neg HCC.out]),((Below.refl _ _).alloc (Aj _) _).alloc (by simp) _⟩
def isK (k:Int):Bool:=decide (1≤k)&&decide (k≤3)
theorem eJ (k:Int) (w:Ag):Ai Tryz.prog 40 #[Aa Ac k] w fun e w'=>e= .returned (.bool (isK k))∧w=w':=by
 obtain⟨R,hR⟩:=ey (isK k);rw[hR];have HR:=Ae hR;clear hR;go_enter Tryz.func40,Tryz.ntmps40;go_wp2_with fail
 all_goals go_ret
 ·exact⟨Kn (by rw[←HR.out];unfold isK;rw[decide_eq_true (show 1≤k by omega),Bool.true_and]),rfl⟩
 ·exact⟨Kn (by rw[←HR.out];unfold isK;rw[decide_eq_false (show¬1≤k by omega),Bool.false_and]),rfl⟩
theorem Zc (r:Cr) (w:Ag):Ai Tryz.prog 39 #[.agg #[Aa Ab r.c,Aa Ac r.e,Aa Ac r.k]] w (Cg (.bool (!isK r.k)) w):=by
 obtain⟨R,hR⟩:=ey (isK r.k);rw[hR];have HR:=Ae hR;clear hR;go_enter Tryz.func39,Tryz.ntmps39;go_wp2_with fail;refine(eJ r.k _).mono ?_;rintro e w2 ⟨rfl,rfl⟩;rw[HR.out]
 cases R
 ·go_wp2_with fail;go_ret;exact⟨rfl,(Below.refl _ _).alloc (Aj _) _⟩
 ·go_wp2_with fail;go_ret;exact⟨rfl,(Below.refl _ _).alloc (Aj _) _⟩
theorem aF (A:Option Addr) (l:List Cr) (n c:Nat) (w:Ag) (hn:n=l.length) (h:Rd w A 3 n (crs l)) (hk:∀r∈l,isK r.k=true) (hl:n≤1000000):
  Ai Tryz.prog 38 #[Ad A n c,.func (.func 39) #[] #[]] w (Cg (.bool false) w):=by
 have hix:Ai Tryz.prog 74 #[Ad A n c,.func (.func 39) #[] #[]] w (Cg (Aa Ab (-1)) w):=by
  subst hn;go_enter Tryz.func74,Tryz.ntmps74;go_wp2_with fail
  go_loopw [5,8] (fun _ i wr=>∃k:Nat,k≤l.length∧i= Aa Ab k∧Below w.heap.size w wr) (fun _ i _=>l.length-(intOf i).toNat)
  case atStart=>exact⟨0,by omega,rfl,Below.refl _ _⟩
  case round=>
   obtain⟨k,hk',rfl,hbr⟩:=hrel;by_cases hlt:k<l.length
   ·obtain⟨b,o,rfl,hbl,c0,c1,c2⟩:=Qv (h.below hbr) k hlt;have hkk:=hk l[k] (Au _);obtain⟨r,hr⟩:=ey (l[k]);rw[hr]at c0 c1 c2 hkk;have HKK:=Ae hkk;clear hr hkk;go_wp2_with fail;refine(Zc r _).mono ?_;rintro e w2 ⟨rfl,hb2⟩;rw[HKK.out];have hb2':Below w.heap.size w w2:=hbr.trans (hb2.mono hbr.size);go_wp2_with fail
    go_roundw
    case rel=>exact⟨k+1,by omega,by go_num,hb2'⟩
    case measure=>simp[intOf];omega
   ·go_wp2_with fail;go_ret;exact⟨rfl,hbr⟩
 have HIX:=Ae hix;clear hix hn h hk;go_enter Tryz.func38,Tryz.ntmps38;go_wp2_with fail;refine HIX.out.mono ?_;rintro e w2 ⟨rfl,hb2⟩;go_wp2_with fail;go_ret;exact⟨rfl,hb2⟩
structure Fy (a b:Int) (l:List Cr):Prop where
 sheet:okS a b=true
 kind:∀r∈l,isK r.k=true
 name:∀r∈l,Fz a b r.c r.e=(r.c,r.e,0)
 fit:∀r∈l,r.fit
 asc:l.Pairwise fun r q=>Eh r.c r.e q.c q.e<0
 len:l.length≤1000000
theorem Wx (a b:Int) (A:Option Addr) (l:List Cr) (n c:Nat) (w:Ag) (hn:n=l.length) (h:Rd w A 3 n (crs l)) (hp:Fy a b l) (hQ:Qt w):
  Ai Tryz.prog 16 #[.agg #[Aa Ab a,Aa Ab b,Ad A n c]] w (Cg (Aa Ab 0) w):=by
 have HN:=Ae hn;have HRD:=Ae h;have HP:=Ae hp;have hlen:n≤1000000:=by have:=hp.len;omega
 have hn1:(w.alloc (.cells #[Aa Ab a,Aa Ab b,Ad A n c] 38)).heap[w.heap.size]? =some (.cells #[Aa Ab a,Aa Ab b,Ad A n c] 38 (0,0)):=Bt w _;have hb1:Below w.heap.size w (w.alloc (.cells #[Aa Ab a,Aa Ab b,Ad A n c] 38)):=(Below.refl _ _).alloc (Aj _) _;have hz1:w.heap.size<(w.alloc (.cells #[Aa Ab a,Aa Ab b,Ad A n c] 38)).heap.size:=by simp
 clear hn h hp;go_enter Tryz.func16,Tryz.ntmps16;go_upto_region 1 with fail;obtain⟨W,hW⟩:=ez (w.alloc (.cells #[Aa Ab a,Aa Ab b,Ad A n c] 38));rw[←hW]at hn1 hb1 hz1⊢;obtain⟨N,hN⟩:=ez w.heap.size;rw[←hN]at hn1 hz1⊢;have N1:=Ae hn1;obtain⟨⟨x0,x1,x2⟩,_⟩:=Ci hn1;clear hW hn1 hN;go_wp2_with fail;refine(Ev a b _).mono ?_;rintro e w2 ⟨rfl,hb2⟩;rw[HP.out.sheet,Fo];have hb2':Below w.heap.size w w2:=hb1.trans (hb2.mono hb1.size);have M1:=Ae (kept hb2 N1.out hz1);obtain⟨⟨y0,y1,y2⟩,_⟩:=Ci M1.out;have hz2:N<w2.heap.size:=Bm hz1 hb2.size;clear x0 x1 x2 hb2 N1;go_wp2_with fail;refine(aF A l n c _ HN.out (HRD.out.below hb2') HP.out.kind hlen).mono ?_;rintro e w3 ⟨rfl,hb3⟩;have hb3':Below w.heap.size w w3:=hb2'.trans (hb3.mono hb2'.size);have P1:=Ae (kept hb3 M1.out hz2);obtain⟨⟨z0,z1,z2⟩,_⟩:=Ci P1.out;have hz3:N<w3.heap.size:=Bm hz2 hb3.size;clear y0 y1 y2 hb3 M1;go_wp2_with fail
 go_loopw [5,6,7,21] (fun _ _ _ i wr=>∃k:Nat,k≤n∧i= Aa Ab k∧wr.heap[N]? =some (.cells #[Aa Ab a,Aa Ab b,Ad A n c] 38 (0,0))∧N<wr.heap.size∧Below w.heap.size w wr) (fun _ _ _ i _=>n-(intOf i).toNat)
 case atStart=>exact⟨0,by omega,rfl,P1.out,hz3,hb3'⟩
 case round=>
  obtain⟨k,hk,rfl,hbk,hNr,hbr⟩:=hrel;have HBK:=Ae hbk;obtain⟨⟨g0,g1,g2⟩,_⟩:=Ci hbk;have hsr:=hbr.size;clear z0 z1 z2 hbk;by_cases hlt:k<n
  ·have hkl:k<l.length:=by have:=HN.out;omega
   have hrd:=HRD.out.below hbr;rw[HN.out]at hrd;obtain⟨bb,o,rfl,hbl,c0,c1,c2⟩:=Qv hrd k hkl;have hnm:=HP.out.name l[k] (Au _);have hft:=HP.out.fit l[k] (Au _);obtain⟨r,hr⟩:=ey (l[k]);rw[hr]at c0 c1 c2 hnm hft;have HNM:=Ae hnm;have he0:0≤r.e:=hft.2.1.1;clear hr hnm hrd hft;have q1:(k:Int)<(n:Int):=by omega
   go_wp2_with fail;have hQ2:=hQ.below (hbr.alloc hsr (.cells #[Aa Ab r.c,Aa Ac r.e,Aa Ac r.k] 89));refine(Qn a b r.c r.e _ HP.out.sheet he0 hQ2).mono ?_;rintro e w4 ⟨rfl,hb4⟩;rw[HNM.out];unfold Nl;dsimp only;have hs4:=hb4.size;simp only[World.size_alloc]at hs4;have hb4':Below w.heap.size w w4:=(hbr.alloc hsr _).trans (hb4.mono (by simp;omega));have m1:w4.heap[wr.heap.size]? =some (.cells #[Aa Ab r.c,Aa Ac r.e,Aa Ac r.k] 89 (0,0)):=kept hb4 (Bt wr _) (by simp);have m2:w4.heap[N]? =some (.cells #[Aa Ab a,Aa Ab b,Ad (some ⟨bb,o,none⟩) n c] 38 (0,0)):=kept hb4 ((Below.heap_alloc _ _ _ hNr).trans HBK.out) (by simp;omega);have k1:(w4.alloc (.cells #[Aa Ab r.c,Aa Ac r.e] 91)).heap[wr.heap.size]? =some (.cells #[Aa Ab r.c,Aa Ac r.e,Aa Ac r.k] 89 (0,0)):=(Below.heap_alloc _ _ _ (by omega)).trans m1;have k2:(w4.alloc (.cells #[Aa Ab r.c,Aa Ac r.e] 91)).heap[w4.heap.size]? =some (.cells #[Aa Ab r.c,Aa Ac r.e] 91 (0,0)):=Bt _ _;have k3:(w4.alloc (.cells #[Aa Ab r.c,Aa Ac r.e] 91)).heap[N]? =some (.cells #[Aa Ab a,Aa Ab b,Ad (some ⟨bb,o,none⟩) n c] 38 (0,0)):=(Below.heap_alloc _ _ _ (by omega)).trans m2;have hb5:Below w.heap.size w (w4.alloc (.cells #[Aa Ab r.c,Aa Ac r.e] 91)):=hb4'.alloc hb4'.size _;have hN5:N<(w4.alloc (.cells #[Aa Ab r.c,Aa Ac r.e] 91)).heap.size:=by simp;omega
   go_upto_region 10 with fail;obtain⟨V,hV⟩:=ez (w4.alloc (.cells #[Aa Ab r.c,Aa Ac r.e] 91));rw[←hV]at k1 k2 k3 hb5 hN5⊢;obtain⟨p1,hp1⟩:=ez wr.heap.size;obtain⟨p2,hp2⟩:=ez w4.heap.size;rw[←hp1]at k1⊢;rw[←hp2]at k2⊢;obtain⟨⟨f0,f1,f2⟩,_⟩:=Ci k1;obtain⟨⟨u0,u1⟩,_⟩:=Cu k2;have K3:=Ae k3;clear hV hp1 hp2 k1 k2 k3 m1 m2 c0 c1 c2 g0 g1 g2 hb4 hb4'
   go_region_held3 (fun w'=>w'.cell? ⟨p2,0,none⟩=some (Aa Ab r.c)∧w'.cell? ⟨p2,1,none⟩=some (Aa Ac r.e)∧w'.cell? ⟨p1,0,none⟩=some (Aa Ab r.c)∧w'.cell? ⟨p1,1,none⟩=some (Aa Ac r.e)∧w'.cell? ⟨p1,2,none⟩=some (Aa Ac r.k))
    (first|exact⟨u0,u1,f0,f1,f2⟩|exact⟨Ce (Cm hb6) u0,Ce (Cm hb6) u1,Ce (Cm hb6) f0,Ce (Cm hb6) f1,Ce (Cm hb6) f2⟩|go_keep)
    (first|(go_at_call 42;(with_reducible refine(Rc _ _ _ _).mono ?_);rintro e w6 ⟨rfl,hb6⟩)|fail)
   have hb7:=Cm hb6;have K6:=Ae (kept hb7 K3.out hN5);have hb6':Below w.heap.size w w6:=hb5.trans (hb7.mono hb5.size);have hN6:N<w6.heap.size:=Bm hN5 hb7.size;clear u0 u1 f0 f1 f2 hb6 hb7;go_wp2_with fail
   go_roundw
   case rel=>exact⟨k+1,by omega,by go_num,K6.out,hN6,hb6'⟩
   case measure=>simp[intOf];omega
  ·have q1:¬(k:Int)<(n:Int):=by omega
   clear hlt;go_wp2_with fail;obtain⟨wo,rfl⟩:∃wo:Ag,wo=wr:=⟨_,rfl⟩
   go_loopw [8] (fun s8 wr=>∃i:Nat,1≤i∧(i≤n∨i=1)∧s8= Aa Ab i∧wr.heap[N]? =some (.cells #[Aa Ab a,Aa Ab b,Ad A n c] 38 (0,0))∧N<wr.heap.size∧Below w.heap.size w wr) (fun s8 _=>n+1-(intOf s8).toNat)
   case atStart=>exact⟨1,by omega,by omega,rfl,HBK.out,hNr,hbr⟩
   case round=>
    obtain⟨i,hi1,hi2,rfl,hbk2,hNr2,hbr2⟩:=hrel;have HBK2:=Ae hbk2;obtain⟨⟨d0,d1,d2⟩,_⟩:=Ci hbk2;clear g0 g1 g2 hbk2;by_cases hlt:i<n
    ·obtain⟨p,hp⟩:∃p,i=p+1:=⟨i-1,by omega⟩;have hil:i<l.length:=by have:=HN.out;omega
     have hpl:p<l.length:=by omega
     have hrd:=HRD.out.below hbr2;have hlenE:=HN.out;rw[hlenE]at hrd;obtain⟨bb,o,hA,hbl,c0,c1,c2⟩:=Qv hrd i hil;obtain⟨bb',o',hA',_,e0,e1,e2⟩:=Qv hrd p hpl;obtain⟨rfl,rfl⟩:bb=bb'∧o=o':=by rw[hA]at hA';simpa using hA'
     have hft:=HP.out.fit l[i] (Au _);have hft':=HP.out.fit l[p] (Au _);have hord:=List.pairwise_iff_getElem.1 HP.out.asc p i hpl hil (by omega);obtain⟨x,hx⟩:=ey (l[i]);obtain⟨y,hy⟩:=ey (l[p]);rw[hx]at c0 c1 c2 hft hord;rw[hy]at e0 e1 e2 hft' hord;obtain⟨O,hO⟩:=ey (Eh y.c y.e x.c x.e);rw[hO]at hord;have HOO:=Ae hO;have hf1:=hft.1;have hf2:=hft.2.1;have hf3:=hft'.1;have hf4:=hft'.2.1;have HPP:=Ae hp;have w1:(i:Int)<(n:Int):=by omega
     have w2':IntKind.i64.wrap ((i:Int)-1)=(p:Int):=by rw[Bu _ (by omega)];omega
     have w3':(p:Int)<(n:Int):=by omega
     have w4':(0:Int)≤(p:Int):=by omega
     have w5:(0:Int)≤(i:Int):=by omega
     have hdo:decide (0≤O)=false:=by simp;omega
     clear hrd hlenE hA' hx hy hO hp hft hft';subst hA;go_wp2_with fail
     go_region_held3 (fun w'=>w'.cell? ⟨N,2,none⟩=some (Ad (some ⟨bb,o,none⟩) n c)∧w'.cell? ⟨bb,o+i*3,none⟩=some (Aa Ab x.c)∧w'.cell? ⟨bb,o+i*3+1,none⟩=some (Aa Ac x.e)∧w'.cell? ⟨bb,o+i*3+2,none⟩=some (Aa Ac x.k)∧w'.cell? ⟨bb,o+p*3,none⟩=some (Aa Ab y.c)∧w'.cell? ⟨bb,o+p*3+1,none⟩=some (Aa Ac y.e)∧w'.cell? ⟨bb,o+p*3+2,none⟩=some (Aa Ac y.k))
      (first|exact⟨d2,c0,c1,c2,e0,e1,e2⟩|go_keep)
      (first
       |(go_at_call 42;(with_reducible refine(Rc _ _ _ _).mono ?_);rintro e w6 ⟨rfl,hb6⟩;have hbr2:=hbr2.trans ((Cm hb6).mono hbr2.size);have HBK2:=Ae (kept (Cm hb6) HBK2.out hNr2);have hNr2:=Bm hNr2 (Cm hb6).size;have d2:=Ce (Cm hb6) d2;have c0:=Ce (Cm hb6) c0;have c1:=Ce (Cm hb6) c1;have c2:=Ce (Cm hb6) c2;have e0:=Ce (Cm hb6) e0;have e1:=Ce (Cm hb6) e1;have e2:=Ce (Cm hb6) e2)
       |(go_at_call 42;(with_reducible refine(Rc _ _ _ _).mono ?_);rintro e w6 ⟨rfl,hb6⟩;have hbr2:=hbr2.trans (hb6.mono hbr2.size);have HBK2:=Ae (kept hb6 HBK2.out hNr2);have hNr2:=Bm hNr2 hb6.size;have d2:=Ce hb6 d2;have c0:=Ce hb6 c0;have c1:=Ce hb6 c1;have c2:=Ce hb6 c2;have e0:=Ce hb6 e0;have e1:=Ce hb6 e1;have e2:=Ce hb6 e2)
       |(go_at_call 43;(with_reducible refine(Wt y.c y.e x.c x.e _ hf3 hf1 hf4 hf2).mono ?_);rintro e w6 ⟨rfl,hb6⟩;rw[HOO.out];have hbr2:=hbr2.trans (hb6.mono hbr2.size);have HBK2:=Ae (kept hb6 HBK2.out hNr2);have hNr2:=Bm hNr2 hb6.size;have d2:=Ce hb6 d2;have c0:=Ce hb6 c0;have c1:=Ce hb6 c1;have c2:=Ce hb6 c2;have e0:=Ce hb6 e0;have e1:=Ce hb6 e1;have e2:=Ce hb6 e2)
       |fail)
     all_goals
      go_wp2_with fail
      go_roundw
      case rel=>exact⟨i+1,by omega,by omega,by go_num,HBK2.out,hNr2,hbr2⟩
      case measure=>simp[intOf];omega
    ·have q2:¬(i:Int)<(n:Int):=by omega
     go_wp2_with fail;go_ret;exact⟨rfl,hbr2⟩
end Go.Proofs.YteoffhpfcgffcaaGreatDoor
namespace Go.Proofs.YteoffhpfcgffcaaGreatDoor
def Da (a:Int) (i:Nat):Cl:=⟨(i:Int)/4%a,(i:Int)/4/a,i%4⟩
def aB (l:List Cr) (c e:Int):Bool:=l.any fun r=>decide (r.c=c)&&decide (r.e=e)
def rG (a b c e:Int):(Int×Int)×Int:=if Fz a b c e=(c,e,0)then Kt (Da a c.toNat) e.toNat else ((0,0),7)
def Na (l:Int×Int):Mv×Int:=if okL l.1 l.2 then (ofL l.1 l.2,0)else (mv0,1)
def Fq (a b:Mv):Mv×Int:=if a.ok&&b.ok then Ni a b else (mv0,1)
def Ku (m:Mv) (c:Cl):Cl×Int:=if m.ok&&c.ok then Gh m c else (cl0,1)
def Jq (a b:Int) (l:List Cr) (out:List Mv) (id e:Nat):Mv:=
 if aB l (Fz a b id e).1 (Fz a b id e).2.1 then (Fq (Na (rG a b (Fz a b id e).1 (Fz a b id e).2.1).1).1 (out.getD id mv0)).1 else out.getD id mv0
structure RS where
 out:List Mv
 known:List Bool
 wait:List Nat
def Jr (a b:Int) (l:List Cr) (id e:Nat) (s:RS):Option RS:=
 if(nbI a b id e).2≠0 then some s
 else
  let n:=(nbI a b id e).1.toNat
  let m:=Jq a b l s.out id e
  let s':RS:=if s.known.getD n false then s else⟨s.out.set n m,s.known.set n true,s.wait++[n]⟩
  if s'.out.getD n mv0=m then some s' else none
def Oe (a b:Int) (l:List Cr) (id:Nat) (s:RS):Option RS:=(Jr a b l id 0 s).bind fun s=>(Jr a b l id 1 s).bind fun s=>Jr a b l id 2 s
def Ow (a b:Int) (l:List Cr):Nat→RS→Option (List Mv)
 |0,s=>some s.out
 |f+1,s=>match s.wait with
  |[]=>some s.out
  |id::r=>(Oe a b l id ⟨s.out,s.known,r⟩).bind (Ow a b l f)
def Cq (a b:Int):Nat:=(4*a*b).toNat
def Qw (a b:Int) (l:List Cr):Option (List Mv):=Ow a b l (Cq a b+1) ⟨Aw (Cq a b) mv0,true::Aw (Cq a b-1) false,[0]⟩
def Gd (a:Int) (root:Mv) (l:List Mv) (i:Nat):Int:=if(Fq (l.getD i mv0) root).2≠0 then (Fq (l.getD i mv0) root).2 else (Ku (Fq (l.getD i mv0) root).1 (Da a i)).2
def Dd (a b:Int) (l:List Cr) (root:Mv):(List Mv×List Cl)×Int:=
 if root.ok=false then (([],[]),1)
 else match Qw a b l with
  |none=>(([],[]),11)
  |some m=>match(List.range m.length).find? fun i=>Gd a root m i≠0 with
   |some i=>(([],[]),Gd a root m i)
   |none=>((m.map fun x=>(Fq x root).1,(List.range m.length).map fun i=>(Ku (Fq (m.getD i mv0) root).1 (Da a i)).1),0)
def Ld (m:Mv):Bool:=m.ok&&decide (4≤m.t)
def upF (a b:Int) (l:List Cr) (root:Mv):List Bool×Int:=
 if(Dd a b l root).2≠0 then ([],(Dd a b l root).2)else ((Dd a b l root).1.1.map fun m=> !Ld m,0)
structure Stk where
 c:Cl
 ls:List Nat
def Fh (n:Nat) (l:List Stk) (i:Nat):Bool:=match l[i]? with
 |none=>false
 |some x=> !x.c.ok||(match i with|0=>false|j+1=>match l[j]? with|none=>false|some y=>decide (0≤Fg y.c x.c))||x.ls.isEmpty||x.ls.any fun id=>decide (n≤id)
def Dv (l:List Stk):List Nat:=l.flatMap (·.ls)
def chkS (n:Nat) (l:List Stk):Int:=
 if(List.range l.length).any (Fh n l)then 1 else if¬(Dv l).Nodup then 8 else if(Dv l).length<n then 6 else 0
end Go.Proofs.YteoffhpfcgffcaaGreatDoor
namespace Go.Proofs.YteoffhpfcgffcaaGreatDoor
open Go.RowKit
def mvR (r:Mv×Int):Ah:= .tuple #[r.1.v,Aa Ab r.2]
theorem aJ (t:Nat) (x y:Int) (w:Ag) (ht:t≤255):Ai Tryz.prog 97 #[.agg #[Aa Ac t,Aa Ab x,Aa Ab y]] w (Cg (mvR (aI ⟨t,x,y⟩)) w):=by
 obtain⟨R,hR⟩:=ey (aI ⟨t,x,y⟩);rw[hR];have HR:=Ae hR;have HC:=Ae (show 0≤(t:Int)∧(t:Int)≤255 by omega);have H:=((Bx.start w).new #[Aa Ac t,Aa Ab x,Aa Ab y] 40 rfl).new #[Aa Ac 0,Aa Ab 0,Aa Ab 0] 40 (N:=w.heap.size+1) (by simp);clear hR;go_enter Tryz.func97,Tryz.ntmps97;go_upto_region 1 with fail;obtain⟨W,hW⟩:=ez ((w.alloc (.cells #[Aa Ac t,Aa Ab x,Aa Ab y] 40)).alloc (.cells #[Aa Ac 0,Aa Ab 0,Aa Ab 0] 40));rw[←hW]at H⊢;obtain⟨N,hN⟩:=ez w.heap.size;rw[←hN]at H⊢;clear hW hN;obtain⟨⟨a0,a1,a2⟩,_⟩:=Ci (H.blk 0 _ _ _ rfl);go_wp2_with fail;refine(Eg t x y _ HC.out).mono ?_;rintro e w2 ⟨rfl,hb⟩;have H2:=H.call hb;obtain⟨⟨b0,b1,b2⟩,_⟩:=Ci (H2.blk 0 _ _ _ rfl);obtain⟨⟨c0,c1,c2⟩,d0,d1,d2⟩:=Ci (H2.blk 1 _ _ _ rfl);clear a0 a1 a2 hb H
 cases hk:okM t x y
 ·have hfin:R=(mv0,3):=by rw[←HR.out];unfold aI Mv.ok;rw[hk];rfl
  rw[Ji];clear hk;go_wp2_with fail;have H3:=((H2.set 1 0 rfl (Aa Ac 0)).set 1 1 rfl (Aa Ab 0)).set 1 2 rfl (Aa Ab 0);exact Af (Cj rfl rfl (H3.range 1 rfl) Tryz.underlying40 rfl (by kernel_rfl)) rfl ⟨by rw[hfin];rfl,H3.below⟩
 ·have hfin:R=(⟨t,x,y⟩,0):=by rw[←HR.out];unfold aI Mv.ok;rw[hk];rfl
  rw[Fo];clear hk;go_wp2_with fail;have H3:=((H2.set 1 0 rfl (Aa Ac t)).set 1 1 rfl (Aa Ab x)).set 1 2 rfl (Aa Ab y);exact Af (Cj rfl rfl (H3.range 1 rfl) Tryz.underlying40 rfl (by kernel_rfl)) rfl ⟨by rw[hfin];rfl,H3.below⟩
theorem kR (m:Mv) (w:Ag) (ht:m.t≤255):Ai Tryz.prog 100 #[.agg #[Aa Ac m.t,Aa Ab m.x,Aa Ab m.y]] w (Cg (.bool (Ld m)) w):=by
 obtain⟨R,hR⟩:=ey (Ld m);rw[hR];have HR:=Ae hR;obtain⟨t,x,y⟩:=m;dsimp only at ht⊢;have HC:=Ae (show 0≤(t:Int)∧(t:Int)≤255 by omega);have H:=(Bx.start w).new #[Aa Ac t,Aa Ab x,Aa Ab y] 40 rfl;clear hR;go_enter Tryz.func100,Tryz.ntmps100;go_upto_region 1 with fail;obtain⟨W,hW⟩:=ez (w.alloc (.cells #[Aa Ac t,Aa Ab x,Aa Ab y] 40));rw[←hW]at H⊢;obtain⟨N,hN⟩:=ez w.heap.size;rw[←hN]at H⊢;clear hW hN;obtain⟨⟨a0,a1,a2⟩,_⟩:=Ci (H.blk 0 _ _ _ rfl);go_wp2_with fail;refine(Eg t x y _ HC.out).mono ?_;rintro e w2 ⟨rfl,hb⟩;have H2:=H.call hb;obtain⟨⟨b0,b1,b2⟩,_⟩:=Ci (H2.blk 0 _ _ _ rfl);clear a0 a1 a2 hb H
 cases hk:okM t x y
 ·have hfin:R=false:=by rw[←HR.out];unfold Ld Mv.ok;rw[hk];rfl
  rw[Ji];clear hk;go_wp2_with fail;go_ret;exact⟨by subst hfin;first|rfl|simp,H2.below⟩
 ·have hfin:R=decide (4≤t):=by rw[←HR.out];unfold Ld Mv.ok;rw[hk];rfl
  have HF:=Ae hfin;rw[Fo];clear hk hfin;by_cases h4:4≤t
  ·have h4':(4:Int)≤t:=by omega
   go_wp2_with fail;go_ret;exact⟨Kn (by rw[HF.out,decide_eq_true h4];first|done|(simp;done)|(simp;omega)),H2.below⟩
  ·have h4':¬(4:Int)≤t:=by omega
   go_wp2_with fail;go_ret;exact⟨Kn (by rw[HF.out,decide_eq_false h4];first|done|(simp;done)|(simp;omega)),H2.below⟩
theorem aM (s t:Nat) (hs:s<8) (ht:t<8):Ro (Iy (mat s) (mat t))<8∧Iy (mat s) (mat t)=mat (Ro (Iy (mat s) (mat t))):=by
 have:∀s<8,∀t<8,Ro (Iy (mat s) (mat t))<8∧Iy (mat s) (mat t)=mat (Ro (Iy (mat s) (mat t))):=by decide
 exact this s hs t ht
theorem Mv.ok_iff {m:Mv}:m.ok=true↔m.t<8∧(-16384≤m.x∧m.x≤16384)∧(-16384≤m.y∧m.y≤16384)∧(m.x+m.y)%2=0:=by
 unfold Mv.ok;rw[Mf];omega
theorem To {w:Ag} {P b o j:Nat} {v x:Ah} (hne:b≠P) (h:w.cell? ⟨b,o,none⟩=some v):(w.setCell ⟨P,j,none⟩ x).cell? ⟨b,o,none⟩=some v:=by
 rw[World.cell?_setCell_other _ _ _ _ (by simp)];exact h
theorem Du {w:Ag} {P b o i j k:Nat} {v x y z:Ah} (hne:b≠P) (h:w.cell? ⟨b,o,none⟩=some v):(((w.setCell ⟨P,i,none⟩ x).setCell ⟨P,j,none⟩ y).setCell ⟨P,k,none⟩ z).cell? ⟨b,o,none⟩=some v:=
 To hne (To hne (To hne h))
theorem yH (m n:Mv) (w:Ag) (hm:m.ok=true) (hn:n.ok=true) (hT:Tn w):
  Ai Tryz.prog 55 #[.agg #[Aa Ac m.t,Aa Ab m.x,Aa Ab m.y],.agg #[Aa Ac n.t,Aa Ab n.x,Aa Ab n.y]] w (Cg (mvR (Ni m n)) w):=by
 obtain⟨⟨⟨rt,rx,ry⟩,re⟩,hR⟩:∃R,Ni m n=R:=⟨_,rfl⟩;rw[hR];obtain⟨m1,⟨m2,m3⟩,⟨m4,m5⟩,_⟩:=Mv.ok_iff.1 hm;obtain⟨n1,⟨n2,n3⟩,⟨n4,n5⟩,_⟩:=Mv.ok_iff.1 hn;obtain⟨k1,k2⟩:=aM m.t n.t m1 n1;obtain⟨t,x,y⟩:=m;obtain⟨u,p,q⟩:=n;dsimp only at m1 m2 m3 m4 m5 n1 n2 n3 n4 n5 k1 k2⊢;have hOf:=fun w=>Yh u x y w (by omega) (by omega);have hTh:=fun w=>tV t u w;obtain⟨⟨ob1,ob2⟩,ob3,ob4⟩:=Ul u (x:=x) (y:=y) (B:=16384) (by omega) (by omega);unfold Ni at hR;dsimp only at hR;obtain⟨r,hr⟩:=ey (Ro (Iy (mat t) (mat u)));rw[hr]at k1 k2 hR;rw[k2]at hTh;obtain⟨⟨sx,sy⟩,hs⟩:=ey (Gz (mat u) x y);rw[hs]at hOf hR ob1 ob2 ob3 ob4;dsimp only at hOf hR ob1 ob2 ob3 ob4;obtain⟨⟨a1,a2,a3,a4⟩,hat⟩:=ey (mat t);obtain⟨⟨b1,b2,b3,b4⟩,hau⟩:=ey (mat u);have hct:=fun(w':Ag) (h:Tn w')=>h.at' t m1;have hcu:=fun(w':Ag) (h:Tn w')=>h.at' u n1;rw[hat]at hTh hct;rw[hau]at hOf hTh hcu;have hnum:=fun w h=>fG r k1 w h;obtain⟨⟨c1,c2,c3,c4⟩,har⟩:=ey (mat r);rw[har]at hnum;unfold Ah1 at hTh;rw[har]at hTh;dsimp only at hTh hct hcu hOf hnum;have hlim:=fun w=>aJ r (sx+p) (sy+q) w (by omega);rw[hR]at hlim;have e1:okM t x y=true:=hm;have e2:okM u p q=true:=hn;have E1:=Ae e1;have E2:=Ae e2;have HOF:=Ae hOf;have HTH:=Ae hTh;have HCT:=Ae hct;have HCU:=Ae hcu;have HNUM:=Ae hnum;have HLIM:=Ae hlim;have B1:=Ae (show 0≤(t:Int)∧(t:Int)≤255 by omega);have B2:=Ae (show 0≤(u:Int)∧(u:Int)≤255 by omega);have w1:IntKind.i64.wrap (sx+p)=sx+p:=Bu _ (by omega);have w2':IntKind.i64.wrap (sy+q)=sy+q:=Bu _ (by omega);have q1:(t:Int)<8:=by omega
 have q2:(u:Int)<8:=by omega
 have H:=(((Bx.start w).new #[Aa Ac t,Aa Ab x,Aa Ab y] 40 rfl).new #[Aa Ac u,Aa Ab p,Aa Ab q] 40 (N:=w.heap.size+1) (by simp)).new #[Aa Ac 0,Aa Ab 0,Aa Ab 0] 40 (N:=w.heap.size+2) (by simp);have HT:=Ae hT;clear hR hOf hTh hct hcu hnum hlim e1 e2 hm hn hs hr hat hau har k2 hT;go_enter Tryz.func55,Tryz.ntmps55;go_upto_region 1 with fail;obtain⟨W,hW⟩:=ez (((w.alloc (.cells #[Aa Ac t,Aa Ab x,Aa Ab y] 40)).alloc (.cells #[Aa Ac u,Aa Ab p,Aa Ab q] 40)).alloc (.cells #[Aa Ac 0,Aa Ab 0,Aa Ab 0] 40));rw[←hW]at H⊢;obtain⟨N,hN⟩:=ez w.heap.size;rw[←hN]at H⊢;obtain⟨P,hP⟩:=ez (N+2);rw[←hP]at H;rw[show N+1+1=P from hP.symm];have hne1:N≠P:=by omega
 have hne2:N+1≠P:=by omega
 have hne3:0≠P:=by have:=HT.out.lt;omega
 clear hW hN hP;obtain⟨⟨f0,f1,f2⟩,_⟩:=Ci (H.blk 0 _ _ _ rfl);obtain⟨⟨g0,g1,g2⟩,_⟩:=Ci (H.blk 1 _ _ _ rfl);go_wp2_with fail;refine(Eg t x y _ B1.out).mono ?_;rintro e w2 ⟨rfl,hb⟩;rw[E1.out,Fo];have H2:=H.call hb;clear f0 f1 f2 g0 g1 g2 hb H;obtain⟨⟨f0,f1,f2⟩,_⟩:=Ci (H2.blk 0 _ _ _ rfl);obtain⟨⟨g0,g1,g2⟩,_⟩:=Ci (H2.blk 1 _ _ _ rfl);go_wp2_with fail;refine(Eg u p q _ B2.out).mono ?_;rintro e w3 ⟨rfl,hb⟩;rw[E2.out,Fo];have H3:=H2.call hb;clear f0 f1 f2 g0 g1 g2 hb H2;obtain⟨⟨f0,f1,f2⟩,_⟩:=Ci (H3.blk 0 _ _ _ rfl);obtain⟨⟨g0,g1,g2⟩,_⟩:=Ci (H3.blk 1 _ _ _ rfl);have HT3:=HT.out.below H3.below;obtain⟨u0,u1,u2,u3⟩:=HCU.out _ HT3;go_upto_region 3 with fail
 go_region_held3 (fun w'=>w'.cell? ⟨N,1,none⟩=some (Aa Ab x)∧w'.cell? ⟨N,2,none⟩=some (Aa Ab y)∧w'.cell? ⟨N+1,0,none⟩=some (Aa Ac u)∧w'.cell? ⟨0,u*4,none⟩=some (Aa Ab b1)∧w'.cell? ⟨0,u*4+1,none⟩=some (Aa Ab b2)∧w'.cell? ⟨0,u*4+2,none⟩=some (Aa Ab b3)∧w'.cell? ⟨0,u*4+3,none⟩=some (Aa Ab b4))
  (first|exact⟨f1,f2,g0,u0,u1,u2,u3⟩|go_keep)
  (first|(go_at_call 96;(with_reducible refine(HOF.out _).mono ?_);rintro e w4 ⟨rfl,hb4⟩;have H3:=H3.call (Cm hb4);have f1:=Ce (Cm hb4) f1;have f2:=Ce (Cm hb4) f2;have g0:=Ce (Cm hb4) g0;have u0:=Ce (Cm hb4) u0;have u1:=Ce (Cm hb4) u1;have u2:=Ce (Cm hb4) u2;have u3:=Ce (Cm hb4) u3)|fail)
 have HT4:=HT.out.below H3.below;obtain⟨v0,v1,v2,v3⟩:=HCT.out _ HT4;obtain⟨u0,u1,u2,u3⟩:=HCU.out _ HT4;clear f0 f1 f2 g0 g1 g2;obtain⟨⟨f0,f1,f2⟩,_⟩:=Ci (H3.blk 0 _ _ _ rfl);obtain⟨⟨g0,g1,g2⟩,_⟩:=Ci (H3.blk 1 _ _ _ rfl);obtain⟨_,z0,z1,z2⟩:=Ci (H3.blk 2 _ _ _ rfl);clear HT3;go_upto_region 4 with fail
 go_region_held3 (fun w'=>w'.cell? ⟨N,0,none⟩=some (Aa Ac t)∧w'.cell? ⟨N+1,0,none⟩=some (Aa Ac u)∧w'.cell? ⟨N+1,1,none⟩=some (Aa Ab p)∧w'.cell? ⟨N+1,2,none⟩=some (Aa Ab q)∧w'.cell? ⟨0,t*4,none⟩=some (Aa Ab a1)∧w'.cell? ⟨0,t*4+1,none⟩=some (Aa Ab a2)∧w'.cell? ⟨0,t*4+2,none⟩=some (Aa Ab a3)∧w'.cell? ⟨0,t*4+3,none⟩=some (Aa Ab a4)∧w'.cell? ⟨0,u*4,none⟩=some (Aa Ab b1)∧w'.cell? ⟨0,u*4+1,none⟩=some (Aa Ab b2)∧w'.cell? ⟨0,u*4+2,none⟩=some (Aa Ab b3)∧w'.cell? ⟨0,u*4+3,none⟩=some (Aa Ab b4))
  (first|exact⟨f0,g0,g1,g2,v0,v1,v2,v3,u0,u1,u2,u3⟩|exact⟨Du hne1 f0,Du hne2 g0,Du hne2 g1,Du hne2 g2,Du hne3 v0,Du hne3 v1,Du hne3 v2,Du hne3 v3,Du hne3 u0,Du hne3 u1,Du hne3 u2,Du hne3 u3⟩|go_keep)
  (first
   |(go_at_call 99;(with_reducible refine(HTH.out _).mono ?_);rintro e w5 ⟨rfl,hb5⟩;have H3:=H3.call (Cm hb5);have HT4:=HT4.below (Cm hb5);have f0:=Ce (Cm hb5) f0;have g0:=Ce (Cm hb5) g0;have g1:=Ce (Cm hb5) g1;have g2:=Ce (Cm hb5) g2;have v0:=Ce (Cm hb5) v0;have v1:=Ce (Cm hb5) v1;have v2:=Ce (Cm hb5) v2;have v3:=Ce (Cm hb5) v3;have u0:=Ce (Cm hb5) u0;have u1:=Ce (Cm hb5) u1;have u2:=Ce (Cm hb5) u2;have u3:=Ce (Cm hb5) u3)
   |(go_at_call 98;(with_reducible refine(HNUM.out _ HT4).mono ?_);rintro e w6 ⟨rfl,hb6⟩;have H3:=H3.call hb6;have f0:=Ce hb6 f0;have g0:=Ce hb6 g0;have g1:=Ce hb6 g1;have g2:=Ce hb6 g2;have v0:=Ce hb6 v0;have v1:=Ce hb6 v1;have v2:=Ce hb6 v2;have v3:=Ce hb6 v3;have u0:=Ce hb6 u0;have u1:=Ce hb6 u1;have u2:=Ce hb6 u2;have u3:=Ce hb6 u3)
   |(go_at_call 97;(with_reducible refine(HLIM.out _).mono ?_);rintro e w7 ⟨rfl,hb7⟩;unfold mvR Mv.v;dsimp only;have H3:=H3.call hb7;obtain⟨⟨y0,y1,y2⟩,z0,z1,z2⟩:=Ci (H3.blk 2 _ _ _ rfl);have f0:=Ce hb7 f0;have g0:=Ce hb7 g0;have g1:=Ce hb7 g1;have g2:=Ce hb7 g2;have v0:=Ce hb7 v0;have v1:=Ce hb7 v1;have v2:=Ce hb7 v2;have v3:=Ce hb7 v3;have u0:=Ce hb7 u0;have u1:=Ce hb7 u1;have u2:=Ce hb7 u2;have u3:=Ce hb7 u3)
   |fail)
 go_wp2_with fail;have H5:=((H3.set 2 0 rfl (Aa Ac rt)).set 2 1 rfl (Aa Ab rx)).set 2 2 rfl (Aa Ab ry);exact Af (Cj rfl rfl (H5.range 2 rfl) Tryz.underlying40 rfl (by kernel_rfl)) rfl ⟨rfl,H5.below⟩
theorem Pk (k c:Int) (w:Ag) (hk0:0≤k):Ai Tryz.prog 51 #[.agg #[Aa Ac k,Aa Ab c]] w (Cg (mvR (Na (k,c))) w):=by
 obtain⟨R,hR⟩:=ey (Na (k,c));rw[hR];have HR:=Ae hR;have H:=((Bx.start w).new #[Aa Ac k,Aa Ab c] 51 rfl).new #[Aa Ac 0,Aa Ab 0,Aa Ab 0] 40 (N:=w.heap.size+1) (by simp);clear hR;go_enter Tryz.func51,Tryz.ntmps51;go_upto_region 1 with fail;obtain⟨W,hW⟩:=ez ((w.alloc (.cells #[Aa Ac k,Aa Ab c] 51)).alloc (.cells #[Aa Ac 0,Aa Ab 0,Aa Ab 0] 40));rw[←hW]at H⊢;obtain⟨N,hN⟩:=ez w.heap.size;rw[←hN]at H⊢;clear hW hN;obtain⟨⟨a0,a1⟩,_⟩:=Cu (H.blk 0 _ _ _ rfl);go_wp2_with fail;refine(Ee k c _).mono ?_;rintro e w2 ⟨rfl,hb⟩;have H2:=H.call hb;clear a0 a1 hb H;obtain⟨⟨a0,a1⟩,_⟩:=Cu (H2.blk 0 _ _ _ rfl);obtain⟨⟨c0,c1,c2⟩,d0,d1,d2⟩:=Ci (H2.blk 1 _ _ _ rfl)
 cases hL:okL k c
 ·have hfin:R=(mv0,1):=by rw[←HR.out];unfold Na;rw[hL];rfl
  rw[Ji];clear hL;go_wp2_with fail;have H3:=((H2.set 1 0 rfl (Aa Ac 0)).set 1 1 rfl (Aa Ab 0)).set 1 2 rfl (Aa Ab 0);exact Af (Cj rfl rfl (H3.range 1 rfl) Tryz.underlying40 rfl (by kernel_rfl)) rfl ⟨by rw[hfin];rfl,H3.below⟩
 ·obtain⟨l1,l2,l3,l4⟩:=Kv.1 hL;have hfin:R=(ofL k c,0):=by rw[←HR.out];unfold Na;rw[hL];rfl
  have HF:=Ae hfin;rw[Fo];clear hL hfin;have h4:k=1∨k=2∨k=3∨k=4:=by omega
  rcases h4 with rfl|rfl|rfl|rfl
  ·go_wp2_with fail;have H3:=((H2.set 1 0 rfl (Aa Ac 4)).set 1 1 rfl (Aa Ab (2*c))).set 1 2 rfl (Aa Ab 0);exact Af (Cj rfl rfl (H3.range 1 rfl) Tryz.underlying40 rfl (by kernel_rfl)) rfl ⟨by rw[HF.out];rfl,H3.below⟩
  ·go_wp2_with fail;have H3:=((H2.set 1 0 rfl (Aa Ac 6)).set 1 1 rfl (Aa Ab 0)).set 1 2 rfl (Aa Ab (2*c));exact Af (Cj rfl rfl (H3.range 1 rfl) Tryz.underlying40 rfl (by kernel_rfl)) rfl ⟨by rw[HF.out];rfl,H3.below⟩
  ·go_wp2_with fail;have H3:=((H2.set 1 0 rfl (Aa Ac 5)).set 1 1 rfl (Aa Ab c)).set 1 2 rfl (Aa Ab c);exact Af (Cj rfl rfl (H3.range 1 rfl) Tryz.underlying40 rfl (by kernel_rfl)) rfl ⟨by rw[HF.out];rfl,H3.below⟩
  ·have wn:IntKind.i64.wrap (-c)= -c:=Bu _ (by omega);go_wp2_with fail;have H3:=((H2.set 1 0 rfl (Aa Ac 7)).set 1 1 rfl (Aa Ab (-c))).set 1 2 rfl (Aa Ab c);exact Af (Cj rfl rfl (H3.range 1 rfl) Tryz.underlying40 rfl (by kernel_rfl)) rfl ⟨by rw[HF.out];rfl,H3.below⟩
theorem yG (m n:Mv) (w:Ag) (hm:m.t≤255) (hn:n.t≤255) (h:(m.ok&&n.ok)=false):
  Ai Tryz.prog 55 #[.agg #[Aa Ac m.t,Aa Ab m.x,Aa Ab m.y],.agg #[Aa Ac n.t,Aa Ab n.x,Aa Ab n.y]] w (Cg (mvR (mv0,1)) w):=by
 obtain⟨t,x,y⟩:=m;obtain⟨u,p,q⟩:=n;dsimp only at hm hn⊢;unfold Mv.ok at h;dsimp only at h;have HH:=Ae h;have B1:=Ae (show 0≤(t:Int)∧(t:Int)≤255 by omega);have B2:=Ae (show 0≤(u:Int)∧(u:Int)≤255 by omega);have H:=(((Bx.start w).new #[Aa Ac t,Aa Ab x,Aa Ab y] 40 rfl).new #[Aa Ac u,Aa Ab p,Aa Ab q] 40 (N:=w.heap.size+1) (by simp)).new #[Aa Ac 0,Aa Ab 0,Aa Ab 0] 40 (N:=w.heap.size+2) (by simp);clear h;go_enter Tryz.func55,Tryz.ntmps55;go_upto_region 1 with fail;obtain⟨W,hW⟩:=ez (((w.alloc (.cells #[Aa Ac t,Aa Ab x,Aa Ab y] 40)).alloc (.cells #[Aa Ac u,Aa Ab p,Aa Ab q] 40)).alloc (.cells #[Aa Ac 0,Aa Ab 0,Aa Ab 0] 40));rw[←hW]at H⊢;obtain⟨N,hN⟩:=ez w.heap.size;rw[←hN]at H⊢;obtain⟨P,hP⟩:=ez (N+2);rw[←hP]at H;rw[show N+1+1=P from hP.symm];clear hW hN hP;obtain⟨⟨f0,f1,f2⟩,_⟩:=Ci (H.blk 0 _ _ _ rfl);go_wp2_with fail;refine(Eg t x y _ B1.out).mono ?_;rintro e w2 ⟨rfl,hb⟩;have H2:=H.call hb;clear f0 f1 f2 hb H;obtain⟨⟨g0,g1,g2⟩,_⟩:=Ci (H2.blk 1 _ _ _ rfl)
 cases h1:okM t x y
 ·rw[Ji];clear h1;obtain⟨⟨c0,c1,c2⟩,d0,d1,d2⟩:=Ci (H2.blk 2 _ _ _ rfl);go_wp2_with fail;have H3:=((H2.set 2 0 rfl (Aa Ac 0)).set 2 1 rfl (Aa Ab 0)).set 2 2 rfl (Aa Ab 0);exact Af (Cj rfl rfl (H3.range 2 rfl) Tryz.underlying40 rfl (by kernel_rfl)) rfl ⟨rfl,H3.below⟩
 ·have h2:okM u p q=false:=by have:=HH.out;rw[h1]at this;simpa using this
  have HB:=Ae h2;rw[Fo];clear h1 h2;go_wp2_with fail;refine(Eg u p q _ B2.out).mono ?_;rintro e w3 ⟨rfl,hb⟩;rw[HB.out,Ji];have H3:=H2.call hb;clear g0 g1 g2 hb H2;obtain⟨⟨c0,c1,c2⟩,d0,d1,d2⟩:=Ci (H3.blk 2 _ _ _ rfl);go_wp2_with fail;have H4:=((H3.set 2 0 rfl (Aa Ac 0)).set 2 1 rfl (Aa Ab 0)).set 2 2 rfl (Aa Ab 0);exact Af (Cj rfl rfl (H4.range 2 rfl) Tryz.underlying40 rfl (by kernel_rfl)) rfl ⟨rfl,H4.below⟩
theorem Rv (m n:Mv) (w:Ag) (hm:m.t≤255) (hn:n.t≤255) (hT:Tn w):
  Ai Tryz.prog 55 #[.agg #[Aa Ac m.t,Aa Ab m.x,Aa Ab m.y],.agg #[Aa Ac n.t,Aa Ab n.x,Aa Ab n.y]] w (Cg (mvR (Fq m n)) w):=by
 unfold Fq
 cases h:(m.ok&&n.ok)
 ·exact yG m n w hm hn h
 ·obtain⟨h1,h2⟩:=Bool.and_eq_true_iff.1 h;exact yH m n w h1 h2 hT
def ptR (x y e:Int):Ah:= .tuple #[.agg #[Aa Ab x,Aa Ab y],Aa Ab e]
theorem bD (m:Mv) (p q:Int) (w:Ag) (hm:m.ok=true) (hp: -10000≤p∧p≤10000) (hq: -10000≤q∧q≤10000) (hT:Tn w):
  Ai Tryz.prog 229 #[.agg #[Aa Ac m.t,Aa Ab m.x,Aa Ab m.y],.agg #[Aa Ab p,Aa Ab q]] w (Cg (ptR (Le m p q).1 (Le m p q).2 0) w):=by
 obtain⟨⟨X,Y⟩,hR⟩:=ey (Le m p q);rw[hR];dsimp only;obtain⟨m1,⟨m2,m3⟩,⟨m4,m5⟩,_⟩:=Mv.ok_iff.1 hm;obtain⟨t,x,y⟩:=m;dsimp only at m1 m2 m3 m4 m5⊢;have hOf:=fun w=>Yh t p q w (by omega) (by omega);obtain⟨⟨ob1,ob2⟩,ob3,ob4⟩:=Ul t (x:=p) (y:=q) (B:=10000) hp hq;unfold Le at hR;dsimp only at hR;obtain⟨⟨sx,sy⟩,hs⟩:=ey (Gz (mat t) p q);rw[hs]at hOf hR ob1 ob2 ob3 ob4;dsimp only at hOf hR ob1 ob2 ob3 ob4;obtain⟨rfl,rfl⟩:X=sx+2*x∧Y=sy+2*y:=by simp at hR;omega
 obtain⟨⟨a1,a2,a3,a4⟩,hat⟩:=ey (mat t);have hct:=fun(w':Ag) (h:Tn w')=>h.at' t m1;rw[hat]at hOf hct;dsimp only at hct hOf;have e1:okM t x y=true:=hm;have e2:okP p q=true:=Ny.2 (by omega);have e3:okP (sx+2*x) (sy+2*y)=true:=Ny.2 (by omega);have E1:=Ae e1;have E2:=Ae e2;have E3:=Ae e3;have HOF:=Ae hOf;have HCT:=Ae hct;have B1:=Ae (show 0≤(t:Int)∧(t:Int)≤255 by omega);have q1:(t:Int)<8:=by omega
 have H:=(((Bx.start w).new #[Aa Ac t,Aa Ab x,Aa Ab y] 40 rfl).new #[Aa Ab p,Aa Ab q] 283 (N:=w.heap.size+1) (by simp)).new #[Aa Ab 0,Aa Ab 0] 283 (N:=w.heap.size+2) (by simp);have HT:=Ae hT;clear hR hOf hct e1 e2 e3 hm hs hat hT;go_enter Tryz.func229,Tryz.ntmps229;go_upto_region 1 with fail;obtain⟨W,hW⟩:=ez (((w.alloc (.cells #[Aa Ac t,Aa Ab x,Aa Ab y] 40)).alloc (.cells #[Aa Ab p,Aa Ab q] 283)).alloc (.cells #[Aa Ab 0,Aa Ab 0] 283));rw[←hW]at H⊢;obtain⟨N,hN⟩:=ez w.heap.size;rw[←hN]at H⊢;obtain⟨P,hP⟩:=ez (N+2);rw[←hP]at H;rw[show N+1+1=P from hP.symm];clear hW hN hP;obtain⟨⟨f0,f1,f2⟩,_⟩:=Ci (H.blk 0 _ _ _ rfl);go_wp2_with fail;refine(Eg t x y _ B1.out).mono ?_;rintro e w2 ⟨rfl,hb⟩;rw[E1.out,Fo];have H2:=H.call hb;clear f0 f1 f2 hb H;obtain⟨⟨g0,g1⟩,_⟩:=Cu (H2.blk 1 _ _ _ rfl);go_wp2_with fail;refine(Ia p q _).mono ?_;rintro e w3 ⟨rfl,hb⟩;rw[E2.out,Fo];have H3:=H2.call hb;clear g0 g1 hb H2;obtain⟨⟨f0,f1,f2⟩,_⟩:=Ci (H3.blk 0 _ _ _ rfl);obtain⟨⟨g0,g1⟩,_⟩:=Cu (H3.blk 1 _ _ _ rfl);have HT3:=HT.out.below H3.below;obtain⟨v0,v1,v2,v3⟩:=HCT.out _ HT3;go_upto_region 3 with fail
 go_region_held3 (fun w'=>w'.cell? ⟨N,0,none⟩=some (Aa Ac t)∧w'.cell? ⟨N+1,0,none⟩=some (Aa Ab p)∧w'.cell? ⟨N+1,1,none⟩=some (Aa Ab q)∧w'.cell? ⟨0,t*4,none⟩=some (Aa Ab a1)∧w'.cell? ⟨0,t*4+1,none⟩=some (Aa Ab a2)∧w'.cell? ⟨0,t*4+2,none⟩=some (Aa Ab a3)∧w'.cell? ⟨0,t*4+3,none⟩=some (Aa Ab a4))
  (first|exact⟨f0,g0,g1,v0,v1,v2,v3⟩|go_keep)
  (first|(go_at_call 96;(with_reducible refine(HOF.out _).mono ?_);rintro e w4 ⟨rfl,hb4⟩;have H3:=H3.call (Cm hb4);have f0:=Ce (Cm hb4) f0;have g0:=Ce (Cm hb4) g0;have g1:=Ce (Cm hb4) g1;have v0:=Ce (Cm hb4) v0;have v1:=Ce (Cm hb4) v1;have v2:=Ce (Cm hb4) v2;have v3:=Ce (Cm hb4) v3)|fail)
 clear f0 f1 f2 g0 g1 v0 v1 v2 v3 HT3;obtain⟨⟨f0,f1,f2⟩,_⟩:=Ci (H3.blk 0 _ _ _ rfl);have H4:=H3.new #[Aa Ab (sx+2*x),Aa Ab (sy+2*y)] 283 rfl;have k1:IntKind.i64.wrap (2*x)=2*x:=Bu _ (by omega);have k2:IntKind.i64.wrap (2*y)=2*y:=Bu _ (by omega);have k3:IntKind.i64.wrap (sx+2*x)=sx+2*x:=Bu _ (by omega);have k4:IntKind.i64.wrap (sy+2*y)=sy+2*y:=Bu _ (by omega);go_wp2_with fail;refine(Ia _ _ _).mono ?_;rintro e w5 ⟨rfl,hb⟩;rw[E3.out,Fo];have H5:=H4.call hb;clear f0 f1 f2 hb;obtain⟨⟨c0,c1⟩,d0,d1⟩:=Cu (H5.blk 2 _ _ _ rfl);obtain⟨⟨b0,b1⟩,_⟩:=Cu (H5.blk 3 _ _ _ rfl);go_wp2_with fail;have H6:=(H5.set 2 0 rfl (Aa Ab (sx+2*x))).set 2 1 rfl (Aa Ab (sy+2*y));exact Af (Cj rfl rfl (H6.range 2 rfl) Tryz.underlying283 rfl (by kernel_rfl)) rfl ⟨rfl,H6.below⟩
theorem Gn (a b:Int) (w:Ag):Ai Tryz.prog 105 #[Aa Ab a,Aa Ab b] w (Cg (Aa Ab (Cy a b)) w):=by
 obtain⟨R,hR⟩:=ey (Cy a b);rw[hR];have HR:=Ae hR;clear hR;go_enter Tryz.func105,Tryz.ntmps105;go_wp2_with (go_in)
 all_goals go_ret
 all_goals refine⟨Dm ?_,Below.refl _ _⟩
 all_goals rw[←HR.out]
 all_goals first|rw[Ks (by omega)]|rw[Ta (by omega)]|rw[Sz (by omega) (by omega)]
def Hf (p q r:Int):Int:=if p≠0 then p else if q≠0 then q else r
theorem fJ (g cp:Nat) (a0 b0 a1 b1 a2 b2:Int) (w:Ag) (h:w.rangeAt g 0 [Aa Ab a0,Aa Ab b0,Aa Ab a1,Aa Ab b1,Aa Ab a2,Aa Ab b2]):
  Ai Tryz.prog 150 #[Ad (some ⟨g,0,none⟩) 3 cp] w (Cg (Aa Ab (Hf (Cy a0 b0) (Cy a1 b1) (Cy a2 b2))) w):=by
 obtain⟨p,hp⟩:=ey (Cy a0 b0);obtain⟨q,hq⟩:=ey (Cy a1 b1);obtain⟨r,hr⟩:=ey (Cy a2 b2);rw[hp,hq,hr];have P:=Ae hp;have Q:=Ae hq;have R:=Ae hr;have c0:=h 0 _ rfl;have c1:=h 1 _ rfl;have c2:=h 2 _ rfl;have c3:=h 3 _ rfl;have c4:=h 4 _ rfl;have c5:=h 5 _ rfl;simp only[Nat.reduceAdd]at c0 c1 c2 c3 c4 c5;have hgl:g<w.heap.size:=World.block_lt_of_cell? w ⟨g,0,none⟩ c0;clear hp hq hr h;go_enter Tryz.func150,Tryz.ntmps150;go_wp2_with fail
 go_loopw [8] (fun i wr=>∃k:Nat,k≤3∧i= Aa Ab k∧Below w.heap.size w wr∧(1≤k→p=0)∧(2≤k→q=0)∧(k=3→r=0)) (fun i _=>3-(intOf i).toNat)
 case atStart=>exact⟨0,by omega,rfl,Below.refl _ _,by omega,by omega,by omega⟩
 case round=>
  obtain⟨k,hk,rfl,hb,h1,h2,h3⟩:=hrel;have c0:=Ce hb c0;have c1:=Ce hb c1;have c2:=Ce hb c2;have c3:=Ce hb c3;have c4:=Ce hb c4;have c5:=Ce hb c5;have hgl:g<wr.heap.size:=Bm hgl hb.size;have hs:=hb.size;have h4:k=0∨k=1∨k=2∨k=3:=by omega
  rcases h4 with rfl|rfl|rfl|rfl
  ·as_aux_lemma=>
    by_cases hz:p=0
    ·go_wp2_with fail;refine(Gn a0 b0 _).mono ?_;rintro e w2 ⟨rfl,hb2⟩;rw[P.out];have hb3:Below w.heap.size w w2:=(hb.alloc hs _).trans (hb2.mono (by simp;omega));have hz':(p != 0)=false:=by simpa using hz
     go_wp2_with fail;exact⟨⟨1,by omega,rfl,hb3,fun _=>hz,by omega,by omega⟩,by simp[intOf]⟩
    ·go_wp2_with fail;refine(Gn a0 b0 _).mono ?_;rintro e w2 ⟨rfl,hb2⟩;rw[P.out];have hb3:Below w.heap.size w w2:=(hb.alloc hs _).trans (hb2.mono (by simp;omega));have hz':(p != 0)=true:=by simpa using hz
     go_wp2_with fail;go_ret;exact⟨Dm (by unfold Hf;rw[if_pos hz]),hb3⟩
  ·as_aux_lemma=>
    have hp0:=h1 (by omega);by_cases hz:q=0
    ·go_wp2_with fail;refine(Gn a1 b1 _).mono ?_;rintro e w2 ⟨rfl,hb2⟩;rw[Q.out];have hb3:Below w.heap.size w w2:=(hb.alloc hs _).trans (hb2.mono (by simp;omega));have hz':(q != 0)=false:=by simpa using hz
     go_wp2_with fail;exact⟨⟨2,by omega,rfl,hb3,fun _=>hp0,fun _=>hz,by omega⟩,by simp[intOf]⟩
    ·go_wp2_with fail;refine(Gn a1 b1 _).mono ?_;rintro e w2 ⟨rfl,hb2⟩;rw[Q.out];have hb3:Below w.heap.size w w2:=(hb.alloc hs _).trans (hb2.mono (by simp;omega));have hz':(q != 0)=true:=by simpa using hz
     go_wp2_with fail;go_ret;exact⟨Dm (by unfold Hf;rw[if_neg (by simpa using hp0),if_pos hz]),hb3⟩
  ·as_aux_lemma=>
    have hp0:=h1 (by omega);have hq0:=h2 (by omega);by_cases hz:r=0
    ·go_wp2_with fail;refine(Gn a2 b2 _).mono ?_;rintro e w2 ⟨rfl,hb2⟩;rw[R.out];have hb3:Below w.heap.size w w2:=(hb.alloc hs _).trans (hb2.mono (by simp;omega));have hz':(r != 0)=false:=by simpa using hz
     go_wp2_with fail;exact⟨⟨3,by omega,rfl,hb3,fun _=>hp0,fun _=>hq0,fun _=>hz⟩,by simp[intOf]⟩
    ·go_wp2_with fail;refine(Gn a2 b2 _).mono ?_;rintro e w2 ⟨rfl,hb2⟩;rw[R.out];have hb3:Below w.heap.size w w2:=(hb.alloc hs _).trans (hb2.mono (by simp;omega));have hz':(r != 0)=true:=by simpa using hz
     go_wp2_with fail;go_ret;exact⟨Dm (by unfold Hf;rw[if_neg (by simpa using hp0),if_neg (by simpa using hq0)]),hb3⟩
  ·as_aux_lemma=>
    have hp0:=h1 (by omega);have hq0:=h2 (by omega);have hr0:=h3 rfl;go_wp2_with fail;go_ret;exact⟨Dm (by first|rfl|simp[Hf,hp0,hq0,hr0]),hb⟩
theorem Sb (c d:Cl) (w:Ag) (hc:c.q≤255) (hd:d.q≤255):Ai Tryz.prog 81 #[.agg #[Aa Ab c.x,Aa Ab c.y,Aa Ac c.q],.agg #[Aa Ab d.x,Aa Ab d.y,Aa Ac d.q]] w (Cg (Aa Ab (Fg c d)) w):=by
 have hfin:Fg c d=Hf (Cy c.y d.y) (Cy c.x d.x) (Cy c.q d.q):=rfl;rw[hfin];obtain⟨x,y,q⟩:=c;obtain⟨x',y',q'⟩:=d;dsimp only at hc hd⊢;have k1:IntKind.i64.wrap (q:Int)=q:=Bu _ (by omega);have k2:IntKind.i64.wrap (q':Int)=q':=Bu _ (by omega);have H:=((Bx.start w).new #[Aa Ab x,Aa Ab y,Aa Ac q] 123 rfl).new #[Aa Ab x',Aa Ab y',Aa Ac q'] 123 (N:=w.heap.size+1) (by simp);clear hfin;go_enter Tryz.func81,Tryz.ntmps81;go_upto_region 1 with fail;obtain⟨W,hW⟩:=ez ((w.alloc (.cells #[Aa Ab x,Aa Ab y,Aa Ac q] 123)).alloc (.cells #[Aa Ab x',Aa Ab y',Aa Ac q'] 123));rw[←hW]at H⊢;obtain⟨N,hN⟩:=ez w.heap.size;rw[←hN]at H⊢;clear hW hN;obtain⟨⟨a0,a1,a2⟩,_⟩:=Ci (H.blk 0 _ _ _ rfl);obtain⟨⟨b0,b1,b2⟩,_⟩:=Ci (H.blk 1 _ _ _ rfl);go_wp2_with fail;have H3:=H.new #[Aa Ab y,Aa Ab y',Aa Ab x,Aa Ab x',Aa Ab q,Aa Ab q'] 234 rfl;refine(fJ W.heap.size 3 y y' x x' q q' _ (H3.range 2 rfl)).mono ?_;rintro e w2 ⟨rfl,hb⟩;have H4:=H3.call hb;clear a0 a1 a2 b0 b1 b2;go_wp2_with fail;go_ret;exact⟨rfl,H4.below⟩
theorem eZ (c:Cl) (w:Ag) (hx: -5000≤c.x∧c.x≤5000) (hy: -5000≤c.y∧c.y≤5000):Ai Tryz.prog 228 #[.agg #[Aa Ab c.x,Aa Ab c.y,Aa Ac c.q]] w (Cg (.agg #[Aa Ab (2*c.x+1),Aa Ab (2*c.y+1)]) w):=by
 obtain⟨x,y,q⟩:=c;dsimp only at hx hy⊢;have k1:IntKind.i64.wrap (2*x)=2*x:=Bu _ (by omega);have k2:IntKind.i64.wrap (2*y)=2*y:=Bu _ (by omega);have k3:IntKind.i64.wrap (2*x+1)=2*x+1:=Bu _ (by omega);have k4:IntKind.i64.wrap (2*y+1)=2*y+1:=Bu _ (by omega);have H:=((Bx.start w).new #[Aa Ab x,Aa Ab y,Aa Ac q] 123 rfl).new #[Aa Ab 0,Aa Ab 0] 283 (N:=w.heap.size+1) (by simp);go_enter Tryz.func228,Tryz.ntmps228;go_upto_region 1 with fail;obtain⟨W,hW⟩:=ez ((w.alloc (.cells #[Aa Ab x,Aa Ab y,Aa Ac q] 123)).alloc (.cells #[Aa Ab 0,Aa Ab 0] 283));rw[←hW]at H⊢;obtain⟨N,hN⟩:=ez w.heap.size;rw[←hN]at H⊢;clear hW hN;obtain⟨⟨a0,a1,a2⟩,_⟩:=Ci (H.blk 0 _ _ _ rfl);obtain⟨⟨b0,b1⟩,c0,c1⟩:=Cu (H.blk 1 _ _ _ rfl);go_wp2_with fail;have H4:=(H.set 1 0 rfl (Aa Ab (2*x+1))).set 1 1 rfl (Aa Ab (2*y+1));exact Af (Dg rfl rfl (H4.range 1 rfl) Tryz.underlying283 rfl (by kernel_rfl)) rfl ⟨rfl,H4.below⟩
structure Bd (w w':Ag):Prop where
 b:Below w.heap.size w w'
 d:w.drawn≤w'.drawn
theorem Bd.refl (w:Ag):Bd w w:=⟨Below.refl _ _,Aj _⟩
theorem Bd.trans {a b c:Ag} (h:Bd a b) (k:Bd b c):Bd a c:=⟨h.b.trans (k.b.mono h.b.size),Bo h.d k.d⟩
theorem Bd.alloc {a b:Ag} (h:Bd a b) (o:Obj):Bd a (b.alloc o):=⟨h.b.alloc h.b.size o,h.d⟩
theorem Bd.drew {a b:Ag} (h:Bd a b):Bd a b.drew:=⟨h.b.drew,Nat.le_succ_of_le h.d⟩
theorem Bd.grow {w w':Ag} (h:Bd w w'):∃q os,w'=Go.Sort.grow (w.drewN q) os:=by
 obtain⟨p,hp⟩:=regrown_of_below h.b;have hd:=h.d;refine⟨w'.drawn-w.drawn,p.os,?_⟩;have e:p.d=w'.drawn:=by rw[hp];rfl
 have e2:w.drewN (w'.drawn-w.drawn)=redrawn w p.d:=by
  unfold redrawn;rw[e];show({w with drawn:=w.drawn+(w'.drawn-w.drawn)}:Ag)=_
  congr 1
  omega
 rw[e2];exact hp
def Li (v:Ah) (w:Ag) (e:Ending) (w':Ag):Prop:=e= .returned v∧Bd w w'
theorem Gf (a b:Int) (w:Ag):Ai Tryz.prog 105 #[Aa Ab a,Aa Ab b] w (Li (Aa Ab (Cy a b)) w):=by
 obtain⟨R,hR⟩:=ey (Cy a b);rw[hR];have HR:=Ae hR;clear hR;go_enter Tryz.func105,Tryz.ntmps105;go_wp2_with (go_in)
 all_goals go_ret
 all_goals refine⟨Dm ?_,Bd.refl _⟩
 all_goals rw[←HR.out]
 all_goals first|rw[Ks (by omega)]|rw[Ta (by omega)]|rw[Sz (by omega) (by omega)]
theorem lY (g cp:Nat) (a0 b0 a1 b1 a2 b2:Int) (w:Ag) (h:w.rangeAt g 0 [Aa Ab a0,Aa Ab b0,Aa Ab a1,Aa Ab b1,Aa Ab a2,Aa Ab b2]):
  Ai Tryz.prog 150 #[Ad (some ⟨g,0,none⟩) 3 cp] w (Li (Aa Ab (Hf (Cy a0 b0) (Cy a1 b1) (Cy a2 b2))) w):=by
 obtain⟨p,hp⟩:=ey (Cy a0 b0);obtain⟨q,hq⟩:=ey (Cy a1 b1);obtain⟨r,hr⟩:=ey (Cy a2 b2);rw[hp,hq,hr];have P:=Ae hp;have Q:=Ae hq;have R:=Ae hr;have c0:=h 0 _ rfl;have c1:=h 1 _ rfl;have c2:=h 2 _ rfl;have c3:=h 3 _ rfl;have c4:=h 4 _ rfl;have c5:=h 5 _ rfl;simp only[Nat.reduceAdd]at c0 c1 c2 c3 c4 c5;have hgl:g<w.heap.size:=World.block_lt_of_cell? w ⟨g,0,none⟩ c0;clear hp hq hr h;go_enter Tryz.func150,Tryz.ntmps150;go_wp2_with fail
 go_loopw [8] (fun i wr=>∃k:Nat,k≤3∧i= Aa Ab k∧Bd w wr∧(1≤k→p=0)∧(2≤k→q=0)∧(k=3→r=0)) (fun i _=>3-(intOf i).toNat)
 case atStart=>exact⟨0,by omega,rfl,Bd.refl _,by omega,by omega,by omega⟩
 case round=>
  obtain⟨k,hk,rfl,hbd,h1,h2,h3⟩:=hrel;have hb:=hbd.b;have c0:=Ce hb c0;have c1:=Ce hb c1;have c2:=Ce hb c2;have c3:=Ce hb c3;have c4:=Ce hb c4;have c5:=Ce hb c5;have hgl:g<wr.heap.size:=Bm hgl hb.size;have hs:=hb.size;have h4:k=0∨k=1∨k=2∨k=3:=by omega
  rcases h4 with rfl|rfl|rfl|rfl
  ·as_aux_lemma=>
    by_cases hz:p=0
    ·go_wp2_with fail;refine(Gf a0 b0 _).mono ?_;rintro e w2 ⟨rfl,hb2⟩;rw[P.out];have hb3:Bd w w2:=(hbd.alloc _).trans hb2;have hz':(p != 0)=false:=by simpa using hz
     go_wp2_with fail;exact⟨⟨1,by omega,rfl,hb3,fun _=>hz,by omega,by omega⟩,by simp[intOf]⟩
    ·go_wp2_with fail;refine(Gf a0 b0 _).mono ?_;rintro e w2 ⟨rfl,hb2⟩;rw[P.out];have hb3:Bd w w2:=(hbd.alloc _).trans hb2;have hz':(p != 0)=true:=by simpa using hz
     go_wp2_with fail;go_ret;exact⟨Dm (by unfold Hf;rw[if_pos hz]),hb3⟩
  ·as_aux_lemma=>
    have hp0:=h1 (by omega);by_cases hz:q=0
    ·go_wp2_with fail;refine(Gf a1 b1 _).mono ?_;rintro e w2 ⟨rfl,hb2⟩;rw[Q.out];have hb3:Bd w w2:=(hbd.alloc _).trans hb2;have hz':(q != 0)=false:=by simpa using hz
     go_wp2_with fail;exact⟨⟨2,by omega,rfl,hb3,fun _=>hp0,fun _=>hz,by omega⟩,by simp[intOf]⟩
    ·go_wp2_with fail;refine(Gf a1 b1 _).mono ?_;rintro e w2 ⟨rfl,hb2⟩;rw[Q.out];have hb3:Bd w w2:=(hbd.alloc _).trans hb2;have hz':(q != 0)=true:=by simpa using hz
     go_wp2_with fail;go_ret;exact⟨Dm (by unfold Hf;rw[if_neg (by simpa using hp0),if_pos hz]),hb3⟩
  ·as_aux_lemma=>
    have hp0:=h1 (by omega);have hq0:=h2 (by omega);by_cases hz:r=0
    ·go_wp2_with fail;refine(Gf a2 b2 _).mono ?_;rintro e w2 ⟨rfl,hb2⟩;rw[R.out];have hb3:Bd w w2:=(hbd.alloc _).trans hb2;have hz':(r != 0)=false:=by simpa using hz
     go_wp2_with fail;exact⟨⟨3,by omega,rfl,hb3,fun _=>hp0,fun _=>hq0,fun _=>hz⟩,by simp[intOf]⟩
    ·go_wp2_with fail;refine(Gf a2 b2 _).mono ?_;rintro e w2 ⟨rfl,hb2⟩;rw[R.out];have hb3:Bd w w2:=(hbd.alloc _).trans hb2;have hz':(r != 0)=true:=by simpa using hz
     go_wp2_with fail;go_ret;exact⟨Dm (by unfold Hf;rw[if_neg (by simpa using hp0),if_neg (by simpa using hq0)]),hb3⟩
  ·as_aux_lemma=>
    have hp0:=h1 (by omega);have hq0:=h2 (by omega);have hr0:=h3 rfl;go_wp2_with fail;go_ret;exact⟨Dm (by first|rfl|simp[Hf,hp0,hq0,hr0]),hbd⟩
theorem Kc (c d:Cl) (w:Ag) (hc:c.q≤255) (hd:d.q≤255):Ai Tryz.prog 81 #[.agg #[Aa Ab c.x,Aa Ab c.y,Aa Ac c.q],.agg #[Aa Ab d.x,Aa Ab d.y,Aa Ac d.q]] w (Li (Aa Ab (Fg c d)) w):=by
 have hfin:Fg c d=Hf (Cy c.y d.y) (Cy c.x d.x) (Cy c.q d.q):=rfl;rw[hfin];obtain⟨x,y,q⟩:=c;obtain⟨x',y',q'⟩:=d;dsimp only at hc hd⊢;have k1:IntKind.i64.wrap (q:Int)=q:=Bu _ (by omega);have k2:IntKind.i64.wrap (q':Int)=q':=Bu _ (by omega);have hbd:Bd w ((w.alloc (.cells #[Aa Ab x,Aa Ab y,Aa Ac q] 123)).alloc (.cells #[Aa Ab x',Aa Ab y',Aa Ac q'] 123)):=((Bd.refl w).alloc _).alloc _;have H:=((Bx.start w).new #[Aa Ab x,Aa Ab y,Aa Ac q] 123 rfl).new #[Aa Ab x',Aa Ab y',Aa Ac q'] 123 (N:=w.heap.size+1) (by simp);clear hfin;go_enter Tryz.func81,Tryz.ntmps81;go_upto_region 1 with fail;obtain⟨W,hW⟩:=ez ((w.alloc (.cells #[Aa Ab x,Aa Ab y,Aa Ac q] 123)).alloc (.cells #[Aa Ab x',Aa Ab y',Aa Ac q'] 123));rw[←hW]at H hbd⊢;obtain⟨N,hN⟩:=ez w.heap.size;rw[←hN]at H⊢;clear hW hN;obtain⟨⟨a0,a1,a2⟩,_⟩:=Ci (H.blk 0 _ _ _ rfl);obtain⟨⟨b0,b1,b2⟩,_⟩:=Ci (H.blk 1 _ _ _ rfl);go_wp2_with fail;have H3:=H.new #[Aa Ab y,Aa Ab y',Aa Ab x,Aa Ab x',Aa Ab q,Aa Ab q'] 234 rfl;refine(lY W.heap.size 3 y y' x x' q q' _ (H3.range 2 rfl)).mono ?_;rintro e w2 ⟨rfl,hb⟩;have hbd4:=(hbd.alloc (.cells #[Aa Ab y,Aa Ab y',Aa Ab x,Aa Ab x',Aa Ab q,Aa Ab q'] 234)).trans hb;clear a0 a1 a2 b0 b1 b2;go_wp2_with fail;go_ret;exact⟨rfl,hbd4⟩
theorem Cw {t e:TypeId} (a:Option Addr) (l c:Nat) (h:Tryz.prog.underlying t=some (.slice e)) (w:Ag):(binOp .eql t (Ad a l c) (Ad none 0 0)).run Tryz.prog w= .ok (.bool a.isNone) w:=by
 simp only[binOp];simp[run_equal_slice_nil w t e a l c h]
def AOk (A:Option Addr) (n c:Nat):Prop:=(A=none∧n=0∧c=0)∨∃b o,A=some ⟨b,o,none⟩
theorem Fx {w:Ag} {base:Nat} {e:TypeId} {sz n:Nat} {v:Ah} {xs:List Ah} (h:w.ownsRow base e sz v n xs):∃A c,v= Ad A n c∧AOk A n c∧n≤c∧c≤maxLen:=by
 rcases h.2 with⟨rfl,h0⟩|⟨g,cap,cur,r1,_,_,r2,r3,_⟩
 ·exact⟨none,0,by rw[h0],.inl ⟨rfl,h0,rfl⟩,by omega,by simp[maxLen]⟩
 ·exact⟨_,cap,r1,.inr ⟨g,0,rfl⟩,r2,r3⟩
theorem Qk:(Tryz.prog.info? 3).map (fun i=>(i.zero,i.size,i.bytes))=some (some (Aa Ab 0),1,8):=by kernel_rfl
theorem Xm (A:Option Addr) (n c:Nat) (w:Ag) (h:n≤c) (_hm:c≤maxLen):
  Ai Tryz.prog 147 #[Ad A n c] w (Cg (Ad A n n) w):=by
 unfold maxLen at _hm;go_enter Tryz.func147,Tryz.ntmps147
 go_wp2
 go_ret;exact⟨rfl,Below.refl _ _⟩
theorem Tq (A:Option Addr) (n c:Nat) (xs:List Ah) (w:Ag) (hA:AOk A n c) (h:Rd w A 1 n xs) (h1:∀u∈xs,u.oneCell'=true) (hn:n≤1000000):
  Ai Tryz.prog 148 #[Ad A n c] w (Mp 3 1 n xs w):=by
 rcases hA with⟨rfl,rfl,rfl⟩|⟨b,o,rfl⟩
 ·have hx:xs=[]:=by have:=h.1;simpa using this
  subst hx;clear hn h h1;have heq:=Cw none 0 0 Tryz.underlying61;go_enter Tryz.func148,Tryz.ntmps148;go_wp2_with fail;go_ret;exact⟨_,rfl,⟨rfl,.inl ⟨rfl,rfl⟩⟩,Below.refl _ _⟩
 ·obtain⟨i0,hi,hz,hs,hb⟩:=info_parts Qk;have hown:(w.alloc (.cells #[] 3)).ownsRow w.heap.size 3 1 (Ad (some ⟨w.heap.size,0,none⟩) 0 0) 0 []:=Kj (Aj _) (Bt w _) (Aj _) (by simp[maxLen]) rfl;obtain⟨v',w',hr,h2,h3⟩:=Ei (P:=Tryz.prog) (w.alloc (.cells #[] 3)) w.heap.size 61 61 3 i0 _ 1 8 Tryz.underlying61 hi hz hs hb rfl (by decide) _ 0 [] hown (some ⟨b,o,none⟩) n c xs h1 (h.alloc _) (fun h=>by cases h) (by omega) (by decide) (by simp);rw[Bp,List.nil_append]at h2;have hbw:Below w.heap.size w w':=((Below.refl _ _).alloc (Aj _) _).grown h3 (by simp) (fun k hk=>by simp[Value.ownBlock]at hk;omega);clear hown h3 hi hz hs hb h1 h hn;have heq:=Cw (some ⟨b,o,none⟩) n c Tryz.underlying61;go_enter Tryz.func148,Tryz.ntmps148;go_wp2_with (at_builtin;refine Ap _ rfl _ _ _ _ rfl _ _ rfl rfl _ _ hr ?_);go_ret;exact⟨v',rfl,h2,hbw⟩
theorem qK:(Tryz.prog.info? 89).map (fun i=>(i.zero,i.size,i.bytes))=some (some (.agg #[Aa Ab 0,Aa Ac 0,Aa Ac 0]),3,16):=by kernel_rfl
theorem Aa0 (A:Option Addr) (n c:Nat) (w:Ag) (h:n≤c) (_hm:c≤maxLen):
  Ai Tryz.prog 107 #[Ad A n c] w (Cg (Ad A n n) w):=by
 unfold maxLen at _hm;go_enter Tryz.func107,Tryz.ntmps107
 go_wp2
 go_ret;exact⟨rfl,Below.refl _ _⟩
theorem iI (A:Option Addr) (n c:Nat) (xs:List Ah) (w:Ag) (hA:AOk A n c) (h:Rd w A 3 n xs) (h1:∀u∈xs,u.oneCell'=true) (hn:n≤1000000):
  Ai Tryz.prog 101 #[Ad A n c] w (Mp 89 3 n xs w):=by
 rcases hA with⟨rfl,rfl,rfl⟩|⟨b,o,rfl⟩
 ·have hx:xs=[]:=by have:=h.1;simpa using this
  subst hx;clear hn h h1;have heq:=Cw none 0 0 Tryz.underlying36;go_enter Tryz.func101,Tryz.ntmps101;go_wp2_with fail;go_ret;exact⟨_,rfl,⟨rfl,.inl ⟨rfl,rfl⟩⟩,Below.refl _ _⟩
 ·obtain⟨i0,hi,hz,hs,hb⟩:=info_parts qK;have hown:(w.alloc (.cells #[] 89)).ownsRow w.heap.size 89 3 (Ad (some ⟨w.heap.size,0,none⟩) 0 0) 0 []:=Kj (Aj _) (Bt w _) (Aj _) (by simp[maxLen]) rfl;obtain⟨v',w',hr,h2,h3⟩:=Ei (P:=Tryz.prog) (w.alloc (.cells #[] 89)) w.heap.size 36 36 89 i0 _ 3 16 Tryz.underlying36 hi hz hs hb rfl (by decide) _ 0 [] hown (some ⟨b,o,none⟩) n c xs h1 (h.alloc _) (fun h=>by cases h) (by omega) (by decide) (by simp);rw[Bp,List.nil_append]at h2;have hbw:Below w.heap.size w w':=((Below.refl _ _).alloc (Aj _) _).grown h3 (by simp) (fun k hk=>by simp[Value.ownBlock]at hk;omega);clear hown h3 hi hz hs hb h1 h hn;have heq:=Cw (some ⟨b,o,none⟩) n c Tryz.underlying36;go_enter Tryz.func101,Tryz.ntmps101;go_wp2_with (at_builtin;refine Ap _ rfl _ _ _ _ rfl _ _ rfl rfl _ _ hr ?_);go_ret;exact⟨v',rfl,h2,hbw⟩
theorem wB:(Tryz.prog.info? 125).map (fun i=>(i.zero,i.size,i.bytes))=some (some (.agg #[Aa Ab 0,Aa Ab 0,Aa Ac 0,Ad none 0 0]),4,48):=by kernel_rfl
theorem Xn (A:Option Addr) (n c:Nat) (w:Ag) (h:n≤c) (_hm:c≤maxLen):
  Ai Tryz.prog 82 #[Ad A n c] w (Cg (Ad A n n) w):=by
 unfold maxLen at _hm;go_enter Tryz.func82,Tryz.ntmps82
 go_wp2
 go_ret;exact⟨rfl,Below.refl _ _⟩
theorem pN (A:Option Addr) (n c:Nat) (xs:List Ah) (w:Ag) (hA:AOk A n c) (h:Rd w A 4 n xs) (h1:∀u∈xs,u.oneCell'=true) (hn:n≤1000000):
  Ai Tryz.prog 83 #[Ad A n c] w (Mp 125 4 n xs w):=by
 rcases hA with⟨rfl,rfl,rfl⟩|⟨b,o,rfl⟩
 ·have hx:xs=[]:=by have:=h.1;simpa using this
  subst hx;clear hn h h1;have heq:=Cw none 0 0 Tryz.underlying41;go_enter Tryz.func83,Tryz.ntmps83;go_wp2_with fail;go_ret;exact⟨_,rfl,⟨rfl,.inl ⟨rfl,rfl⟩⟩,Below.refl _ _⟩
 ·obtain⟨i0,hi,hz,hs,hb⟩:=info_parts wB;have hown:(w.alloc (.cells #[] 125)).ownsRow w.heap.size 125 4 (Ad (some ⟨w.heap.size,0,none⟩) 0 0) 0 []:=Kj (Aj _) (Bt w _) (Aj _) (by simp[maxLen]) rfl;obtain⟨v',w',hr,h2,h3⟩:=Ei (P:=Tryz.prog) (w.alloc (.cells #[] 125)) w.heap.size 41 41 125 i0 _ 4 48 Tryz.underlying41 hi hz hs hb rfl (by decide) _ 0 [] hown (some ⟨b,o,none⟩) n c xs h1 (h.alloc _) (fun h=>by cases h) (by omega) (by decide) (by simp);rw[Bp,List.nil_append]at h2;have hbw:Below w.heap.size w w':=((Below.refl _ _).alloc (Aj _) _).grown h3 (by simp) (fun k hk=>by simp[Value.ownBlock]at hk;omega);clear hown h3 hi hz hs hb h1 h hn;have heq:=Cw (some ⟨b,o,none⟩) n c Tryz.underlying41;go_enter Tryz.func83,Tryz.ntmps83;go_wp2_with (at_builtin;refine Ap _ rfl _ _ _ _ rfl _ _ rfl rfl _ _ hr ?_);go_ret;exact⟨v',rfl,h2,hbw⟩
theorem Zy:(Tryz.prog.info? 304).map (fun i=>(i.zero,i.size,i.bytes))=some (some (.agg #[Aa Ab 0,Aa Ab 0]),2,16):=by kernel_rfl
theorem pL (A:Option Addr) (n c:Nat) (w:Ag) (h:n≤c) (_hm:c≤maxLen):
  Ai Tryz.prog 180 #[Ad A n c] w (Cg (Ad A n n) w):=by
 unfold maxLen at _hm;go_enter Tryz.func180,Tryz.ntmps180
 go_wp2
 go_ret;exact⟨rfl,Below.refl _ _⟩
theorem kM (A:Option Addr) (n c:Nat) (xs:List Ah) (w:Ag) (hA:AOk A n c) (h:Rd w A 2 n xs) (h1:∀u∈xs,u.oneCell'=true) (hn:n≤1000000):
  Ai Tryz.prog 181 #[Ad A n c] w (Mp 304 2 n xs w):=by
 rcases hA with⟨rfl,rfl,rfl⟩|⟨b,o,rfl⟩
 ·have hx:xs=[]:=by have:=h.1;simpa using this
  subst hx;clear hn h h1;have heq:=Cw none 0 0 Tryz.underlying146;go_enter Tryz.func181,Tryz.ntmps181;go_wp2_with fail;go_ret;exact⟨_,rfl,⟨rfl,.inl ⟨rfl,rfl⟩⟩,Below.refl _ _⟩
 ·obtain⟨i0,hi,hz,hs,hb⟩:=info_parts Zy;have hown:(w.alloc (.cells #[] 304)).ownsRow w.heap.size 304 2 (Ad (some ⟨w.heap.size,0,none⟩) 0 0) 0 []:=Kj (Aj _) (Bt w _) (Aj _) (by simp[maxLen]) rfl;obtain⟨v',w',hr,h2,h3⟩:=Ei (P:=Tryz.prog) (w.alloc (.cells #[] 304)) w.heap.size 146 146 304 i0 _ 2 16 Tryz.underlying146 hi hz hs hb rfl (by decide) _ 0 [] hown (some ⟨b,o,none⟩) n c xs h1 (h.alloc _) (fun h=>by cases h) (by omega) (by decide) (by simp);rw[Bp,List.nil_append]at h2;have hbw:Below w.heap.size w w':=((Below.refl _ _).alloc (Aj _) _).grown h3 (by simp) (fun k hk=>by simp[Value.ownBlock]at hk;omega);clear hown h3 hi hz hs hb h1 h hn;have heq:=Cw (some ⟨b,o,none⟩) n c Tryz.underlying146;go_enter Tryz.func181,Tryz.ntmps181;go_wp2_with (at_builtin;refine Ap _ rfl _ _ _ _ rfl _ _ rfl rfl _ _ hr ?_);go_ret;exact⟨v',rfl,h2,hbw⟩
theorem Zx:(Tryz.prog.info? 152).map (fun i=>(i.zero,i.size,i.bytes))=some (some (.agg #[Aa Ac 0,Aa Ab 0,Aa Ab 0]),3,24):=by kernel_rfl
theorem pJ (A:Option Addr) (n c:Nat) (w:Ag) (h:n≤c) (_hm:c≤maxLen):
  Ai Tryz.prog 182 #[Ad A n c] w (Cg (Ad A n n) w):=by
 unfold maxLen at _hm;go_enter Tryz.func182,Tryz.ntmps182
 go_wp2
 go_ret;exact⟨rfl,Below.refl _ _⟩
theorem kL (A:Option Addr) (n c:Nat) (xs:List Ah) (w:Ag) (hA:AOk A n c) (h:Rd w A 3 n xs) (h1:∀u∈xs,u.oneCell'=true) (hn:n≤1000000):
  Ai Tryz.prog 183 #[Ad A n c] w (Mp 152 3 n xs w):=by
 rcases hA with⟨rfl,rfl,rfl⟩|⟨b,o,rfl⟩
 ·have hx:xs=[]:=by have:=h.1;simpa using this
  subst hx;clear hn h h1;have heq:=Cw none 0 0 Tryz.underlying147;go_enter Tryz.func183,Tryz.ntmps183;go_wp2_with fail;go_ret;exact⟨_,rfl,⟨rfl,.inl ⟨rfl,rfl⟩⟩,Below.refl _ _⟩
 ·obtain⟨i0,hi,hz,hs,hb⟩:=info_parts Zx;have hown:(w.alloc (.cells #[] 152)).ownsRow w.heap.size 152 3 (Ad (some ⟨w.heap.size,0,none⟩) 0 0) 0 []:=Kj (Aj _) (Bt w _) (Aj _) (by simp[maxLen]) rfl;obtain⟨v',w',hr,h2,h3⟩:=Ei (P:=Tryz.prog) (w.alloc (.cells #[] 152)) w.heap.size 147 147 152 i0 _ 3 24 Tryz.underlying147 hi hz hs hb rfl (by decide) _ 0 [] hown (some ⟨b,o,none⟩) n c xs h1 (h.alloc _) (fun h=>by cases h) (by omega) (by decide) (by simp);rw[Bp,List.nil_append]at h2;have hbw:Below w.heap.size w w':=((Below.refl _ _).alloc (Aj _) _).grown h3 (by simp) (fun k hk=>by simp[Value.ownBlock]at hk;omega);clear hown h3 hi hz hs hb h1 h hn;have heq:=Cw (some ⟨b,o,none⟩) n c Tryz.underlying147;go_enter Tryz.func183,Tryz.ntmps183;go_wp2_with (at_builtin;refine Ap _ rfl _ _ _ _ rfl _ _ rfl rfl _ _ hr ?_);go_ret;exact⟨v',rfl,h2,hbw⟩
def Cz (l:List Nat):List Ah:=l.map fun(i:Nat)=>Value.int .i64 (i:Int)
theorem Fv (l:List Nat):(Cz l).length=l.length:=by simp[Cz]
theorem Qj (l:List Nat):∀u∈Cz l,u.oneCell'=true:=by
 intro u hu;obtain⟨i,_,rfl⟩:=List.mem_map.1 hu;rfl
theorem Km {w:Ag} {A:Option Addr} {l:List Nat} {n:Nat} (h:Rd w A 1 n (Cz l)) (i:Nat) (hi:i<l.length):
  ∃b o,A=some ⟨b,o,none⟩∧b<w.heap.size∧w.cell? ⟨b,o+i,none⟩=some (Aa Ab (l[i]:Int)):=by
 have hl:=h.1;rw[Fv]at hl;obtain⟨b,o,e,hb,hc⟩:=h.2 (by omega);exact⟨b,o,e,hb,hc i _ (by simp[Cz,hi])⟩
def Lv (l:List Nat) (v:Nat):Int:=match l.findIdx? (fun x=>decide (x=v))with
 |some i=>(i:Int)
 |none=> -1
theorem xV {l:List Nat} {v i:Nat} (hi:i<l.length) (h:l[i]=v) (hb:∀j (hj:j<l.length),j<i→l[j]≠v):Lv l v=i:=by
 unfold Lv
 have:l.findIdx? (fun x=>decide (x=v))=some i:=by
  rw[List.findIdx?_eq_some_iff_getElem];exact⟨hi,by simp[h],fun j hj=>by simp[hb j (by omega) hj]⟩
 rw[this]
theorem mP {l:List Nat} {v:Nat} (hb:∀j (hj:j<l.length),l[j]≠v):Lv l v= -1:=by
 unfold Lv
 have:l.findIdx? (fun x=>decide (x=v))=none:=by
  rw[List.findIdx?_eq_none_iff];intro x hx;obtain⟨j,hj,rfl⟩:=Ay.1 hx;simp[hb j hj]
 rw[this]
theorem lC (A:Option Addr) (l:List Nat) (n c v:Nat) (w:Ag) (hn:n=l.length) (h:Rd w A 1 n (Cz l)) (hl:n≤1000000):
  Ai Tryz.prog 185 #[Ad A n c,Aa Ab v] w (Cg (Aa Ab (Lv l v)) w):=by
 have HRD:=Ae h;have HN:=Ae hn;clear h hn;go_enter Tryz.func185,Tryz.ntmps185;go_wp2_with fail
 go_loopw [5,8] (fun _ i wr=>∃k:Nat,k≤n∧i= Aa Ab k∧Below w.heap.size w wr∧Hid (∀j (hj:j<l.length),j<k→l[j]≠v)) (fun _ i _=>n-(intOf i).toNat)
 case atStart=>exact⟨0,by omega,rfl,Below.refl _ _,Ae fun j _ hj=>absurd hj (by omega)⟩
 case round=>
  obtain⟨k,hk,rfl,hb,HK⟩:=hrel;by_cases hlt:k<n
  ·have hkl:k<l.length:=by have:=HN.out;omega
   obtain⟨bb,o,rfl,hbl,c0⟩:=Km (HRD.out.below hb) k hkl;have q1:(k:Int)<(n:Int):=by omega
   by_cases he:l[k]=v
   ·have HF:=Ae (xV hkl he fun j hj h=>HK.out j hj h);rw[he]at c0;clear he;go_wp2_with fail;go_ret;exact⟨by rw[HF.out];rfl,hb⟩
   ·obtain⟨r,hr⟩:=ey (l[k])
    have HKN:=Ae (fun j (hj:j<l.length) (h:j<k+1)=>show l[j]≠v by
     by_cases hjk:j=k
     ·subst hjk;exact he
     ·exact HK.out j hj (by omega))
    rw[hr]at c0 he;have hne:((v:Int)==(r:Int))=false:=by simp;omega
    clear hr;go_wp2_with fail;exact⟨⟨k+1,by omega,by go_num,hb,HKN⟩,by simp[intOf];omega⟩
  ·have q1:¬(k:Int)<(n:Int):=by omega
   have HF:=Ae (mP (l:=l) (v:=v) fun j hj=>HK.out j hj (by have:=HN.out;omega));go_wp2_with fail;go_ret;exact⟨by rw[HF.out];rfl,hb⟩
def Ec (w:Ag) (base:Nat) (e:TypeId) (sz:Nat) (A:Option Addr) (n:Nat) (xs:List Ah):Prop:=
 xs.length=n*sz∧((A=none∧n=0)∨∃g cur,A=some ⟨g,0,none⟩∧base≤g∧w.heap[g]? =some (Obj.cells cur e (0,0))∧n*sz≤cur.size∧cur.toList.take (n*sz)=xs)
theorem Ec.of_own {w:Ag} {base:Nat} {e:TypeId} {sz n c:Nat} {A:Option Addr} {xs:List Ah} (h:w.ownsRow base e sz (Ad A n c) n xs):Ec w base e sz A n xs:=by
 refine⟨h.1,?_⟩;rcases h.2 with⟨h0,h1⟩|⟨g,cap,cur,hv,hb,hg,hn,_,hs,ht⟩
 ·have hA:A=none:=by injection h0
  exact .inl ⟨hA,h1⟩
 ·have hA:A=some ⟨g,0,none⟩:=by injection hv
  refine .inr ⟨g,cur,hA,hb,hg,?_,ht⟩;rw[hs];exact Nat.mul_le_mul_right _ hn
theorem Ec.below {w w':Ag} {base:Nat} {e:TypeId} {sz n:Nat} {A:Option Addr} {xs:List Ah} (h:Ec w base e sz A n xs) (hb:Below w.heap.size w w'):Ec w' base e sz A n xs:=by
 refine⟨h.1,?_⟩;rcases h.2 with h0|⟨g,cur,r1,r2,r3,r4⟩
 ·exact .inl h0
 ·exact .inr ⟨g,cur,r1,r2,kept hb r3 (Aq.1 r3).1,r4⟩
theorem Ec.rd {w:Ag} {base:Nat} {e:TypeId} {sz n:Nat} {A:Option Addr} {xs:List Ah} (h:Ec w base e sz A n xs):Rd w A sz n xs:=by
 refine⟨h.1,fun hn=>?_⟩;rcases h.2 with⟨_,h0⟩|⟨g,cur,hA,hb,hg,hs,ht⟩
 ·omega
 ·refine⟨g,0,hA,(Aq.1 hg).1,fun j u hu=>?_⟩;rw[Bp,Bs w g j cur e (0,0) hg];rw[←ht,List.getElem?_take]at hu
  split at hu
  ·simpa using hu
  ·cases hu
theorem Ec.setCell {w:Ag} {base:Nat} {e:TypeId} {sz n:Nat} {A:Option Addr} {xs:List Ah} (h:Ec w base e sz A n xs) {b j:Nat} (v:Ah) (hb:b<base):Ec (w.setCell ⟨b,j,none⟩ v) base e sz A n xs:=by
 refine⟨h.1,?_⟩;rcases h.2 with h0|⟨g,cur,r1,r2,r3,r4⟩
 ·exact .inl h0
 ·exact .inr ⟨g,cur,r1,r2,(Below.heap_setCell w ⟨b,j,none⟩ v g (by show g≠b;omega)).trans r3,r4⟩
theorem Ec.base {w:Ag} {base base':Nat} {e:TypeId} {sz n:Nat} {A:Option Addr} {xs:List Ah} (h:Ec w base e sz A n xs) (hb:base'≤base):Ec w base' e sz A n xs:=by
 refine⟨h.1,?_⟩;rcases h.2 with h0|⟨g,cur,r1,r2,r3⟩
 ·exact .inl h0
 ·exact .inr ⟨g,cur,r1,by omega,r3⟩
theorem AOk.clip {A:Option Addr} {n c:Nat} (h:AOk A n c):AOk A n n:=by
 rcases h with⟨h1,h2,_⟩|h
 ·exact .inl ⟨h1,h2,h2⟩
 ·exact .inr h
def oN (c:Cl) (l:List Nat) (w:Ag) (en:Ending) (w':Ag):Prop:=
 ∃A,en= .returned (.agg #[Aa Ab c.x,Aa Ab c.y,Aa Ac c.q,Ad A l.length l.length])∧AOk A l.length l.length∧Ec w' w.heap.size 3 1 A l.length (Cz l)∧Below w.heap.size w w'
theorem Kd (c:Cl) (A:Option Addr) (l:List Nat) (n cc:Nat) (w:Ag) (hn:n=l.length) (hA:AOk A n cc) (h:Rd w A 1 n (Cz l)) (hl:n≤1000000):
  Ai Tryz.prog 78 #[.agg #[Aa Ab c.x,Aa Ab c.y,Aa Ac c.q,Ad A n cc]] w (oN c l w):=by
 obtain⟨x,y,q⟩:=c;have HCL:=Ae fun(w':Ag) (hb:Below w.heap.size w w')=>Tq A n cc (Cz l) w' hA (h.below hb) (Qj l) hl;have HN:=Ae hn;unfold oN;dsimp only;rw[←hn];have H:=((Bx.start w).new #[Aa Ab x,Aa Ab y,Aa Ac q,Ad A n cc] 125 rfl).new #[Aa Ab 0,Aa Ab 0,Aa Ac 0,Ad none 0 0] 125 (N:=w.heap.size+1) (by simp);clear hn hA h hl;go_enter Tryz.func78,Tryz.ntmps78;go_upto_region 1 with fail;obtain⟨W,hW⟩:=ez ((w.alloc (.cells #[Aa Ab x,Aa Ab y,Aa Ac q,Ad A n cc] 125)).alloc (.cells #[Aa Ab 0,Aa Ab 0,Aa Ac 0,Ad none 0 0] 125));rw[←hW]at H⊢;obtain⟨N,hN⟩:=ez w.heap.size;rw[←hN]at H⊢;have HNN:=Ae hN;clear hW hN;have hWl:N+1<W.heap.size:=H.lt 1 rfl;obtain⟨⟨a0,a1,a2,a3⟩,_⟩:=Co (H.blk 0 _ _ _ rfl)
 go_region_held3 (fun w'=>w'.cell? ⟨N,0,none⟩=some (Aa Ab x)∧w'.cell? ⟨N,1,none⟩=some (Aa Ab y)∧w'.cell? ⟨N,2,none⟩=some (Aa Ac q)∧w'.cell? ⟨N,3,none⟩=some (Ad A n cc))
  (first|exact⟨a0,a1,a2,a3⟩|go_keep)
  (first
   |(go_at_call 148;(with_reducible refine(HCL.out _ H.below.drew).mono ?_);rintro e w3 ⟨v,rfl,hown,hb3⟩;obtain⟨A',c',rfl,hA',hnc,hcm⟩:=Fx hown;have H:=H.call (Cm hb3);have a0:=Ce (Cm hb3) a0;have a1:=Ce (Cm hb3) a1;have a2:=Ce (Cm hb3) a2;have a3:=Ce (Cm hb3) a3)
   |(go_at_call 147;(with_reducible refine(Xm A' n c' _ hnc hcm).mono ?_);rintro e w4 ⟨rfl,hb4⟩;have H:=H.call hb4;have hrow:=(Ec.of_own hown).below hb4;have a0:=Ce hb4 a0;have a1:=Ce hb4 a1;have a2:=Ce hb4 a2;have a3:=Ce hb4 a3;obtain⟨⟨y0,y1,y2,y3⟩,z0,z1,z2,z3⟩:=Co (H.blk 1 _ _ _ rfl))
   |fail)
 have hlt:N+1<W.drew.heap.size:=hWl;have hrow2:=(((hrow.setCell (j:=0) (Aa Ab x) hlt).setCell (j:=1) (Aa Ab y) hlt).setCell (j:=2) (Aa Ac q) hlt).setCell (j:=3) (Ad A' n n) hlt;have H5:=(((H.set 1 0 rfl (Aa Ab x)).set 1 1 rfl (Aa Ab y)).set 1 2 rfl (Aa Ac q)).set 1 3 rfl (Ad A' n n);have hbase:w.heap.size≤W.drew.heap.size:=by have:=HNN.out;omega
 go_wp2_with fail;exact Af (Dg rfl rfl (H5.range 1 rfl) Tryz.underlying125 rfl (by kernel_rfl)) rfl ⟨A',rfl,hA'.clip,hrow2.base hbase,H5.below⟩
def Ds (x:Stk×(Option Addr×Nat)):List Ah:=[Aa Ab x.1.c.x,Aa Ab x.1.c.y,Aa Ac x.1.c.q,Ad x.2.1 x.1.ls.length x.2.2]
theorem Fj (x:Stk×(Option Addr×Nat)):(Ds x).length=4:=rfl
def Cs (w:Ag) (A:Option Addr) (l:List Stk):Prop:=
 ∃hs:List (Option Addr×Nat),hs.length=l.length∧Rd w A 4 l.length ((l.zip hs).flatMap Ds)∧
  ∀(i:Nat) (h:i<l.length) (h':i<hs.length),AOk hs[i].1 l[i].ls.length hs[i].2∧l[i].ls.length≤hs[i].2∧hs[i].2≤maxLen∧Rd w hs[i].1 1 l[i].ls.length (Cz l[i].ls)
theorem Cs.below {w w':Ag} {A:Option Addr} {l:List Stk} (h:Cs w A l) (hb:Below w.heap.size w w'):Cs w' A l:=by
 obtain⟨hs,h1,h2,h3⟩:=h;exact⟨hs,h1,h2.below hb,fun i hi hi'=>⟨(h3 i hi hi').1,(h3 i hi hi').2.1,(h3 i hi hi').2.2.1,(h3 i hi hi').2.2.2.below hb⟩⟩
theorem Cs.get {w:Ag} {A:Option Addr} {l:List Stk} (h:Cs w A l) (i:Nat) (hi:i<l.length):
  ∃b o A' c',A=some ⟨b,o,none⟩∧b<w.heap.size∧(w.cell? ⟨b,o+i*4,none⟩=some (Aa Ab l[i].c.x)∧w.cell? ⟨b,o+i*4+1,none⟩=some (Aa Ab l[i].c.y)∧w.cell? ⟨b,o+i*4+2,none⟩=some (Aa Ac l[i].c.q)∧w.cell? ⟨b,o+i*4+3,none⟩=some (Ad A' l[i].ls.length c'))∧
   AOk A' l[i].ls.length c'∧l[i].ls.length≤c'∧c'≤maxLen∧Rd w A' 1 l[i].ls.length (Cz l[i].ls):=by
 obtain⟨hs,h1,h2,h3⟩:=h;have hi':i<hs.length:=by omega
 obtain⟨b,o,e,hb,hc⟩:=h2.2 (by omega);have hz:i<(l.zip hs).length:=by simp;omega
 have hat:∀f,f<4→((l.zip hs).flatMap Ds)[i*4+f]? =(Ds (l[i],hs[i]))[f]? :=fun f hf=>by
  rw[Dc Ds 4 Fj _ i f hz hf,List.getElem_zip]
 obtain⟨g1,g2,g3,g4⟩:=h3 i hi hi';refine⟨b,o,hs[i].1,hs[i].2,e,hb,⟨?_,?_,?_,?_⟩,g1,g2,g3,g4⟩
 ·exact hc (i*4+0) _ ((hat 0 (by omega)).trans rfl)
 ·exact hc (i*4+1) _ ((hat 1 (by omega)).trans rfl)
 ·exact hc (i*4+2) _ ((hat 2 (by omega)).trans rfl)
 ·exact hc (i*4+3) _ ((hat 3 (by omega)).trans rfl)
def Kg (k c s:Int):Bool:=okL k c&&decide (s≤1)
theorem Vo (k c s:Int) (v:Bool) (w:Ag):Ai Tryz.prog 11 #[.agg #[Aa Ac k,Aa Ab c,Aa Ac s,.bool v]] w (Cg (Aa Ab (ec (Kg k c s) 1)) w):=by
 have H:=(Bx.start w).new #[Aa Ac k,Aa Ab c,Aa Ac s,.bool v] 53 rfl;obtain⟨R,hR⟩:=ey (Kg k c s);rw[hR];have HR:=Ae hR;clear hR;go_enter Tryz.func11,Tryz.ntmps11;go_upto_region 1 with fail;obtain⟨W,hW⟩:=ez (w.alloc (.cells #[Aa Ac k,Aa Ab c,Aa Ac s,.bool v] 53));rw[←hW]at H⊢;obtain⟨N,hN⟩:=ez w.heap.size;rw[←hN]at H⊢;clear hW hN;obtain⟨⟨a0,a1,a2,a3⟩,_⟩:=Co (H.blk 0 _ _ _ rfl);go_wp2_with fail;refine(Ee k c _).mono ?_;rintro e w2 ⟨rfl,hb⟩;have H2:=H.call hb;clear a0 a1 a2 a3 hb H;obtain⟨⟨a0,a1,a2,a3⟩,_⟩:=Co (H2.blk 0 _ _ _ rfl)
 cases hL:okL k c
 ·have HF:Hid (R=false):=Ae (by rw[←HR.out];unfold Kg;rw[hL];rfl);rw[Ji];clear hL;go_wp2_with fail;go_ret;exact⟨by rw[HF.out];rfl,H2.below⟩
 ·have HF:Hid (R=decide (s≤1)):=Ae (by rw[←HR.out];unfold Kg;rw[hL];rfl);rw[Fo];clear hL;by_cases h1:s≤1
  ·have h2:¬1<s:=by omega
   go_wp2_with fail;go_ret;exact⟨by rw[HF.out,decide_eq_true h1];rfl,H2.below⟩
  ·have h2:1<s:=by omega
   go_wp2_with fail;go_ret;exact⟨by rw[HF.out,decide_eq_false (by omega)];rfl,H2.below⟩
end Go.Proofs.YteoffhpfcgffcaaGreatDoor
