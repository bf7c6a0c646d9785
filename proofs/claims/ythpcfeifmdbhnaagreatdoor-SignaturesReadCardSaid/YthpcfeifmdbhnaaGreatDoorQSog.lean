import Derived.Test.YthpcfeifmdbhnaaGreatDoorQCrd
import Derived.Test.YthpcfeifmdbhnaaGreatDoorQStk
import Derived.ChangeKeysEq
import Derived.Shelf.SlSortCmp.NoneTotal
open Array renaming getElem?_eq_some_iff→Au
open Go renaming Calls→Al,Value→Ak,World→Aj,bodyPost_ret→Ai,cell_of_row→By,heap_alloc_new→Bz,wpAnyH_done→An,wpAnyH_ready→Ap,wp_region_held_drew→Ao
open Go.AllReadyH renaming cons→Aq,nil→Ar
open Go.IntKind renaming i64→Ab,u8→Ac
open Go.IntWalk renaming i64_in→Ca
open Go.Lib renaming hid→Ah
open Go.RowKit.Below renaming refl→Ag
open Go.Value renaming int→Aa,slice→Ad
open List renaming append_assoc→Bj,flatMap_append→Bi,flatMap_cons→Bf,getElem?_eq_getElem→Aw,getElem_cons_succ→Cd,getElem_cons_zero→Cc,getElem_mem→Ay,getElem_toArray→Ce,length_append→Bh,mem_append→Bl,nodup_append→Bp,replicate→Ba,setIfInBounds_toArray→Ch,set_cons_succ→Cg,set_cons_zero→Cf,take_succ_eq_append_getElem→Bc
open Nat renaming le_of_lt→Bu,le_refl→Am,le_trans→Br,zero_add→Bt
open Option renaming none→Ae,some→Af
set_option maxHeartbeats 8000000
set_option maxRecDepth 100000
namespace Go.Proofs.YthpcfeifmdbhnaaGreatDoor
open Go.RowKit
def lnR (r:(Int×Int)×Int):Ak:= .tuple #[.agg #[Aa Ac r.1.1,Aa Ab r.1.2],Aa Ab r.2]
theorem tN (x y:Int) (q e:Nat) (hq:q<4):Et ⟨x,y,q⟩ e=if e=1 then (3,x+y+1)else if e=2 then (4,y-x)else (qln q,if qln q=2 then y+qby q else x+qby q):=by
 unfold Et;dsimp only
 split
 ·rfl
 ·split
  ·rfl
  ·have h4:q=0∨q=1∨q=2∨q=3:=Ci;rcases h4 with rfl|rfl|rfl|rfl<;>simp[qln,qby]
theorem qlb (q:Nat):(qln q=1∨qln q=2)∧(0≤qby q∧qby q≤1):=by
 unfold qln qby;split<;>decide
theorem eV (c:Cl) (e:Nat) (w:Aj) (hc:c.ok=true) (he:e≤2) (hQ:Qf w):
  Al Tryz.prog 148 #[.agg #[Aa Ab c.x,Aa Ab c.y,Aa Ac c.q],Aa Ac e] w (Co (lnR (Qu c e)) w):=by
 obtain⟨⟨⟨rk,rc⟩,re⟩,hR⟩:∃R,Qu c e=R:=⟨_,rfl⟩;rw[hR];unfold Cl.ok at hc;obtain⟨c1,c2,c3,c4,c5⟩:=Eu.1 hc;obtain⟨x,y,q⟩:=c;dsimp only at hc c1 c2 c3 c4 c5⊢;have hq:q<4:=Ci;unfold Qu at hR;rw[tN x y q e hq]at hR;unfold lnR;dsimp only;have hrow:=λ(w':Aj) (h:Qf w')=>h.row hq;unfold Ju at hrow;obtain⟨hln,hby1,hby2⟩:=qlb q;obtain⟨⟨u1,u2⟩,h1⟩:=ey (Oa q);obtain⟨⟨v1,v2⟩,h2⟩:=ey (Ob q);obtain⟨⟨s1,s2⟩,h3⟩:=ey (Ea q);obtain⟨ln,h4⟩:=ey (qln q);obtain⟨by',h5⟩:=ey (qby q);obtain⟨⟨n1,n2,n3⟩,h6⟩:=ey (nxt q 0);obtain⟨⟨n4,n5,n6⟩,h7⟩:=ey (nxt q 1);obtain⟨⟨n7,n8,n9⟩,h8⟩:=ey (nxt q 2);rw[h1,h2,h3,h4,h5,h6,h7,h8]at hrow;rw[h4]at hln hR;rw[h5]at hby1 hby2 hR;dsimp only at hrow;have HC:=Ah hc;have HROW:=Ah hrow;have HQ:=Ah hQ;have HR:=Ah hR;have q1:(q:Int)<4:=Ci;have q2:¬(2:Int)<(e:Int):=Ci;have H:=((Bx.start w).new #[Aa Ab x,Aa Ab y,Aa Ac q] 87 rfl).new #[Aa Ac 0,Aa Ab 0] 72 (N:=w.heap.size+1) Cn;clear hc hrow h1 h2 h3 h4 h5 h6 h7 h8 hQ hR;go_enter Tryz.func148,Tryz.ntmps148;go_upto_region 1 with fail;obtain⟨W,hW⟩:=ez ((w.alloc (.cells #[Aa Ab x,Aa Ab y,Aa Ac q] 87)).alloc (.cells #[Aa Ac 0,Aa Ab 0] 72));rw[←hW]at H⊢;obtain⟨N,hN⟩:=ez w.heap.size;rw[←hN]at H⊢;clear hW hN;obtain⟨⟨a0,a1,a2⟩,_⟩:=Cv (H.blk 0 _ _ _ rfl);go_wp2_with fail;refine(El x y q _).mono ?_;rintro ee w2 ⟨rfl,hb⟩;rw[HC.out,Gz];have H2:=H.call hb;clear a0 a1 a2 hb H;obtain⟨⟨a0,a1,a2⟩,_⟩:=Cv (H2.blk 0 _ _ _ rfl);have hr:=HROW.out _ (HQ.out.below H2.below);go_upto_region 3 with fail
 repeat' (go_not_at_region 4;first
  |refine wpList_load_mid rfl 282 (.tmp 18) rfl 1 (q*17) rfl _ _ hr Tryz.underlying282 rfl Cm ?_
  |refine Kj rfl 282 (.tmp 6) (.tmp 19) rfl _ _ rfl rfl Cm rfl rfl ?_
  |go_step)
 clear hr a0 a1 a2;obtain⟨G4,hG4⟩:=ez w2.heap.size;rw[←hG4];have H4:=H2.new #[Aa Ab s1,Aa Ab s2,Aa Ac ln,Aa Ab by',Aa Ab n1,Aa Ab n2,Aa Ac n3,Aa Ab n4,Aa Ab n5,Aa Ac n6,Aa Ab n7,Aa Ab n8,Aa Ac n9,Aa Ab u1,Aa Ab u2,Aa Ab v1,Aa Ab v2] 282 hG4.symm;obtain⟨W4,hW4⟩:=ez (w2.alloc (.cells #[Aa Ab s1,Aa Ab s2,Aa Ac ln,Aa Ab by',Aa Ab n1,Aa Ab n2,Aa Ac n3,Aa Ab n4,Aa Ab n5,Aa Ac n6,Aa Ab n7,Aa Ab n8,Aa Ac n9,Aa Ab u1,Aa Ab u2,Aa Ab v1,Aa Ab v2] 282));rw[←hW4]at H4;change Code.wp _ _ _ _ (w2.alloc (.cells #[Aa Ab s1,Aa Ab s2,Aa Ac ln,Aa Ab by',Aa Ab n1,Aa Ab n2,Aa Ac n3,Aa Ab n4,Aa Ab n5,Aa Ac n6,Aa Ab n7,Aa Ab n8,Aa Ac n9,Aa Ab u1,Aa Ab u2,Aa Ab v1,Aa Ab v2] 282));rw[←hW4];have hrr:=H4.range 2 rfl;have r2:=hrr 2 _ rfl;have r3:=hrr 3 _ rfl;simp only[Bt]at r2 r3;obtain⟨⟨a0,a1,a2⟩,_⟩:=Cv (H4.blk 0 _ _ _ rfl);have w1:Ab.wrap (x+by')=x+by':=Ca _ Ci;clear hrr hG4 hW4;go_upto_region 5 with fail;obtain⟨G5,hG5⟩:=ez W4.heap.size;rw[←hG5];have H5:=H4.new #[Aa Ac ln,Aa Ab (x+by')] 72 hG5.symm;obtain⟨W5,hW5⟩:=ez (W4.alloc (.cells #[Aa Ac ln,Aa Ab (x+by')] 72));rw[←hW5]at H5⊢;have hne1:N≠G5:=by have:=H4.lt 0 rfl;omega
 have hne3:G4≠G5:=by have:=H4.lt 2 rfl;omega
 clear hG5 hW5 r2 r3 a0 a1 a2;obtain⟨⟨a0,a1,a2⟩,_⟩:=Cv (H5.blk 0 _ _ _ rfl);obtain⟨⟨b0,b1⟩,f0,f1⟩:=Cy (H5.blk 3 _ _ _ rfl);have hrr:=H5.range 2 rfl;have r2:=hrr 2 _ rfl;have r3:=hrr 3 _ rfl;simp only[Bt]at r2 r3;clear hrr;have he3:e=0∨e=1∨e=2:=Ci;rcases he3 with rfl|rfl|rfl
 ·rcases hln with rfl|rfl
  ·as_aux_lemma=>
     go_wp2_with fail;refine(Ep 1 (x+by') _).mono ?_;rintro ee w6 ⟨rfl,hb6⟩;have H7:=(H5).call hb6;obtain⟨⟨p0,p1⟩,_⟩:=Cy (H7.blk 3 _ _ _ rfl);obtain⟨⟨t0,t1⟩,z0,z1⟩:=Cy (H7.blk 1 _ _ _ rfl);have hfin:=HR.out;clear b0 b1 f0 f1 r2 r3 a0 a1 a2 hb6
     cases hk:okL 1 (x+by')
     ·rw[Lj]
      have hv:rk=0∧rc=0∧re=3:=by
       simp[hk]at hfin;omega
      have HV:=Ah hv;clear hk hfin hv;go_wp2_with fail;have H8:=(H7.set 1 0 rfl (Aa Ac 0)).set 1 1 rfl (Aa Ab 0);exact Ai (Cs rfl rfl (H8.range 1 rfl) Tryz.underlying72 rfl Cm) rfl ⟨by rw[HV.out.1,HV.out.2.1,HV.out.2.2];rfl,H8.below⟩
     ·rw[Gz]
      have hv:rk=1∧rc=x+by'∧re=0:=by
       simp[hk]at hfin;omega
      have HV:=Ah hv;clear hk hfin hv;go_wp2_with fail;have H8:=(H7.set 1 0 rfl (Aa Ac 1)).set 1 1 rfl (Aa Ab (x+by'));exact Ai (Cs rfl rfl (H8.range 1 rfl) Tryz.underlying72 rfl Cm) rfl ⟨by rw[HV.out.1,HV.out.2.1,HV.out.2.2];rfl,H8.below⟩
  ·as_aux_lemma=>
     have w2':Ab.wrap (y+by')=y+by':=Ca _ Ci;go_wp2_with fail;refine(Ep 2 (y+by') _).mono ?_;rintro ee w6 ⟨rfl,hb6⟩;have H7:=((H5.set 3 1 rfl (Aa Ab (y+by')))).call hb6;obtain⟨⟨p0,p1⟩,_⟩:=Cy (H7.blk 3 _ _ _ rfl);obtain⟨⟨t0,t1⟩,z0,z1⟩:=Cy (H7.blk 1 _ _ _ rfl);have hfin:=HR.out;clear b0 b1 f0 f1 r2 r3 a0 a1 a2 hb6
     cases hk:okL 2 (y+by')
     ·rw[Lj]
      have hv:rk=0∧rc=0∧re=3:=by
       simp[hk]at hfin;omega
      have HV:=Ah hv;clear hk hfin hv;go_wp2_with fail;have H8:=(H7.set 1 0 rfl (Aa Ac 0)).set 1 1 rfl (Aa Ab 0);exact Ai (Cs rfl rfl (H8.range 1 rfl) Tryz.underlying72 rfl Cm) rfl ⟨by rw[HV.out.1,HV.out.2.1,HV.out.2.2];rfl,H8.below⟩
     ·rw[Gz]
      have hv:rk=2∧rc=y+by'∧re=0:=by
       simp[hk]at hfin;omega
      have HV:=Ah hv;clear hk hfin hv;go_wp2_with fail;have H8:=(H7.set 1 0 rfl (Aa Ac 2)).set 1 1 rfl (Aa Ab (y+by'));exact Ai (Cs rfl rfl (H8.range 1 rfl) Tryz.underlying72 rfl Cm) rfl ⟨by rw[HV.out.1,HV.out.2.1,HV.out.2.2];rfl,H8.below⟩
 ·as_aux_lemma=>
   have w2':Ab.wrap (x+y)=x+y:=Ca _ Ci;have w3':Ab.wrap (x+y+1)=x+y+1:=Ca _ Ci;go_wp2_with fail;refine(Ep 3 (x+y+1) _).mono ?_;rintro ee w6 ⟨rfl,hb6⟩;have H7:=(((H5.set 3 0 rfl (Aa Ac 3)).set 3 1 rfl (Aa Ab (x+y+1)))).call hb6;obtain⟨⟨p0,p1⟩,_⟩:=Cy (H7.blk 3 _ _ _ rfl);obtain⟨⟨t0,t1⟩,z0,z1⟩:=Cy (H7.blk 1 _ _ _ rfl);have hfin:=HR.out;clear b0 b1 f0 f1 r2 r3 a0 a1 a2 hb6
   cases hk:okL 3 (x+y+1)
   ·rw[Lj]
    have hv:rk=0∧rc=0∧re=3:=by
     simp[hk]at hfin;omega
    have HV:=Ah hv;clear hk hfin hv;go_wp2_with fail;have H8:=(H7.set 1 0 rfl (Aa Ac 0)).set 1 1 rfl (Aa Ab 0);exact Ai (Cs rfl rfl (H8.range 1 rfl) Tryz.underlying72 rfl Cm) rfl ⟨by rw[HV.out.1,HV.out.2.1,HV.out.2.2];rfl,H8.below⟩
   ·rw[Gz]
    have hv:rk=3∧rc=x+y+1∧re=0:=by
     simp[hk]at hfin;omega
    have HV:=Ah hv;clear hk hfin hv;go_wp2_with fail;have H8:=(H7.set 1 0 rfl (Aa Ac 3)).set 1 1 rfl (Aa Ab (x+y+1));exact Ai (Cs rfl rfl (H8.range 1 rfl) Tryz.underlying72 rfl Cm) rfl ⟨by rw[HV.out.1,HV.out.2.1,HV.out.2.2];rfl,H8.below⟩
 ·as_aux_lemma=>
   have w2':Ab.wrap (y-x)=y-x:=Ca _ Ci;go_wp2_with fail;refine(Ep 4 (y-x) _).mono ?_;rintro ee w6 ⟨rfl,hb6⟩;have H7:=(((H5.set 3 0 rfl (Aa Ac 4)).set 3 1 rfl (Aa Ab (y-x)))).call hb6;obtain⟨⟨p0,p1⟩,_⟩:=Cy (H7.blk 3 _ _ _ rfl);obtain⟨⟨t0,t1⟩,z0,z1⟩:=Cy (H7.blk 1 _ _ _ rfl);have hfin:=HR.out;clear b0 b1 f0 f1 r2 r3 a0 a1 a2 hb6
   cases hk:okL 4 (y-x)
   ·rw[Lj]
    have hv:rk=0∧rc=0∧re=3:=by
     simp[hk]at hfin;omega
    have HV:=Ah hv;clear hk hfin hv;go_wp2_with fail;have H8:=(H7.set 1 0 rfl (Aa Ac 0)).set 1 1 rfl (Aa Ab 0);exact Ai (Cs rfl rfl (H8.range 1 rfl) Tryz.underlying72 rfl Cm) rfl ⟨by rw[HV.out.1,HV.out.2.1,HV.out.2.2];rfl,H8.below⟩
   ·rw[Gz]
    have hv:rk=4∧rc=y-x∧re=0:=by
     simp[hk]at hfin;omega
    have HV:=Ah hv;clear hk hfin hv;go_wp2_with fail;have H8:=(H7.set 1 0 rfl (Aa Ac 4)).set 1 1 rfl (Aa Ab (y-x));exact Ai (Cs rfl rfl (H8.range 1 rfl) Tryz.underlying72 rfl Cm) rfl ⟨by rw[HV.out.1,HV.out.2.1,HV.out.2.2];rfl,H8.below⟩
theorem gW {a b c e:Int} (h:Dl a b c e=(c,e,0)):Nd a b c=true:=by
 unfold Dl at h
 split at h
 ·rename_i h0
  cases hh:Nd a b c with
  |true=>rfl
  |false=>unfold nbI at h0;rw[if_pos hh]at h0;simp at h0
 ·rename_i h0;simp at h;exact absurd h.2.2 h0
theorem Pt (a b:Int) (w:Aj) (hs:okS a b=true):Al Tryz.prog 110 #[.agg #[Aa Ab a,Aa Ab b]] w (Co (Aa Ab (Cq a b)) w):=by
 obtain⟨m1,m2,m3,m4,m5,m6⟩:=Ho hs;have e0:4*a*b=4*(a*b):=Int.mul_assoc _ _ _;obtain⟨m,hm⟩:=ey (4*a*b);have hfin:(Cq a b:Int)=m:=by unfold Cq;rw[hm];omega
 rw[hfin];have HM:=Ah hm;have HS:=Ah hs;have k1:Ab.wrap (4*a)=4*a:=Ca _ Ci;have k2:Ab.wrap (4*a*b)=m:=by rw[Ca _ Ci];exact hm
 have H:=(Bx.start w).new #[Aa Ab a,Aa Ab b] 25 rfl;clear hm hs hfin e0 m1 m2 m3 m4 m5 m6;go_enter Tryz.func110,Tryz.ntmps110;go_upto_region 1 with fail;obtain⟨W,hW⟩:=ez (w.alloc (.cells #[Aa Ab a,Aa Ab b] 25));rw[←hW]at H⊢;obtain⟨N,hN⟩:=ez w.heap.size;rw[←hN]at H⊢;clear hW hN;obtain⟨⟨a0,a1⟩,_⟩:=Cy (H.blk 0 _ _ _ rfl);go_wp2_with fail;refine(Ew a b _).mono ?_;rintro e w2 ⟨rfl,hb⟩;rw[HS.out,Gz];have H2:=H.call hb;clear a0 a1 hb;obtain⟨⟨a0,a1⟩,_⟩:=Cy (H2.blk 0 _ _ _ rfl);go_wp2;go_ret;exact⟨rfl,H2.below⟩
theorem zK (a b c e:Int) (w:Aj) (hs:okS a b=true) (he:0≤e) (hn:Dl a b c e=((c:Int),(e:Int),(0:Int))) (hQ:Qf w):
  Al Tryz.prog 147 #[.agg #[Aa Ab a,Aa Ab b],.agg #[Aa Ab c,Aa Ac e]] w (Co (.tuple #[.agg #[Aa Ab (c/4%a),Aa Ab (c/4/a),Aa Ac (c%4)],Aa Ab 0]) w):=by
 have HH:=Ah (gW hn);have HN:=Ah λw h=>Ta a b c e w hs he h;rw[hn]at HN;unfold Pn at HN;dsimp only at HN;have HCELL:=Ah λw=>eY a b c w hs HH.out;obtain⟨x,hx⟩:=ey (c/4%a);obtain⟨y,hy⟩:=ey (c/4/a);obtain⟨q,hq⟩:=ey (c%4);rw[hx,hy,hq]at HCELL;rw[hx,hy,hq];have HS:=Ah hs;have HQ:=Ah hQ;have H:=(((Bx.start w).new #[Aa Ab a,Aa Ab b] 25 rfl).new #[Aa Ab c,Aa Ac e] 126 (N:=w.heap.size+1) Cn).new #[Aa Ab 0,Aa Ab 0,Aa Ac 0] 87 (N:=w.heap.size+2) Cn;clear hx hy hq hs hn hQ;go_enter Tryz.func147,Tryz.ntmps147;go_upto_region 1 with fail;obtain⟨W,hW⟩:=ez (((w.alloc (.cells #[Aa Ab a,Aa Ab b] 25)).alloc (.cells #[Aa Ab c,Aa Ac e] 126)).alloc (.cells #[Aa Ab 0,Aa Ab 0,Aa Ac 0] 87));rw[←hW]at H⊢;obtain⟨N,hN⟩:=ez w.heap.size;rw[←hN]at H⊢;obtain⟨P,hP⟩:=ez (N+2);rw[←hP]at H;rw[show N+1+1=P from hP.symm];clear hW hN hP;obtain⟨⟨a0,a1⟩,_⟩:=Cy (H.blk 0 _ _ _ rfl);go_wp2_with fail;refine(Ew a b _).mono ?_;rintro ee w2 ⟨rfl,hb⟩;rw[HS.out,Gz];have H2:=H.call hb;clear a0 a1 hb H;obtain⟨⟨a0,a1⟩,_⟩:=Cy (H2.blk 0 _ _ _ rfl);obtain⟨⟨b0,b1⟩,_⟩:=Cy (H2.blk 1 _ _ _ rfl);go_wp2_with fail;refine(HN.out _ (HQ.out.below H2.below).qt).mono ?_;rintro ee w3 ⟨rfl,hb⟩;have H3:=H2.call hb;clear a0 a1 b0 b1 hb H2;obtain⟨⟨a0,a1⟩,_⟩:=Cy (H3.blk 0 _ _ _ rfl);obtain⟨⟨b0,b1⟩,_⟩:=Cy (H3.blk 1 _ _ _ rfl);have l0:=H3.lt 0 rfl;have l1:=H3.lt 1 rfl;have l2:=H3.lt 2 rfl;go_wp2_with fail;refine(HCELL.out _).mono ?_;rintro ee w4 ⟨rfl,hb⟩;have H4:=(H3.other _).call hb;clear a0 a1 b0 b1 hb H3;obtain⟨⟨d0,d1,d2⟩,f0,f1,f2⟩:=Cv (H4.blk 2 _ _ _ rfl);go_wp2_with fail;have H5:=((H4.set 2 0 rfl (Aa Ab x)).set 2 1 rfl (Aa Ab y)).set 2 2 rfl (Aa Ac q);exact Ai (Cs rfl rfl (H5.range 2 rfl) Tryz.underlying87 rfl Cm) rfl ⟨rfl,H5.below⟩
theorem eX {a b:Int} {c:Nat} (hs:okS a b=true) (hh:Nd a b c=true):(Cp a c).ok=true:=by
 obtain⟨m1,m2,m3,m4,m5,m6⟩:=Ho hs;obtain⟨i1,i2⟩:=Jr.1 hh;have e0:4*a*b=4*(a*b):=Int.mul_assoc _ _ _;have d3:=Int.emod_nonneg ((c:Int)/4) (show a≠0 by omega);have d4:=Int.emod_lt_of_pos ((c:Int)/4) (show 0<a by omega);have d5:0≤(c:Int)/4/a:=Int.ediv_nonneg Ci Ci;have d6:(c:Int)/4/a≤(c:Int)/4:=Int.ediv_le_self _ Ci;unfold Cl.ok Cp;rw[Eu];dsimp only;refine⟨Ci,Ci,Ci,Ci,Ci⟩
theorem dX (a b:Int) (c e:Nat) (w:Aj) (hs:okS a b=true) (he:e≤2) (hn:Dl a b c e=((c:Int),(e:Int),(0:Int))) (hQ:Qf w):
  Al Tryz.prog 112 #[.agg #[Aa Ab a,Aa Ab b],.agg #[Aa Ab c,Aa Ac e]] w (Co (lnR (Qu (Cp a c) e)) w):=by
 have HN:=Ah λw h=>zK a b c e w hs Ci hn h;have hok:=eX hs (gW hn);have HL:=Ah λw h=>eV (Cp a c) e w hok he h;obtain⟨⟨⟨rk,rc⟩,re⟩,hR⟩:∃R,Qu (Cp a c) e=R:=⟨_,rfl⟩;rw[hR]at HL⊢;unfold lnR at HL⊢;dsimp only at HL⊢;have hq4:(c:Int)%4=((c%4:Nat):Int):=Ci;rw[hq4]at HN;unfold Cp at HL;dsimp only at HL;obtain⟨x,hx⟩:=ey ((c:Int)/4%a);obtain⟨y,hy⟩:=ey ((c:Int)/4/a);obtain⟨q,hq⟩:=ey (c%4);rw[hx,hy,hq]at HN HL;have HQ:=Ah hQ;have H:=(((Bx.start w).new #[Aa Ab a,Aa Ab b] 25 rfl).new #[Aa Ab c,Aa Ac e] 126 (N:=w.heap.size+1) Cn).new #[Aa Ac 0,Aa Ab 0] 72 (N:=w.heap.size+2) Cn;clear hx hy hq hs hn hQ hR hok hq4;go_enter Tryz.func112,Tryz.ntmps112;go_upto_region 1 with fail;obtain⟨W,hW⟩:=ez (((w.alloc (.cells #[Aa Ab a,Aa Ab b] 25)).alloc (.cells #[Aa Ab c,Aa Ac e] 126)).alloc (.cells #[Aa Ac 0,Aa Ab 0] 72));rw[←hW]at H⊢;obtain⟨N,hN⟩:=ez w.heap.size;rw[←hN]at H⊢;obtain⟨P,hP⟩:=ez (N+2);rw[←hP]at H;rw[show N+1+1=P from hP.symm];clear hW hN hP;obtain⟨⟨a0,a1⟩,_⟩:=Cy (H.blk 0 _ _ _ rfl);obtain⟨⟨b0,b1⟩,_⟩:=Cy (H.blk 1 _ _ _ rfl);go_wp2_with fail;refine(HN.out _ (HQ.out.below H.below)).mono ?_;rintro ee w2 ⟨rfl,hb⟩;have H2:=H.call hb;clear a0 a1 b0 b1 hb H;obtain⟨⟨b0,b1⟩,_⟩:=Cy (H2.blk 1 _ _ _ rfl);have l1:=H2.lt 1 rfl;have l2:=H2.lt 2 rfl;go_wp2_with fail;refine(HL.out _ (HQ.out.below (H2.other _).below)).mono ?_;rintro ee w3 ⟨rfl,hb⟩;have H3:=(H2.other _).call hb;clear b0 b1 hb H2;obtain⟨⟨d0,d1⟩,f0,f1⟩:=Cy (H3.blk 2 _ _ _ rfl);go_wp2_with fail;have H4:=(H3.set 2 0 rfl (Aa Ac rk)).set 2 1 rfl (Aa Ab rc);exact Ai (Cs rfl rfl (H4.range 2 rfl) Tryz.underlying72 rfl Cm) rfl ⟨rfl,H4.below⟩
theorem Sc {w X Y:Aj} (h:Below X.heap.size X Y) (k:Below w.heap.size w X):Below w.heap.size w Y:=k.trans (h.mono k.size)
def Iq (l:List Mv):List Ak:=l.flatMap Mv.cells
theorem Je (m:Mv):m.cells.length=3:=rfl
theorem Rn {w:Aj} {g:Nat} {l:List Mv} (h:w.rangeAt g 0 (Iq l)) (i:Nat) (hi:i<l.length):
  w.cell? ⟨g,i*3,Ae⟩=Af (Aa Ac l[i].t)∧w.cell? ⟨g,i*3+1,Ae⟩=Af (Aa Ab l[i].x)∧w.cell? ⟨g,i*3+2,Ae⟩=Af (Aa Ab l[i].y):=by
 have hat:∀f,f<3→(Iq l)[i*3+f]? =(l[i].cells)[f]? :=λf hf=>Dz Mv.cells 3 Je _ i f hi hf;have h0:=h (i*3+0) _ ((hat 0 Ci).trans rfl);have h1:=h (i*3+1) _ ((hat 1 Ci).trans rfl);have h2:=h (i*3+2) _ ((hat 2 Ci).trans rfl);simp only[Bt,Nat.add_zero]at h0 h1 h2;exact⟨h0,h1,h2⟩
theorem Ak2 (c:Cl) (e:Nat):0≤(Qu c e).1.1:=by
 unfold Qu
 split
 ·unfold Et
  split
  ·exact(by decide:(0:Int)≤3)
  ·split
   ·exact(by decide:(0:Int)≤4)
   ·split
    ·exact(by decide:(0:Int)≤2)
    ·exact(by decide:(0:Int)≤1)
    ·exact(by decide:(0:Int)≤2)
    ·exact(by decide:(0:Int)≤1)
 ·exact Int.le_refl _
theorem Al5 (l:Int×Int):(On l).1.t≤255:=by
 unfold On
 split
 ·unfold ofL
  split
  ·exact(by decide:4≤255)
  ·split
   ·exact(by decide:6≤255)
   ·split
    ·exact(by decide:5≤255)
    ·exact(by decide:7≤255)
 ·exact(by decide:0≤255)
theorem Am0 (a b i e:Int) (h0:0≤e):0≤(Dl a b i e).2.1∧(Dl a b i e).2.1≤e:=by
 unfold Dl
 split
 ·exact⟨h0,Int.le_refl _⟩
 ·exact⟨Int.le_refl _,h0⟩
theorem kF (a b:Int) (l:List Cr) (out:List Mv) (id e N N4 N5 M go n:Nat) (w:Aj) (hp:Gx a b l) (hQ:Qf w) (hT:Tn w) (hn:n=out.length) (hid:id<n) (he:e≤2) (hm:∀m∈out,m.t≤255)
  (c0:w.cell? ⟨N,0,Ae⟩=Af (Aa Ab a)) (c1:w.cell? ⟨N,1,Ae⟩=Af (Aa Ab b)) (h4:w.cell? ⟨N4,0,Ae⟩=Af (.map (Af M))) (hM:Fq unK w M (crM l))
  (h5:w.cell? ⟨N5,0,Ae⟩=Af (Ad (Af ⟨go,0,Ae⟩) n n)) (hr:w.rangeAt go 0 (Iq out)):
  Al Tryz.prog 111 #[Aa Ab id,Aa Ac e,.pointer (Af ⟨N,0,Ae⟩),.pointer (Af ⟨N4,0,Ae⟩),.pointer (Af ⟨N5,0,Ae⟩)] w (Co (Fj a b l out id e).v w):=by
 have hid':id<out.length:=Ci;obtain⟨m0,m1,m2⟩:=Rn hr id hid';have hmt:=hm out[id] (Ay _);have hgd:out.getD id mv0=out[id]:=by simp[List.getD,hid']
 obtain⟨R,hR⟩:=ey (Fj a b l out id e);rw[hR];unfold Fj at hR;rw[hgd]at hR;obtain⟨m,hmm⟩:=ey (out[id]);rw[hmm]at m0 m1 m2 hmt hR;obtain⟨mt,mx,my⟩:=m;dsimp only at m0 m1 m2 hmt;have hnm:=λw h=>Ta a b id e w hp.sheet (Int.natCast_nonneg e) h;have hne:=Am0 a b id e (Int.natCast_nonneg e);obtain⟨⟨c,e',er⟩,hu⟩:=ey (Dl a b id e);rw[hu]at hnm hR hne;unfold Pn at hnm;dsimp only at hnm hR hne;have hcr:=Ah7 l c e';obtain⟨S,hS⟩:=ey (It l c e');rw[hS]at hR hcr;have HS:=Ah hS;have HR:=Ah hR;have HNM:=Ah hnm;have HP:=Ah hp;have HQ:=Ah hQ;have HT:=Ah hT;have HM:=Ah hM;have HCR:=Ah hcr;have HN:=Ah hn;have qid:(id:Int)<(n:Int):=Ci;have H:=(Bx.start w).new #[Aa Ac 0,Aa Ab 0,Aa Ab 0] 30 rfl;clear hR hnm hp hQ hT hM hu hm hr hgd hmm hS hcr hn hid';go_enter Tryz.func111,Tryz.ntmps111;go_upto_region 1 with fail;obtain⟨W,hW⟩:=ez (w.alloc (.cells #[Aa Ac 0,Aa Ab 0,Aa Ab 0] 30));rw[←hW]at H⊢;obtain⟨N7,hN7⟩:=ez w.heap.size;rw[←hN7]at H⊢;clear hW hN7;have d0:=Cj H.below c0;have d1:=Cj H.below c1;go_wp2_with fail;refine(HNM.out _ (HQ.out.below H.below).qt).mono ?_;rintro e2 w2 ⟨rfl,hb⟩;have H2:=H.call hb;clear d0 d1 hb H;obtain⟨p8,hp8⟩:=ey w2.heap.size;have H3:=H2.new #[Aa Ab c,Aa Ac e'] 126 hp8;go_upto_region 2 with fail;obtain⟨W3,hW3⟩:=ez (w2.alloc (.cells #[Aa Ab c,Aa Ac e'] 126));rw[←hW3]at H3⊢;clear hW3 hp8 H2;obtain⟨⟨u0,u1⟩,_⟩:=Cy (H3.blk 1 _ _ _ rfl);have f4:=Cj H3.below h4;have hM3:=HM.out.below H3.below HM.out.lt;have hcr:=HCR.out;obtain⟨⟨r0,r1,r2⟩,z0,z1,z2⟩:=Cv (H3.blk 0 _ _ _ rfl);have b0:=Cj H3.below m0;have b1:=Cj H3.below m1;have b2:=Cj H3.below m2;have b5:=Cj H3.below h5
 cases S with
 |false=>
  have HF:Hid (R=⟨mt,mx,my⟩):=Ah (by rw[←HR.out];rfl);go_wp2_with (at_lookup;refine Po (z:= .bool false) Nr Tryz.underlying220 (λw=>Cm) _ rfl _ _ _ rfl M (crM l) (c,e') rfl rfl hM3 ?_;simp only[Bool.false_eq_true,if_false];rw[hcr]);have H4:=((H3.set 0 0 rfl (Aa Ac mt)).set 0 1 rfl (Aa Ab mx)).set 0 2 rfl (Aa Ab my);exact Ai (Ht rfl rfl (H4.range 0 rfl) Tryz.underlying30 rfl Cm) rfl ⟨by rw[HF.out];rfl,H4.below⟩
 |true=>
  have hex:∃r∈l,r.c=c∧r.e=e':=by
   have:=HS.out;unfold It at this;rw[List.any_eq_true]at this;obtain⟨r,h1,h2⟩:=this;simp only[Bool.and_eq_true,decide_eq_true_eq]at h2;exact⟨r,h1,h2⟩
  obtain⟨r,hrl,rfl,rfl⟩:=hex;have hnr:=HP.out.name r hrl;have hfit:=HP.out.fit r hrl;unfold Cr.fit at hfit;obtain⟨rc,re,rk⟩:=r;dsimp only at hnr hfit hne HR HCR hM3 u0 u1 H3 hcr HS HNM⊢;obtain⟨cn,rfl⟩:∃cn:Nat,rc=cn:=⟨rc.toNat,Ci⟩;obtain⟨en,rfl⟩:∃en:Nat,re=en:=⟨re.toNat,Ci⟩;have hLN:=λw h=>dX a b cn en w HP.out.sheet Ci hnr h;have hl3:qM a b cn en=Qu (Cp a cn) en:=by unfold qM;rw[if_pos hnr];simp
  have hk0:=Ak2 (Cp a cn) en;obtain⟨⟨⟨lk,lc⟩,le⟩,hle⟩:∃z,Qu (Cp a cn) en=z:=⟨_,rfl⟩;rw[hle]at hLN hl3 hk0;unfold lnR at hLN;dsimp only at hLN hk0;have hOF:=λw=>Rm lk lc w hk0;have hrt:=Al5 (lk,lc);have HR2:Hid ((Gi (On (lk,lc)).1 ⟨mt,mx,my⟩).1=R):=Ah (by have:=HR.out;rw[if_pos rfl,hl3]at this;exact this);obtain⟨⟨⟨rt,rx,ry⟩,re2⟩,hmv⟩:∃z,On (lk,lc)=z:=⟨_,rfl⟩;rw[hmv]at hOF hrt HR2;unfold mvR Mv.v at hOF;dsimp only at hOF hrt HR2;have hTH:=λw h=>Ve ⟨rt,rx,ry⟩ ⟨mt,mx,my⟩ w hrt hmt h;obtain⟨⟨⟨qt,qx,qy⟩,qe⟩,hth⟩:∃z,Gi ⟨rt,rx,ry⟩ ⟨mt,mx,my⟩=z:=⟨_,rfl⟩;rw[hth]at hTH HR2;unfold mvR Mv.v at hTH;dsimp only at hTH HR2;have HLN:=Ah hLN;have HOF:=Ah hOF;have HTHEN:=Ah λ(w':Aj) (h:Below w.heap.size w w')=>hTH w' (HT.out.below h);clear hnr hfit hLN hl3 hk0 hle hOF hrt hmv hTH hth HR hrl hne HS HNM HP;have d0:=Cj H3.below c0;have d1:=Cj H3.below c1;go_wp2_with (at_lookup;refine Po (z:= .bool false) Nr Tryz.underlying220 (λw=>Cm) _ rfl _ _ _ rfl M (crM l) ((cn:Int),(en:Int)) rfl rfl hM3 ?_;simp only[Bool.false_eq_true,if_false];rw[hcr]);refine(HLN.out _ (HQ.out.below H3.below)).mono ?_;rintro e2 w4 ⟨rfl,hb⟩;have H4:=H3.call hb;clear d0 d1 hb H3 r0 r1 r2 z0 z1 z2 b0 b1 b2 b5 f4 hM3 hcr u0 u1;obtain⟨p10,hp10⟩:=ey w4.heap.size;have H5:=H4.new #[Aa Ac lk,Aa Ab lc] 72 hp10;go_upto_region 5 with fail;obtain⟨W5,hW5⟩:=ez (w4.alloc (.cells #[Aa Ac lk,Aa Ab lc] 72));rw[←hW5]at H5⊢;clear hW5 hp10 H4;obtain⟨⟨u0,u1⟩,_⟩:=Cy (H5.blk 2 _ _ _ rfl);go_wp2_with fail;refine(HOF.out _).mono ?_;rintro e2 w6 ⟨rfl,hb⟩;have H6:=H5.call hb;clear hb H5 u0 u1;obtain⟨p12,hp12⟩:=ey w6.heap.size;have H7:=H6.new #[Aa Ac rt,Aa Ab rx,Aa Ab ry] 30 hp12;go_upto_region 6 with fail;obtain⟨W,hW⟩:=ez (w6.alloc (.cells #[Aa Ac rt,Aa Ab rx,Aa Ab ry] 30));rw[←hW]at H7⊢;have H:=H7;clear hW hp12 H6 H7;have HBW:=H.below
  go_cut [14] (λs14 wx=>∃p14,s14= .pointer (Af ⟨p14,0,Ae⟩)∧Bx w [(N7,#[Aa Ac 0,Aa Ab 0,Aa Ab 0],30),(p8,#[Aa Ab cn,Aa Ac en],126),(p10,#[Aa Ac lk,Aa Ab lc],72),(p12,#[Aa Ac rt,Aa Ab rx,Aa Ab ry],30),(p14,#[Aa Ac qt,Aa Ab qx,Aa Ab qy],30)] wx)
  case first=>
   obtain⟨⟨s0,s1,s2⟩,_⟩:=Cv (H.blk 3 _ _ _ rfl);have b0:=Cj H.below m0;have b1:=Cj H.below m1;have b2:=Cj H.below m2;have b5:=Cj H.below h5;have HSA:Hid (∀W',Below W.heap.size W W'→(λw':Aj=>w'.cell? ⟨p12,0,Ae⟩=Af (Aa Ac rt)∧w'.cell? ⟨p12,1,Ae⟩=Af (Aa Ab rx)∧w'.cell? ⟨p12,2,Ae⟩=Af (Aa Ab ry)∧w'.cell? ⟨N5,0,Ae⟩=Af (Ad (Af ⟨go,0,Ae⟩) n n)∧w'.cell? ⟨go,id*3,Ae⟩=Af (Aa Ac mt)∧w'.cell? ⟨go,id*3+1,Ae⟩=Af (Aa Ab mx)∧w'.cell? ⟨go,id*3+2,Ae⟩=Af (Aa Ab my)) W'):=Ah λW' h=>⟨Cj h s0,Cj h s1,Cj h s2,Cj h b5,Cj h b0,Cj h b1,Cj h b2⟩;clear s0 s1 s2 b0 b1 b2 b5 c0 c1 h4 h5 m0 m1 m2 HQ HT HM HCR HN HLN HOF HR2;refine Ao (S:=(λw':Aj=>w'.cell? ⟨p12,0,Ae⟩=Af (Aa Ac rt)∧w'.cell? ⟨p12,1,Ae⟩=Af (Aa Ab rx)∧w'.cell? ⟨p12,2,Ae⟩=Af (Aa Ab ry)∧w'.cell? ⟨N5,0,Ae⟩=Af (Ad (Af ⟨go,0,Ae⟩) n n)∧w'.cell? ⟨go,id*3,Ae⟩=Af (Aa Ac mt)∧w'.cell? ⟨go,id*3+1,Ae⟩=Af (Aa Ab mx)∧w'.cell? ⟨go,id*3+2,Ae⟩=Af (Aa Ab my))) Cm (HSA.out _ (Ag _ _).drew) (λhS=>?_);have hb:Below W.heap.size W W.drew:=(Ag _ _).drew;have H:=H.drew;obtain⟨X0,hX⟩:=ez W.drew;rw[←hX]at H hb⊢;clear hX;have hS:=HSA.out _ hb;refine wpAnyH_take (i:=0) (v:=?_) rfl Cm Cm Cm (λ_ _ _ h=>h) (Or.inl ⟨by rfl,?_⟩) hS ?_;rotate_left
   ·intro w0 hSw
    (try dsimp only at hSw)
    go_split_ands;go_simp
    try with_reducible rfl
   try simp only[Act.put,Ce,Cc,Ch,Cf,Cg]
   refine wpAnyH_take (i:=1) (v:=?_) rfl Cm Cm Cm (λ_ _ _ h=>h) (Or.inl ⟨by rfl,?_⟩) hS ?_;rotate_left
   ·intro w0 hSw
    (try dsimp only at hSw)
    go_split_ands;go_simp
    try with_reducible rfl
   try simp only[Act.put,Ce,Cc,Cd,Ch,Cf,Cg]
   refine wpAnyH_take (i:=2) (v:=?_) rfl Cm Cm Cm (λ_ _ _ h=>h) (Or.inl ⟨by rfl,?_⟩) hS ?_;rotate_left
   ·intro w0 hSw
    (try dsimp only at hSw)
    go_split_ands;go_simp
    try with_reducible rfl
   try simp only[Act.put,Ce,Cc,Cd,Ch,Cf,Cg]
   refine wpAnyH_take (i:=3) (v:=?_) rfl Cm Cm Cm (λ_ _ _ h=>h) (Or.inl ⟨by rfl,?_⟩) hS ?_;rotate_left
   ·intro w0 hSw
    (try dsimp only at hSw)
    go_split_ands;go_simp
    try with_reducible rfl
   try simp only[Act.put,Ce,Cc,Cd,Ch,Cf,Cg]
   refine wpAnyH_take (i:=4) (v:=?_) rfl Cm Cm Cm (λ_ _ _ h=>h) (Or.inl ⟨by rfl,?_⟩) hS ?_;rotate_left
   ·intro w0 hSw
    (try dsimp only at hSw)
    go_split_ands;go_simp
    try with_reducible rfl
   try simp only[Act.put,Ce,Cc,Cd,Ch,Cf,Cg]
   refine Ap (rs:=[5,9]) Cm Cn (Aq rfl (λK hK=>?_) (Aq rfl (λK hK=>?_) Ar))
   ·go_simp;refine(HTHEN.out _ (Sc hb HBW)).mono ?_;rintro e X1 ⟨rfl,hbm⟩;have hb:=hb.trans (hbm.mono hb.size);have H:=H.call hbm;refine hK.out _ _ (HSA.out _ hb) (λhS=>?_);clear hK K hbm;refine wpAnyH_take (i:=6) (v:=?_) rfl Cm Cm Cm (λ_ _ _ h=>h) (Or.inl ⟨by rfl,?_⟩) hS ?_;rotate_left
    ·intro w0 hSw
     (try dsimp only at hSw)
     go_split_ands;go_simp
     try with_reducible rfl
    try simp only[Act.put,Ce,Cc,Cd,Ch,Cf,Cg]
    refine wpAnyH_take (i:=7) (v:=?_) rfl Cm Cm Cm (λ_ _ _ h=>h) (Or.inl ⟨by rfl,?_⟩) hS ?_;rotate_left
    ·intro w0 hSw
     (try dsimp only at hSw)
     go_split_ands;go_simp
     try with_reducible rfl
    try simp only[Act.put,Ce,Cc,Cd,Ch,Cf,Cg]
    refine wpAnyH_take (i:=8) (v:=?_) rfl Cm Cm Cm (λ_ _ _ h=>h) (Or.inl ⟨by rfl,?_⟩) hS ?_;rotate_left
    ·intro w0 hSw
     (try dsimp only at hSw)
     go_split_ands;go_simp
     try with_reducible rfl
    try simp only[Act.put,Ce,Cc,Cd,Ch,Cf,Cg]
    refine Ap (rs:=[9]) Cm Cn (Aq rfl (λK hK=>?_) Ar);obtain⟨p14,hp⟩:=ey X1.heap.size;have hl:W.heap.size≤p14:=hp▸hb.size;have hb:=hb.alloc hb.size (.cells #[Aa Ac 0,Aa Ab 0,Aa Ab 0] 30);have H:=H.new #[Aa Ac 0,Aa Ab 0,Aa Ab 0] 30 hp;go_simp;refine hK.out _ _ (HSA.out _ hb) (λhS=>?_);clear hK K hS;obtain⟨X2,hX⟩:=ez (X1.alloc (.cells #[Aa Ac 0,Aa Ab 0,Aa Ab 0] 30));rw[←hX]at H hb⊢;clear hX hp;have hS:=HSA.out _ hb;refine Ap (rs:=[10]) Cm Cn (Aq rfl (λK hK=>?_) Ar);obtain⟨⟨y0,y1,y2⟩,z0,z1,z2⟩:=Cv (H.blk 4 _ _ _ rfl);have hb:=((hb.setCell (p:=⟨p14,0,Ae⟩) hl (Aa Ac qt)).setCell (p:=⟨p14,1,Ae⟩) hl (Aa Ab qx)).setCell (p:=⟨p14,2,Ae⟩) hl (Aa Ab qy);have H:=((H.set 4 0 rfl (Aa Ac qt)).set 4 1 rfl (Aa Ab qx)).set 4 2 rfl (Aa Ab qy);go_simp;refine hK.out _ _ (HSA.out _ hb) (λhS=>?_);clear hK K y0 y1 y2 z0 z1 z2;refine Ap (rs:=[11]) Cm Cn (Aq rfl (λK hK=>?_) Ar);go_simp;refine hK.out _ _ (HSA.out _ hb) (λhS=>?_);clear hK K;refine An Cm ?_ _;go_wp2;go_meet;exact⟨_,rfl,H⟩
   ·obtain⟨p14,hp⟩:=ey X0.heap.size;have hl:W.heap.size≤p14:=hp▸hb.size;have hb:=hb.alloc hb.size (.cells #[Aa Ac 0,Aa Ab 0,Aa Ab 0] 30);have H:=H.new #[Aa Ac 0,Aa Ab 0,Aa Ab 0] 30 hp;go_simp;refine hK.out _ _ (HSA.out _ hb) (λhS=>?_);clear hK K hS;obtain⟨X1,hX⟩:=ez (X0.alloc (.cells #[Aa Ac 0,Aa Ab 0,Aa Ab 0] 30));rw[←hX]at H hb⊢;clear hX hp;have hS:=HSA.out _ hb;refine Ap (rs:=[5]) Cm Cn (Aq rfl (λK hK=>?_) Ar);go_simp;refine(HTHEN.out _ (Sc hb HBW)).mono ?_;rintro e X2 ⟨rfl,hbm⟩;have hb:=hb.trans (hbm.mono hb.size);have H:=H.call hbm;refine hK.out _ _ (HSA.out _ hb) (λhS=>?_);clear hK K hbm;refine wpAnyH_take (i:=6) (v:=?_) rfl Cm Cm Cm (λ_ _ _ h=>h) (Or.inl ⟨by rfl,?_⟩) hS ?_;rotate_left
    ·intro w0 hSw
     (try dsimp only at hSw)
     go_split_ands;go_simp
     try with_reducible rfl
    try simp only[Act.put,Ce,Cc,Cd,Ch,Cf,Cg]
    refine wpAnyH_take (i:=7) (v:=?_) rfl Cm Cm Cm (λ_ _ _ h=>h) (Or.inl ⟨by rfl,?_⟩) hS ?_;rotate_left
    ·intro w0 hSw
     (try dsimp only at hSw)
     go_split_ands;go_simp
     try with_reducible rfl
    try simp only[Act.put,Ce,Cc,Cd,Ch,Cf,Cg]
    refine wpAnyH_take (i:=8) (v:=?_) rfl Cm Cm Cm (λ_ _ _ h=>h) (Or.inl ⟨by rfl,?_⟩) hS ?_;rotate_left
    ·intro w0 hSw
     (try dsimp only at hSw)
     go_split_ands;go_simp
     try with_reducible rfl
    try simp only[Act.put,Ce,Cc,Cd,Ch,Cf,Cg]
    refine Ap (rs:=[10]) Cm Cn (Aq rfl (λK hK=>?_) Ar);obtain⟨⟨y0,y1,y2⟩,z0,z1,z2⟩:=Cv (H.blk 4 _ _ _ rfl);have hb:=((hb.setCell (p:=⟨p14,0,Ae⟩) hl (Aa Ac qt)).setCell (p:=⟨p14,1,Ae⟩) hl (Aa Ab qx)).setCell (p:=⟨p14,2,Ae⟩) hl (Aa Ab qy);have H:=((H.set 4 0 rfl (Aa Ac qt)).set 4 1 rfl (Aa Ab qx)).set 4 2 rfl (Aa Ab qy);go_simp;refine hK.out _ _ (HSA.out _ hb) (λhS=>?_);clear hK K y0 y1 y2 z0 z1 z2;refine Ap (rs:=[11]) Cm Cn (Aq rfl (λK hK=>?_) Ar);go_simp;refine hK.out _ _ (HSA.out _ hb) (λhS=>?_);clear hK K;refine An Cm ?_ _;go_wp2;go_meet;exact⟨_,rfl,H⟩
  case rest=>
   obtain⟨p14,rfl,H⟩:=hcut;obtain⟨⟨s0,s1,s2⟩,_⟩:=Cv (H.blk 4 _ _ _ rfl);obtain⟨⟨r0,r1,r2⟩,z0,z1,z2⟩:=Cv (H.blk 0 _ _ _ rfl);go_wp2_with fail;have H4:=((H.set 0 0 rfl (Aa Ac qt)).set 0 1 rfl (Aa Ab qx)).set 0 2 rfl (Aa Ab qy);exact Ai (Ht rfl rfl (H4.range 0 rfl) Tryz.underlying30 rfl Cm) rfl ⟨by rw[←HR2.out];rfl,H4.below⟩
theorem pH (b off n:Nat):(⟨b,off,Ae⟩:Addr).add n=⟨b,off+n,Ae⟩:=by
 unfold Addr.add;split
 ·rename_i h;subst h;rfl
 ·rfl
theorem Ab9 {P:Program} {t:TypeId} {n:Nat} {i:TypeInfo} (hi:P.info? t=Af i) (h:i.size=n) (w:Aj):(sizeOf t).run P w= .ok n w:=by
 simp[sizeOf,run_typeInfo w hi,h]
theorem Ab8 {P:Program} {sT xT ty elem e:TypeId} {w w':Aj} {b off sLen sCap n size:Nat} {y:Ak} {i:TypeInfo} {new:Array Ak} (hu:P.underlying sT=Af (.slice elem)) (hd:P.underlying xT=Af (.slice e))
  (hi:P.info? elem=Af i) (hs:i.size=size) (hn:(Builtin.lenOf y).run P w= .ok n w) (hc:sLen+n≤sCap) (hf:(Builtin.firstCells size n y).run P w= .ok new w)
  (hst:(storeCells ⟨b,off+sLen*size,Ae⟩ new.toList).run P w= .ok () w'):
  (Builtin.append_ #[sT,xT] ty #[Ad (Af ⟨b,off,Ae⟩) sLen sCap,y]).run P w= .ok (Ad (Af ⟨b,off,Ae⟩) (sLen+n) sCap) w':=by
 simp[Builtin.append_,run_underlying hu,run_underlying hd,Ab9 hi hs,hn,hc,hf,pH,hst]
theorem pZ (newLen B:Nat) (hB:newLen≤B):∀(r c:Nat),c≤2*B→Builtin.growBy newLen r c≤2*B+B/4+1000
 |0,c,hc=>by simp only[Builtin.growBy];omega
 |r+1,c,hc=>by
  simp only[Builtin.growBy]
  split
  ·omega
  ·rename_i h;by_cases h2:c+(c+768)/4≤2*B
   ·exact pZ newLen B hB r _ h2
   ·have h3:newLen≤c+(c+768)/4:=Ci
    cases r with
    |zero=>simp only[Builtin.growBy];omega
    |succ r=>simp only[Builtin.growBy];rw[if_pos h3];omega
theorem Am5 {need cap:Nat} (h1:need≤1000000) (h2:cap<need):Builtin.nextslicecap need cap≤3000000:=by
 unfold Builtin.nextslicecap
 split
 ·omega
 ·split
  ·omega
  ·have:=pZ need 1000000 h1 4 cap Ci;omega
theorem uY {P:Program} {sT xT ty elem e:TypeId} {w:Aj} {base:Option Addr} {sLen sCap n size:Nat} {y z:Ak} {i:TypeInfo} {old new:Array Ak} (hu:P.underlying sT=Af (.slice elem)) (hd:P.underlying xT=Af (.slice e))
  (hi:P.info? elem=Af i) (hs:i.size=size) (hb:i.bytes*3000000≤281474976710656) (hn:(Builtin.lenOf y).run P w= .ok n w) (hc:sCap<sLen+n) (hl:sLen+n≤1000000)
  (ho:(Builtin.firstCells size sLen (Ad base sLen sCap)).run P w.drew= .ok old w.drew) (hf:(Builtin.firstCells size n y).run P w.drew= .ok new w.drew) (hz:(zeroValue elem).run P w.drew= .ok z w.drew):
  ∃newCap,sLen+n≤newCap∧(Builtin.append_ #[sT,xT] ty #[Ad base sLen sCap,y]).run P w=
   .ok (Ad (Af ⟨w.heap.size,0,Ae⟩) (sLen+n) newCap) (w.drew.alloc (.cells (old++new++Builtin.zeroCells z.cells (newCap-(sLen+n))) elem)):=by
 have h2:¬(Builtin.nextslicecap (sLen+n) sCap*i.bytes>2^48):=by
  have:=Am5 hl hc;have h3:Builtin.nextslicecap (sLen+n) sCap*i.bytes≤3000000*i.bytes:=Nat.mul_le_mul_right _ this;have:(2:Nat)^48=281474976710656:=Ct;omega
 have h4:¬(((sLen+n:Nat):Int)>IntKind.i64.max):=by
  have:IntKind.i64.max=9223372036854775807:=Ct;omega
 have h5:¬(sLen+n≤sCap):=Ci
 have hch:(choose (.appendCap (sLen+n) sCap elem)).run P w= .ok (sLen+n+w.tape w.drawn (.appendCap (sLen+n) sCap elem)%(2^63-(sLen+n))) w.drew:=by
  rfl
 refine⟨sLen+n+w.tape w.drawn (.appendCap (sLen+n) sCap elem)%(2^63-(sLen+n)),Ci,?_⟩
 generalize hq:sLen+n+w.tape w.drawn (.appendCap (sLen+n) sCap elem)%(2^63-(sLen+n))=q at hch
 have har:∀m,(askRoom m).run P w.drew= .ok () w.drew:=by
  intro m;unfold askRoom;split<;>rfl
 have hnew:∀cs,(newRow elem cs).run P w.drew= .ok ⟨w.heap.size,0,Ae⟩ (w.drew.alloc (.cells cs elem)):=λcs=>rfl;simp only[Builtin.append_,List.getElem?_toArray,List.getElem?_cons_zero,List.getElem?_cons_succ,Sem.run_bind,run_underlying hu,run_underlying hd,Result.andThen_ok,Ab9 hi hs,Sem.run_pure,hn,if_neg h5,h4,false_and,if_false,run_typeInfo w hi,if_neg h2,hch,run_typeInfo w.drew hi,har,ho,hf,hz,hnew,Bool.false_eq_true,Bool.not_false,if_true]
theorem Fq.setCell {κ:Type} {K:κ→Ak} {w:Aj} {M:Nat} {l:List (κ×Ak)} (h:Fq K w M l) (p:Addr) (v:Ak):Fq K (w.setCell p v) M l:=by
 obtain⟨es,cl,h1,h2⟩:=h;refine⟨es,cl,?_,h2⟩;unfold World.setCell;simp only[Array.getElem?_modify]
 split
 ·rename_i e;subst e;rw[h1];rfl
 ·exact h1
theorem Fq.drew {κ:Type} {K:κ→Ak} {w:Aj} {M:Nat} {l:List (κ×Ak)} (h:Fq K w M l):Fq K w.drew M l:=h
theorem Bx.setOther {w wr:Aj} {l:List (Nat×Array Ak×TypeId)} (h:Bx w l wr) {g:Nat} (hg:w.heap.size≤g) (hne:∀(i:Nat) (x:Nat×Array Ak×TypeId),l[i]? =Af x→x.1≠g) (j:Nat) (v:Ak):Bx w l (wr.setCell ⟨g,j,Ae⟩ v):=
 ⟨h.below.setCell (p:=⟨g,j,Ae⟩) hg v,λi b cs t hi=>(Below.heap_setCell wr ⟨g,j,Ae⟩ v b (hne i _ hi)).trans (h.blk i b cs t hi),h.lo,h.inj⟩
def QAt (w:Aj) (base:Nat) (av:List Nat) (v:Ak) (l:List Nat):Prop:=
 ∃g o c cw,v= Ad (Af ⟨g,o,Ae⟩) l.length c∧base≤g∧(∀x∈av,x≠g)∧w.heap[g]? =Af (Obj.cells cw 3 (0,0))∧l.length≤c∧o+c≤cw.size∧∀i,(h:i<l.length)→cw[o+i]? =Af (Aa Ab (l[i]:Nat))
theorem QAt.below {w w':Aj} {base:Nat} {av:List Nat} {v:Ak} {l:List Nat} (h:QAt w base av v l) (hb:Below w.heap.size w w'):QAt w' base av v l:=by
 obtain⟨g,o,c,cw,h1,h2,h3,h4,h5⟩:=h;exact⟨g,o,c,cw,h1,h2,h3,kept hb h4 (Au.1 h4).1,h5⟩
theorem QAt.set {w:Aj} {base:Nat} {av:List Nat} {v:Ak} {l:List Nat} (h:QAt w base av v l) {b:Nat} (hb:b∈av) (j:Nat) (u:Ak):QAt (w.setCell ⟨b,j,Ae⟩ u) base av v l:=by
 obtain⟨g,o,c,cw,h1,h2,h3,h4,h5⟩:=h;exact⟨g,o,c,cw,h1,h2,h3,(Below.heap_setCell w ⟨b,j,Ae⟩ u g (Ne.symm (h3 b hb))).trans h4,h5⟩
theorem QAt.head {w:Aj} {base:Nat} {av:List Nat} {v:Ak} {x:Nat} {l:List Nat} (h:QAt w base av v (x::l)):
  ∃g o c,v= Ad (Af ⟨g,o,Ae⟩) (l.length+1) c∧l.length+1≤c∧w.cell? ⟨g,o,Ae⟩=Af (Aa Ab (x:Nat))∧QAt w base av (Ad (Af ⟨g,o+1,Ae⟩) l.length (c-1)) l:=by
 obtain⟨g,o,c,cw,h1,h2,h3,h4,h5,h6,h7⟩:=h;simp only[List.length_cons]at h1 h5 h7;refine⟨g,o,c,h1,h5,?_,g,o+1,c-1,cw,rfl,h2,h3,h4,Ci,Ci,λi hi=>?_⟩
 ·rw[By w g o cw _ (0,0) h4];have:=h7 0 Ci;simpa using this
 ·have:=h7 (i+1) Ci;rw[show o+1+i=o+(i+1)by omega,this];simp
theorem Bc9:∃i,Tryz.prog.info? 3=Af i∧i.size=1∧i.bytes=8:=by
 have h:(Tryz.prog.info? 3).map (λi=>(i.size,i.bytes))=Af (1,8):=Cm
 cases hi:Tryz.prog.info? 3 with
 |none=>rw[hi]at h;cases h
 |some i=>rw[hi]at h;injection h with h;injection h with h1 h2;exact⟨i,rfl,h1,h2⟩
theorem Ap4 (w:Aj):(zeroValue 3).run Tryz.prog w= .ok (Aa Ab 0) w:=Cm
theorem QAt.push {w:Aj} {base:Nat} {av:List Nat} {v:Ak} {l:List Nat} (h:QAt w base av v l) (hl:l.length<900000) (hbase:base≤w.heap.size) (hav:∀x∈av,x<w.heap.size) (x gy cy:Nat) (hy:w.cell? ⟨gy,0,Ae⟩=Af (Aa Ab (x:Nat))):
  ∃v' w',(Builtin.append_ #[46,46] 46 #[v,Ad (Af ⟨gy,0,Ae⟩) 1 cy]).run Tryz.prog w= .ok v' w'∧QAt w' base av v' (l++[x])∧
   ((∃g j,base≤g∧(∀x∈av,x≠g)∧w'=w.setCell ⟨g,j,Ae⟩ (Aa Ab (x:Nat)))∨∃o,w'=w.drew.alloc o):=by
 obtain⟨g,o,c,cw,rfl,h2,h3,h4,h5,h6,h7⟩:=h;obtain⟨i,hi,hs,hbt⟩:=Bc9;have hu:Tryz.prog.underlying 46=Af (.slice 3):=Tryz.underlying46;have hn:∀W:Aj,(Builtin.lenOf (Ad (Af ⟨gy,0,Ae⟩) 1 cy)).run Tryz.prog W= .ok 1 W:=λW=>rfl
 have hload:∀W:Aj,W.cell? ⟨gy,0,Ae⟩=Af (Aa Ab (x:Nat))→(Builtin.firstCells 1 1 (Ad (Af ⟨gy,0,Ae⟩) 1 cy)).run Tryz.prog W= .ok #[Aa Ab (x:Nat)] W:=λW hW=>by
  have:=run_loadCells_list (P:=Tryz.prog) (w:=W) ⟨gy,0,Ae⟩ [Aa Ab (x:Nat)] (λj u hu=>by
   cases j with
   |zero=>simp at hu;subst hu;exact hW
   |succ j=>simp at hu)
  simpa[Builtin.firstCells]using this
 by_cases hc:l.length+1≤c
 ·
  have hst:(storeCells ⟨g,o+l.length*1,Ae⟩ [Aa Ab (x:Nat)]).run Tryz.prog w= .ok () (w.setCell ⟨g,o+l.length,Ae⟩ (Aa Ab (x:Nat))):=by
   have hcell:(w.cell? ⟨g,o+l.length,Ae⟩).isSome=true:=by rw[By w g _ cw _ (0,0) h4];simp;omega
   have hfz:w.frozen? ⟨g,o+l.length,Ae⟩=false:=by simp[World.frozen?,h4]
   have:=run_storeCells_cells (P:=Tryz.prog) g (o+l.length) [Aa Ab (x:Nat)] 0 w (λj hj=>by
    have:j=0:=by simpa using hj
    subst this;exact hcell) (λj hj=>by
    have:j=0:=by simpa using hj
    subst this;exact hfz) (λu hu=>by simp at hu;subst hu;rfl)
   rw[Nat.mul_one];exact this
  have hrun:=Ab8 (P:=Tryz.prog) (ty:=46) (sT:=46) (xT:=46) (b:=g) (off:=o) (sLen:=l.length) (sCap:=c) (n:=1) (size:=1) (y:= Ad (Af ⟨gy,0,Ae⟩) 1 cy) hu hu hi hs (hn w) hc (hload w hy) hst;refine⟨_,_,hrun,⟨g,o,c,_,Cn,h2,h3,Ey _ h4,by simpa using hc,by simp;omega,λj hj=>?_⟩,.inl ⟨g,_,h2,h3,rfl⟩⟩;simp only[Bh,List.length_cons,List.length_nil]at hj;by_cases e:j=l.length
  ·subst e;rw[Array.getElem?_setIfInBounds];simp;omega
  ·rw[Array.getElem?_setIfInBounds,if_neg Ci,h7 j Ci,List.getElem_append_left Ci]
 ·
  have hold:(Builtin.firstCells 1 l.length (Ad (Af ⟨g,o,Ae⟩) l.length c)).run Tryz.prog w.drew= .ok (l.map λ(i:Nat)=>Value.int .i64 (i:Int)).toArray w.drew:=by
   have:=run_loadCells_list (P:=Tryz.prog) (w:=w.drew) ⟨g,o,Ae⟩ (l.map λ(i:Nat)=>Value.int .i64 (i:Int)) (λj u hu=>by
    have hj:j<l.length:=by
     by_cases hj:j<l.length
     ·exact hj
     ·rw[List.getElem?_eq_none (by simp;omega)]at hu;cases hu
    have e:w.drew.cell? ⟨g,o+j,Ae⟩=w.cell? ⟨g,o+j,Ae⟩:=rfl;rw[pH,e,By w g _ cw _ (0,0) h4,h7 j hj];simp[hj]at hu;rw[←hu])
   simpa[Builtin.firstCells]using this
  obtain⟨q,hq,hrun⟩:=uY (P:=Tryz.prog) (ty:=46) (sT:=46) (xT:=46) (base:=Af ⟨g,o,Ae⟩) (sLen:=l.length) (sCap:=c) (n:=1) (size:=1) (y:= Ad (Af ⟨gy,0,Ae⟩) 1 cy) (i:=i) hu hu hi hs (by rw[hbt];decide) (hn w) Ci Ci hold (hload w.drew hy) (Ap4 w.drew);refine⟨_,_,hrun,⟨w.heap.size,0,q,_,Cn,hbase,λy hy=>Nat.ne_of_lt (hav y hy),Bz w.drew _,by simpa using hq,?_,λj hj=>?_⟩,.inr ⟨_,rfl⟩⟩
  ·simp[Builtin.zeroCells,Value.cells];omega
  ·simp only[Bh,List.length_cons,List.length_nil]at hj;rw[Bt];rw[Array.getElem?_append_left (by simp;omega)];by_cases e:j=l.length
   ·subst e;simp
   ·rw[Array.getElem?_append_left (by simp;omega)];simp[show j<l.length by omega]
def unk (kn:List Bool):Nat:=(kn.filter (λb=> !b)).length
theorem rL:∀(kn:List Bool) (n:Nat),n<kn.length→kn.getD n false=false→unk (kn.set n true)+1=unk kn
 |[],n,h,_=>by simp at h
 |b::kn,0,_,h=>by
  simp at h;subst h;simp[unk]
 |b::kn,n+1,h,h0=>by
  have ih:=rL kn n (by simpa using h) (by simpa using h0);unfold unk at ih⊢
  cases b<;>simp<;>omega
def RS.mm (s:RS):Nat:=unk s.known+s.wait.length
structure Ay4 (k:Nat) (s:RS):Prop where
 out:s.out.length=k
 known:s.known.length=k
 wait:∀i∈s.wait,i<k
 t:∀m∈s.out,m.t≤255
def Oe (a b:Int) (l:List Cr) (id:Nat):Nat→RS→Option RS
 |0,s=>Af s
 |j+1,s=>(Jw a b l id (2-j) s).bind (Oe a b l id j)
theorem iW (a b:Int) (l:List Cr) (id:Nat) (s:RS):Ll a b l id s=Oe a b l id 3 s:=by
 show((Jw a b l id 0 s).bind λs=>(Jw a b l id 1 s).bind λs=>Jw a b l id 2 s)=(Jw a b l id 0 s).bind λs=>(Jw a b l id 1 s).bind λs=>(Jw a b l id 2 s).bind Af
 cases Jw a b l id 0 s with
 |none=>rfl
 |some s1=>
  simp only[Option.bind_some]
  cases Jw a b l id 1 s1 with
  |none=>rfl
  |some s2=>
   simp only[Option.bind_some]
   cases Jw a b l id 2 s2<;>rfl
theorem rJ (x y:Mv):(Gi x y).1.t≤255:=by
 unfold Gi
 split
 ·unfold Pm Zt
  split
  ·rename_i h;have:=(Mv.ok_iff.1 h).1;exact Br (Bu this) Ct
  ·exact(by decide:0≤255)
 ·exact(by decide:0≤255)
theorem eF (a b:Int) (l:List Cr) (out:List Mv) (id e:Nat) (h:∀m∈out,m.t≤255):(Fj a b l out id e).t≤255:=by
 unfold Fj
 split
 ·exact rJ _ _
 ·rw[List.getD_eq_getElem?_getD]
  cases ho:out[id]? with
  |none=>exact(by decide:0≤255)
  |some m=>exact h m (List.mem_of_getElem? ho)
theorem Yl {a b i e:Int} (hs:okS a b=true) (h:(nbI a b i e).2=0):0≤(nbI a b i e).1∧(nbI a b i e).1<4*a*b:=by
 unfold nbI at h⊢
 split at h
 ·cases h
 ·rename_i h1;rw[if_neg h1]
  split at h
  ·rename_i h2;rw[if_pos h2];have hq:=mO (i/4%a) (i/4/a) (i%4) e;unfold idI at h⊢
   split at h
   ·rename_i h3;rw[if_pos h3];obtain⟨_,x1,x2,y1,y2⟩:=Sq.1 h3;obtain⟨z1,z2,z3⟩:=Aq5 hs ⟨x1,x2⟩ ⟨y1,y2⟩;have e0:4*a*b=4*(a*b):=Int.mul_assoc _ _ _
    constructor
    ·dsimp only;omega
    ·dsimp only;omega
   ·cases h
  ·cases h
theorem Gn {a b:Int} (hs:okS a b=true):((Cq a b:Nat):Int)=4*a*b∧1≤Cq a b∧Cq a b≤1024:=by
 obtain⟨m1,m2,m3,m4,m5,m6⟩:=Ho hs;have e0:4*a*b=4*(a*b):=Int.mul_assoc _ _ _;unfold Cq;omega
def De (l:List Bool):List Ak:=l.map Value.bool
theorem Ue (l:List Bool) (n:Nat):(De l).toArray.setIfInBounds n (.bool true)=(De (l.set n true)).toArray:=by
 simp[De,List.map_set]
theorem qQ (l:List Mv) (n:Nat) (m:Mv):(((Iq l).toArray.setIfInBounds (n*3) (Aa Ac m.t)).setIfInBounds (n*3+1) (Aa Ab m.x)).setIfInBounds (n*3+2) (Aa Ab m.y)=(Iq (l.set n m)).toArray:=by
 have hlen:∀l:List Mv,(Iq l).length=l.length*3:=λl=>by unfold Iq;induction l with|nil=>rfl|cons x l ih=>simp[Bf,ih,Je];omega
 have hat:∀(l:List Mv) (i f:Nat),i<l.length→f<3→(Iq l)[i*3+f]? =(match l[i]? with|some m=>m.cells[f]? |none=>Ae):=λl i f hi hf=>by
  rw[Aw hi];exact Dz Mv.cells 3 Je _ i f hi hf
 apply Array.ext';simp only[Array.toList_setIfInBounds];apply List.ext_getElem?;intro j;by_cases hj:j<l.length*3
 ·obtain⟨i,f,hf,rfl⟩:∃i f,f<3∧j=i*3+f:=⟨j/3,j%3,Ci,Ci⟩;have hi:i<l.length:=Ci;rw[hat (l.set n m) i f (by simpa using hi) hf];simp only[List.getElem?_set,List.length_set,hlen];by_cases e:n=i
  ·subst e;rw[if_pos rfl,if_pos hi];have h3:f=0∨f=1∨f=2:=Ci;rcases h3 with rfl|rfl|rfl
   ·simp[Mv.cells];omega
   ·simp[Mv.cells];omega
   ·simp[Mv.cells];omega
  ·rw[if_neg e,if_neg Ci,if_neg Ci,if_neg Ci,hat l i f hi hf]
 ·rw[List.getElem?_eq_none (by simp[hlen];omega),List.getElem?_eq_none (by simp[hlen];omega)]
def dD (w:Aj) (g:Nat):Nat:=match w.heap[g]? with
 |some (.cells c _ _)=>(c.toList.filter λv=>match v with| .bool false=>true|_=>false).length
 |_=>0
def Av5:Ak→Nat
 | Ad _ n _=>n
 |_=>0
theorem sK {w:Aj} {g:Nat} {l:List Bool} {t:TypeId} (h:w.heap[g]? =Af (.cells (De l).toArray t (0,0))):dD w g=unk l:=by
 unfold dD;rw[h];clear h;unfold unk De
 induction l with
 |nil=>rfl
 |cons b l ih=>
  cases b<;>simp at ih⊢ <;>exact ih
theorem Pa (l:List Mv):(Iq l).length=l.length*3:=by
 unfold Iq;induction l with|nil=>rfl|cons x l ih=>simp[Bf,ih,Je];omega
theorem Al0 (k:Nat):madeCells #[Aa Ac 0,Aa Ab 0,Aa Ab 0] (k*3)=(Iq (Ba k mv0)).toArray:=by
 apply Array.ext';apply List.ext_getElem?;intro j;by_cases hj:j<k*3
 ·obtain⟨i,f,hf,rfl⟩:∃i f,f<3∧j=i*3+f:=⟨j/3,j%3,Ci,Ci⟩;have hi:i<k:=Ci;have h1:(Iq (Ba k mv0))[i*3+f]? =(((Ba k mv0)[i]'(by simpa using hi)).cells)[f]? :=Dz Mv.cells 3 Je _ i f (by simpa using hi) hf;rw[h1];have h3:f=0∨f=1∨f=2:=Ci;have hm:(i*3+f)%3=f:=Ci;simp[madeCells,hj,hm];rcases h3 with rfl|rfl|rfl
  ·rfl
  ·rfl
  ·rfl
 ·rw[List.getElem?_eq_none (by simp[madeCells];omega),List.getElem?_eq_none (by simp[Pa];omega)]
theorem zA (k:Nat) (hk:k≤1024) (W:Aj):(Instr.makeSlice 83 (Aa Ab k) (Aa Ab k)).run Tryz.prog W= .ok (Ad (Af ⟨W.heap.size,0,Ae⟩) k k) (W.alloc (.cells (Iq (Ba k mv0)).toArray 30)):=by
 have hinfo:(Tryz.prog.info? 30).map (λi=>(i.zero,i.size,i.bytes))=Af (Af (.agg #[Aa Ac 0,Aa Ab 0,Aa Ab 0]),3,24):=Cm;obtain⟨i,hi,hz,hs,hb⟩:=info_parts hinfo;have h:=run_make (P:=Tryz.prog) W 83 30 i _ Tryz.underlying83 hi hz .i64 .i64 k k Ci Ci (by rw[hb];omega) Ci;rw[h];simp only[Int.toNat_natCast,hs];have e:(Value.agg #[Aa Ac 0,Aa Ab 0,Aa Ab 0]).cells= #[Aa Ac 0,Aa Ab 0,Aa Ab 0]:=by rfl
 rw[e,Al0]
theorem Rl (k:Nat) (hk:k≤1024) (W:Aj):(Instr.makeSlice 51 (Aa Ab k) (Aa Ab k)).run Tryz.prog W= .ok (Ad (Af ⟨W.heap.size,0,Ae⟩) k k) (W.alloc (.cells (De (Ba k false)).toArray 4)):=by
 have hinfo:(Tryz.prog.info? 4).map (λi=>(i.zero,i.size,i.bytes))=Af (Af (.bool false),1,1):=Cm;obtain⟨i,hi,hz,hs,hb⟩:=info_parts hinfo;have h:=run_make (P:=Tryz.prog) W 51 4 i _ Tryz.underlying51 hi hz .i64 .i64 k k Ci Ci (by rw[hb];omega) Ci;rw[h];simp only[Int.toNat_natCast,hs,Nat.mul_one]
 have e:madeCells (Value.bool false).cells k=(De (Ba k false)).toArray:=by
  apply Array.ext';exact(toList_madeCells_one (.bool false) k).trans (by simp[De])
 rw[e]
def As4 (r:Option (List Mv)) (w:Aj) (e:Ending) (w':Aj):Prop:=Below w.heap.size w w'∧match r with
 |some ms=>∃g,e= .returned (.tuple #[Ad (Af ⟨g,0,Ae⟩) ms.length ms.length,Aa Ab 0])∧w.heap.size≤g∧w'.heap[g]? =Af (Obj.cells (Iq ms).toArray 30 (0,0))
 |none=>e= .returned (.tuple #[Ad Ae 0 0,Aa Ab 11])
theorem Ab2 {w:Aj} {g:Nat} {cs:Array Ak} {t:TypeId} (h:w.heap[g]? =Af (.cells cs t (0,0))) (j:Nat):w.frozen? ⟨g,j,Ae⟩=false:=by simp[World.frozen?,h]
theorem Wd {w:Aj} {g:Nat} {a:Ak} {t:TypeId} (h:w.heap[g]? =Af (.cells #[a] t (0,0))):w.cell? ⟨g,0,Ae⟩=Af a∧w.frozen? ⟨g,0,Ae⟩=false:=by
 simp[World.cell?,World.frozen?,h]
theorem vJ (m:Nat) (l:List Stk) (k:Nat) (h:k<l.length) (pv:Cl) (hp:∀(h0:0<k),(l[k-1]'(by omega)).c=pv):
  Ft m l k=(!l[k].c.ok||(decide (0<k)&&decide (0≤Fg pv l[k].c))||l[k].ls.isEmpty||l[k].ls.any λid=>decide (m≤id)):=by
 unfold Ft;rw[Aw h]
 cases k with
 |zero=>simp
 |succ k=>
  have h1:l[k].c=pv:=hp Ci;have e:l[k]? =Af l[k]:=Aw Ci;simp[e,h1]
theorem eG (l:List Stk) (k:Nat) (h:k<l.length):Cw (l.take (k+1))=Cw (l.take k)++l[k].ls:=by
 unfold Cw;rw[Bc h,Bi];simp
theorem Wt {B:Nat}:∀{l:List Stk},(∀x∈l,x.ls.length≤B)→(Cw l).length≤l.length*B
 |[],_=>by simp[Cw]
 |x::l,h=>by
  have h1:=h x Cn;have h2:=Wt (l:=l) λy hy=>h y (by simp[hy]);unfold Cw at h2⊢;simp only[Bf,Bh,List.length_cons,Nat.succ_mul];omega
def idsTo (l:List Stk) (k j:Nat):List Nat:=Cw (l.take k)++(match l[k]? with|some x=>x.ls.take j|none=>[])
theorem Rj (l:List Stk):idsTo l 0 0=[]:=by
 unfold idsTo Cw
 cases l[0]? <;>simp
theorem lP (l:List Stk) (k:Nat) (h:k<l.length):idsTo l k l[k].ls.length=idsTo l (k+1) 0:=by
 unfold idsTo;rw[Aw h,eG l k h]
 cases l[k+1]? <;>simp
theorem lQ (l:List Stk) (k j:Nat) (h:k<l.length) (hj:j<l[k].ls.length):idsTo l k (j+1)=idsTo l k j++[l[k].ls[j]]:=by
 unfold idsTo;rw[Aw h];simp only;rw[Bc hj,Bj]
theorem sS (l:List Stk):idsTo l l.length 0=Cw l:=by
 unfold idsTo;simp
theorem fV (l:List Stk) (k j:Nat) (h:k<l.length) (hj:j<l[k].ls.length):∃r,Cw l=idsTo l k j++l[k].ls[j]::r:=by
 have h1:l=l.take k++l[k]::l.drop (k+1):=Cn;have h2:l[k].ls=l[k].ls.take j++l[k].ls[j]::l[k].ls.drop (j+1):=Cn;refine⟨l[k].ls.drop (j+1)++Cw (l.drop (k+1)),?_⟩;unfold idsTo;rw[Aw h];simp only
 have h3:Cw l=Cw (l.take k)++(l[k].ls++Cw (l.drop (k+1))):=by
  have h4:=congrArg Cw h1;unfold Cw at h4⊢;rw[Bi,Bf]at h4;exact h4
 have h5:=congrArg (· ++Cw (l.drop (k+1))) h2;rw[h3,h5];simp only[Bj,List.cons_append]
def Mc (m:Nat) (p:List Nat):List Bool:=(List.range m).map λi=>decide (i∈p)
theorem oD (m:Nat):Mc m []=Ba m false:=by
 unfold Mc;apply List.ext_getElem
 ·simp
 ·intro i h1 h2;simp
theorem oE (m:Nat) (p:List Nat) (i:Nat):(Mc m p).set i true=Mc m (p++[i]):=by
 unfold Mc;apply List.ext_getElem
 ·simp
 ·intro j h1 h2;simp only[List.getElem_set,List.getElem_map,List.getElem_range,Bl,List.mem_singleton];by_cases e:i=j
  ·subst e;simp
  ·have:¬j=i:=λh=>e h.symm;simp[e,this]
theorem xC {n:Nat} {l:List Stk} {i:Nat} (hi:i<l.length) (h:Ft n l i=true):chkS n l=1:=by
 unfold chkS;rw[if_pos (List.any_eq_true.2 ⟨i,by simpa using hi,h⟩)]
theorem xB {n:Nat} {l:List Stk} (h:∀i,i<l.length→Ft n l i=false):chkS n l=if¬(Cw l).Nodup then 8 else if(Cw l).length<n then 6 else 0:=by
 unfold chkS;rw[if_neg];intro h2;obtain⟨i,h3,h4⟩:=List.any_eq_true.1 h2;rw[h i (by simpa using h3)]at h4
 cases h4
theorem bU {n:Nat} {l:List Stk} {k:Nat} (hk:k<l.length) (h:Ft n l k=false):l[k].c.ok=true∧∀id∈l[k].ls,id<n:=by
 unfold Ft at h;rw[Aw hk]at h;simp only[Bool.or_eq_false_iff,Bool.not_eq_false',List.any_eq_false,decide_eq_true_eq]at h;exact⟨h.1.1.1,λid hid=>Nat.lt_of_not_le (h.2 id hid)⟩
theorem Zg (A:Option Addr) (l:List Stk) (n cc:Nat) (a b:Int) (w:Aj) (hn:n=l.length) (h:Dh w A l) (hl:n≤100000) (hls:∀x∈l,x.ls.length≤100000) (hqs:∀x∈l,x.c.q≤255) (hs:okS a b=true):
  Al Tryz.prog 156 #[Ad A n cc,.agg #[Aa Ab a,Aa Ab b]] w (Co (Aa Ab (chkS (Cq a b) l)) w):=by
 have hcount:=λw'=>Pt a b w' hs;have hck:=λw'=>Ew a b w';have hec:ec (okS a b) 1=0:=by rw[hs];rfl
 rw[hec]at hck;obtain⟨_,m1,m2⟩:=Gn hs;obtain⟨m,hm⟩:=ey (Cq a b);rw[hm]at hcount m1 m2⊢;obtain⟨R,hR⟩:=ey (chkS m l);rw[hR];have HR:=Ah hR;have HS:=Ah h;have HN:=Ah hn;have HLS:=Ah hls;have HQS:=Ah hqs;have HCK:=Ah hck;have HCO:=Ah hcount;have H:=(Bx.start w).new #[Aa Ab a,Aa Ab b] 25 rfl;clear hR h hn hls hqs hck hcount hec hm hs;go_enter Tryz.func156,Tryz.ntmps156;go_upto_region 1 with fail;obtain⟨W,hW⟩:=ez (w.alloc (.cells #[Aa Ab a,Aa Ab b] 25));rw[←hW]at H⊢;clear hW;obtain⟨N,hN⟩:=ez w.heap.size;rw[←hN]at H⊢;have HNN:=Ah hN;clear hN;obtain⟨⟨a0,a1⟩,_⟩:=Cy (H.blk 0 _ _ _ rfl);go_wp2_with fail;refine(HCK.out _).mono ?_;rintro e w2 ⟨rfl,hb⟩;have H2:=H.call hb;clear a0 a1 hb H;obtain⟨⟨a0,a1⟩,_⟩:=Cy (H2.blk 0 _ _ _ rfl);go_wp2_with fail;refine(HCO.out _).mono ?_;rintro e w3 ⟨rfl,hb⟩;have H3:=H2.call hb;clear a0 a1 hb H2;go_upto_region 5 with fail;obtain⟨P,hP⟩:=ey w3.heap.size;have H4:=H3.new #[Aa Ab m] 3 hP;obtain⟨W4,hW4⟩:=ez (w3.alloc (.cells #[Aa Ab m] 3));rw[←hW4]at H4⊢;clear hW4;rw[hP];have HS4:=Ah H4;clear hP H3 H4;go_wp2
 go_loopw [25] (λi wr=>∃k:Nat,k≤n∧i= Aa Ab k∧Bx w [(N,#[Aa Ab a,Aa Ab b],25),(P,#[Aa Ab m],3)] wr∧Hid (∀j,j<k→Ft m l j=false)) (λi _=>n-(intOf i).toNat)
 case atStart=>exact⟨0,Nat.zero_le _,rfl,HS4.out,Ah λj hj=>absurd hj Ci⟩
 case round=>
  obtain⟨k,hk,rfl,Hr,HK⟩:=hrel;by_cases hlt:k<n
  ·have hkl:k<l.length:=by have:=HN.out;omega
   obtain⟨bb,o,A',c',hA,hbl,⟨d0,d1,d2,d3⟩,hA',hle,hcm,hrd⟩:=(HS.out.below Hr.below).get k hkl
   have hpv:∃pv:Cl,(∀(h0:0<k),(l[k-1]'(by omega)).c=pv)∧pv.q≤255∧(0<k→wr.cell? ⟨bb,o+(k-1)*4,Ae⟩=Af (Aa Ab pv.x)∧wr.cell? ⟨bb,o+(k-1)*4+1,Ae⟩=Af (Aa Ab pv.y)∧wr.cell? ⟨bb,o+(k-1)*4+2,Ae⟩=Af (Aa Ac pv.q)):=by
    by_cases h0:0<k
    ·obtain⟨bb2,o2,_,_,hA2,_,⟨p0,p1,p2,_⟩,_⟩:=(HS.out.below Hr.below).get (k-1) Ci;rw[hA]at hA2;injection hA2 with hA2;injection hA2 with e1 e2;subst e1;subst e2;exact⟨_,λ_=>rfl,HQS.out _ (Ay _),λ_=>⟨p0,p1,p2⟩⟩
    ·exact⟨cl0,λh=>absurd h h0,Ct,λh=>absurd h h0⟩
   obtain⟨pv,hpv1,hpv2,hpv3⟩:=hpv;have hbad:=vJ m l k hkl pv hpv1;have q1:(k:Int)<(n:Int):=Ci;have hlk:=HLS.out l[k] (Ay _);have hqk:=HQS.out l[k] (Ay _);obtain⟨⟨⟨x,y,q⟩,ids⟩,hr⟩:∃z,l[k]=z:=⟨_,rfl⟩;rw[hr]at d0 d1 d2 d3 hA' hle hrd hlk hqk hbad;dsimp only at d0 d1 d2 d3 hA' hle hrd hlk hqk hbad;have HBAD:Hid (Ft m l k=(!okC x y q||(decide (0<k)&&decide (0≤Fg pv ⟨x,y,q⟩))||ids.isEmpty||ids.any λid=>decide (m≤id))):=Ah hbad;obtain⟨u,hu⟩:=ey ids.length;rw[hu]at d3 hA' hle hrd hlk;have HU:=Ah hu;have HOUT:=Ah λ(w':Aj) (hb:Below wr.heap.size wr w') (hp:w'.cell? ⟨P,0,Ae⟩=Af (Aa Ab (m:Int)))=>An1 A' ids u c' m P w' hu.symm (hrd.below hb) Ci hp;have HPV:=Ah hpv3;have HPQ:=Ah hpv2;have HQK:=Ah hqk;have HR2:=Ah Hr;have HWB:=Ah (Ag wr.heap.size wr);subst hA;clear hbad hpv1 hpv3 hpv2 hr hA' hrd hqk Hr hu;go_upto_region 8 with fail;obtain⟨C,hC⟩:=ey wr.heap.size;have H5:=HR2.out.new #[Aa Ab x,Aa Ab y,Aa Ac q,Ad A' u c'] 89 hC;have hb5:=HWB.out.alloc (Am _) (.cells #[Aa Ab x,Aa Ab y,Aa Ac q,Ad A' u c'] 89);obtain⟨W5,hW5⟩:=ez (wr.alloc (.cells #[Aa Ab x,Aa Ab y,Aa Ac q,Ad A' u c'] 89));rw[←hW5]at H5 hb5⊢;rw[hC];clear hW5 hC d0 d1 d2 d3 HR2;obtain⟨⟨c0,c1,c2,c3⟩,_⟩:=Ez (H5.blk 2 _ _ _ rfl);have p0:=Wd (H5.blk 1 _ _ _ rfl);go_wp2_with fail;refine(HOUT.out _ hb5 p0.1).mono ?_;rintro e w6 ⟨rfl,hb6⟩;have H6:=H5.call hb6;have hb7:=hb5.trans (hb6.mono hb5.size);clear c0 c1 c2 c3 p0 hb6 H5 hb5 HOUT;obtain⟨fb,hfb⟩:=ey ((ids.any λid=>decide (m≤id)));have HB2:=HBAD.out;rw[hfb]at HB2⊢;have HBB:=Ah HB2;clear HBAD hfb HB2
   obtain⟨S,hSd⟩:∃S:Aj→Prop,S=λw'=>(w'.cell? ⟨C,0,Ae⟩=Af (Aa Ab x)∧w'.cell? ⟨C,1,Ae⟩=Af (Aa Ab y)∧w'.cell? ⟨C,2,Ae⟩=Af (Aa Ac q)∧w'.cell? ⟨C,3,Ae⟩=Af (Ad A' u c'))∧(0<k→w'.cell? ⟨bb,o+(k-1)*4,Ae⟩=Af (Aa Ab pv.x)∧w'.cell? ⟨bb,o+(k-1)*4+1,Ae⟩=Af (Aa Ab pv.y)∧w'.cell? ⟨bb,o+(k-1)*4+2,Ae⟩=Af (Aa Ac pv.q)):=⟨_,rfl⟩
   have HSA:Hid (∀W',Below w6.heap.size w6 W'→S W'):=Ah λW' h=>by
    subst hSd;obtain⟨⟨c0,c1,c2,c3⟩,_⟩:=Ez ((H6.call h).blk 2 _ _ _ rfl);have hb:=hb7.trans (h.mono hb7.size);exact⟨⟨c0,c1,c2,c3⟩,λh0=>let⟨r0,r1,r2⟩:=HPV.out h0;⟨Cj hb r0,Cj hb r1,Cj hb r2⟩⟩
   have HSO:Hid (∀W',S W'→W'.cell? ⟨C,0,Ae⟩=Af (Aa Ab x)∧W'.cell? ⟨C,1,Ae⟩=Af (Aa Ab y)∧W'.cell? ⟨C,2,Ae⟩=Af (Aa Ac q)∧W'.cell? ⟨C,3,Ae⟩=Af (Ad A' u c')):=Ah λW' h=>by subst hSd;exact h.1
   have HSP:Hid (∀W',S W'→0<k→W'.cell? ⟨bb,o+(k-1)*4,Ae⟩=Af (Aa Ab pv.x)∧W'.cell? ⟨bb,o+(k-1)*4+1,Ae⟩=Af (Aa Ab pv.y)∧W'.cell? ⟨bb,o+(k-1)*4+2,Ae⟩=Af (Aa Ac pv.q)):=Ah λW' h=>by subst hSd;exact h.2
   have HC1:=Ah λ(w':Aj)=>El x y q w';clear hSd HPV hb7;have HH6:=Ah H6;clear H6;go_upto_region 9 with fail;go_cut [62] (λsb wx=>∃v:Bool,sb= .bool v∧v=Ft m l k∧Bx w [(N,#[Aa Ab a,Aa Ab b],25),(P,#[Aa Ab m],3)] wx)
   case first=>
    refine Ao (S:=S) Cm (HSA.out _ (Ag _ _).drew) (λhS=>?_);have hb:Below w6.heap.size w6 w6.drew:=(Ag _ _).drew;have H:=HH6.out.drew;obtain⟨X0,hX⟩:=ez w6.drew;rw[←hX]at H hb hS⊢;clear hX HH6;refine Ck 0 ?_;refine Ck 1 ?_;refine rdy 2 (λK hK=>?_);go_simp;refine(HC1.out _).mono ?_;rintro e X1 ⟨rfl,hbm⟩;have hb:=hb.trans (hbm.mono hb.size);have H:=H.call hbm;have hS:=HSA.out _ hb;refine hK.out _ _ hS (λhS=>?_);clear hK K hbm
    cases hx:okC x y q
    ·have HBE:Hid (true=Ft m l k):=Ah (by rw[HBB.out,hx];rfl);rw[Lj];clear hx HBB HC1;refine Ck 3 ?_;refine Ck 4 ?_;refine Ck 5 ?_;refine Ck 6 ?_;refine Ck 7 ?_;refine Ck 8 ?_;refine Ck 9 ?_;refine Ck 10 ?_;refine Ck 11 ?_;refine Ck 12 ?_;refine Ck 13 ?_;refine Ck 14 ?_;refine Ck 15 ?_;refine Ck 16 ?_;refine Ck 17 ?_;refine Ck 18 ?_;refine Ck 19 ?_;refine Ck 20 ?_;refine Ck 21 ?_;refine Ck 22 ?_;refine Ck 23 ?_;refine Ck 24 ?_;refine Ck 25 ?_;refine Ck 26 ?_;refine Ck 27 ?_;refine Ck 28 ?_;refine An Cm ?_ _;go_wp2;go_meet;exact⟨true,rfl,HBE.out,H.upto 2⟩
    ·rw[Gz];by_cases hk0:k=0
     ·subst hk0;refine Ck 3 ?_;refine Ck 4 ?_;refine Ck 5 ?_;refine Ck 6 ?_;refine Ck 7 ?_;refine Ck 8 ?_;refine Ck 9 ?_;refine Ck 10 ?_;refine Ck 11 ?_;refine Ck 12 ?_;refine Ck 13 ?_;refine Ck 14 ?_;refine Ck 15 ?_;refine Ck 16 ?_;refine Ck 17 ?_;refine Ck 18 ?_;refine Ck 19 ?_;refine Ck 20 ?_;by_cases hu:u=0
      ·have HBE:Hid (true=Ft m l 0):=Ah (by rw[HBB.out,hx,List.eq_nil_of_length_eq_zero (HU.out.trans hu)];simp);have hu1:(u:Int)=0:=Ci;clear hx HBB HC1;refine Ck 21 ?_;refine Ck 22 ?_;refine Ck 23 ?_;refine Ck 24 ?_;refine Ck 25 ?_;refine Ck 26 ?_;refine Ck 27 ?_;refine Ck 28 ?_;refine An Cm ?_ _;go_wp2;go_meet;exact⟨true,rfl,HBE.out,H.upto 2⟩
      ·have HBE:Hid (fb=Ft m l 0):=Ah (by
        have h0:ids≠[]:=λe=>hu (by rw[←HU.out,e];rfl);rw[HBB.out,hx];simp[h0])
       have hu1:((u:Int)==0)=false:=by simpa using hu
       clear hx HBB HC1;refine Ck 21 ?_;refine Ck 22 ?_;refine Ck 23 ?_;refine Ck 24 ?_;refine Ck 25 ?_;refine Ck 26 ?_;refine Ck 27 ?_;refine Ck 28 ?_;refine An Cm ?_ _;go_wp2;go_meet;exact⟨fb,rfl,HBE.out,H.upto 2⟩
     ·obtain⟨k',rfl⟩:∃k',k=k'+1:=⟨k-1,Ci⟩;have HSO:Hid (∀W',S W'→(W'.cell? ⟨C,0,Ae⟩=Af (Aa Ab x)∧W'.cell? ⟨C,1,Ae⟩=Af (Aa Ab y)∧W'.cell? ⟨C,2,Ae⟩=Af (Aa Ac q)∧W'.cell? ⟨C,3,Ae⟩=Af (Ad A' u c'))∧W'.cell? ⟨bb,o+k'*4,Ae⟩=Af (Aa Ab pv.x)∧W'.cell? ⟨bb,o+k'*4+1,Ae⟩=Af (Aa Ab pv.y)∧W'.cell? ⟨bb,o+k'*4+2,Ae⟩=Af (Aa Ac pv.q)):=Ah λW' h=>⟨HSO.out W' h,by have:=HSP.out W' h Ci;rw[Nat.add_sub_cancel]at this;exact this⟩;clear HSP;obtain⟨px,py,pq⟩:=pv;dsimp only at HSO;have t1:((k'+1:Nat):Int)-1=(k':Int):=Ci;have t2:(0:Int)<((k'+1:Nat):Int):=Ci;have t3:Ab.wrap (k':Int)=k':=Ca _ Ci;have t4:(k':Int)<(n:Int):=Ci;have HCM:=Ah λ(w':Aj)=>Vj ⟨px,py,pq⟩ ⟨x,y,q⟩ w' HPQ.out HQK.out;obtain⟨cv,hcv⟩:=ey (Fg ⟨px,py,pq⟩ ⟨x,y,q⟩);have HB3:=HBB.out;rw[hcv]at HCM HB3;have HBB:=Ah HB3;clear hcv HB3 hk0;refine Ck 3 ?_;refine Ck 4 ?_;refine Ck 5 ?_;refine Ck 6 ?_;refine Ck 7 ?_;refine Ck 8 ?_;refine Ck 9 ?_;refine Ck 10 ?_;refine Ck 11 ?_;refine Ck 12 ?_;refine Ck 13 ?_;refine Ck 14 ?_;refine Ck 15 ?_;refine rdy 16 (λK hK=>?_);go_simp;refine(HCM.out _).mono ?_;rintro e X2 ⟨rfl,hbm⟩;have hb:=hb.trans (hbm.mono hb.size);have H:=H.call hbm;have hS:=HSA.out _ hb;refine hK.out _ _ hS (λhS=>?_);clear hK K hbm;by_cases hg:0≤cv
      ·have HBE:Hid (true=Ft m l (k'+1)):=Ah (by rw[HBB.out,hx,decide_eq_true hg];simp);clear hx HBB HC1;refine Ck 17 ?_;refine Ck 18 ?_;refine Ck 19 ?_;refine Ck 20 ?_;refine Ck 21 ?_;refine Ck 22 ?_;refine Ck 23 ?_;refine Ck 24 ?_;refine Ck 25 ?_;refine Ck 26 ?_;refine Ck 27 ?_;refine Ck 28 ?_;refine An Cm ?_ _;go_wp2;go_meet;exact⟨true,rfl,HBE.out,H.upto 2⟩
      ·refine Ck 17 ?_;refine Ck 18 ?_;refine Ck 19 ?_;refine Ck 20 ?_;by_cases hu:u=0
       ·have HBE:Hid (true=Ft m l (k'+1)):=Ah (by rw[HBB.out,hx,decide_eq_false hg,List.eq_nil_of_length_eq_zero (HU.out.trans hu)];simp);have hu1:(u:Int)=0:=Ci;clear hx HBB HC1;refine Ck 21 ?_;refine Ck 22 ?_;refine Ck 23 ?_;refine Ck 24 ?_;refine Ck 25 ?_;refine Ck 26 ?_;refine Ck 27 ?_;refine Ck 28 ?_;refine An Cm ?_ _;go_wp2;go_meet;exact⟨true,rfl,HBE.out,H.upto 2⟩
       ·have HBE:Hid (fb=Ft m l (k'+1)):=Ah (by
         have h0:ids≠[]:=λe=>hu (by rw[←HU.out,e];rfl);rw[HBB.out,hx,decide_eq_false hg];simp[h0])
        have hu1:((u:Int)==0)=false:=by simpa using hu
        clear hx HBB HC1;refine Ck 21 ?_;refine Ck 22 ?_;refine Ck 23 ?_;refine Ck 24 ?_;refine Ck 25 ?_;refine Ck 26 ?_;refine Ck 27 ?_;refine Ck 28 ?_;refine An Cm ?_ _;go_wp2;go_meet;exact⟨fb,rfl,HBE.out,H.upto 2⟩
   case rest=>
   obtain⟨v,rfl,hv,Hr⟩:=hcut
   cases v
   ·have HKN:=Ah (λj (hj:j<k+1)=>show Ft m l j=false by
     by_cases e:j=k
     ·subst e;exact hv.symm
     ·exact HK.out j Ci)
    have HRR:=Ah Hr;clear Hr hv;go_wp2;exact⟨⟨k+1,Ci,by go_num,HRR.out,HKN⟩,by simp[intOf];omega⟩
   ·have HF:Hid (R=1):=Ah (by rw[←HR.out];exact xC hkl hv.symm);have HRR:=Ah Hr;clear Hr hv;go_wp2;go_ret;exact⟨by rw[HF.out];rfl,HRR.out.below⟩
  ·have q1:¬(k:Int)<(n:Int):=Ci;have HOK:Hid (R=if¬(Cw l).Nodup then 8 else if(Cw l).length<m then 6 else 0):=Ah (by rw[←HR.out];exact xB λi hi=>HK.out i (by have:=HN.out;omega));have HB2:=Ah (λ(j:Nat) (hj:j<l.length)=>(bU hj (HK.out j (by have:=HN.out;omega))).2);have HLN:Hid ((Cw l).length≤n*100000):=Ah (by rw[HN.out];exact Wt HLS.out);have mk2:=λW=>Rl m Ci W;obtain⟨p0,_⟩:=Wd (Hr.blk 1 _ _ _ rfl);have HR2:=Ah Hr;clear Hr HK;go_upto_region 13 with fail;obtain⟨gs,hgs⟩:=ey wr.heap.size;have H9:=HR2.out.new (De (Ba m false)).toArray 4 hgs;obtain⟨W9,hW9⟩:=ez (wr.alloc (.cells (De (Ba m false)).toArray 4));rw[←hW9]at H9⊢;clear hW9;rw[hgs];rw[←oD m,←Rj l]at H9;have HH9:Hid (Bx w [(N,#[Aa Ab a,Aa Ab b],25),(P,#[Aa Ab m],3),(gs,(De (Mc m (idsTo l 0 0))).toArray,4)] W9):=Ah H9;clear p0 hgs H9 HR2 mk2;go_wp2
   go_loopw [68,11] (λi c wr=>∃k:Nat,k≤n∧i= Aa Ab k∧c= Aa Ab ((idsTo l k 0).length:Nat)∧Hid (Bx w [(N,#[Aa Ab a,Aa Ab b],25),(P,#[Aa Ab m],3),(gs,(De (Mc m (idsTo l k 0))).toArray,4)] wr)∧Hid (idsTo l k 0).Nodup) (λi _ _=>n-(intOf i).toNat)
   case atStart=>exact⟨0,Nat.zero_le _,rfl,by rw[Rj];rfl,HH9,Ah (by rw[Rj];exact List.nodup_nil)⟩
   case round=>
    obtain⟨k,hk,rfl,rfl,HH,HND⟩:=hrel;clear HH9;by_cases hlt:k<n
    ·have hkl:k<l.length:=by have:=HN.out;omega
     obtain⟨bb,o,A',c',hA,hbl,⟨d0',d1',d2',d3'⟩,hA',hle,hcm,hrd⟩:=HS.out.get k hkl;have d0:=Cj HH.out.below d0';have d1:=Cj HH.out.below d1';have d2:=Cj HH.out.below d2';have d3:=Cj HH.out.below d3';clear d0' d1' d2' d3';have q1:(k:Int)<(n:Int):=Ci;have hlk:=HLS.out l[k] (Ay _);have HID:=Ah (HB2.out k hkl);have HSP:=Ah (λj (hj:j<l[k].ls.length)=>fV l k j hkl hj);have HSU:=Ah (λj (hj:j<l[k].ls.length)=>lQ l k j hkl hj);have HNX:=Ah (lP l k hkl);obtain⟨⟨⟨x,y,q⟩,ids⟩,hr⟩:∃z,l[k]=z:=⟨_,rfl⟩;rw[hr]at d0 d1 d2 d3 hA' hle hrd hlk;have HID:Hid (∀id∈ids,id<m):=Ah (by have:=HID.out;rw[hr]at this;exact this);have HSP:Hid (∀j (hj:j<ids.length),∃r,Cw l=idsTo l k j++ids[j]::r):=Ah (by have:=HSP.out;simp only[hr]at this;exact this);have HSU:Hid (∀j (hj:j<ids.length),idsTo l k (j+1)=idsTo l k j++[ids[j]]):=Ah (by have:=HSU.out;simp only[hr]at this;exact this);have HNX:Hid (idsTo l k ids.length=idsTo l (k+1) 0):=Ah (by have:=HNX.out;simp only[hr]at this;exact this);dsimp only at d0 d1 d2 d3 hA' hle hrd hlk;obtain⟨u,hu⟩:=ey ids.length;rw[hu]at d3 hle hrd hlk;have HU:=Ah hu;have HRD:=Ah (λ(w':Aj) (hb:Below w.heap.size w w')=>hrd.below hb);subst hA;clear hr hA' hrd hu hcm hle;go_upto_region 17 with fail;obtain⟨C,hC⟩:=ey wr.heap.size;have H5:=HH.out.new #[Aa Ab x,Aa Ab y,Aa Ac q,Ad A' u c'] 89 hC;rw[hC];obtain⟨W5,hW5⟩:=ez (wr.alloc (.cells #[Aa Ab x,Aa Ab y,Aa Ac q,Ad A' u c'] 89));rw[←hW5]at H5⊢;clear hW5;obtain⟨⟨c0,c1,c2,c3⟩,_⟩:=Ez (H5.blk 3 _ _ _ rfl);have HH5:Hid (Bx w [(N,#[Aa Ab a,Aa Ab b],25),(P,#[Aa Ab m],3),(gs,(De (Mc m (idsTo l k 0))).toArray,4),(C,#[Aa Ab x,Aa Ab y,Aa Ac q,Ad A' u c'],89)] W5):=Ah H5;clear d0 d1 d2 d3 hC H5 HH;go_wp2
     go_loopw [75,11] (λi c wr=>∃j:Nat,j≤u∧i= Aa Ab j∧c= Aa Ab ((idsTo l k j).length:Nat)∧Hid (Bx w [(N,#[Aa Ab a,Aa Ab b],25),(P,#[Aa Ab m],3),(gs,(De (Mc m (idsTo l k j))).toArray,4),(C,#[Aa Ab x,Aa Ab y,Aa Ac q,Ad A' u c'],89)] wr)∧Hid (idsTo l k j).Nodup) (λi _ _=>u-(intOf i).toNat)
     case atStart=>exact⟨0,Nat.zero_le _,rfl,rfl,HH5,HND⟩
     case round=>
      obtain⟨j,hj,rfl,rfl,HH,HND⟩:=hrel;clear HH5;by_cases hju:j<u
      ·have q2:(j:Int)<(u:Int):=Ci;have hji:j<ids.length:=by have:=HU.out;omega
       obtain⟨b2,o2,rfl,hb2l,e0⟩:=Mi (HRD.out _ HH.out.below) j hji;have hidm:=HID.out _ (Ay hji);have hsp:=HSP.out j hji;have hsu:=HSU.out j hji;obtain⟨id,hid⟩:=ey (ids[j]);rw[hid]at e0 hidm hsp hsu
       have e1:wr.cell? ⟨gs,id,Ae⟩=Af (.bool (decide (id∈idsTo l k j))):=by
        rw[By _ gs id _ _ (0,0) (HH.out.blk 2 _ _ _ rfl)];simp[De,Mc,hidm]
       have e2:=Ab2 (HH.out.blk 2 _ _ _ rfl) id;have q3:(id:Int)<(m:Int):=Ci;by_cases hin:id∈idsTo l k j
       ·have HF:Hid (R=8):=Ah (by
         rw[HOK.out,if_pos];intro hnd;obtain⟨r,hr⟩:=hsp;rw[hr,Bp]at hnd;exact hnd.2.2 id hin id Cn rfl)
        rw[decide_eq_true hin]at e1;clear hsp hsu hid;go_wp2;go_ret;exact⟨by rw[HF.out];rfl,HH.out.below⟩
       ·rw[decide_eq_false hin]at e1;have H1:=HH.out.set 2 id rfl (.bool true);dsimp only[Cf,Cg]at H1;rw[Ue,oE,←hsu]at H1;have HH1:Hid (Bx w [(N,#[Aa Ab a,Aa Ab b],25),(P,#[Aa Ab m],3),(gs,(De (Mc m (idsTo l k (j+1)))).toArray,4),(C,#[Aa Ab x,Aa Ab y,Aa Ac q,Ad (Af ⟨b2,o2,Ae⟩) u c'],89)] (wr.setCell ⟨gs,id,Ae⟩ (.bool true))):=Ah H1
        have hle2:(idsTo l k j).length≤n*100000:=by
         obtain⟨r,hr⟩:=hsp;have:=HLN.out;rw[hr,Bh]at this;omega
        have hlen1:(idsTo l k (j+1)).length=(idsTo l k j).length+1:=by rw[hsu];simp
        have HND1:Hid (idsTo l k (j+1)).Nodup:=Ah (by
         rw[hsu,Bp];refine⟨HND.out,Cn,λx hx y hy=>?_⟩;simp only[List.mem_singleton]at hy;subst hy;intro e;subst e;exact hin hx)
        obtain⟨L0,hL0⟩:=ey ((idsTo l k j).length);rw[hL0]at hlen1 hle2⊢;clear hsp hsu hid H1 HH hin hL0;go_wp2;exact⟨⟨j+1,Ci,by go_num,by rw[hlen1];go_num,HH1,HND1⟩,by simp[intOf];omega⟩
      ·obtain rfl:j=u:=Ci;have q2:¬(j:Int)<(j:Int):=Ci;have hnx:=HNX.out;rw[HU.out]at hnx;rw[hnx]at HH HND⊢;have HH1:=Ah (HH.out.upto 3);clear HH hnx;go_wp2;exact⟨⟨k+1,Ci,by go_num,rfl,HH1,HND⟩,by simp[intOf];omega⟩
    ·obtain rfl:k=n:=Ci;have q1:¬(k:Int)<(k:Int):=Ci;obtain⟨p0,_⟩:=Wd (HH.out.blk 1 _ _ _ rfl);have e0:idsTo l k 0=Cw l:=by rw[HN.out];exact sS l
     have hnd:=HND.out;rw[e0]at hnd⊢;have HF:Hid (R=if(Cw l).length<m then 6 else 0):=Ah (by rw[HOK.out,if_neg (not_not_intro hnd)]);obtain⟨L0,hL0⟩:=ey ((Cw l).length);rw[hL0]at HF⊢;clear hL0 hnd e0;by_cases hlm:L0<m
     ·have q2:(L0:Int)<(m:Int):=Ci;go_wp2;go_ret;exact⟨by rw[HF.out,if_pos hlm];rfl,HH.out.below⟩
     ·have q2:¬(L0:Int)<(m:Int):=Ci;go_wp2;go_ret;exact⟨by rw[HF.out,if_neg hlm];rfl,HH.out.below⟩
theorem fS (W:Aj) (o:Obj) (r:Option Nat):W.grownBy (W.alloc o) r:=⟨rfl,rfl,rfl,Cn,λk hk _=>Below.heap_alloc W o k hk⟩
theorem Zo {sl e:TypeId} {z:Ak} {sz bytes:Nat} (hu:Tryz.prog.underlying sl=Af (.slice e)) (hi:(Tryz.prog.info? e).map (λi=>(i.zero,i.size,i.bytes))=Af (Af z,sz,bytes)) (hz:z.cells.size=sz) (hs:0<sz) (hby:bytes≤100)
  (W:Aj) (M n:Nat) (v:Ak) (xs:List Ak) (ho:W.ownsRow M e sz v n xs) (hM:M≤W.heap.size) (hn:n≤900000000000) (news:List Ak) (hl:news.length=sz) (h1:∀u∈news,u.oneCell'=true):
  ∃A' c' w',(Builtin.append_ #[sl,sl] sl #[v,Ad (Af ⟨W.heap.size,0,Ae⟩) 1 1]).run Tryz.prog (W.alloc (.cells news.toArray e))= .ok (Ad A' (n+1) c') w'∧w'.ownsRow M e sz (Ad A' (n+1) c') (n+1) (xs++news)∧
   Below M W w'∧W.grownBy w' v.ownBlock∧M≤w'.heap.size∧n+1≤c'∧c'≤maxLen∧(Value.ownBlock (Ad A' (n+1) c')=v.ownBlock∨∃g,Value.ownBlock (Ad A' (n+1) c')=Af g∧W.heap.size≤g):=by
 obtain⟨i0,hi0,hz0,hz1,hz2⟩:=info_parts hi;have hR:Rd (W.alloc (.cells news.toArray e)) (Af ⟨W.heap.size,0,Ae⟩) sz 1 news:=nO news 1 sz Ci rfl
 obtain⟨v',w',hr,hown,hg,_,hfr⟩:=run_append_own_at (P:=Tryz.prog) (W.alloc (.cells news.toArray e)) M sl sl e i0 z sz bytes hu hi0 hz0 hz1 hz2 hz hs v n xs (ho.alloc _) ⟨W.heap.size,0,Ae⟩ 1 1 news hR.1 hR.allK h1 (by unfold maxLen;omega)
  (by have:(n+1)*bytes≤(n+1)*100:=Nat.mul_le_mul_left _ hby;omega) (by simp;omega)
 obtain⟨A',c',rfl,hc1,hc2⟩:=Dv hown;have hgr:=Ga (fS W _ v.ownBlock) hg;refine⟨A',c',w',hr,hown,?_,hgr,Br hM hgr.size,hc1,hc2,hfr.imp id λh=>⟨_,h,Cn⟩⟩;exact((Ag M W).alloc hM _).grown hg (by simp;omega) (λq hq=>(ho.lt q hq).1)
def Hc (l:List Int):List Ak:=l.map (Value.int .i64)
theorem tB (l:List Int):(Hc l).length=l.length:=by simp[Hc]
theorem lW (l:List Int) (x:Int):Hc (l++[x])=Hc l++[Aa Ab x]:=by simp[Hc]
def iF (p:Int×Int):List Ak:=[Aa Ab p.1,Aa Ab p.2]
def Lf (l:List (Int×Int)):List Ak:=l.flatMap iF
theorem nB (l:List (Int×Int)):(Lf l).length=l.length*2:=Fv iF 2 (λ_=>rfl) l
theorem iG (l:List (Int×Int)) (x:Int×Int):Lf (l++[x])=Lf l++[Aa Ab x.1,Aa Ab x.2]:=by simp[Lf,iF]
theorem Ys {w:Aj} {A:Option Addr} {l:List Int} {n:Nat} (h:Rd w A 1 n (Hc l)) (i:Nat) (hi:i<l.length):
  ∃b o,A=Af ⟨b,o,Ae⟩∧b<w.heap.size∧w.cell? ⟨b,o+i,Ae⟩=Af (Aa Ab l[i]):=by
 have hl:=h.1;rw[tB]at hl;obtain⟨b,o,e,hb,hc⟩:=h.2 Ci;exact⟨b,o,e,hb,hc i _ (by simp[Hc,hi])⟩
theorem qV {w:Aj} {A:Option Addr} {l:List (Int×Int)} {n:Nat} (h:Rd w A 2 n (Lf l)) (i:Nat) (hi:i<l.length):
  ∃b o,A=Af ⟨b,o,Ae⟩∧b<w.heap.size∧w.cell? ⟨b,o+i*2,Ae⟩=Af (Aa Ab l[i].1)∧w.cell? ⟨b,o+i*2+1,Ae⟩=Af (Aa Ab l[i].2):=by
 have hl:=h.1;rw[nB]at hl;obtain⟨b,o,e,hb,hc⟩:=h.2 Ci;have hat:∀f,f<2→(Lf l)[i*2+f]? =(iF l[i])[f]? :=λf hf=>Dz iF 2 (λ_=>rfl) _ i f hi hf;exact⟨b,o,e,hb,hc (i*2+0) _ ((hat 0 Ci).trans rfl),hc (i*2+1) _ ((hat 1 Ci).trans rfl)⟩
def Qy (p:Nat×Nat):List Ak:=[Aa Ab (p.1:Int),Aa Ab (p.2:Int)]
def Kv (l:List (Nat×Nat)):List Ak:=l.flatMap Qy
theorem uM (l:List (Nat×Nat)):(Kv l).length=l.length*2:=Fv Qy 2 (λ_=>rfl) l
theorem nE (l:List (Nat×Nat)) (x:Nat×Nat):Kv (l++[x])=Kv l++[Aa Ab (x.1:Int),Aa Ab (x.2:Int)]:=by simp[Kv,Qy]
theorem An4 {w:Aj} {A:Option Addr} {l:List (Nat×Nat)} {n:Nat} (h:Rd w A 2 n (Kv l)) (i:Nat) (hi:i<l.length):
  ∃b o,A=Af ⟨b,o,Ae⟩∧b<w.heap.size∧w.cell? ⟨b,o+i*2,Ae⟩=Af (Aa Ab (l[i].1:Int))∧w.cell? ⟨b,o+i*2+1,Ae⟩=Af (Aa Ab (l[i].2:Int)):=by
 have hl:=h.1;rw[uM]at hl;obtain⟨b,o,e,hb,hc⟩:=h.2 Ci;have hat:∀f,f<2→(Kv l)[i*2+f]? =(Qy l[i])[f]? :=λf hf=>Dz Qy 2 (λ_=>rfl) _ i f hi hf;exact⟨b,o,e,hb,hc (i*2+0) _ ((hat 0 Ci).trans rfl),hc (i*2+1) _ ((hat 1 Ci).trans rfl)⟩
def Qv (p:Nat×Nat×Nat):List Ak:=[Aa Ac (p.1:Int),Aa Ab (p.2.1:Int),Aa Ab (p.2.2:Int)]
def Iu (l:List (Nat×Nat×Nat)):List Ak:=l.flatMap Qv
theorem tQ (l:List (Nat×Nat×Nat)):(Iu l).length=l.length*3:=Fv Qv 3 (λ_=>rfl) l
theorem mD (l:List (Nat×Nat×Nat)) (x:Nat×Nat×Nat):Iu (l++[x])=Iu l++[Aa Ac (x.1:Int),Aa Ab (x.2.1:Int),Aa Ab (x.2.2:Int)]:=by simp[Iu,Qv]
theorem dU {w:Aj} {A:Option Addr} {l:List (Nat×Nat×Nat)} {n:Nat} (h:Rd w A 3 n (Iu l)) (i:Nat) (hi:i<l.length):
  ∃b o,A=Af ⟨b,o,Ae⟩∧b<w.heap.size∧w.cell? ⟨b,o+i*3,Ae⟩=Af (Aa Ac (l[i].1:Int))∧w.cell? ⟨b,o+i*3+1,Ae⟩=Af (Aa Ab (l[i].2.1:Int))∧w.cell? ⟨b,o+i*3+2,Ae⟩=Af (Aa Ab (l[i].2.2:Int)):=by
 have hl:=h.1;rw[tQ]at hl;obtain⟨b,o,e,hb,hc⟩:=h.2 Ci;have hat:∀f,f<3→(Iu l)[i*3+f]? =(Qv l[i])[f]? :=λf hf=>Dz Qv 3 (λ_=>rfl) _ i f hi hf;exact⟨b,o,e,hb,hc (i*3+0) _ ((hat 0 Ci).trans rfl),hc (i*3+1) _ ((hat 1 Ci).trans rfl),hc (i*3+2) _ ((hat 2 Ci).trans rfl)⟩
theorem Bx.keepN {w wr w2:Aj} {l:List (Nat×Array Ak×TypeId)} {M:Nat} (h:Bx w l wr) (hM:∀x∈l,x.1<M) (hw:w.heap.size≤M) (hb:Below M wr w2):Bx w l w2:=
 ⟨h.below.trans (hb.mono hw),λi g cs t hi=>(hb.block g (hM _ (List.mem_of_getElem? hi))).trans (h.blk i g cs t hi),h.lo,h.inj⟩
theorem Ec {w:Aj} {M e sz n:Nat} {v:Ak} {xs:List Ak} (h:w.ownsRow M e sz v n xs) {g:Nat} (hg:g<M) (j:Nat) (u:Ak):(w.setCell ⟨g,j,Ae⟩ u).ownsRow M e sz v n xs:=
 ⟨h.1,h.2.imp id λ⟨g',cap,cur,r1,r2,r3,r⟩=>⟨g',cap,cur,r1,r2,(Below.heap_setCell w ⟨g,j,Ae⟩ u g' (by show g'≠g;omega)).trans r3,r⟩⟩
end Go.Proofs.YthpcfeifmdbhnaaGreatDoor
namespace Go.Proofs.YthpcfeifmdbhnaaGreatDoor
open Go.RowKit Go.Sort Go.Shelf
theorem fM {α:Type} [Inhabited α] (enc:α→List Ak) (k:Nat) (hk0:0<k) (hk:∀x,(enc x).length=k) (l:List α):flatK enc k l.toArray=(l.flatMap enc).toArray:=by
 have hfl:=Fv enc k hk l;refine ext_get! (by simp[hfl]) λt ht=>?_;have ht':t<l.length*k:=by simpa using ht
 have hj:t/k<l.length:=(Nat.div_lt_iff_lt_mul hk0).2 ht';rw[get_flatK _ _ _ t (by simpa using ht'),getElem!_pos l.toArray (t/k) (by simpa using hj)];have hl:t<(l.flatMap enc).toArray.size:=by simp[hfl];exact ht'
 rw[getElem!_pos _ t hl];simp only[Ce];have hmod:t%k<k:=Nat.mod_lt _ hk0;have hat:=Dz enc k hk l (t/k) (t%k) hj hmod;rw[show t/k*k+t%k=t by rw[Nat.mul_comm];exact Nat.div_add_mod t k]at hat;have h2:(l.flatMap enc)[t]? =Af ((l.flatMap enc)[t]'(by simpa using hl)):=Aw _;have h3:t%k<(enc l[t/k]).length:=by rw[hk];exact hmod
 rw[h2,Aw h3]at hat;have:=Option.some.inj hat;rw[this];simp[h3]
theorem sR {w:Aj} {g n:Nat} {os:Array Obj} {cur:Array Ak} {e:TypeId} {fr:Nat×Nat} (d:Array Ak) (hb:w.heap[g]? =Af (.cells cur e fr)):
  (grow (putRow id (Sort.ahead w n) g 0 d) os).heap[g]? =Af (.cells (putCells id 0 d cur) e fr):=by
 have hg:g<w.heap.size:=(Au.1 hb).1;rw[heap_grow_old _ _ (by simpa using hg)];simp[putRow,mapBlock,Sort.ahead,Array.getElem?_modify,hb,onCells]
theorem Sh {w:Aj} {g n:Nat} {os:Array Obj} (d:Array Ak):w.grownBy (grow (putRow id (Sort.ahead w n) g 0 d) os) (Af g):=by
 refine⟨rfl,rfl,rfl,Cn,λk hk hne=>?_⟩;rw[heap_grow_old _ _ (by simpa using hk)];have:g≠k:=λe=>hne (by rw[e]);simp[putRow,mapBlock,Sort.ahead,Array.getElem?_modify,this]
theorem vO (cur:Array Ak) (ts:List Ak) (h:ts.length≤cur.size):(putCells id 0 ts.toArray cur).toList.take ts.length=ts:=by
 apply List.ext_getElem?;intro j;by_cases hj:j<ts.length
 ·rw[List.getElem?_take_of_lt hj,Array.getElem?_toList];simp[putCells,hj,show j<cur.size by omega]
 ·rw[List.getElem?_take_eq_none Ci,List.getElem?_eq_none Ci]
def Gu {α:Type} (enc:α→List Ak) (cf:α→α→Int) (l:List α) (O e k m:Nat) (v:Ak) (w:Aj) (en:Ending) (w':Aj):Prop:=
 en= .returned (.tuple #[])∧∃l':List α,l'.Perm l∧l'.Pairwise (λp q=>ltOf cf q p=false)∧w'.ownsRow O e k v m (l'.flatMap enc)∧w.grownBy w' v.ownBlock
theorem Nq {α:Type} [Inhabited α] {ρ} (L:SlLaysF0.n6 Tryz.prog ρ) (k:Nat) (hk0:0<k) (aE:∀w,(isAgg (ρ.t 24)).run Tryz.prog w= .ok true w) (zE:∀w,(Go.sizeOf (ρ.t 24)).run Tryz.prog w= .ok k w)
  (enc:α→List Ak) (hk:∀x,(enc x).length=k) (h1:∀x,∀v∈enc x,v.oneCell'=true) (cf:α→α→Int) (hO:SWO (ltOf cf)) (F:FuncId) (cb:Array Ak) (eg:∀args w,(callFunc F args).run Tryz.prog w= .ok (.enter F args) w)
  {O e m c:Nat} {B:Option Addr} (l:List α) (w:Aj) (h:w.ownsRow O e k (Ad B m c) m (l.flatMap enc)) (hm2:m≤1000000)
  (hcl:∀W',w.grownBy W' (Value.slice B m c).ownBlock→∀x y,Al Tryz.prog F (#[.agg (enc x).toArray,.agg (enc y).toArray]++cb) W' (Ot (Aa Ab (cf x y)) W')):
  Al Tryz.prog (ρ.f 6) #[Ad B m c,.func (.func F) #[] cb] w (Gu enc cf l O e k m (Ad B m c) w):=by
 have hfl:=Fv enc k hk l
 have hl:l.length=m:=by
  have:=h.1;rw[hfl]at this;exact Nat.eq_of_mul_eq_mul_right hk0 this
 rcases h.2 with⟨h0,h1'⟩|⟨g,cap,cur,r1,r2,r3,r4,r5,r6,r7⟩
 ·obtain⟨rfl,rfl,rfl⟩:B=Ae∧m=0∧c=0:=by simpa using h0
  have hnil:l=[]:=List.length_eq_zero_iff.1 hl;subst hnil;refine(AnyF.slices_SortFunc_none L Ae 0 _ w).mono ?_;rintro e' w' ⟨rfl,rfl⟩;exact⟨rfl,[],List.Perm.refl _,List.Pairwise.nil,h,Es _ _⟩
 ·obtain⟨rfl,rfl⟩:B=Af ⟨g,0,Ae⟩∧c=cap:=by simpa using r1
  have hH:HoldsK enc k w g 0 l.toArray:=by
   unfold HoldsK;rw[fM enc k hk0 hk];intro j hj;refine⟨?_,by simp[World.frozen?,r3]⟩;have hj':j<(l.flatMap enc).length:=by simpa using hj
   rw[Bt,By _ _ j cur e (0,0) r3,getElem!_pos _ j hj];have h2:(cur.toList.take (m*k))[j]? =(l.flatMap enc)[j]? :=by rw[r7]
   rw[List.getElem?_take_of_lt (by rw[hfl,hl]at hj';exact hj'),Array.getElem?_toList]at h2;rw[h2,Aw hj'];rfl
  have hcmp:CmpLays Tryz.prog F cb enc k cf g 0 l.toArray.size w:=λn os dk hs x y=>by
   have hg:w.grownBy (sortWorldK enc k w g 0 n dk os) (Af g):=by unfold sortWorldK putRowK;exact Sh _
   exact(hcl _ hg x y).mono λ_ _ h=>⟨h.1,h.2.grow⟩
  have hcon:=AnyQ.slices_SortFunc L k aE zE enc hk h1 cf hO F cb g 0 c l.toArray w eg hcmp hH (Au.1 r3).1 (by simp;omega);simp only[List.size_toArray,hl]at hcon;refine hcon.mono ?_;rintro e' w' ⟨rfl,d',n,os,hp,hs,rfl⟩;obtain⟨p1,p2,p3⟩:=hp;have hd:d'.size=m:=by rw[p1];simpa using hl
  have hd':d'.toList.toArray=d':=Cn;refine⟨rfl,d'.toList,?_,?_,?_,?_⟩
  ·have e1:d'.extract 0 m=d':=by rw[←hd];simp
   have e2:l.toArray.extract 0 m=l.toArray:=by rw[←hl];simp
   rw[e1,e2]at p3;simpa using p3
  ·rw[List.pairwise_iff_getElem];intro i j hi hj hij;have hi':i<d'.size:=by simpa using hi
   have hj':j<d'.size:=by simpa using hj
   have:=hs i j (Nat.zero_le _) hij Ci;rw[getElem!_pos d' i hi',getElem!_pos d' j hj']at this;simpa using this
  ·unfold sortWorldK putRowK;rw[←hd',fM enc k hk0 hk];have hlen:(d'.toList.flatMap enc).length=m*k:=by rw[Fv enc k hk];simp[hd]
   exact⟨by simpa using hlen,.inr ⟨g,c,_,rfl,r2,sR _ r3,r4,r5,by simp[putCells,r6],by rw[←hlen];exact vO cur _ (by rw[hlen,r6];exact Nat.mul_le_mul_right _ r4)⟩⟩
  ·unfold sortWorldK putRowK;exact Sh _
end Go.Proofs.YthpcfeifmdbhnaaGreatDoor
