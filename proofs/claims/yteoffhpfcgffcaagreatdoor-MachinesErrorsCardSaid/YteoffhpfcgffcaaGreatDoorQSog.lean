import Derived.Test.YteoffhpfcgffcaaGreatDoorQCrd
import Derived.Test.YteoffhpfcgffcaaGreatDoorQStk
import Derived.ChangeKeysEq
import Derived.Shelf.SlSortCmp.NoneTotal
open Array renaming getElem?_eq_some_iff→Aq
open Go renaming Calls→Ai,Value→Ah,World→Ag,bodyPost_ret→Af,cell_of_row→Bs,heap_alloc_new→Bt,wpAnyH_done→Ak,wpAnyH_ready→Am,wp_region_held_drew→Al
open Go.AllReadyH renaming cons→An,nil→Ao
open Go.IntKind renaming i64→Ab,u8→Ac
open Go.IntWalk renaming i64_in→Bu
open Go.Lib renaming hid→Ae
open Go.Value renaming int→Aa,slice→Ad
open List renaming append_assoc→Bg,flatMap_append→Bf,flatMap_cons→Ba,getElem?_eq_getElem→Ar,getElem_cons_succ→Bz,getElem_cons_zero→By,getElem_mem→Au,getElem_toArray→Ca,length_append→Be,length_take→Bj,mem_append→Bi,nodup_append→Bl,replicate→Aw,setIfInBounds_toArray→Cd,set_cons_succ→Cc,set_cons_zero→Cb,take_succ_eq_append_getElem→Ax
open Nat renaming le_of_lt→Bq,le_refl→Aj,le_trans→Bo,zero_add→Bp
set_option maxHeartbeats 8000000
set_option maxRecDepth 100000
namespace Go.Proofs.YteoffhpfcgffcaaGreatDoor
open Go.RowKit
def lnR (r:(Int×Int)×Int):Ah:= .tuple #[.agg #[Aa Ac r.1.1,Aa Ab r.1.2],Aa Ab r.2]
theorem lL (x y:Int) (q e:Nat) (hq:q<4):Rm ⟨x,y,q⟩ e=if e=1 then (3,x+y+1)else if e=2 then (4,y-x)else (qln q,if qln q=2 then y+qby q else x+qby q):=by
 unfold Rm;dsimp only
 split
 ·rfl
 ·split
  ·rfl
  ·have h4:q=0∨q=1∨q=2∨q=3:=by omega
   rcases h4 with rfl|rfl|rfl|rfl<;>simp[qln,qby]
theorem qlb (q:Nat):(qln q=1∨qln q=2)∧(0≤qby q∧qby q≤1):=by
 unfold qln qby;split<;>decide
theorem Ry (c:Cl) (e:Nat) (w:Ag) (hc:c.ok=true) (he:e≤2) (hQ:Qf w):
  Ai Tryz.prog 152 #[.agg #[Aa Ab c.x,Aa Ab c.y,Aa Ac c.q],Aa Ac e] w (Cg (lnR (Kt c e)) w):=by
 obtain⟨⟨⟨rk,rc⟩,re⟩,hR⟩:∃R,Kt c e=R:=⟨_,rfl⟩;rw[hR];unfold Cl.ok at hc;obtain⟨c1,c2,c3,c4,c5⟩:=Er.1 hc;obtain⟨x,y,q⟩:=c;dsimp only at hc c1 c2 c3 c4 c5⊢;have hq:q<4:=by omega
 unfold Kt at hR;rw[lL x y q e hq]at hR;unfold lnR;dsimp only;have hrow:=fun(w':Ag) (h:Qf w')=>h.row hq;unfold Ie at hrow;obtain⟨hln,hby1,hby2⟩:=qlb q;obtain⟨⟨u1,u2⟩,h1⟩:=ey (Pq q);obtain⟨⟨v1,v2⟩,h2⟩:=ey (Pr q);obtain⟨⟨s1,s2⟩,h3⟩:=ey (Ho q);obtain⟨ln,h4⟩:=ey (qln q);obtain⟨by',h5⟩:=ey (qby q);obtain⟨⟨n1,n2,n3⟩,h6⟩:=ey (nxt q 0);obtain⟨⟨n4,n5,n6⟩,h7⟩:=ey (nxt q 1);obtain⟨⟨n7,n8,n9⟩,h8⟩:=ey (nxt q 2);rw[h1,h2,h3,h4,h5,h6,h7,h8]at hrow;rw[h4]at hln hR;rw[h5]at hby1 hby2 hR;dsimp only at hrow;have HC:=Ae hc;have HROW:=Ae hrow;have HQ:=Ae hQ;have HR:=Ae hR;have q1:(q:Int)<4:=by omega
 have q2:¬(2:Int)<(e:Int):=by omega
 have H:=((Bx.start w).new #[Aa Ab x,Aa Ab y,Aa Ac q] 123 rfl).new #[Aa Ac 0,Aa Ab 0] 51 (N:=w.heap.size+1) (by simp);clear hc hrow h1 h2 h3 h4 h5 h6 h7 h8 hQ hR;go_enter Tryz.func152,Tryz.ntmps152;go_upto_region 1 with fail;obtain⟨W,hW⟩:=ez ((w.alloc (.cells #[Aa Ab x,Aa Ab y,Aa Ac q] 123)).alloc (.cells #[Aa Ac 0,Aa Ab 0] 51));rw[←hW]at H⊢;obtain⟨N,hN⟩:=ez w.heap.size;rw[←hN]at H⊢;clear hW hN;obtain⟨⟨a0,a1,a2⟩,_⟩:=Ci (H.blk 0 _ _ _ rfl);go_wp2_with fail;refine(Dk x y q _).mono ?_;rintro ee w2 ⟨rfl,hb⟩;rw[HC.out,Fo];have H2:=H.call hb;clear a0 a1 a2 hb H;obtain⟨⟨a0,a1,a2⟩,_⟩:=Ci (H2.blk 0 _ _ _ rfl);have hr:=HROW.out _ (HQ.out.below H2.below);go_upto_region 3 with fail
 repeat' (go_not_at_region 4;first
  |refine wpList_load_mid rfl 343 (.tmp 18) rfl 1 (q*17) rfl _ _ hr Tryz.underlying343 rfl (by kernel_rfl) ?_
  |refine Iv rfl 343 (.tmp 6) (.tmp 19) rfl _ _ rfl rfl (by kernel_rfl) rfl rfl ?_
  |go_step)
 clear hr a0 a1 a2;obtain⟨G4,hG4⟩:=ez w2.heap.size;rw[←hG4];have H4:=H2.new #[Aa Ab s1,Aa Ab s2,Aa Ac ln,Aa Ab by',Aa Ab n1,Aa Ab n2,Aa Ac n3,Aa Ab n4,Aa Ab n5,Aa Ac n6,Aa Ab n7,Aa Ab n8,Aa Ac n9,Aa Ab u1,Aa Ab u2,Aa Ab v1,Aa Ab v2] 343 hG4.symm;obtain⟨W4,hW4⟩:=ez (w2.alloc (.cells #[Aa Ab s1,Aa Ab s2,Aa Ac ln,Aa Ab by',Aa Ab n1,Aa Ab n2,Aa Ac n3,Aa Ab n4,Aa Ab n5,Aa Ac n6,Aa Ab n7,Aa Ab n8,Aa Ac n9,Aa Ab u1,Aa Ab u2,Aa Ab v1,Aa Ab v2] 343));rw[←hW4]at H4;change Code.wp _ _ _ _ (w2.alloc (.cells #[Aa Ab s1,Aa Ab s2,Aa Ac ln,Aa Ab by',Aa Ab n1,Aa Ab n2,Aa Ac n3,Aa Ab n4,Aa Ab n5,Aa Ac n6,Aa Ab n7,Aa Ab n8,Aa Ac n9,Aa Ab u1,Aa Ab u2,Aa Ab v1,Aa Ab v2] 343));rw[←hW4];have hrr:=H4.range 2 rfl;have r2:=hrr 2 _ rfl;have r3:=hrr 3 _ rfl;simp only[Bp]at r2 r3;obtain⟨⟨a0,a1,a2⟩,_⟩:=Ci (H4.blk 0 _ _ _ rfl);have w1:IntKind.i64.wrap (x+by')=x+by':=Bu _ (by omega);clear hrr hG4 hW4;go_upto_region 5 with fail;obtain⟨G5,hG5⟩:=ez W4.heap.size;rw[←hG5];have H5:=H4.new #[Aa Ac ln,Aa Ab (x+by')] 51 hG5.symm;obtain⟨W5,hW5⟩:=ez (W4.alloc (.cells #[Aa Ac ln,Aa Ab (x+by')] 51));rw[←hW5]at H5⊢;have hne1:N≠G5:=by have:=H4.lt 0 rfl;omega
 have hne3:G4≠G5:=by have:=H4.lt 2 rfl;omega
 clear hG5 hW5 r2 r3 a0 a1 a2;obtain⟨⟨a0,a1,a2⟩,_⟩:=Ci (H5.blk 0 _ _ _ rfl);obtain⟨⟨b0,b1⟩,f0,f1⟩:=Cu (H5.blk 3 _ _ _ rfl);have hrr:=H5.range 2 rfl;have r2:=hrr 2 _ rfl;have r3:=hrr 3 _ rfl;simp only[Bp]at r2 r3;clear hrr;have he3:e=0∨e=1∨e=2:=by omega
 rcases he3 with rfl|rfl|rfl
 ·rcases hln with rfl|rfl
  ·as_aux_lemma=>
     go_wp2_with fail;refine(Ee 1 (x+by') _).mono ?_;rintro ee w6 ⟨rfl,hb6⟩;have H7:=(H5).call hb6;obtain⟨⟨p0,p1⟩,_⟩:=Cu (H7.blk 3 _ _ _ rfl);obtain⟨⟨t0,t1⟩,z0,z1⟩:=Cu (H7.blk 1 _ _ _ rfl);have hfin:=HR.out;clear b0 b1 f0 f1 r2 r3 a0 a1 a2 hb6
     cases hk:okL 1 (x+by')
     ·rw[Ji]
      have hv:rk=0∧rc=0∧re=3:=by
       simp[hk]at hfin;omega
      have HV:=Ae hv;clear hk hfin hv;go_wp2_with fail;have H8:=(H7.set 1 0 rfl (Aa Ac 0)).set 1 1 rfl (Aa Ab 0);exact Af (Cj rfl rfl (H8.range 1 rfl) Tryz.underlying51 rfl (by kernel_rfl)) rfl ⟨by rw[HV.out.1,HV.out.2.1,HV.out.2.2];rfl,H8.below⟩
     ·rw[Fo]
      have hv:rk=1∧rc=x+by'∧re=0:=by
       simp[hk]at hfin;omega
      have HV:=Ae hv;clear hk hfin hv;go_wp2_with fail;have H8:=(H7.set 1 0 rfl (Aa Ac 1)).set 1 1 rfl (Aa Ab (x+by'));exact Af (Cj rfl rfl (H8.range 1 rfl) Tryz.underlying51 rfl (by kernel_rfl)) rfl ⟨by rw[HV.out.1,HV.out.2.1,HV.out.2.2];rfl,H8.below⟩
  ·as_aux_lemma=>
     have w2':IntKind.i64.wrap (y+by')=y+by':=Bu _ (by omega);go_wp2_with fail;refine(Ee 2 (y+by') _).mono ?_;rintro ee w6 ⟨rfl,hb6⟩;have H7:=((H5.set 3 1 rfl (Aa Ab (y+by')))).call hb6;obtain⟨⟨p0,p1⟩,_⟩:=Cu (H7.blk 3 _ _ _ rfl);obtain⟨⟨t0,t1⟩,z0,z1⟩:=Cu (H7.blk 1 _ _ _ rfl);have hfin:=HR.out;clear b0 b1 f0 f1 r2 r3 a0 a1 a2 hb6
     cases hk:okL 2 (y+by')
     ·rw[Ji]
      have hv:rk=0∧rc=0∧re=3:=by
       simp[hk]at hfin;omega
      have HV:=Ae hv;clear hk hfin hv;go_wp2_with fail;have H8:=(H7.set 1 0 rfl (Aa Ac 0)).set 1 1 rfl (Aa Ab 0);exact Af (Cj rfl rfl (H8.range 1 rfl) Tryz.underlying51 rfl (by kernel_rfl)) rfl ⟨by rw[HV.out.1,HV.out.2.1,HV.out.2.2];rfl,H8.below⟩
     ·rw[Fo]
      have hv:rk=2∧rc=y+by'∧re=0:=by
       simp[hk]at hfin;omega
      have HV:=Ae hv;clear hk hfin hv;go_wp2_with fail;have H8:=(H7.set 1 0 rfl (Aa Ac 2)).set 1 1 rfl (Aa Ab (y+by'));exact Af (Cj rfl rfl (H8.range 1 rfl) Tryz.underlying51 rfl (by kernel_rfl)) rfl ⟨by rw[HV.out.1,HV.out.2.1,HV.out.2.2];rfl,H8.below⟩
 ·as_aux_lemma=>
   have w2':IntKind.i64.wrap (x+y)=x+y:=Bu _ (by omega);have w3':IntKind.i64.wrap (x+y+1)=x+y+1:=Bu _ (by omega);go_wp2_with fail;refine(Ee 3 (x+y+1) _).mono ?_;rintro ee w6 ⟨rfl,hb6⟩;have H7:=(((H5.set 3 0 rfl (Aa Ac 3)).set 3 1 rfl (Aa Ab (x+y+1)))).call hb6;obtain⟨⟨p0,p1⟩,_⟩:=Cu (H7.blk 3 _ _ _ rfl);obtain⟨⟨t0,t1⟩,z0,z1⟩:=Cu (H7.blk 1 _ _ _ rfl);have hfin:=HR.out;clear b0 b1 f0 f1 r2 r3 a0 a1 a2 hb6
   cases hk:okL 3 (x+y+1)
   ·rw[Ji]
    have hv:rk=0∧rc=0∧re=3:=by
     simp[hk]at hfin;omega
    have HV:=Ae hv;clear hk hfin hv;go_wp2_with fail;have H8:=(H7.set 1 0 rfl (Aa Ac 0)).set 1 1 rfl (Aa Ab 0);exact Af (Cj rfl rfl (H8.range 1 rfl) Tryz.underlying51 rfl (by kernel_rfl)) rfl ⟨by rw[HV.out.1,HV.out.2.1,HV.out.2.2];rfl,H8.below⟩
   ·rw[Fo]
    have hv:rk=3∧rc=x+y+1∧re=0:=by
     simp[hk]at hfin;omega
    have HV:=Ae hv;clear hk hfin hv;go_wp2_with fail;have H8:=(H7.set 1 0 rfl (Aa Ac 3)).set 1 1 rfl (Aa Ab (x+y+1));exact Af (Cj rfl rfl (H8.range 1 rfl) Tryz.underlying51 rfl (by kernel_rfl)) rfl ⟨by rw[HV.out.1,HV.out.2.1,HV.out.2.2];rfl,H8.below⟩
 ·as_aux_lemma=>
   have w2':IntKind.i64.wrap (y-x)=y-x:=Bu _ (by omega);go_wp2_with fail;refine(Ee 4 (y-x) _).mono ?_;rintro ee w6 ⟨rfl,hb6⟩;have H7:=(((H5.set 3 0 rfl (Aa Ac 4)).set 3 1 rfl (Aa Ab (y-x)))).call hb6;obtain⟨⟨p0,p1⟩,_⟩:=Cu (H7.blk 3 _ _ _ rfl);obtain⟨⟨t0,t1⟩,z0,z1⟩:=Cu (H7.blk 1 _ _ _ rfl);have hfin:=HR.out;clear b0 b1 f0 f1 r2 r3 a0 a1 a2 hb6
   cases hk:okL 4 (y-x)
   ·rw[Ji]
    have hv:rk=0∧rc=0∧re=3:=by
     simp[hk]at hfin;omega
    have HV:=Ae hv;clear hk hfin hv;go_wp2_with fail;have H8:=(H7.set 1 0 rfl (Aa Ac 0)).set 1 1 rfl (Aa Ab 0);exact Af (Cj rfl rfl (H8.range 1 rfl) Tryz.underlying51 rfl (by kernel_rfl)) rfl ⟨by rw[HV.out.1,HV.out.2.1,HV.out.2.2];rfl,H8.below⟩
   ·rw[Fo]
    have hv:rk=4∧rc=y-x∧re=0:=by
     simp[hk]at hfin;omega
    have HV:=Ae hv;clear hk hfin hv;go_wp2_with fail;have H8:=(H7.set 1 0 rfl (Aa Ac 4)).set 1 1 rfl (Aa Ab (y-x));exact Af (Cj rfl rfl (H8.range 1 rfl) Tryz.underlying51 rfl (by kernel_rfl)) rfl ⟨by rw[HV.out.1,HV.out.2.1,HV.out.2.2];rfl,H8.below⟩
theorem aP {a b c e:Int} (h:Fz a b c e=(c,e,0)):Oj a b c=true:=by
 unfold Fz at h
 split at h
 ·rename_i h0
  cases hh:Oj a b c with
  |true=>rfl
  |false=>unfold nbI at h0;rw[if_pos hh]at h0;simp at h0
 ·rename_i h0;simp at h;exact absurd h.2.2 h0
theorem Ns (a b:Int) (w:Ag) (hs:okS a b=true):Ai Tryz.prog 109 #[.agg #[Aa Ab a,Aa Ab b]] w (Cg (Aa Ab (Cq a b)) w):=by
 obtain⟨m1,m2,m3,m4,m5,m6⟩:=Me hs;have e0:4*a*b=4*(a*b):=Int.mul_assoc _ _ _;obtain⟨m,hm⟩:=ey (4*a*b);have hfin:(Cq a b:Int)=m:=by unfold Cq;rw[hm];omega
 rw[hfin];have HM:=Ae hm;have HS:=Ae hs;have k1:IntKind.i64.wrap (4*a)=4*a:=Bu _ (by omega);have k2:IntKind.i64.wrap (4*a*b)=m:=by rw[Bu _ (by omega)];exact hm
 have H:=(Bx.start w).new #[Aa Ab a,Aa Ab b] 35 rfl;clear hm hs hfin e0 m1 m2 m3 m4 m5 m6;go_enter Tryz.func109,Tryz.ntmps109;go_upto_region 1 with fail;obtain⟨W,hW⟩:=ez (w.alloc (.cells #[Aa Ab a,Aa Ab b] 35));rw[←hW]at H⊢;obtain⟨N,hN⟩:=ez w.heap.size;rw[←hN]at H⊢;clear hW hN;obtain⟨⟨a0,a1⟩,_⟩:=Cu (H.blk 0 _ _ _ rfl);go_wp2_with fail;refine(Ev a b _).mono ?_;rintro e w2 ⟨rfl,hb⟩;rw[HS.out,Fo];have H2:=H.call hb;clear a0 a1 hb;obtain⟨⟨a0,a1⟩,_⟩:=Cu (H2.blk 0 _ _ _ rfl);go_wp2_with fail;go_ret;exact⟨rfl,H2.below⟩
theorem rV (a b c e:Int) (w:Ag) (hs:okS a b=true) (he:0≤e) (hn:Fz a b c e=((c:Int),(e:Int),(0:Int))) (hQ:Qf w):
  Ai Tryz.prog 266 #[.agg #[Aa Ab a,Aa Ab b],.agg #[Aa Ab c,Aa Ac e]] w (Cg (.tuple #[.agg #[Aa Ab (c/4%a),Aa Ab (c/4/a),Aa Ac (c%4)],Aa Ab 0]) w):=by
 have HH:=Ae (aP hn);have HN:=Ae fun w h=>Qn a b c e w hs he h;rw[hn]at HN;unfold Nl at HN;dsimp only at HN;have HCELL:=Ae fun w=>Zh a b c w hs HH.out;obtain⟨x,hx⟩:=ey (c/4%a);obtain⟨y,hy⟩:=ey (c/4/a);obtain⟨q,hq⟩:=ey (c%4);rw[hx,hy,hq]at HCELL;rw[hx,hy,hq];have HS:=Ae hs;have HQ:=Ae hQ;have H:=(((Bx.start w).new #[Aa Ab a,Aa Ab b] 35 rfl).new #[Aa Ab c,Aa Ac e] 91 (N:=w.heap.size+1) (by simp)).new #[Aa Ab 0,Aa Ab 0,Aa Ac 0] 123 (N:=w.heap.size+2) (by simp);clear hx hy hq hs hn hQ;go_enter Tryz.func266,Tryz.ntmps266;go_upto_region 1 with fail;obtain⟨W,hW⟩:=ez (((w.alloc (.cells #[Aa Ab a,Aa Ab b] 35)).alloc (.cells #[Aa Ab c,Aa Ac e] 91)).alloc (.cells #[Aa Ab 0,Aa Ab 0,Aa Ac 0] 123));rw[←hW]at H⊢;obtain⟨N,hN⟩:=ez w.heap.size;rw[←hN]at H⊢;obtain⟨P,hP⟩:=ez (N+2);rw[←hP]at H;rw[show N+1+1=P from hP.symm];clear hW hN hP;obtain⟨⟨a0,a1⟩,_⟩:=Cu (H.blk 0 _ _ _ rfl);go_wp2_with fail;refine(Ev a b _).mono ?_;rintro ee w2 ⟨rfl,hb⟩;rw[HS.out,Fo];have H2:=H.call hb;clear a0 a1 hb H;obtain⟨⟨a0,a1⟩,_⟩:=Cu (H2.blk 0 _ _ _ rfl);obtain⟨⟨b0,b1⟩,_⟩:=Cu (H2.blk 1 _ _ _ rfl);go_wp2_with fail;refine(HN.out _ (HQ.out.below H2.below).qt).mono ?_;rintro ee w3 ⟨rfl,hb⟩;have H3:=H2.call hb;clear a0 a1 b0 b1 hb H2;obtain⟨⟨a0,a1⟩,_⟩:=Cu (H3.blk 0 _ _ _ rfl);obtain⟨⟨b0,b1⟩,_⟩:=Cu (H3.blk 1 _ _ _ rfl);have l0:=H3.lt 0 rfl;have l1:=H3.lt 1 rfl;have l2:=H3.lt 2 rfl;go_wp2_with fail;refine(HCELL.out _).mono ?_;rintro ee w4 ⟨rfl,hb⟩;have H4:=(H3.other _).call hb;clear a0 a1 b0 b1 hb H3;obtain⟨⟨d0,d1,d2⟩,f0,f1,f2⟩:=Ci (H4.blk 2 _ _ _ rfl);go_wp2_with fail;have H5:=((H4.set 2 0 rfl (Aa Ab x)).set 2 1 rfl (Aa Ab y)).set 2 2 rfl (Aa Ac q);exact Af (Cj rfl rfl (H5.range 2 rfl) Tryz.underlying123 rfl (by kernel_rfl)) rfl ⟨rfl,H5.below⟩
theorem Zg {a b:Int} {c:Nat} (hs:okS a b=true) (hh:Oj a b c=true):(Da a c).ok=true:=by
 obtain⟨m1,m2,m3,m4,m5,m6⟩:=Me hs;obtain⟨i1,i2⟩:=Mw.1 hh;have e0:4*a*b=4*(a*b):=Int.mul_assoc _ _ _;have d3:=Int.emod_nonneg ((c:Int)/4) (show a≠0 by omega);have d4:=Int.emod_lt_of_pos ((c:Int)/4) (show 0<a by omega);have d5:0≤(c:Int)/4/a:=Int.ediv_nonneg (by omega) (by omega);have d6:(c:Int)/4/a≤(c:Int)/4:=Int.ediv_le_self _ (by omega);unfold Cl.ok Da;rw[Er];dsimp only;refine⟨by omega,by omega,by omega,by omega,by omega⟩
theorem Yn (a b:Int) (c e:Nat) (w:Ag) (hs:okS a b=true) (he:e≤2) (hn:Fz a b c e=((c:Int),(e:Int),(0:Int))) (hQ:Qf w):
  Ai Tryz.prog 214 #[.agg #[Aa Ab a,Aa Ab b],.agg #[Aa Ab c,Aa Ac e]] w (Cg (lnR (Kt (Da a c) e)) w):=by
 have HN:=Ae fun w h=>rV a b c e w hs (by omega) hn h;have hok:=Zg hs (aP hn);have HL:=Ae fun w h=>Ry (Da a c) e w hok he h;obtain⟨⟨⟨rk,rc⟩,re⟩,hR⟩:∃R,Kt (Da a c) e=R:=⟨_,rfl⟩;rw[hR]at HL⊢;unfold lnR at HL⊢;dsimp only at HL⊢;have hq4:(c:Int)%4=((c%4:Nat):Int):=by omega
 rw[hq4]at HN;unfold Da at HL;dsimp only at HL;obtain⟨x,hx⟩:=ey ((c:Int)/4%a);obtain⟨y,hy⟩:=ey ((c:Int)/4/a);obtain⟨q,hq⟩:=ey (c%4);rw[hx,hy,hq]at HN HL;have HQ:=Ae hQ;have H:=(((Bx.start w).new #[Aa Ab a,Aa Ab b] 35 rfl).new #[Aa Ab c,Aa Ac e] 91 (N:=w.heap.size+1) (by simp)).new #[Aa Ac 0,Aa Ab 0] 51 (N:=w.heap.size+2) (by simp);clear hx hy hq hs hn hQ hR hok hq4;go_enter Tryz.func214,Tryz.ntmps214;go_upto_region 1 with fail;obtain⟨W,hW⟩:=ez (((w.alloc (.cells #[Aa Ab a,Aa Ab b] 35)).alloc (.cells #[Aa Ab c,Aa Ac e] 91)).alloc (.cells #[Aa Ac 0,Aa Ab 0] 51));rw[←hW]at H⊢;obtain⟨N,hN⟩:=ez w.heap.size;rw[←hN]at H⊢;obtain⟨P,hP⟩:=ez (N+2);rw[←hP]at H;rw[show N+1+1=P from hP.symm];clear hW hN hP;obtain⟨⟨a0,a1⟩,_⟩:=Cu (H.blk 0 _ _ _ rfl);obtain⟨⟨b0,b1⟩,_⟩:=Cu (H.blk 1 _ _ _ rfl);go_wp2_with fail;refine(HN.out _ (HQ.out.below H.below)).mono ?_;rintro ee w2 ⟨rfl,hb⟩;have H2:=H.call hb;clear a0 a1 b0 b1 hb H;obtain⟨⟨b0,b1⟩,_⟩:=Cu (H2.blk 1 _ _ _ rfl);have l1:=H2.lt 1 rfl;have l2:=H2.lt 2 rfl;go_wp2_with fail;refine(HL.out _ (HQ.out.below (H2.other _).below)).mono ?_;rintro ee w3 ⟨rfl,hb⟩;have H3:=(H2.other _).call hb;clear b0 b1 hb H2;obtain⟨⟨d0,d1⟩,f0,f1⟩:=Cu (H3.blk 2 _ _ _ rfl);go_wp2_with fail;have H4:=(H3.set 2 0 rfl (Aa Ac rk)).set 2 1 rfl (Aa Ab rc);exact Af (Cj rfl rfl (H4.range 2 rfl) Tryz.underlying51 rfl (by kernel_rfl)) rfl ⟨rfl,H4.below⟩
theorem Pz {w X Y:Ag} (h:Below X.heap.size X Y) (k:Below w.heap.size w X):Below w.heap.size w Y:=k.trans (h.mono k.size)
def Hu (l:List Mv):List Ah:=l.flatMap Mv.cells
theorem Hm (m:Mv):m.cells.length=3:=rfl
theorem Pm {w:Ag} {g:Nat} {l:List Mv} (h:w.rangeAt g 0 (Hu l)) (i:Nat) (hi:i<l.length):
  w.cell? ⟨g,i*3,none⟩=some (Aa Ac l[i].t)∧w.cell? ⟨g,i*3+1,none⟩=some (Aa Ab l[i].x)∧w.cell? ⟨g,i*3+2,none⟩=some (Aa Ab l[i].y):=by
 have hat:∀f,f<3→(Hu l)[i*3+f]? =(l[i].cells)[f]? :=fun f hf=>Dc Mv.cells 3 Hm _ i f hi hf;have h0:=h (i*3+0) _ ((hat 0 (by omega)).trans rfl);have h1:=h (i*3+1) _ ((hat 1 (by omega)).trans rfl);have h2:=h (i*3+2) _ ((hat 2 (by omega)).trans rfl);simp only[Bp,Nat.add_zero]at h0 h1 h2;exact⟨h0,h1,h2⟩
theorem wR (c:Cl) (e:Nat):0≤(Kt c e).1.1:=by
 unfold Kt
 split
 ·unfold Rm
  split
  ·exact(by decide:(0:Int)≤3)
  ·split
   ·exact(by decide:(0:Int)≤4)
   ·split
    ·exact(by decide:(0:Int)≤2)
    ·exact(by decide:(0:Int)≤1)
    ·exact(by decide:(0:Int)≤2)
    ·exact(by decide:(0:Int)≤1)
 ·exact Int.le_refl _
theorem xG (l:Int×Int):(Na l).1.t≤255:=by
 unfold Na
 split
 ·unfold ofL
  split
  ·exact(by decide:4≤255)
  ·split
   ·exact(by decide:6≤255)
   ·split
    ·exact(by decide:5≤255)
    ·exact(by decide:7≤255)
 ·exact(by decide:0≤255)
theorem xK (a b i e:Int) (h0:0≤e):0≤(Fz a b i e).2.1∧(Fz a b i e).2.1≤e:=by
 unfold Fz
 split
 ·exact⟨h0,Int.le_refl _⟩
 ·exact⟨Int.le_refl _,h0⟩
theorem dE (a b:Int) (l:List Cr) (out:List Mv) (id e N N4 N5 M go n:Nat) (w:Ag) (hp:Fy a b l) (hQ:Qf w) (hT:Tn w) (hn:n=out.length) (hid:id<n) (he:e≤2) (hm:∀m∈out,m.t≤255)
  (c0:w.cell? ⟨N,0,none⟩=some (Aa Ab a)) (c1:w.cell? ⟨N,1,none⟩=some (Aa Ab b)) (h4:w.cell? ⟨N4,0,none⟩=some (.map (some M))) (hM:Fa unK w M (crM l))
  (h5:w.cell? ⟨N5,0,none⟩=some (Ad (some ⟨go,0,none⟩) n n)) (hr:w.rangeAt go 0 (Hu out)):
  Ai Tryz.prog 213 #[Aa Ab id,Aa Ac e,.pointer (some ⟨N,0,none⟩),.pointer (some ⟨N4,0,none⟩),.pointer (some ⟨N5,0,none⟩)] w (Cg (Jq a b l out id e).v w):=by
 have hid':id<out.length:=by omega
 obtain⟨m0,m1,m2⟩:=Pm hr id hid';have hmt:=hm out[id] (Au _);have hgd:out.getD id mv0=out[id]:=by simp[List.getD,hid']
 obtain⟨R,hR⟩:=ey (Jq a b l out id e);rw[hR];unfold Jq at hR;rw[hgd]at hR;obtain⟨m,hmm⟩:=ey (out[id]);rw[hmm]at m0 m1 m2 hmt hR;obtain⟨mt,mx,my⟩:=m;dsimp only at m0 m1 m2 hmt;have hnm:=fun w h=>Qn a b id e w hp.sheet (Int.natCast_nonneg e) h;have hne:=xK a b id e (Int.natCast_nonneg e);obtain⟨⟨c,e',er⟩,hu⟩:=ey (Fz a b id e);rw[hu]at hnm hR hne;unfold Nl at hnm;dsimp only at hnm hR hne;have hcr:=vU l c e';obtain⟨S,hS⟩:=ey (aB l c e');rw[hS]at hR hcr;have HS:=Ae hS;have HR:=Ae hR;have HNM:=Ae hnm;have HP:=Ae hp;have HQ:=Ae hQ;have HT:=Ae hT;have HM:=Ae hM;have HCR:=Ae hcr;have HN:=Ae hn;have qid:(id:Int)<(n:Int):=by omega
 have H:=(Bx.start w).new #[Aa Ac 0,Aa Ab 0,Aa Ab 0] 40 rfl;clear hR hnm hp hQ hT hM hu hm hr hgd hmm hS hcr hn hid';go_enter Tryz.func213,Tryz.ntmps213;go_upto_region 1 with fail;obtain⟨W,hW⟩:=ez (w.alloc (.cells #[Aa Ac 0,Aa Ab 0,Aa Ab 0] 40));rw[←hW]at H⊢;obtain⟨N7,hN7⟩:=ez w.heap.size;rw[←hN7]at H⊢;clear hW hN7;have d0:=Ce H.below c0;have d1:=Ce H.below c1;go_wp2_with fail;refine(HNM.out _ (HQ.out.below H.below).qt).mono ?_;rintro e2 w2 ⟨rfl,hb⟩;have H2:=H.call hb;clear d0 d1 hb H;obtain⟨p8,hp8⟩:=ey w2.heap.size;have H3:=H2.new #[Aa Ab c,Aa Ac e'] 91 hp8;go_upto_region 2 with fail;obtain⟨W3,hW3⟩:=ez (w2.alloc (.cells #[Aa Ab c,Aa Ac e'] 91));rw[←hW3]at H3⊢;clear hW3 hp8 H2;obtain⟨⟨u0,u1⟩,_⟩:=Cu (H3.blk 1 _ _ _ rfl);have f4:=Ce H3.below h4;have hM3:=HM.out.below H3.below HM.out.lt;have hcr:=HCR.out;obtain⟨⟨r0,r1,r2⟩,z0,z1,z2⟩:=Ci (H3.blk 0 _ _ _ rfl);have b0:=Ce H3.below m0;have b1:=Ce H3.below m1;have b2:=Ce H3.below m2;have b5:=Ce H3.below h5
 cases S with
 |false=>
  have HF:Hid (R=⟨mt,mx,my⟩):=Ae (by rw[←HR.out];rfl);go_wp2_with (at_lookup;refine Nm (z:= .bool false) Ly Tryz.underlying345 (fun w=>by kernel_rfl) _ rfl _ _ _ rfl M (crM l) (c,e') rfl rfl hM3 ?_;simp only[Bool.false_eq_true,if_false];rw[hcr]);have H4:=((H3.set 0 0 rfl (Aa Ac mt)).set 0 1 rfl (Aa Ab mx)).set 0 2 rfl (Aa Ab my);exact Af (Dg rfl rfl (H4.range 0 rfl) Tryz.underlying40 rfl (by kernel_rfl)) rfl ⟨by rw[HF.out];rfl,H4.below⟩
 |true=>
  have hex:∃r∈l,r.c=c∧r.e=e':=by
   have:=HS.out;unfold aB at this;rw[List.any_eq_true]at this;obtain⟨r,h1,h2⟩:=this;simp only[Bool.and_eq_true,decide_eq_true_eq]at h2;exact⟨r,h1,h2⟩
  obtain⟨r,hrl,rfl,rfl⟩:=hex;have hnr:=HP.out.name r hrl;have hfit:=HP.out.fit r hrl;unfold Cr.fit at hfit;obtain⟨rc,re,rk⟩:=r;dsimp only at hnr hfit hne HR HCR hM3 u0 u1 H3 hcr HS HNM⊢;obtain⟨cn,rfl⟩:∃cn:Nat,rc=cn:=⟨rc.toNat,by omega⟩;obtain⟨en,rfl⟩:∃en:Nat,re=en:=⟨re.toNat,by omega⟩;have hLN:=fun w h=>Yn a b cn en w HP.out.sheet (by omega) hnr h;have hl3:rG a b cn en=Kt (Da a cn) en:=by unfold rG;rw[if_pos hnr];simp
  have hk0:=wR (Da a cn) en;obtain⟨⟨⟨lk,lc⟩,le⟩,hle⟩:∃z,Kt (Da a cn) en=z:=⟨_,rfl⟩;rw[hle]at hLN hl3 hk0;unfold lnR at hLN;dsimp only at hLN hk0;have hOF:=fun w=>Pk lk lc w hk0;have hrt:=xG (lk,lc);have HR2:Hid ((Fq (Na (lk,lc)).1 ⟨mt,mx,my⟩).1=R):=Ae (by have:=HR.out;rw[if_pos rfl,hl3]at this;exact this);obtain⟨⟨⟨rt,rx,ry⟩,re2⟩,hmv⟩:∃z,Na (lk,lc)=z:=⟨_,rfl⟩;rw[hmv]at hOF hrt HR2;unfold mvR Mv.v at hOF;dsimp only at hOF hrt HR2;have hTH:=fun w h=>Rv ⟨rt,rx,ry⟩ ⟨mt,mx,my⟩ w hrt hmt h;obtain⟨⟨⟨qt,qx,qy⟩,qe⟩,hth⟩:∃z,Fq ⟨rt,rx,ry⟩ ⟨mt,mx,my⟩=z:=⟨_,rfl⟩;rw[hth]at hTH HR2;unfold mvR Mv.v at hTH;dsimp only at hTH HR2;have HLN:=Ae hLN;have HOF:=Ae hOF;have HTHEN:=Ae fun(w':Ag) (h:Below w.heap.size w w')=>hTH w' (HT.out.below h);clear hnr hfit hLN hl3 hk0 hle hOF hrt hmv hTH hth HR hrl hne HS HNM HP;have d0:=Ce H3.below c0;have d1:=Ce H3.below c1;go_wp2_with (at_lookup;refine Nm (z:= .bool false) Ly Tryz.underlying345 (fun w=>by kernel_rfl) _ rfl _ _ _ rfl M (crM l) ((cn:Int),(en:Int)) rfl rfl hM3 ?_;simp only[Bool.false_eq_true,if_false];rw[hcr]);refine(HLN.out _ (HQ.out.below H3.below)).mono ?_;rintro e2 w4 ⟨rfl,hb⟩;have H4:=H3.call hb;clear d0 d1 hb H3 r0 r1 r2 z0 z1 z2 b0 b1 b2 b5 f4 hM3 hcr u0 u1;obtain⟨p10,hp10⟩:=ey w4.heap.size;have H5:=H4.new #[Aa Ac lk,Aa Ab lc] 51 hp10;go_upto_region 5 with fail;obtain⟨W5,hW5⟩:=ez (w4.alloc (.cells #[Aa Ac lk,Aa Ab lc] 51));rw[←hW5]at H5⊢;clear hW5 hp10 H4;obtain⟨⟨u0,u1⟩,_⟩:=Cu (H5.blk 2 _ _ _ rfl);go_wp2_with fail;refine(HOF.out _).mono ?_;rintro e2 w6 ⟨rfl,hb⟩;have H6:=H5.call hb;clear hb H5 u0 u1;obtain⟨p12,hp12⟩:=ey w6.heap.size;have H7:=H6.new #[Aa Ac rt,Aa Ab rx,Aa Ab ry] 40 hp12;go_upto_region 6 with fail;obtain⟨W,hW⟩:=ez (w6.alloc (.cells #[Aa Ac rt,Aa Ab rx,Aa Ab ry] 40));rw[←hW]at H7⊢;have H:=H7;clear hW hp12 H6 H7;have HBW:=H.below
  go_cut [14] (fun s14 wx=>∃p14,s14= .pointer (some ⟨p14,0,none⟩)∧Bx w [(N7,#[Aa Ac 0,Aa Ab 0,Aa Ab 0],40),(p8,#[Aa Ab cn,Aa Ac en],91),(p10,#[Aa Ac lk,Aa Ab lc],51),(p12,#[Aa Ac rt,Aa Ab rx,Aa Ab ry],40),(p14,#[Aa Ac qt,Aa Ab qx,Aa Ab qy],40)] wx)
  case first=>
   obtain⟨⟨s0,s1,s2⟩,_⟩:=Ci (H.blk 3 _ _ _ rfl);have b0:=Ce H.below m0;have b1:=Ce H.below m1;have b2:=Ce H.below m2;have b5:=Ce H.below h5;have HSA:Hid (∀W',Below W.heap.size W W'→(fun w':Ag=>w'.cell? ⟨p12,0,none⟩=some (Aa Ac rt)∧w'.cell? ⟨p12,1,none⟩=some (Aa Ab rx)∧w'.cell? ⟨p12,2,none⟩=some (Aa Ab ry)∧w'.cell? ⟨N5,0,none⟩=some (Ad (some ⟨go,0,none⟩) n n)∧w'.cell? ⟨go,id*3,none⟩=some (Aa Ac mt)∧w'.cell? ⟨go,id*3+1,none⟩=some (Aa Ab mx)∧w'.cell? ⟨go,id*3+2,none⟩=some (Aa Ab my)) W'):=Ae fun W' h=>⟨Ce h s0,Ce h s1,Ce h s2,Ce h b5,Ce h b0,Ce h b1,Ce h b2⟩;clear s0 s1 s2 b0 b1 b2 b5 c0 c1 h4 h5 m0 m1 m2 HQ HT HM HCR HN HLN HOF HR2;refine Al (S:=(fun w':Ag=>w'.cell? ⟨p12,0,none⟩=some (Aa Ac rt)∧w'.cell? ⟨p12,1,none⟩=some (Aa Ab rx)∧w'.cell? ⟨p12,2,none⟩=some (Aa Ab ry)∧w'.cell? ⟨N5,0,none⟩=some (Ad (some ⟨go,0,none⟩) n n)∧w'.cell? ⟨go,id*3,none⟩=some (Aa Ac mt)∧w'.cell? ⟨go,id*3+1,none⟩=some (Aa Ab mx)∧w'.cell? ⟨go,id*3+2,none⟩=some (Aa Ab my))) (by kernel_rfl) (HSA.out _ (Below.refl _ _).drew) (fun hS=>?_);have hb:Below W.heap.size W W.drew:=(Below.refl _ _).drew;have H:=H.drew;obtain⟨X0,hX⟩:=ez W.drew;rw[←hX]at H hb⊢;clear hX;have hS:=HSA.out _ hb;refine wpAnyH_take (i:=0) (v:=?_) rfl (by kernel_rfl) (by kernel_rfl) (by kernel_rfl) (fun _ _ _ h=>h) (Or.inl ⟨by rfl,?_⟩) hS ?_;rotate_left
   ·intro w0 hSw
    (try dsimp only at hSw)
    go_split_ands;go_simp
    try with_reducible rfl
   try simp only[Act.put,Ca,By,Cd,Cb,Cc]
   refine wpAnyH_take (i:=1) (v:=?_) rfl (by kernel_rfl) (by kernel_rfl) (by kernel_rfl) (fun _ _ _ h=>h) (Or.inl ⟨by rfl,?_⟩) hS ?_;rotate_left
   ·intro w0 hSw
    (try dsimp only at hSw)
    go_split_ands;go_simp
    try with_reducible rfl
   try simp only[Act.put,Ca,By,Bz,Cd,Cb,Cc]
   refine wpAnyH_take (i:=2) (v:=?_) rfl (by kernel_rfl) (by kernel_rfl) (by kernel_rfl) (fun _ _ _ h=>h) (Or.inl ⟨by rfl,?_⟩) hS ?_;rotate_left
   ·intro w0 hSw
    (try dsimp only at hSw)
    go_split_ands;go_simp
    try with_reducible rfl
   try simp only[Act.put,Ca,By,Bz,Cd,Cb,Cc]
   refine wpAnyH_take (i:=3) (v:=?_) rfl (by kernel_rfl) (by kernel_rfl) (by kernel_rfl) (fun _ _ _ h=>h) (Or.inl ⟨by rfl,?_⟩) hS ?_;rotate_left
   ·intro w0 hSw
    (try dsimp only at hSw)
    go_split_ands;go_simp
    try with_reducible rfl
   try simp only[Act.put,Ca,By,Bz,Cd,Cb,Cc]
   refine wpAnyH_take (i:=4) (v:=?_) rfl (by kernel_rfl) (by kernel_rfl) (by kernel_rfl) (fun _ _ _ h=>h) (Or.inl ⟨by rfl,?_⟩) hS ?_;rotate_left
   ·intro w0 hSw
    (try dsimp only at hSw)
    go_split_ands;go_simp
    try with_reducible rfl
   try simp only[Act.put,Ca,By,Bz,Cd,Cb,Cc]
   refine Am (rs:=[5,9]) (by kernel_rfl) (by simp) (An rfl (fun K hK=>?_) (An rfl (fun K hK=>?_) Ao))
   ·go_simp;refine(HTHEN.out _ (Pz hb HBW)).mono ?_;rintro e X1 ⟨rfl,hbm⟩;have hb:=hb.trans (hbm.mono hb.size);have H:=H.call hbm;refine hK.out _ _ (HSA.out _ hb) (fun hS=>?_);clear hK K hbm;refine wpAnyH_take (i:=6) (v:=?_) rfl (by kernel_rfl) (by kernel_rfl) (by kernel_rfl) (fun _ _ _ h=>h) (Or.inl ⟨by rfl,?_⟩) hS ?_;rotate_left
    ·intro w0 hSw
     (try dsimp only at hSw)
     go_split_ands;go_simp
     try with_reducible rfl
    try simp only[Act.put,Ca,By,Bz,Cd,Cb,Cc]
    refine wpAnyH_take (i:=7) (v:=?_) rfl (by kernel_rfl) (by kernel_rfl) (by kernel_rfl) (fun _ _ _ h=>h) (Or.inl ⟨by rfl,?_⟩) hS ?_;rotate_left
    ·intro w0 hSw
     (try dsimp only at hSw)
     go_split_ands;go_simp
     try with_reducible rfl
    try simp only[Act.put,Ca,By,Bz,Cd,Cb,Cc]
    refine wpAnyH_take (i:=8) (v:=?_) rfl (by kernel_rfl) (by kernel_rfl) (by kernel_rfl) (fun _ _ _ h=>h) (Or.inl ⟨by rfl,?_⟩) hS ?_;rotate_left
    ·intro w0 hSw
     (try dsimp only at hSw)
     go_split_ands;go_simp
     try with_reducible rfl
    try simp only[Act.put,Ca,By,Bz,Cd,Cb,Cc]
    refine rdy 9 (fun K hK=>?_);obtain⟨p14,hp⟩:=ey X1.heap.size;have hl:W.heap.size≤p14:=hp▸hb.size;have hb:=hb.alloc hb.size (.cells #[Aa Ac 0,Aa Ab 0,Aa Ab 0] 40);have H:=H.new #[Aa Ac 0,Aa Ab 0,Aa Ab 0] 40 hp;go_simp;refine hK.out _ _ (HSA.out _ hb) (fun hS=>?_);clear hK K hS;obtain⟨X2,hX⟩:=ez (X1.alloc (.cells #[Aa Ac 0,Aa Ab 0,Aa Ab 0] 40));rw[←hX]at H hb⊢;clear hX hp;have hS:=HSA.out _ hb;refine rdy 10 (fun K hK=>?_);obtain⟨⟨y0,y1,y2⟩,z0,z1,z2⟩:=Ci (H.blk 4 _ _ _ rfl);have hb:=((hb.setCell (p:=⟨p14,0,none⟩) hl (Aa Ac qt)).setCell (p:=⟨p14,1,none⟩) hl (Aa Ab qx)).setCell (p:=⟨p14,2,none⟩) hl (Aa Ab qy);have H:=((H.set 4 0 rfl (Aa Ac qt)).set 4 1 rfl (Aa Ab qx)).set 4 2 rfl (Aa Ab qy);go_simp;refine hK.out _ _ (HSA.out _ hb) (fun hS=>?_);clear hK K y0 y1 y2 z0 z1 z2;refine rdy 11 (fun K hK=>?_);go_simp;refine hK.out _ _ (HSA.out _ hb) (fun hS=>?_);clear hK K;refine Ak (by kernel_rfl) ?_ _;go_wp2_with fail;go_meet;exact⟨_,rfl,H⟩
   ·obtain⟨p14,hp⟩:=ey X0.heap.size;have hl:W.heap.size≤p14:=hp▸hb.size;have hb:=hb.alloc hb.size (.cells #[Aa Ac 0,Aa Ab 0,Aa Ab 0] 40);have H:=H.new #[Aa Ac 0,Aa Ab 0,Aa Ab 0] 40 hp;go_simp;refine hK.out _ _ (HSA.out _ hb) (fun hS=>?_);clear hK K hS;obtain⟨X1,hX⟩:=ez (X0.alloc (.cells #[Aa Ac 0,Aa Ab 0,Aa Ab 0] 40));rw[←hX]at H hb⊢;clear hX hp;have hS:=HSA.out _ hb;refine rdy 5 (fun K hK=>?_);go_simp;refine(HTHEN.out _ (Pz hb HBW)).mono ?_;rintro e X2 ⟨rfl,hbm⟩;have hb:=hb.trans (hbm.mono hb.size);have H:=H.call hbm;refine hK.out _ _ (HSA.out _ hb) (fun hS=>?_);clear hK K hbm;refine wpAnyH_take (i:=6) (v:=?_) rfl (by kernel_rfl) (by kernel_rfl) (by kernel_rfl) (fun _ _ _ h=>h) (Or.inl ⟨by rfl,?_⟩) hS ?_;rotate_left
    ·intro w0 hSw
     (try dsimp only at hSw)
     go_split_ands;go_simp
     try with_reducible rfl
    try simp only[Act.put,Ca,By,Bz,Cd,Cb,Cc]
    refine wpAnyH_take (i:=7) (v:=?_) rfl (by kernel_rfl) (by kernel_rfl) (by kernel_rfl) (fun _ _ _ h=>h) (Or.inl ⟨by rfl,?_⟩) hS ?_;rotate_left
    ·intro w0 hSw
     (try dsimp only at hSw)
     go_split_ands;go_simp
     try with_reducible rfl
    try simp only[Act.put,Ca,By,Bz,Cd,Cb,Cc]
    refine wpAnyH_take (i:=8) (v:=?_) rfl (by kernel_rfl) (by kernel_rfl) (by kernel_rfl) (fun _ _ _ h=>h) (Or.inl ⟨by rfl,?_⟩) hS ?_;rotate_left
    ·intro w0 hSw
     (try dsimp only at hSw)
     go_split_ands;go_simp
     try with_reducible rfl
    try simp only[Act.put,Ca,By,Bz,Cd,Cb,Cc]
    refine rdy 10 (fun K hK=>?_);obtain⟨⟨y0,y1,y2⟩,z0,z1,z2⟩:=Ci (H.blk 4 _ _ _ rfl);have hb:=((hb.setCell (p:=⟨p14,0,none⟩) hl (Aa Ac qt)).setCell (p:=⟨p14,1,none⟩) hl (Aa Ab qx)).setCell (p:=⟨p14,2,none⟩) hl (Aa Ab qy);have H:=((H.set 4 0 rfl (Aa Ac qt)).set 4 1 rfl (Aa Ab qx)).set 4 2 rfl (Aa Ab qy);go_simp;refine hK.out _ _ (HSA.out _ hb) (fun hS=>?_);clear hK K y0 y1 y2 z0 z1 z2;refine rdy 11 (fun K hK=>?_);go_simp;refine hK.out _ _ (HSA.out _ hb) (fun hS=>?_);clear hK K;refine Ak (by kernel_rfl) ?_ _;go_wp2_with fail;go_meet;exact⟨_,rfl,H⟩
  case rest=>
   obtain⟨p14,rfl,H⟩:=hcut;obtain⟨⟨s0,s1,s2⟩,_⟩:=Ci (H.blk 4 _ _ _ rfl);obtain⟨⟨r0,r1,r2⟩,z0,z1,z2⟩:=Ci (H.blk 0 _ _ _ rfl);go_wp2_with fail;have H4:=((H.set 0 0 rfl (Aa Ac qt)).set 0 1 rfl (Aa Ab qx)).set 0 2 rfl (Aa Ab qy);exact Af (Dg rfl rfl (H4.range 0 rfl) Tryz.underlying40 rfl (by kernel_rfl)) rfl ⟨by rw[←HR2.out];rfl,H4.below⟩
theorem adr_add (b off n:Nat):(⟨b,off,none⟩:Addr).add n=⟨b,off+n,none⟩:=by
 unfold Addr.add;split
 ·rename_i h;subst h;rfl
 ·rfl
theorem run_sz {P:Program} {t:TypeId} {n:Nat} {i:TypeInfo} (hi:P.info? t=some i) (h:i.size=n) (w:Ag):(sizeOf t).run P w= .ok n w:=by
 simp[sizeOf,run_typeInfo w hi,h]
theorem run_apIn {P:Program} {sT xT ty elem e:TypeId} {w w':Ag} {b off sLen sCap n size:Nat} {y:Ah} {i:TypeInfo} {new:Array Ah} (hu:P.underlying sT=some (.slice elem)) (hd:P.underlying xT=some (.slice e))
  (hi:P.info? elem=some i) (hs:i.size=size) (hn:(Builtin.lenOf y).run P w= .ok n w) (hc:sLen+n≤sCap) (hf:(Builtin.firstCells size n y).run P w= .ok new w)
  (hst:(storeCells ⟨b,off+sLen*size,none⟩ new.toList).run P w= .ok () w'):
  (Builtin.append_ #[sT,xT] ty #[Ad (some ⟨b,off,none⟩) sLen sCap,y]).run P w= .ok (Ad (some ⟨b,off,none⟩) (sLen+n) sCap) w':=by
 simp[Builtin.append_,run_underlying hu,run_underlying hd,run_sz hi hs,hn,hc,hf,adr_add,hst]
theorem grow_le (newLen B:Nat) (hB:newLen≤B):∀(r c:Nat),c≤2*B→Builtin.growBy newLen r c≤2*B+B/4+1000
 |0,c,hc=>by simp only[Builtin.growBy];omega
 |r+1,c,hc=>by
  simp only[Builtin.growBy]
  split
  ·omega
  ·rename_i h;by_cases h2:c+(c+768)/4≤2*B
   ·exact grow_le newLen B hB r _ h2
   ·have h3:newLen≤c+(c+768)/4:=by omega
    cases r with
    |zero=>simp only[Builtin.growBy];omega
    |succ r=>simp only[Builtin.growBy];rw[if_pos h3];omega
theorem ncap_le {need cap:Nat} (h1:need≤1000000) (h2:cap<need):Builtin.nextslicecap need cap≤3000000:=by
 unfold Builtin.nextslicecap
 split
 ·omega
 ·split
  ·omega
  ·have:=grow_le need 1000000 h1 4 cap (by omega);omega
theorem run_apNew {P:Program} {sT xT ty elem e:TypeId} {w:Ag} {base:Option Addr} {sLen sCap n size:Nat} {y z:Ah} {i:TypeInfo} {old new:Array Ah} (hu:P.underlying sT=some (.slice elem)) (hd:P.underlying xT=some (.slice e))
  (hi:P.info? elem=some i) (hs:i.size=size) (hb:i.bytes*3000000≤281474976710656) (hn:(Builtin.lenOf y).run P w= .ok n w) (hc:sCap<sLen+n) (hl:sLen+n≤1000000)
  (ho:(Builtin.firstCells size sLen (Ad base sLen sCap)).run P w.drew= .ok old w.drew) (hf:(Builtin.firstCells size n y).run P w.drew= .ok new w.drew) (hz:(zeroValue elem).run P w.drew= .ok z w.drew):
  ∃newCap,sLen+n≤newCap∧(Builtin.append_ #[sT,xT] ty #[Ad base sLen sCap,y]).run P w=
   .ok (Ad (some ⟨w.heap.size,0,none⟩) (sLen+n) newCap) (w.drew.alloc (.cells (old++new++Builtin.zeroCells z.cells (newCap-(sLen+n))) elem)):=by
 have h2:¬(Builtin.nextslicecap (sLen+n) sCap*i.bytes>2^48):=by
  have:=ncap_le hl hc;have h3:Builtin.nextslicecap (sLen+n) sCap*i.bytes≤3000000*i.bytes:=Nat.mul_le_mul_right _ this;have:(2:Nat)^48=281474976710656:=by decide
  omega
 have h4:¬(((sLen+n:Nat):Int)>IntKind.i64.max):=by
  have:IntKind.i64.max=9223372036854775807:=by decide
  omega
 have h5:¬(sLen+n≤sCap):=by omega
 have hch:(choose (.appendCap (sLen+n) sCap elem)).run P w= .ok (sLen+n+w.tape w.drawn (.appendCap (sLen+n) sCap elem)%(2^63-(sLen+n))) w.drew:=by
  rfl
 refine⟨sLen+n+w.tape w.drawn (.appendCap (sLen+n) sCap elem)%(2^63-(sLen+n)),by omega,?_⟩
 generalize hq:sLen+n+w.tape w.drawn (.appendCap (sLen+n) sCap elem)%(2^63-(sLen+n))=q at hch
 have har:∀m,(askRoom m).run P w.drew= .ok () w.drew:=by
  intro m;unfold askRoom;split<;>rfl
 have hnew:∀cs,(newRow elem cs).run P w.drew= .ok ⟨w.heap.size,0,none⟩ (w.drew.alloc (.cells cs elem)):=fun cs=>rfl;simp only[Builtin.append_,List.getElem?_toArray,List.getElem?_cons_zero,List.getElem?_cons_succ,Sem.run_bind,run_underlying hu,run_underlying hd,Result.andThen_ok,run_sz hi hs,Sem.run_pure,hn,if_neg h5,h4,false_and,if_false,run_typeInfo w hi,if_neg h2,hch,run_typeInfo w.drew hi,har,ho,hf,hz,hnew,Bool.false_eq_true,Bool.not_false,if_true]
theorem Fa.setCell {κ:Type} {K:κ→Ah} {w:Ag} {M:Nat} {l:List (κ×Ah)} (h:Fa K w M l) (p:Addr) (v:Ah):Fa K (w.setCell p v) M l:=by
 obtain⟨es,cl,h1,h2⟩:=h;refine⟨es,cl,?_,h2⟩;unfold World.setCell;simp only[Array.getElem?_modify]
 split
 ·rename_i e;subst e;rw[h1];rfl
 ·exact h1
theorem Fa.drew {κ:Type} {K:κ→Ah} {w:Ag} {M:Nat} {l:List (κ×Ah)} (h:Fa K w M l):Fa K w.drew M l:=h
theorem Bx.setOther {w wr:Ag} {l:List (Nat×Array Ah×TypeId)} (h:Bx w l wr) {g:Nat} (hg:w.heap.size≤g) (hne:∀(i:Nat) (x:Nat×Array Ah×TypeId),l[i]? =some x→x.1≠g) (j:Nat) (v:Ah):Bx w l (wr.setCell ⟨g,j,none⟩ v):=
 ⟨h.below.setCell (p:=⟨g,j,none⟩) hg v,fun i b cs t hi=>(Below.heap_setCell wr ⟨g,j,none⟩ v b (hne i _ hi)).trans (h.blk i b cs t hi),h.lo,h.inj⟩
def QAt (w:Ag) (base:Nat) (av:List Nat) (v:Ah) (l:List Nat):Prop:=
 ∃g o c cw,v= Ad (some ⟨g,o,none⟩) l.length c∧base≤g∧(∀x∈av,x≠g)∧w.heap[g]? =some (Obj.cells cw 3 (0,0))∧l.length≤c∧o+c≤cw.size∧∀i,(h:i<l.length)→cw[o+i]? =some (Aa Ab (l[i]:Nat))
theorem QAt.below {w w':Ag} {base:Nat} {av:List Nat} {v:Ah} {l:List Nat} (h:QAt w base av v l) (hb:Below w.heap.size w w'):QAt w' base av v l:=by
 obtain⟨g,o,c,cw,h1,h2,h3,h4,h5⟩:=h;exact⟨g,o,c,cw,h1,h2,h3,kept hb h4 (Aq.1 h4).1,h5⟩
theorem QAt.set {w:Ag} {base:Nat} {av:List Nat} {v:Ah} {l:List Nat} (h:QAt w base av v l) {b:Nat} (hb:b∈av) (j:Nat) (u:Ah):QAt (w.setCell ⟨b,j,none⟩ u) base av v l:=by
 obtain⟨g,o,c,cw,h1,h2,h3,h4,h5⟩:=h;exact⟨g,o,c,cw,h1,h2,h3,(Below.heap_setCell w ⟨b,j,none⟩ u g (Ne.symm (h3 b hb))).trans h4,h5⟩
theorem QAt.head {w:Ag} {base:Nat} {av:List Nat} {v:Ah} {x:Nat} {l:List Nat} (h:QAt w base av v (x::l)):
  ∃g o c,v= Ad (some ⟨g,o,none⟩) (l.length+1) c∧l.length+1≤c∧w.cell? ⟨g,o,none⟩=some (Aa Ab (x:Nat))∧QAt w base av (Ad (some ⟨g,o+1,none⟩) l.length (c-1)) l:=by
 obtain⟨g,o,c,cw,h1,h2,h3,h4,h5,h6,h7⟩:=h;simp only[List.length_cons]at h1 h5 h7;refine⟨g,o,c,h1,h5,?_,g,o+1,c-1,cw,rfl,h2,h3,h4,by omega,by omega,fun i hi=>?_⟩
 ·rw[Bs w g o cw _ (0,0) h4];have:=h7 0 (by omega);simpa using this
 ·have:=h7 (i+1) (by omega);rw[show o+1+i=o+(i+1)by omega,this];simp
theorem Ak2:∃i,Tryz.prog.info? 3=some i∧i.size=1∧i.bytes=8:=by
 have h:(Tryz.prog.info? 3).map (fun i=>(i.size,i.bytes))=some (1,8):=by kernel_rfl
 cases hi:Tryz.prog.info? 3 with
 |none=>rw[hi]at h;cases h
 |some i=>rw[hi]at h;injection h with h;injection h with h1 h2;exact⟨i,rfl,h1,h2⟩
theorem yM (w:Ag):(zeroValue 3).run Tryz.prog w= .ok (Aa Ab 0) w:=by kernel_rfl
theorem QAt.push {w:Ag} {base:Nat} {av:List Nat} {v:Ah} {l:List Nat} (h:QAt w base av v l) (hl:l.length<900000) (hbase:base≤w.heap.size) (hav:∀x∈av,x<w.heap.size) (x gy cy:Nat) (hy:w.cell? ⟨gy,0,none⟩=some (Aa Ab (x:Nat))):
  ∃v' w',(Builtin.append_ #[61,61] 61 #[v,Ad (some ⟨gy,0,none⟩) 1 cy]).run Tryz.prog w= .ok v' w'∧QAt w' base av v' (l++[x])∧
   ((∃g j,base≤g∧(∀x∈av,x≠g)∧w'=w.setCell ⟨g,j,none⟩ (Aa Ab (x:Nat)))∨∃o,w'=w.drew.alloc o):=by
 obtain⟨g,o,c,cw,rfl,h2,h3,h4,h5,h6,h7⟩:=h;obtain⟨i,hi,hs,hbt⟩:=Ak2;have hu:Tryz.prog.underlying 61=some (.slice 3):=Tryz.underlying61;have hn:∀W:Ag,(Builtin.lenOf (Ad (some ⟨gy,0,none⟩) 1 cy)).run Tryz.prog W= .ok 1 W:=fun W=>rfl
 have hload:∀W:Ag,W.cell? ⟨gy,0,none⟩=some (Aa Ab (x:Nat))→(Builtin.firstCells 1 1 (Ad (some ⟨gy,0,none⟩) 1 cy)).run Tryz.prog W= .ok #[Aa Ab (x:Nat)] W:=fun W hW=>by
  have:=run_loadCells_list (P:=Tryz.prog) (w:=W) ⟨gy,0,none⟩ [Aa Ab (x:Nat)] (fun j u hu=>by
   cases j with
   |zero=>simp at hu;subst hu;exact hW
   |succ j=>simp at hu)
  simpa[Builtin.firstCells]using this
 by_cases hc:l.length+1≤c
 ·
  have hst:(storeCells ⟨g,o+l.length*1,none⟩ [Aa Ab (x:Nat)]).run Tryz.prog w= .ok () (w.setCell ⟨g,o+l.length,none⟩ (Aa Ab (x:Nat))):=by
   have hcell:(w.cell? ⟨g,o+l.length,none⟩).isSome=true:=by rw[Bs w g _ cw _ (0,0) h4];simp;omega
   have hfz:w.frozen? ⟨g,o+l.length,none⟩=false:=by simp[World.frozen?,h4]
   have:=run_storeCells_cells (P:=Tryz.prog) g (o+l.length) [Aa Ab (x:Nat)] 0 w (fun j hj=>by
    have:j=0:=by simpa using hj
    subst this;exact hcell) (fun j hj=>by
    have:j=0:=by simpa using hj
    subst this;exact hfz) (fun u hu=>by simp at hu;subst hu;rfl)
   rw[Nat.mul_one];exact this
  have hrun:=run_apIn (P:=Tryz.prog) (ty:=61) (sT:=61) (xT:=61) (b:=g) (off:=o) (sLen:=l.length) (sCap:=c) (n:=1) (size:=1) (y:= Ad (some ⟨gy,0,none⟩) 1 cy) hu hu hi hs (hn w) hc (hload w hy) hst;refine⟨_,_,hrun,⟨g,o,c,_,by simp,h2,h3,Ek _ h4,by simpa using hc,by simp;omega,fun j hj=>?_⟩,.inl ⟨g,_,h2,h3,rfl⟩⟩;simp only[Be,List.length_cons,List.length_nil]at hj;by_cases e:j=l.length
  ·subst e;rw[Array.getElem?_setIfInBounds];simp;omega
  ·rw[Array.getElem?_setIfInBounds,if_neg (by omega),h7 j (by omega),List.getElem_append_left (by omega)]
 ·
  have hold:(Builtin.firstCells 1 l.length (Ad (some ⟨g,o,none⟩) l.length c)).run Tryz.prog w.drew= .ok (l.map fun(i:Nat)=>Value.int .i64 (i:Int)).toArray w.drew:=by
   have:=run_loadCells_list (P:=Tryz.prog) (w:=w.drew) ⟨g,o,none⟩ (l.map fun(i:Nat)=>Value.int .i64 (i:Int)) (fun j u hu=>by
    have hj:j<l.length:=by
     by_cases hj:j<l.length
     ·exact hj
     ·rw[List.getElem?_eq_none (by simp;omega)]at hu;cases hu
    have e:w.drew.cell? ⟨g,o+j,none⟩=w.cell? ⟨g,o+j,none⟩:=rfl;rw[adr_add,e,Bs w g _ cw _ (0,0) h4,h7 j hj];simp[hj]at hu;rw[←hu])
   simpa[Builtin.firstCells]using this
  obtain⟨q,hq,hrun⟩:=run_apNew (P:=Tryz.prog) (ty:=61) (sT:=61) (xT:=61) (base:=some ⟨g,o,none⟩) (sLen:=l.length) (sCap:=c) (n:=1) (size:=1) (y:= Ad (some ⟨gy,0,none⟩) 1 cy) (i:=i) hu hu hi hs (by rw[hbt];decide) (hn w) (by omega) (by omega) hold (hload w.drew hy) (yM w.drew);refine⟨_,_,hrun,⟨w.heap.size,0,q,_,by simp,hbase,fun y hy=>Nat.ne_of_lt (hav y hy),Bt w.drew _,by simpa using hq,?_,fun j hj=>?_⟩,.inr ⟨_,rfl⟩⟩
  ·simp[Builtin.zeroCells,Value.cells];omega
  ·simp only[Be,List.length_cons,List.length_nil]at hj;rw[Bp];rw[Array.getElem?_append_left (by simp;omega)];by_cases e:j=l.length
   ·subst e;simp
   ·rw[Array.getElem?_append_left (by simp;omega)];simp[show j<l.length by omega]
def unk (kn:List Bool):Nat:=(kn.filter (fun b=> !b)).length
theorem jU:∀(kn:List Bool) (n:Nat),n<kn.length→kn.getD n false=false→unk (kn.set n true)+1=unk kn
 |[],n,h,_=>by simp at h
 |b::kn,0,_,h=>by
  simp at h;subst h;simp[unk]
 |b::kn,n+1,h,h0=>by
  have ih:=jU kn n (by simpa using h) (by simpa using h0);unfold unk at ih⊢
  cases b<;>simp<;>omega
def RS.mm (s:RS):Nat:=unk s.known+s.wait.length
structure Af7 (k:Nat) (s:RS):Prop where
 out:s.out.length=k
 known:s.known.length=k
 wait:∀i∈s.wait,i<k
 t:∀m∈s.out,m.t≤255
def Mg (a b:Int) (l:List Cr) (id:Nat):Nat→RS→Option RS
 |0,s=>some s
 |j+1,s=>(Jr a b l id (2-j) s).bind (Mg a b l id j)
theorem bO (a b:Int) (l:List Cr) (id:Nat) (s:RS):Oe a b l id s=Mg a b l id 3 s:=by
 show((Jr a b l id 0 s).bind fun s=>(Jr a b l id 1 s).bind fun s=>Jr a b l id 2 s)=(Jr a b l id 0 s).bind fun s=>(Jr a b l id 1 s).bind fun s=>(Jr a b l id 2 s).bind some
 cases Jr a b l id 0 s with
 |none=>rfl
 |some s1=>
  simp only[Option.bind_some]
  cases Jr a b l id 1 s1 with
  |none=>rfl
  |some s2=>
   simp only[Option.bind_some]
   cases Jr a b l id 2 s2<;>rfl
theorem jT (x y:Mv):(Fq x y).1.t≤255:=by
 unfold Fq
 split
 ·unfold Ni aI
  split
  ·rename_i h;have:=(Mv.ok_iff.1 h).1;exact Bo (Bq this) (by decide)
  ·exact(by decide:0≤255)
 ·exact(by decide:0≤255)
theorem Yx (a b:Int) (l:List Cr) (out:List Mv) (id e:Nat) (h:∀m∈out,m.t≤255):(Jq a b l out id e).t≤255:=by
 unfold Jq
 split
 ·exact jT _ _
 ·rw[List.getD_eq_getElem?_getD]
  cases ho:out[id]? with
  |none=>exact(by decide:0≤255)
  |some m=>exact h m (List.mem_of_getElem? ho)
theorem Uq {a b i e:Int} (hs:okS a b=true) (h:(nbI a b i e).2=0):0≤(nbI a b i e).1∧(nbI a b i e).1<4*a*b:=by
 unfold nbI at h⊢
 split at h
 ·cases h
 ·rename_i h1;rw[if_neg h1]
  split at h
  ·rename_i h2;rw[if_pos h2];have hq:=fD (i/4%a) (i/4/a) (i%4) e;unfold idI at h⊢
   split at h
   ·rename_i h3;rw[if_pos h3];obtain⟨_,x1,x2,y1,y2⟩:=Xx.1 h3;obtain⟨z1,z2,z3⟩:=yR hs ⟨x1,x2⟩ ⟨y1,y2⟩;have e0:4*a*b=4*(a*b):=Int.mul_assoc _ _ _
    constructor
    ·dsimp only;omega
    ·dsimp only;omega
   ·cases h
  ·cases h
theorem Fc {a b:Int} (hs:okS a b=true):((Cq a b:Nat):Int)=4*a*b∧1≤Cq a b∧Cq a b≤1024:=by
 obtain⟨m1,m2,m3,m4,m5,m6⟩:=Me hs;have e0:4*a*b=4*(a*b):=Int.mul_assoc _ _ _;unfold Cq;omega
def Cx (l:List Bool):List Ah:=l.map Value.bool
theorem Ri (l:List Bool) (n:Nat):(Cx l).toArray.setIfInBounds n (.bool true)=(Cx (l.set n true)).toArray:=by
 simp[Cx,List.map_set]
theorem jG (l:List Mv) (n:Nat) (m:Mv):(((Hu l).toArray.setIfInBounds (n*3) (Aa Ac m.t)).setIfInBounds (n*3+1) (Aa Ab m.x)).setIfInBounds (n*3+2) (Aa Ab m.y)=(Hu (l.set n m)).toArray:=by
 have hlen:∀l:List Mv,(Hu l).length=l.length*3:=fun l=>by unfold Hu;induction l with|nil=>rfl|cons x l ih=>simp[Ba,ih,Hm];omega
 have hat:∀(l:List Mv) (i f:Nat),i<l.length→f<3→(Hu l)[i*3+f]? =(match l[i]? with|some m=>m.cells[f]? |none=>none):=fun l i f hi hf=>by
  rw[Ar hi];exact Dc Mv.cells 3 Hm _ i f hi hf
 apply Array.ext';simp only[Array.toList_setIfInBounds];apply List.ext_getElem?;intro j;by_cases hj:j<l.length*3
 ·obtain⟨i,f,hf,rfl⟩:∃i f,f<3∧j=i*3+f:=⟨j/3,j%3,by omega,by omega⟩;have hi:i<l.length:=by omega
  rw[hat (l.set n m) i f (by simpa using hi) hf];simp only[List.getElem?_set,List.length_set,hlen];by_cases e:n=i
  ·subst e;rw[if_pos rfl,if_pos hi];have h3:f=0∨f=1∨f=2:=by omega
   rcases h3 with rfl|rfl|rfl
   ·simp[Mv.cells];omega
   ·simp[Mv.cells];omega
   ·simp[Mv.cells];omega
  ·rw[if_neg e,if_neg (by omega),if_neg (by omega),if_neg (by omega),hat l i f hi hf]
 ·rw[List.getElem?_eq_none (by simp[hlen];omega),List.getElem?_eq_none (by simp[hlen];omega)]
def Xu (w:Ag) (g:Nat):Nat:=match w.heap[g]? with
 |some (.cells c _ _)=>(c.toList.filter fun v=>match v with| .bool false=>true|_=>false).length
 |_=>0
def Aa8:Ah→Nat
 | Ad _ n _=>n
 |_=>0
theorem kQ {w:Ag} {g:Nat} {l:List Bool} {t:TypeId} (h:w.heap[g]? =some (.cells (Cx l).toArray t (0,0))):Xu w g=unk l:=by
 unfold Xu;rw[h];clear h;unfold unk Cx
 induction l with
 |nil=>rfl
 |cons b l ih=>
  cases b<;>simp at ih⊢ <;>exact ih
theorem Nb (l:List Mv):(Hu l).length=l.length*3:=by
 unfold Hu;induction l with|nil=>rfl|cons x l ih=>simp[Ba,ih,Hm];omega
theorem wZ (k:Nat):madeCells #[Aa Ac 0,Aa Ab 0,Aa Ab 0] (k*3)=(Hu (Aw k mv0)).toArray:=by
 apply Array.ext';apply List.ext_getElem?;intro j;by_cases hj:j<k*3
 ·obtain⟨i,f,hf,rfl⟩:∃i f,f<3∧j=i*3+f:=⟨j/3,j%3,by omega,by omega⟩;have hi:i<k:=by omega
  have h1:(Hu (Aw k mv0))[i*3+f]? =(((Aw k mv0)[i]'(by simpa using hi)).cells)[f]? :=Dc Mv.cells 3 Hm _ i f (by simpa using hi) hf;rw[h1];have h3:f=0∨f=1∨f=2:=by omega
  have hm:(i*3+f)%3=f:=by omega
  simp[madeCells,hj,hm];rcases h3 with rfl|rfl|rfl
  ·rfl
  ·rfl
  ·rfl
 ·rw[List.getElem?_eq_none (by simp[madeCells];omega),List.getElem?_eq_none (by simp[Nb];omega)]
theorem rL (k:Nat) (hk:k≤1024) (W:Ag):(Instr.makeSlice 171 (Aa Ab k) (Aa Ab k)).run Tryz.prog W= .ok (Ad (some ⟨W.heap.size,0,none⟩) k k) (W.alloc (.cells (Hu (Aw k mv0)).toArray 40)):=by
 have hinfo:(Tryz.prog.info? 40).map (fun i=>(i.zero,i.size,i.bytes))=some (some (.agg #[Aa Ac 0,Aa Ab 0,Aa Ab 0]),3,24):=by kernel_rfl
 obtain⟨i,hi,hz,hs,hb⟩:=info_parts hinfo;have h:=run_make (P:=Tryz.prog) W 171 40 i _ Tryz.underlying171 hi hz .i64 .i64 k k (by omega) (by omega) (by rw[hb];omega) (by omega);rw[h];simp only[Int.toNat_natCast,hs];have e:(Value.agg #[Aa Ac 0,Aa Ab 0,Aa Ab 0]).cells= #[Aa Ac 0,Aa Ab 0,Aa Ab 0]:=by rfl
 rw[e,wZ]
theorem Pi (k:Nat) (hk:k≤1024) (W:Ag):(Instr.makeSlice 79 (Aa Ab k) (Aa Ab k)).run Tryz.prog W= .ok (Ad (some ⟨W.heap.size,0,none⟩) k k) (W.alloc (.cells (Cx (Aw k false)).toArray 4)):=by
 have hinfo:(Tryz.prog.info? 4).map (fun i=>(i.zero,i.size,i.bytes))=some (some (.bool false),1,1):=by kernel_rfl
 obtain⟨i,hi,hz,hs,hb⟩:=info_parts hinfo;have h:=run_make (P:=Tryz.prog) W 79 4 i _ Tryz.underlying79 hi hz .i64 .i64 k k (by omega) (by omega) (by rw[hb];omega) (by omega);rw[h];simp only[Int.toNat_natCast,hs,Nat.mul_one]
 have e:madeCells (Value.bool false).cells k=(Cx (Aw k false)).toArray:=by
  apply Array.ext';exact(toList_madeCells_one (.bool false) k).trans (by simp[Cx])
 rw[e]
def zC (r:Option (List Mv)) (w:Ag) (e:Ending) (w':Ag):Prop:=Below w.heap.size w w'∧match r with
 |some ms=>∃g,e= .returned (.tuple #[Ad (some ⟨g,0,none⟩) ms.length ms.length,Aa Ab 0])∧w.heap.size≤g∧w'.heap[g]? =some (Obj.cells (Hu ms).toArray 40 (0,0))
 |none=>e= .returned (.tuple #[Ad none 0 0,Aa Ab 11])
theorem sV {w:Ag} {g:Nat} {cs:Array Ah} {t:TypeId} (h:w.heap[g]? =some (.cells cs t (0,0))) (j:Nat):w.frozen? ⟨g,j,none⟩=false:=by simp[World.frozen?,h]
theorem Su {w:Ag} {g:Nat} {a:Ah} {t:TypeId} (h:w.heap[g]? =some (.cells #[a] t (0,0))):w.cell? ⟨g,0,none⟩=some a∧w.frozen? ⟨g,0,none⟩=false:=by
 simp[World.cell?,World.frozen?,h]
theorem nD (m:Nat) (l:List Stk) (k:Nat) (h:k<l.length) (pv:Cl) (hp:∀(h0:0<k),(l[k-1]'(by omega)).c=pv):
  Fh m l k=(!l[k].c.ok||(decide (0<k)&&decide (0≤Fg pv l[k].c))||l[k].ls.isEmpty||l[k].ls.any fun id=>decide (m≤id)):=by
 unfold Fh;rw[Ar h]
 cases k with
 |zero=>simp
 |succ k=>
  have h1:l[k].c=pv:=hp (by omega);have e:l[k]? =some l[k]:=Ar (by omega);simp[e,h1]
theorem Yy (l:List Stk) (k:Nat) (h:k<l.length):Dv (l.take (k+1))=Dv (l.take k)++l[k].ls:=by
 unfold Dv;rw[Ax h,Bf];simp
theorem Oz {B:Nat}:∀{l:List Stk},(∀x∈l,x.ls.length≤B)→(Dv l).length≤l.length*B
 |[],_=>by simp[Dv]
 |x::l,h=>by
  have h1:=h x (by simp);have h2:=Oz (l:=l) fun y hy=>h y (by simp[hy]);unfold Dv at h2⊢;simp only[Ba,Be,List.length_cons,Nat.succ_mul];omega
def Ep (l:List Stk) (k j:Nat):List Nat:=Dv (l.take k)++(match l[k]? with|some x=>x.ls.take j|none=>[])
theorem Pg (l:List Stk):Ep l 0 0=[]:=by
 unfold Ep Dv
 cases l[0]? <;>simp
theorem eD (l:List Stk) (k:Nat) (h:k<l.length):Ep l k l[k].ls.length=Ep l (k+1) 0:=by
 unfold Ep;rw[Ar h,Yy l k h]
 cases l[k+1]? <;>simp
theorem eE (l:List Stk) (k j:Nat) (h:k<l.length) (hj:j<l[k].ls.length):Ep l k (j+1)=Ep l k j++[l[k].ls[j]]:=by
 unfold Ep;rw[Ar h];simp only;rw[Ax hj,Bg]
theorem kW (l:List Stk):Ep l l.length 0=Dv l:=by
 unfold Ep;simp
theorem Zw (l:List Stk) (k j:Nat) (h:k<l.length) (hj:j<l[k].ls.length):∃r,Dv l=Ep l k j++l[k].ls[j]::r:=by
 have h1:l=l.take k++l[k]::l.drop (k+1):=by simp
 have h2:l[k].ls=l[k].ls.take j++l[k].ls[j]::l[k].ls.drop (j+1):=by simp
 refine⟨l[k].ls.drop (j+1)++Dv (l.drop (k+1)),?_⟩;unfold Ep;rw[Ar h];simp only
 have h3:Dv l=Dv (l.take k)++(l[k].ls++Dv (l.drop (k+1))):=by
  have h4:=congrArg Dv h1;unfold Dv at h4⊢;rw[Bf,Ba]at h4;exact h4
 have h5:=congrArg (· ++Dv (l.drop (k+1))) h2;rw[h3,h5];simp only[Bg,List.cons_append]
theorem Af2 {B:Nat} {l:List Stk} (h:∀x∈l,x.ls.length≤B) (k j:Nat) (hk:k≤l.length):(Ep l k j).length≤k*B+B:=by
 unfold Ep;have h1:=Oz (l:=l.take k) fun x hx=>h x (List.mem_of_mem_take hx);rw[Bj,Nat.min_eq_left hk]at h1;rw[Be]
 cases hx:l[k]? with
 |none=>simp;omega
 |some x=>
  have:=h x (List.mem_of_getElem? hx);simp only[Bj];omega
def Gw (m:Nat) (p:List Nat):List Bool:=(List.range m).map fun i=>decide (i∈p)
theorem Ac7 (m:Nat) (p:List Nat):(Gw m p).length=m:=by simp[Gw]
theorem fX (m:Nat):Gw m []=Aw m false:=by
 unfold Gw;apply List.ext_getElem
 ·simp
 ·intro i h1 h2;simp
theorem Af5 (m:Nat) (p:List Nat) (i:Nat) (h:i<(Gw m p).length):(Gw m p)[i]=decide (i∈p):=by simp[Gw]
theorem fY (m:Nat) (p:List Nat) (i:Nat):(Gw m p).set i true=Gw m (p++[i]):=by
 unfold Gw;apply List.ext_getElem
 ·simp
 ·intro j h1 h2;simp only[List.getElem_set,List.getElem_map,List.getElem_range,Bi,List.mem_singleton];by_cases e:i=j
  ·subst e;simp
  ·have:¬j=i:=fun h=>e h.symm;simp[e,this]
theorem pE {n:Nat} {l:List Stk} {i:Nat} (hi:i<l.length) (h:Fh n l i=true):chkS n l=1:=by
 unfold chkS;rw[if_pos (List.any_eq_true.2 ⟨i,by simpa using hi,h⟩)]
theorem pD {n:Nat} {l:List Stk} (h:∀i,i<l.length→Fh n l i=false):chkS n l=if¬(Dv l).Nodup then 8 else if(Dv l).length<n then 6 else 0:=by
 unfold chkS;rw[if_neg];intro h2;obtain⟨i,h3,h4⟩:=List.any_eq_true.1 h2;rw[h i (by simpa using h3)]at h4
 cases h4
theorem Xc {n:Nat} {l:List Stk} {k:Nat} (hk:k<l.length) (h:Fh n l k=false):l[k].c.ok=true∧∀id∈l[k].ls,id<n:=by
 unfold Fh at h;rw[Ar hk]at h;simp only[Bool.or_eq_false_iff,Bool.not_eq_false',List.any_eq_false,decide_eq_true_eq]at h;exact⟨h.1.1.1,fun id hid=>Nat.lt_of_not_le (h.2 id hid)⟩
theorem Vf (A:Option Addr) (l:List Stk) (n cc:Nat) (a b:Int) (w:Ag) (hn:n=l.length) (h:Cs w A l) (hl:n≤100000) (hls:∀x∈l,x.ls.length≤100000) (hqs:∀x∈l,x.c.q≤255) (hs:okS a b=true):
  Ai Tryz.prog 170 #[Ad A n cc,.agg #[Aa Ab a,Aa Ab b]] w (Cg (Aa Ab (chkS (Cq a b) l)) w):=by
 have hcount:=fun w'=>Ns a b w' hs;have hck:=fun w'=>Ev a b w';have hec:ec (okS a b) 1=0:=by rw[hs];rfl
 rw[hec]at hck;obtain⟨_,m1,m2⟩:=Fc hs;obtain⟨m,hm⟩:=ey (Cq a b);rw[hm]at hcount m1 m2⊢;obtain⟨R,hR⟩:=ey (chkS m l);rw[hR];have HR:=Ae hR;have HS:=Ae h;have HN:=Ae hn;have HLS:=Ae hls;have HQS:=Ae hqs;have HCK:=Ae hck;have HCO:=Ae hcount;have H:=(Bx.start w).new #[Aa Ab a,Aa Ab b] 35 rfl;clear hR h hn hls hqs hck hcount hec hm hs;go_enter Tryz.func170,Tryz.ntmps170;go_upto_region 1 with fail;obtain⟨W,hW⟩:=ez (w.alloc (.cells #[Aa Ab a,Aa Ab b] 35));rw[←hW]at H⊢;clear hW;obtain⟨N,hN⟩:=ez w.heap.size;rw[←hN]at H⊢;have HNN:=Ae hN;clear hN;obtain⟨⟨a0,a1⟩,_⟩:=Cu (H.blk 0 _ _ _ rfl);go_wp2_with fail;refine(HCK.out _).mono ?_;rintro e w2 ⟨rfl,hb⟩;have H2:=H.call hb;clear a0 a1 hb H;obtain⟨⟨a0,a1⟩,_⟩:=Cu (H2.blk 0 _ _ _ rfl);go_wp2_with fail;refine(HCO.out _).mono ?_;rintro e w3 ⟨rfl,hb⟩;have H3:=H2.call hb;clear a0 a1 hb H2;go_upto_region 5 with fail;obtain⟨P,hP⟩:=ey w3.heap.size;have H4:=H3.new #[Aa Ab m] 3 hP;obtain⟨W4,hW4⟩:=ez (w3.alloc (.cells #[Aa Ab m] 3));rw[←hW4]at H4⊢;clear hW4;rw[hP];have HS4:=Ae H4;clear hP H3 H4;go_wp2_with fail
 go_loopw [25] (fun i wr=>∃k:Nat,k≤n∧i= Aa Ab k∧Bx w [(N,#[Aa Ab a,Aa Ab b],35),(P,#[Aa Ab m],3)] wr∧Hid (∀j,j<k→Fh m l j=false)) (fun i _=>n-(intOf i).toNat)
 case atStart=>exact⟨0,Nat.zero_le _,rfl,HS4.out,Ae fun j hj=>absurd hj (by omega)⟩
 case round=>
  obtain⟨k,hk,rfl,Hr,HK⟩:=hrel;by_cases hlt:k<n
  ·have hkl:k<l.length:=by have:=HN.out;omega
   obtain⟨bb,o,A',c',hA,hbl,⟨d0,d1,d2,d3⟩,hA',hle,hcm,hrd⟩:=(HS.out.below Hr.below).get k hkl
   have hpv:∃pv:Cl,(∀(h0:0<k),(l[k-1]'(by omega)).c=pv)∧pv.q≤255∧(0<k→wr.cell? ⟨bb,o+(k-1)*4,none⟩=some (Aa Ab pv.x)∧wr.cell? ⟨bb,o+(k-1)*4+1,none⟩=some (Aa Ab pv.y)∧wr.cell? ⟨bb,o+(k-1)*4+2,none⟩=some (Aa Ac pv.q)):=by
    by_cases h0:0<k
    ·obtain⟨bb2,o2,_,_,hA2,_,⟨p0,p1,p2,_⟩,_⟩:=(HS.out.below Hr.below).get (k-1) (by omega);rw[hA]at hA2;injection hA2 with hA2;injection hA2 with e1 e2;subst e1;subst e2;exact⟨_,fun _=>rfl,HQS.out _ (Au _),fun _=>⟨p0,p1,p2⟩⟩
    ·exact⟨cl0,fun h=>absurd h h0,by decide,fun h=>absurd h h0⟩
   obtain⟨pv,hpv1,hpv2,hpv3⟩:=hpv;have hbad:=nD m l k hkl pv hpv1;have q1:(k:Int)<(n:Int):=by omega
   have hlk:=HLS.out l[k] (Au _);have hqk:=HQS.out l[k] (Au _);obtain⟨⟨⟨x,y,q⟩,ids⟩,hr⟩:∃z,l[k]=z:=⟨_,rfl⟩;rw[hr]at d0 d1 d2 d3 hA' hle hrd hlk hqk hbad;dsimp only at d0 d1 d2 d3 hA' hle hrd hlk hqk hbad;have HBAD:Hid (Fh m l k=(!okC x y q||(decide (0<k)&&decide (0≤Fg pv ⟨x,y,q⟩))||ids.isEmpty||ids.any fun id=>decide (m≤id))):=Ae hbad;obtain⟨u,hu⟩:=ey ids.length;rw[hu]at d3 hA' hle hrd hlk;have HU:=Ae hu;have HOUT:=Ae fun(w':Ag) (hb:Below wr.heap.size wr w') (hp:w'.cell? ⟨P,0,none⟩=some (Aa Ab (m:Int)))=>xR A' ids u c' m P w' hu.symm (hrd.below hb) (by omega) hp;have HPV:=Ae hpv3;have HPQ:=Ae hpv2;have HQK:=Ae hqk;have HR2:=Ae Hr;have HWB:=Ae (Below.refl wr.heap.size wr);subst hA;clear hbad hpv1 hpv3 hpv2 hr hA' hrd hqk Hr hu;go_upto_region 8 with fail;obtain⟨C,hC⟩:=ey wr.heap.size;have H5:=HR2.out.new #[Aa Ab x,Aa Ab y,Aa Ac q,Ad A' u c'] 125 hC;have hb5:=HWB.out.alloc (Aj _) (.cells #[Aa Ab x,Aa Ab y,Aa Ac q,Ad A' u c'] 125);obtain⟨W5,hW5⟩:=ez (wr.alloc (.cells #[Aa Ab x,Aa Ab y,Aa Ac q,Ad A' u c'] 125));rw[←hW5]at H5 hb5⊢;rw[hC];clear hW5 hC d0 d1 d2 d3 HR2;obtain⟨⟨c0,c1,c2,c3⟩,_⟩:=Co (H5.blk 2 _ _ _ rfl);have p0:=Su (H5.blk 1 _ _ _ rfl);go_wp2_with fail;refine(HOUT.out _ hb5 p0.1).mono ?_;rintro e w6 ⟨rfl,hb6⟩;have H6:=H5.call hb6;have hb7:=hb5.trans (hb6.mono hb5.size);clear c0 c1 c2 c3 p0 hb6 H5 hb5 HOUT;obtain⟨fb,hfb⟩:=ey ((ids.any fun id=>decide (m≤id)));have HB2:=HBAD.out;rw[hfb]at HB2⊢;have HBB:=Ae HB2;clear HBAD hfb HB2
   obtain⟨S,hSd⟩:∃S:Ag→Prop,S=fun w'=>(w'.cell? ⟨C,0,none⟩=some (Aa Ab x)∧w'.cell? ⟨C,1,none⟩=some (Aa Ab y)∧w'.cell? ⟨C,2,none⟩=some (Aa Ac q)∧w'.cell? ⟨C,3,none⟩=some (Ad A' u c'))∧(0<k→w'.cell? ⟨bb,o+(k-1)*4,none⟩=some (Aa Ab pv.x)∧w'.cell? ⟨bb,o+(k-1)*4+1,none⟩=some (Aa Ab pv.y)∧w'.cell? ⟨bb,o+(k-1)*4+2,none⟩=some (Aa Ac pv.q)):=⟨_,rfl⟩
   have HSA:Hid (∀W',Below w6.heap.size w6 W'→S W'):=Ae fun W' h=>by
    subst hSd;obtain⟨⟨c0,c1,c2,c3⟩,_⟩:=Co ((H6.call h).blk 2 _ _ _ rfl);have hb:=hb7.trans (h.mono hb7.size);exact⟨⟨c0,c1,c2,c3⟩,fun h0=>let⟨r0,r1,r2⟩:=HPV.out h0;⟨Ce hb r0,Ce hb r1,Ce hb r2⟩⟩
   have HSO:Hid (∀W',S W'→W'.cell? ⟨C,0,none⟩=some (Aa Ab x)∧W'.cell? ⟨C,1,none⟩=some (Aa Ab y)∧W'.cell? ⟨C,2,none⟩=some (Aa Ac q)∧W'.cell? ⟨C,3,none⟩=some (Ad A' u c')):=Ae fun W' h=>by subst hSd;exact h.1
   have HSP:Hid (∀W',S W'→0<k→W'.cell? ⟨bb,o+(k-1)*4,none⟩=some (Aa Ab pv.x)∧W'.cell? ⟨bb,o+(k-1)*4+1,none⟩=some (Aa Ab pv.y)∧W'.cell? ⟨bb,o+(k-1)*4+2,none⟩=some (Aa Ac pv.q)):=Ae fun W' h=>by subst hSd;exact h.2
   have HC1:=Ae fun(w':Ag)=>Dk x y q w';clear hSd HPV hb7;have HH6:=Ae H6;clear H6;go_upto_region 9 with fail;go_cut [62] (fun sb wx=>∃v:Bool,sb= .bool v∧v=Fh m l k∧Bx w [(N,#[Aa Ab a,Aa Ab b],35),(P,#[Aa Ab m],3)] wx)
   case first=>
    refine Al (S:=S) (by kernel_rfl) (HSA.out _ (Below.refl _ _).drew) (fun hS=>?_);have hb:Below w6.heap.size w6 w6.drew:=(Below.refl _ _).drew;have H:=HH6.out.drew;obtain⟨X0,hX⟩:=ez w6.drew;rw[←hX]at H hb hS⊢;clear hX HH6;refine Cf 0 ?_;refine Cf 1 ?_;refine rdy 2 (fun K hK=>?_);go_simp;refine(HC1.out _).mono ?_;rintro e X1 ⟨rfl,hbm⟩;have hb:=hb.trans (hbm.mono hb.size);have H:=H.call hbm;have hS:=HSA.out _ hb;refine hK.out _ _ hS (fun hS=>?_);clear hK K hbm
    cases hx:okC x y q
    ·have HBE:Hid (true=Fh m l k):=Ae (by rw[HBB.out,hx];rfl);rw[Ji];clear hx HBB HC1;refine Cf 3 ?_;refine Cf 4 ?_;refine Cf 5 ?_;refine Cf 6 ?_;refine Cf 7 ?_;refine Cf 8 ?_;refine Cf 9 ?_;refine Cf 10 ?_;refine Cf 11 ?_;refine Cf 12 ?_;refine Cf 13 ?_;refine Cf 14 ?_;refine Cf 15 ?_;refine Cf 16 ?_;refine Cf 17 ?_;refine Cf 18 ?_;refine Cf 19 ?_;refine Cf 20 ?_;refine Cf 21 ?_;refine Cf 22 ?_;refine Cf 23 ?_;refine Cf 24 ?_;refine Cf 25 ?_;refine Cf 26 ?_;refine Cf 27 ?_;refine Cf 28 ?_;refine Ak (by kernel_rfl) ?_ _;go_wp2_with fail;go_meet;exact⟨true,rfl,HBE.out,H.upto 2⟩
    ·rw[Fo];by_cases hk0:k=0
     ·subst hk0;refine Cf 3 ?_;refine Cf 4 ?_;refine Cf 5 ?_;refine Cf 6 ?_;refine Cf 7 ?_;refine Cf 8 ?_;refine Cf 9 ?_;refine Cf 10 ?_;refine Cf 11 ?_;refine Cf 12 ?_;refine Cf 13 ?_;refine Cf 14 ?_;refine Cf 15 ?_;refine Cf 16 ?_;refine Cf 17 ?_;refine Cf 18 ?_;refine Cf 19 ?_;refine Cf 20 ?_;by_cases hu:u=0
      ·have HBE:Hid (true=Fh m l 0):=Ae (by rw[HBB.out,hx,List.eq_nil_of_length_eq_zero (HU.out.trans hu)];simp);have hu1:(u:Int)=0:=by omega
       clear hx HBB HC1;refine Cf 21 ?_;refine Cf 22 ?_;refine Cf 23 ?_;refine Cf 24 ?_;refine Cf 25 ?_;refine Cf 26 ?_;refine Cf 27 ?_;refine Cf 28 ?_;refine Ak (by kernel_rfl) ?_ _;go_wp2_with fail;go_meet;exact⟨true,rfl,HBE.out,H.upto 2⟩
      ·have HBE:Hid (fb=Fh m l 0):=Ae (by
        have h0:ids≠[]:=fun e=>hu (by rw[←HU.out,e];rfl);rw[HBB.out,hx];simp[h0])
       have hu1:((u:Int)==0)=false:=by simpa using hu
       clear hx HBB HC1;refine Cf 21 ?_;refine Cf 22 ?_;refine Cf 23 ?_;refine Cf 24 ?_;refine Cf 25 ?_;refine Cf 26 ?_;refine Cf 27 ?_;refine Cf 28 ?_;refine Ak (by kernel_rfl) ?_ _;go_wp2_with fail;go_meet;exact⟨fb,rfl,HBE.out,H.upto 2⟩
     ·obtain⟨k',rfl⟩:∃k',k=k'+1:=⟨k-1,by omega⟩;have HSO:Hid (∀W',S W'→(W'.cell? ⟨C,0,none⟩=some (Aa Ab x)∧W'.cell? ⟨C,1,none⟩=some (Aa Ab y)∧W'.cell? ⟨C,2,none⟩=some (Aa Ac q)∧W'.cell? ⟨C,3,none⟩=some (Ad A' u c'))∧W'.cell? ⟨bb,o+k'*4,none⟩=some (Aa Ab pv.x)∧W'.cell? ⟨bb,o+k'*4+1,none⟩=some (Aa Ab pv.y)∧W'.cell? ⟨bb,o+k'*4+2,none⟩=some (Aa Ac pv.q)):=Ae fun W' h=>⟨HSO.out W' h,by have:=HSP.out W' h (by omega);rw[Nat.add_sub_cancel]at this;exact this⟩;clear HSP;obtain⟨px,py,pq⟩:=pv;dsimp only at HSO;have t1:((k'+1:Nat):Int)-1=(k':Int):=by omega
      have t2:(0:Int)<((k'+1:Nat):Int):=by omega
      have t3:IntKind.i64.wrap (k':Int)=k':=Bu _ (by omega);have t4:(k':Int)<(n:Int):=by omega
      have HCM:=Ae fun(w':Ag)=>Sb ⟨px,py,pq⟩ ⟨x,y,q⟩ w' HPQ.out HQK.out;obtain⟨cv,hcv⟩:=ey (Fg ⟨px,py,pq⟩ ⟨x,y,q⟩);have HB3:=HBB.out;rw[hcv]at HCM HB3;have HBB:=Ae HB3;clear hcv HB3 hk0;refine Cf 3 ?_;refine Cf 4 ?_;refine Cf 5 ?_;refine Cf 6 ?_;refine Cf 7 ?_;refine Cf 8 ?_;refine Cf 9 ?_;refine Cf 10 ?_;refine Cf 11 ?_;refine Cf 12 ?_;refine Cf 13 ?_;refine Cf 14 ?_;refine Cf 15 ?_;refine rdy 16 (fun K hK=>?_);go_simp;refine(HCM.out _).mono ?_;rintro e X2 ⟨rfl,hbm⟩;have hb:=hb.trans (hbm.mono hb.size);have H:=H.call hbm;have hS:=HSA.out _ hb;refine hK.out _ _ hS (fun hS=>?_);clear hK K hbm;by_cases hg:0≤cv
      ·have HBE:Hid (true=Fh m l (k'+1)):=Ae (by rw[HBB.out,hx,decide_eq_true hg];simp);clear hx HBB HC1;refine Cf 17 ?_;refine Cf 18 ?_;refine Cf 19 ?_;refine Cf 20 ?_;refine Cf 21 ?_;refine Cf 22 ?_;refine Cf 23 ?_;refine Cf 24 ?_;refine Cf 25 ?_;refine Cf 26 ?_;refine Cf 27 ?_;refine Cf 28 ?_;refine Ak (by kernel_rfl) ?_ _;go_wp2_with fail;go_meet;exact⟨true,rfl,HBE.out,H.upto 2⟩
      ·refine Cf 17 ?_;refine Cf 18 ?_;refine Cf 19 ?_;refine Cf 20 ?_;by_cases hu:u=0
       ·have HBE:Hid (true=Fh m l (k'+1)):=Ae (by rw[HBB.out,hx,decide_eq_false hg,List.eq_nil_of_length_eq_zero (HU.out.trans hu)];simp);have hu1:(u:Int)=0:=by omega
        clear hx HBB HC1;refine Cf 21 ?_;refine Cf 22 ?_;refine Cf 23 ?_;refine Cf 24 ?_;refine Cf 25 ?_;refine Cf 26 ?_;refine Cf 27 ?_;refine Cf 28 ?_;refine Ak (by kernel_rfl) ?_ _;go_wp2_with fail;go_meet;exact⟨true,rfl,HBE.out,H.upto 2⟩
       ·have HBE:Hid (fb=Fh m l (k'+1)):=Ae (by
         have h0:ids≠[]:=fun e=>hu (by rw[←HU.out,e];rfl);rw[HBB.out,hx,decide_eq_false hg];simp[h0])
        have hu1:((u:Int)==0)=false:=by simpa using hu
        clear hx HBB HC1;refine Cf 21 ?_;refine Cf 22 ?_;refine Cf 23 ?_;refine Cf 24 ?_;refine Cf 25 ?_;refine Cf 26 ?_;refine Cf 27 ?_;refine Cf 28 ?_;refine Ak (by kernel_rfl) ?_ _;go_wp2_with fail;go_meet;exact⟨fb,rfl,HBE.out,H.upto 2⟩
   case rest=>
   obtain⟨v,rfl,hv,Hr⟩:=hcut
   cases v
   ·have HKN:=Ae (fun j (hj:j<k+1)=>show Fh m l j=false by
     by_cases e:j=k
     ·subst e;exact hv.symm
     ·exact HK.out j (by omega))
    have HRR:=Ae Hr;clear Hr hv;go_wp2_with fail;exact⟨⟨k+1,by omega,by go_num,HRR.out,HKN⟩,by simp[intOf];omega⟩
   ·have HF:Hid (R=1):=Ae (by rw[←HR.out];exact pE hkl hv.symm);have HRR:=Ae Hr;clear Hr hv;go_wp2_with fail;go_ret;exact⟨by rw[HF.out];rfl,HRR.out.below⟩
  ·have q1:¬(k:Int)<(n:Int):=by omega
   have HOK:Hid (R=if¬(Dv l).Nodup then 8 else if(Dv l).length<m then 6 else 0):=Ae (by rw[←HR.out];exact pD fun i hi=>HK.out i (by have:=HN.out;omega));have HB2:=Ae (fun(j:Nat) (hj:j<l.length)=>(Xc hj (HK.out j (by have:=HN.out;omega))).2);have HLN:Hid ((Dv l).length≤n*100000):=Ae (by rw[HN.out];exact Oz HLS.out);have mk2:=fun W=>Pi m (by omega) W;obtain⟨p0,_⟩:=Su (Hr.blk 1 _ _ _ rfl);have HR2:=Ae Hr;clear Hr HK;go_upto_region 13 with fail;obtain⟨gs,hgs⟩:=ey wr.heap.size;have H9:=HR2.out.new (Cx (Aw m false)).toArray 4 hgs;obtain⟨W9,hW9⟩:=ez (wr.alloc (.cells (Cx (Aw m false)).toArray 4));rw[←hW9]at H9⊢;clear hW9;rw[hgs];rw[←fX m,←Pg l]at H9;have HH9:Hid (Bx w [(N,#[Aa Ab a,Aa Ab b],35),(P,#[Aa Ab m],3),(gs,(Cx (Gw m (Ep l 0 0))).toArray,4)] W9):=Ae H9;clear p0 hgs H9 HR2 mk2;go_wp2_with fail
   go_loopw [68,11] (fun i c wr=>∃k:Nat,k≤n∧i= Aa Ab k∧c= Aa Ab ((Ep l k 0).length:Nat)∧Hid (Bx w [(N,#[Aa Ab a,Aa Ab b],35),(P,#[Aa Ab m],3),(gs,(Cx (Gw m (Ep l k 0))).toArray,4)] wr)∧Hid (Ep l k 0).Nodup) (fun i _ _=>n-(intOf i).toNat)
   case atStart=>exact⟨0,Nat.zero_le _,rfl,by rw[Pg];rfl,HH9,Ae (by rw[Pg];exact List.nodup_nil)⟩
   case round=>
    obtain⟨k,hk,rfl,rfl,HH,HND⟩:=hrel;clear HH9;by_cases hlt:k<n
    ·have hkl:k<l.length:=by have:=HN.out;omega
     obtain⟨bb,o,A',c',hA,hbl,⟨d0',d1',d2',d3'⟩,hA',hle,hcm,hrd⟩:=HS.out.get k hkl;have d0:=Ce HH.out.below d0';have d1:=Ce HH.out.below d1';have d2:=Ce HH.out.below d2';have d3:=Ce HH.out.below d3';clear d0' d1' d2' d3';have q1:(k:Int)<(n:Int):=by omega
     have hlk:=HLS.out l[k] (Au _);have HID:=Ae (HB2.out k hkl);have HSP:=Ae (fun j (hj:j<l[k].ls.length)=>Zw l k j hkl hj);have HSU:=Ae (fun j (hj:j<l[k].ls.length)=>eE l k j hkl hj);have HNX:=Ae (eD l k hkl);obtain⟨⟨⟨x,y,q⟩,ids⟩,hr⟩:∃z,l[k]=z:=⟨_,rfl⟩;rw[hr]at d0 d1 d2 d3 hA' hle hrd hlk;have HID:Hid (∀id∈ids,id<m):=Ae (by have:=HID.out;rw[hr]at this;exact this);have HSP:Hid (∀j (hj:j<ids.length),∃r,Dv l=Ep l k j++ids[j]::r):=Ae (by have:=HSP.out;simp only[hr]at this;exact this);have HSU:Hid (∀j (hj:j<ids.length),Ep l k (j+1)=Ep l k j++[ids[j]]):=Ae (by have:=HSU.out;simp only[hr]at this;exact this);have HNX:Hid (Ep l k ids.length=Ep l (k+1) 0):=Ae (by have:=HNX.out;simp only[hr]at this;exact this);dsimp only at d0 d1 d2 d3 hA' hle hrd hlk;obtain⟨u,hu⟩:=ey ids.length;rw[hu]at d3 hle hrd hlk;have HU:=Ae hu;have HRD:=Ae (fun(w':Ag) (hb:Below w.heap.size w w')=>hrd.below hb);subst hA;clear hr hA' hrd hu hcm hle;go_upto_region 17 with fail;obtain⟨C,hC⟩:=ey wr.heap.size;have H5:=HH.out.new #[Aa Ab x,Aa Ab y,Aa Ac q,Ad A' u c'] 125 hC;rw[hC];obtain⟨W5,hW5⟩:=ez (wr.alloc (.cells #[Aa Ab x,Aa Ab y,Aa Ac q,Ad A' u c'] 125));rw[←hW5]at H5⊢;clear hW5;obtain⟨⟨c0,c1,c2,c3⟩,_⟩:=Co (H5.blk 3 _ _ _ rfl);have HH5:Hid (Bx w [(N,#[Aa Ab a,Aa Ab b],35),(P,#[Aa Ab m],3),(gs,(Cx (Gw m (Ep l k 0))).toArray,4),(C,#[Aa Ab x,Aa Ab y,Aa Ac q,Ad A' u c'],125)] W5):=Ae H5;clear d0 d1 d2 d3 hC H5 HH;go_wp2_with fail
     go_loopw [75,11] (fun i c wr=>∃j:Nat,j≤u∧i= Aa Ab j∧c= Aa Ab ((Ep l k j).length:Nat)∧Hid (Bx w [(N,#[Aa Ab a,Aa Ab b],35),(P,#[Aa Ab m],3),(gs,(Cx (Gw m (Ep l k j))).toArray,4),(C,#[Aa Ab x,Aa Ab y,Aa Ac q,Ad A' u c'],125)] wr)∧Hid (Ep l k j).Nodup) (fun i _ _=>u-(intOf i).toNat)
     case atStart=>exact⟨0,Nat.zero_le _,rfl,rfl,HH5,HND⟩
     case round=>
      obtain⟨j,hj,rfl,rfl,HH,HND⟩:=hrel;clear HH5;by_cases hju:j<u
      ·have q2:(j:Int)<(u:Int):=by omega
       have hji:j<ids.length:=by have:=HU.out;omega
       obtain⟨b2,o2,rfl,hb2l,e0⟩:=Km (HRD.out _ HH.out.below) j hji;have hidm:=HID.out _ (Au hji);have hsp:=HSP.out j hji;have hsu:=HSU.out j hji;obtain⟨id,hid⟩:=ey (ids[j]);rw[hid]at e0 hidm hsp hsu
       have e1:wr.cell? ⟨gs,id,none⟩=some (.bool (decide (id∈Ep l k j))):=by
        rw[Bs _ gs id _ _ (0,0) (HH.out.blk 2 _ _ _ rfl)];simp[Cx,Gw,hidm]
       have e2:=sV (HH.out.blk 2 _ _ _ rfl) id;have q3:(id:Int)<(m:Int):=by omega
       by_cases hin:id∈Ep l k j
       ·have HF:Hid (R=8):=Ae (by
         rw[HOK.out,if_pos];intro hnd;obtain⟨r,hr⟩:=hsp;rw[hr,Bl]at hnd;exact hnd.2.2 id hin id (by simp) rfl)
        rw[decide_eq_true hin]at e1;clear hsp hsu hid;go_wp2_with fail;go_ret;exact⟨by rw[HF.out];rfl,HH.out.below⟩
       ·rw[decide_eq_false hin]at e1;have H1:=HH.out.set 2 id rfl (.bool true);dsimp only[Cb,Cc]at H1;rw[Ri,fY,←hsu]at H1;have HH1:Hid (Bx w [(N,#[Aa Ab a,Aa Ab b],35),(P,#[Aa Ab m],3),(gs,(Cx (Gw m (Ep l k (j+1)))).toArray,4),(C,#[Aa Ab x,Aa Ab y,Aa Ac q,Ad (some ⟨b2,o2,none⟩) u c'],125)] (wr.setCell ⟨gs,id,none⟩ (.bool true))):=Ae H1
        have hle2:(Ep l k j).length≤n*100000:=by
         obtain⟨r,hr⟩:=hsp;have:=HLN.out;rw[hr,Be]at this;omega
        have hlen1:(Ep l k (j+1)).length=(Ep l k j).length+1:=by rw[hsu];simp
        have HND1:Hid (Ep l k (j+1)).Nodup:=Ae (by
         rw[hsu,Bl];refine⟨HND.out,by simp,fun x hx y hy=>?_⟩;simp only[List.mem_singleton]at hy;subst hy;intro e;subst e;exact hin hx)
        obtain⟨L0,hL0⟩:=ey ((Ep l k j).length);rw[hL0]at hlen1 hle2⊢;clear hsp hsu hid H1 HH hin hL0;go_wp2_with fail;exact⟨⟨j+1,by omega,by go_num,by rw[hlen1];go_num,HH1,HND1⟩,by simp[intOf];omega⟩
      ·obtain rfl:j=u:=by omega
       have q2:¬(j:Int)<(j:Int):=by omega
       have hnx:=HNX.out;rw[HU.out]at hnx;rw[hnx]at HH HND⊢;have HH1:=Ae (HH.out.upto 3);clear HH hnx;go_wp2_with fail;exact⟨⟨k+1,by omega,by go_num,rfl,HH1,HND⟩,by simp[intOf];omega⟩
    ·obtain rfl:k=n:=by omega
     have q1:¬(k:Int)<(k:Int):=by omega
     obtain⟨p0,_⟩:=Su (HH.out.blk 1 _ _ _ rfl);have e0:Ep l k 0=Dv l:=by rw[HN.out];exact kW l
     have hnd:=HND.out;rw[e0]at hnd⊢;have HF:Hid (R=if(Dv l).length<m then 6 else 0):=Ae (by rw[HOK.out,if_neg (not_not_intro hnd)]);obtain⟨L0,hL0⟩:=ey ((Dv l).length);rw[hL0]at HF⊢;clear hL0 hnd e0;by_cases hlm:L0<m
     ·have q2:(L0:Int)<(m:Int):=by omega
      go_wp2_with fail;go_ret;exact⟨by rw[HF.out,if_pos hlm];rfl,HH.out.below⟩
     ·have q2:¬(L0:Int)<(m:Int):=by omega
      go_wp2_with fail;go_ret;exact⟨by rw[HF.out,if_neg hlm];rfl,HH.out.below⟩
theorem Zv (W:Ag) (o:Obj) (r:Option Nat):W.grownBy (W.alloc o) r:=⟨rfl,rfl,rfl,by simp,fun k hk _=>Below.heap_alloc W o k hk⟩
theorem Pa {sl e:TypeId} {z:Ah} {sz bytes:Nat} (hu:Tryz.prog.underlying sl=some (.slice e)) (hi:(Tryz.prog.info? e).map (fun i=>(i.zero,i.size,i.bytes))=some (some z,sz,bytes)) (hz:z.cells.size=sz) (hs:0<sz) (hby:bytes≤100)
  (W:Ag) (M n:Nat) (v:Ah) (xs:List Ah) (ho:W.ownsRow M e sz v n xs) (hM:M≤W.heap.size) (hn:n≤900000000000) (news:List Ah) (hl:news.length=sz) (h1:∀u∈news,u.oneCell'=true):
  ∃A' c' w',(Builtin.append_ #[sl,sl] sl #[v,Ad (some ⟨W.heap.size,0,none⟩) 1 1]).run Tryz.prog (W.alloc (.cells news.toArray e))= .ok (Ad A' (n+1) c') w'∧w'.ownsRow M e sz (Ad A' (n+1) c') (n+1) (xs++news)∧
   Below M W w'∧W.grownBy w' v.ownBlock∧M≤w'.heap.size∧n+1≤c'∧c'≤maxLen∧(Value.ownBlock (Ad A' (n+1) c')=v.ownBlock∨∃g,Value.ownBlock (Ad A' (n+1) c')=some g∧W.heap.size≤g):=by
 obtain⟨i0,hi0,hz0,hz1,hz2⟩:=info_parts hi;have hR:Rd (W.alloc (.cells news.toArray e)) (some ⟨W.heap.size,0,none⟩) sz 1 news:=Ac2 news 1 sz (by omega) rfl
 obtain⟨v',w',hr,hown,hg,_,hfr⟩:=run_append_own_at (P:=Tryz.prog) (W.alloc (.cells news.toArray e)) M sl sl e i0 z sz bytes hu hi0 hz0 hz1 hz2 hz hs v n xs (ho.alloc _) ⟨W.heap.size,0,none⟩ 1 1 news hR.1 hR.allK h1 (by unfold maxLen;omega)
  (by have:(n+1)*bytes≤(n+1)*100:=Nat.mul_le_mul_left _ hby;omega) (by simp;omega)
 obtain⟨A',c',rfl,hc1,hc2⟩:=Dy hown;have hgr:=Eu (Zv W _ v.ownBlock) hg;refine⟨A',c',w',hr,hown,?_,hgr,Bo hM hgr.size,hc1,hc2,hfr.imp id fun h=>⟨_,h,by simp⟩⟩;exact((Below.refl M W).alloc hM _).grown hg (by simp;omega) (fun q hq=>(ho.lt q hq).1)
def Dp (l:List Int):List Ah:=l.map (Value.int .i64)
theorem lG (l:List Int):(Dp l).length=l.length:=by simp[Dp]
theorem eI (l:List Int) (x:Int):Dp (l++[x])=Dp l++[Aa Ab x]:=by simp[Dp]
def aX (p:Int×Int):List Ah:=[Aa Ab p.1,Aa Ab p.2]
def Jj (l:List (Int×Int)):List Ah:=l.flatMap aX
theorem fO (l:List (Int×Int)):(Jj l).length=l.length*2:=Dl aX 2 (fun _=>rfl) l
theorem aY (l:List (Int×Int)) (x:Int×Int):Jj (l++[x])=Jj l++[Aa Ab x.1,Aa Ab x.2]:=by simp[Jj,aX]
theorem Us {w:Ag} {A:Option Addr} {l:List Int} {n:Nat} (h:Rd w A 1 n (Dp l)) (i:Nat) (hi:i<l.length):
  ∃b o,A=some ⟨b,o,none⟩∧b<w.heap.size∧w.cell? ⟨b,o+i,none⟩=some (Aa Ab l[i]):=by
 have hl:=h.1;rw[lG]at hl;obtain⟨b,o,e,hb,hc⟩:=h.2 (by omega);exact⟨b,o,e,hb,hc i _ (by simp[Dp,hi])⟩
theorem jL {w:Ag} {A:Option Addr} {l:List (Int×Int)} {n:Nat} (h:Rd w A 2 n (Jj l)) (i:Nat) (hi:i<l.length):
  ∃b o,A=some ⟨b,o,none⟩∧b<w.heap.size∧w.cell? ⟨b,o+i*2,none⟩=some (Aa Ab l[i].1)∧w.cell? ⟨b,o+i*2+1,none⟩=some (Aa Ab l[i].2):=by
 have hl:=h.1;rw[fO]at hl;obtain⟨b,o,e,hb,hc⟩:=h.2 (by omega);have hat:∀f,f<2→(Jj l)[i*2+f]? =(aX l[i])[f]? :=fun f hf=>Dc aX 2 (fun _=>rfl) _ i f hi hf;exact⟨b,o,e,hb,hc (i*2+0) _ ((hat 0 (by omega)).trans rfl),hc (i*2+1) _ ((hat 1 (by omega)).trans rfl)⟩
def Ou (p:Nat×Nat):List Ah:=[Aa Ab (p.1:Int),Aa Ab (p.2:Int)]
def Jg (l:List (Nat×Nat)):List Ah:=l.flatMap Ou
theorem mL (l:List (Nat×Nat)):(Jg l).length=l.length*2:=Dl Ou 2 (fun _=>rfl) l
theorem fQ (l:List (Nat×Nat)) (x:Nat×Nat):Jg (l++[x])=Jg l++[Aa Ab (x.1:Int),Aa Ab (x.2:Int)]:=by simp[Jg,Ou]
theorem xW {w:Ag} {A:Option Addr} {l:List (Nat×Nat)} {n:Nat} (h:Rd w A 2 n (Jg l)) (i:Nat) (hi:i<l.length):
  ∃b o,A=some ⟨b,o,none⟩∧b<w.heap.size∧w.cell? ⟨b,o+i*2,none⟩=some (Aa Ab (l[i].1:Int))∧w.cell? ⟨b,o+i*2+1,none⟩=some (Aa Ab (l[i].2:Int)):=by
 have hl:=h.1;rw[mL]at hl;obtain⟨b,o,e,hb,hc⟩:=h.2 (by omega);have hat:∀f,f<2→(Jg l)[i*2+f]? =(Ou l[i])[f]? :=fun f hf=>Dc Ou 2 (fun _=>rfl) _ i f hi hf;exact⟨b,o,e,hb,hc (i*2+0) _ ((hat 0 (by omega)).trans rfl),hc (i*2+1) _ ((hat 1 (by omega)).trans rfl)⟩
def Oq (p:Nat×Nat×Nat):List Ah:=[Aa Ac (p.1:Int),Aa Ab (p.2.1:Int),Aa Ab (p.2.2:Int)]
def Gy (l:List (Nat×Nat×Nat)):List Ah:=l.flatMap Oq
theorem lQ (l:List (Nat×Nat×Nat)):(Gy l).length=l.length*3:=Dl Oq 3 (fun _=>rfl) l
theorem eV (l:List (Nat×Nat×Nat)) (x:Nat×Nat×Nat):Gy (l++[x])=Gy l++[Aa Ac (x.1:Int),Aa Ab (x.2.1:Int),Aa Ab (x.2.2:Int)]:=by simp[Gy,Oq]
theorem Yl {w:Ag} {A:Option Addr} {l:List (Nat×Nat×Nat)} {n:Nat} (h:Rd w A 3 n (Gy l)) (i:Nat) (hi:i<l.length):
  ∃b o,A=some ⟨b,o,none⟩∧b<w.heap.size∧w.cell? ⟨b,o+i*3,none⟩=some (Aa Ac (l[i].1:Int))∧w.cell? ⟨b,o+i*3+1,none⟩=some (Aa Ab (l[i].2.1:Int))∧w.cell? ⟨b,o+i*3+2,none⟩=some (Aa Ab (l[i].2.2:Int)):=by
 have hl:=h.1;rw[lQ]at hl;obtain⟨b,o,e,hb,hc⟩:=h.2 (by omega);have hat:∀f,f<3→(Gy l)[i*3+f]? =(Oq l[i])[f]? :=fun f hf=>Dc Oq 3 (fun _=>rfl) _ i f hi hf;exact⟨b,o,e,hb,hc (i*3+0) _ ((hat 0 (by omega)).trans rfl),hc (i*3+1) _ ((hat 1 (by omega)).trans rfl),hc (i*3+2) _ ((hat 2 (by omega)).trans rfl)⟩
theorem Bx.keepN {w wr w2:Ag} {l:List (Nat×Array Ah×TypeId)} {M:Nat} (h:Bx w l wr) (hM:∀x∈l,x.1<M) (hw:w.heap.size≤M) (hb:Below M wr w2):Bx w l w2:=
 ⟨h.below.trans (hb.mono hw),fun i g cs t hi=>(hb.block g (hM _ (List.mem_of_getElem? hi))).trans (h.blk i g cs t hi),h.lo,h.inj⟩
theorem Cn {w:Ag} {M e sz n:Nat} {v:Ah} {xs:List Ah} (h:w.ownsRow M e sz v n xs) {g:Nat} (hg:g<M) (j:Nat) (u:Ah):(w.setCell ⟨g,j,none⟩ u).ownsRow M e sz v n xs:=
 ⟨h.1,h.2.imp id fun⟨g',cap,cur,r1,r2,r3,r⟩=>⟨g',cap,cur,r1,r2,(Below.heap_setCell w ⟨g,j,none⟩ u g' (by show g'≠g;omega)).trans r3,r⟩⟩
end Go.Proofs.YteoffhpfcgffcaaGreatDoor
namespace Go.Proofs.YteoffhpfcgffcaaGreatDoor
open Go.RowKit Go.Sort Go.Shelf
theorem Zs {α:Type} [Inhabited α] (enc:α→List Ah) (k:Nat) (hk0:0<k) (hk:∀x,(enc x).length=k) (l:List α):flatK enc k l.toArray=(l.flatMap enc).toArray:=by
 have hfl:=Dl enc k hk l;refine ext_get! (by simp[hfl]) fun t ht=>?_;have ht':t<l.length*k:=by simpa using ht
 have hj:t/k<l.length:=(Nat.div_lt_iff_lt_mul hk0).2 ht';rw[get_flatK _ _ _ t (by simpa using ht'),getElem!_pos l.toArray (t/k) (by simpa using hj)];have hl:t<(l.flatMap enc).toArray.size:=by simp[hfl];exact ht'
 rw[getElem!_pos _ t hl];simp only[Ca];have hmod:t%k<k:=Nat.mod_lt _ hk0;have hat:=Dc enc k hk l (t/k) (t%k) hj hmod;rw[show t/k*k+t%k=t by rw[Nat.mul_comm];exact Nat.div_add_mod t k]at hat;have h2:(l.flatMap enc)[t]? =some ((l.flatMap enc)[t]'(by simpa using hl)):=Ar _;have h3:t%k<(enc l[t/k]).length:=by rw[hk];exact hmod
 rw[h2,Ar h3]at hat;have:=Option.some.inj hat;rw[this];simp[h3]
theorem kV {w:Ag} {g n:Nat} {os:Array Obj} {cur:Array Ah} {e:TypeId} {fr:Nat×Nat} (d:Array Ah) (hb:w.heap[g]? =some (.cells cur e fr)):
  (grow (putRow id (Sort.ahead w n) g 0 d) os).heap[g]? =some (.cells (putCells id 0 d cur) e fr):=by
 have hg:g<w.heap.size:=(Aq.1 hb).1;rw[heap_grow_old _ _ (by simpa using hg)];simp[putRow,mapBlock,Sort.ahead,Array.getElem?_modify,hb,onCells]
theorem Qh {w:Ag} {g n:Nat} {os:Array Obj} (d:Array Ah):w.grownBy (grow (putRow id (Sort.ahead w n) g 0 d) os) (some g):=by
 refine⟨rfl,rfl,rfl,by simp,fun k hk hne=>?_⟩;rw[heap_grow_old _ _ (by simpa using hk)];have:g≠k:=fun e=>hne (by rw[e]);simp[putRow,mapBlock,Sort.ahead,Array.getElem?_modify,this]
theorem nI (cur:Array Ah) (ts:List Ah) (h:ts.length≤cur.size):(putCells id 0 ts.toArray cur).toList.take ts.length=ts:=by
 apply List.ext_getElem?;intro j;by_cases hj:j<ts.length
 ·rw[List.getElem?_take_of_lt hj,Array.getElem?_toList];simp[putCells,hj,show j<cur.size by omega]
 ·rw[List.getElem?_take_eq_none (by omega),List.getElem?_eq_none (by omega)]
def Fi {α:Type} (enc:α→List Ah) (cf:α→α→Int) (l:List α) (O e k m:Nat) (v:Ah) (w:Ag) (en:Ending) (w':Ag):Prop:=
 en= .returned (.tuple #[])∧∃l':List α,l'.Perm l∧l'.Pairwise (fun p q=>ltOf cf q p=false)∧w'.ownsRow O e k v m (l'.flatMap enc)∧w.grownBy w' v.ownBlock
theorem Iu {α:Type} [Inhabited α] {ρ} (L:SlLaysF0.n6 Tryz.prog ρ) (k:Nat) (hk0:0<k) (aE:∀w,(isAgg (ρ.t 24)).run Tryz.prog w= .ok true w) (zE:∀w,(Go.sizeOf (ρ.t 24)).run Tryz.prog w= .ok k w)
  (enc:α→List Ah) (hk:∀x,(enc x).length=k) (h1:∀x,∀v∈enc x,v.oneCell'=true) (cf:α→α→Int) (hO:SWO (ltOf cf)) (F:FuncId) (cb:Array Ah) (eg:∀args w,(callFunc F args).run Tryz.prog w= .ok (.enter F args) w)
  {O e m c:Nat} {B:Option Addr} (l:List α) (w:Ag) (h:w.ownsRow O e k (Ad B m c) m (l.flatMap enc)) (hm2:m≤1000000)
  (hcl:∀W',w.grownBy W' (Value.slice B m c).ownBlock→∀x y,Ai Tryz.prog F (#[.agg (enc x).toArray,.agg (enc y).toArray]++cb) W' (Li (Aa Ab (cf x y)) W')):
  Ai Tryz.prog (ρ.f 6) #[Ad B m c,.func (.func F) #[] cb] w (Fi enc cf l O e k m (Ad B m c) w):=by
 have hfl:=Dl enc k hk l
 have hl:l.length=m:=by
  have:=h.1;rw[hfl]at this;exact Nat.eq_of_mul_eq_mul_right hk0 this
 rcases h.2 with⟨h0,h1'⟩|⟨g,cap,cur,r1,r2,r3,r4,r5,r6,r7⟩
 ·obtain⟨rfl,rfl,rfl⟩:B=none∧m=0∧c=0:=by simpa using h0
  have hnil:l=[]:=List.length_eq_zero_iff.1 hl;subst hnil;refine(AnyF.slices_SortFunc_none L none 0 _ w).mono ?_;rintro e' w' ⟨rfl,rfl⟩;exact⟨rfl,[],List.Perm.refl _,List.Pairwise.nil,h,Dn _ _⟩
 ·obtain⟨rfl,rfl⟩:B=some ⟨g,0,none⟩∧c=cap:=by simpa using r1
  have hH:HoldsK enc k w g 0 l.toArray:=by
   unfold HoldsK;rw[Zs enc k hk0 hk];intro j hj;refine⟨?_,by simp[World.frozen?,r3]⟩;have hj':j<(l.flatMap enc).length:=by simpa using hj
   rw[Bp,Bs _ _ j cur e (0,0) r3,getElem!_pos _ j hj];have h2:(cur.toList.take (m*k))[j]? =(l.flatMap enc)[j]? :=by rw[r7]
   rw[List.getElem?_take_of_lt (by rw[hfl,hl]at hj';exact hj'),Array.getElem?_toList]at h2;rw[h2,Ar hj'];rfl
  have hcmp:CmpLays Tryz.prog F cb enc k cf g 0 l.toArray.size w:=fun n os dk hs x y=>by
   have hg:w.grownBy (sortWorldK enc k w g 0 n dk os) (some g):=by unfold sortWorldK putRowK;exact Qh _
   exact(hcl _ hg x y).mono fun _ _ h=>⟨h.1,h.2.grow⟩
  have hcon:=AnyQ.slices_SortFunc L k aE zE enc hk h1 cf hO F cb g 0 c l.toArray w eg hcmp hH (Aq.1 r3).1 (by simp;omega);simp only[List.size_toArray,hl]at hcon;refine hcon.mono ?_;rintro e' w' ⟨rfl,d',n,os,hp,hs,rfl⟩;obtain⟨p1,p2,p3⟩:=hp;have hd:d'.size=m:=by rw[p1];simpa using hl
  have hd':d'.toList.toArray=d':=by simp
  refine⟨rfl,d'.toList,?_,?_,?_,?_⟩
  ·have e1:d'.extract 0 m=d':=by rw[←hd];simp
   have e2:l.toArray.extract 0 m=l.toArray:=by rw[←hl];simp
   rw[e1,e2]at p3;simpa using p3
  ·rw[List.pairwise_iff_getElem];intro i j hi hj hij;have hi':i<d'.size:=by simpa using hi
   have hj':j<d'.size:=by simpa using hj
   have:=hs i j (Nat.zero_le _) hij (by omega);rw[getElem!_pos d' i hi',getElem!_pos d' j hj']at this;simpa using this
  ·unfold sortWorldK putRowK;rw[←hd',Zs enc k hk0 hk];have hlen:(d'.toList.flatMap enc).length=m*k:=by rw[Dl enc k hk];simp[hd]
   exact⟨by simpa using hlen,.inr ⟨g,c,_,rfl,r2,kV _ r3,r4,r5,by simp[putCells,r6],by rw[←hlen];exact nI cur _ (by rw[hlen,r6];exact Nat.mul_le_mul_right _ r4)⟩⟩
  ·unfold sortWorldK putRowK;exact Qh _
end Go.Proofs.YteoffhpfcgffcaaGreatDoor
