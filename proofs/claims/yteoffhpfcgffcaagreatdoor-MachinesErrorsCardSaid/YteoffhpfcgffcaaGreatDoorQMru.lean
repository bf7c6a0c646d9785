import Derived.Test.YteoffhpfcgffcaaGreatDoorQMbs
import Derived.Test.YteoffhpfcgffcaaGreatDoorQCsd
open Array renaming getElem?_eq_some_iff→Aq
open Go renaming Calls→Ai,Value→Ah,World→Ag,bodyPost_ret→Af,cell_of_row→Bs,heap_alloc_new→Bt,wpAnyH_done→Ak,wpAnyH_ready→Am,wp_region_held_drew→Al
open Go.AllReadyH renaming cons→An,nil→Ao
open Go.IntKind renaming i64→Ab,u8→Ac
open Go.IntWalk renaming wrap64_in→Bw
open Go.Lib renaming hid→Ae,wpList_append_run→Ap
open Go.Value renaming int→Aa,slice→Ad
open List renaming append_assoc→Bg,flatMap_append→Bf,flatMap_cons→Ba,getElem?_eq_some_iff→As,getElem_cons_succ→Bz,getElem_cons_zero→By,getElem_mem→Au,getElem_toArray→Ca,length_append→Be,length_map→Bk,mem_append→Bi,mem_cons→Bh,mem_iff_getElem→Ay,setIfInBounds_toArray→Cd,set_cons_succ→Cc,set_cons_zero→Cb,take_succ_eq_append_getElem→Ax
open Nat renaming le_refl→Aj,le_trans→Bo,lt_of_lt_of_le→Bm,zero_add→Bp
set_option maxHeartbeats 32000000
set_option maxRecDepth 100000
namespace Go.Proofs.YteoffhpfcgffcaaGreatDoor
open Go.RowKit
theorem jD (P:Program) (ts:Array TypeId) (t:TypeId) (x y:Int) (w:Ag):(Builtin.min_ ts t #[Aa Ab x,Aa Ab y]).run P w= .ok (Aa Ab (min x y)) w:=by
 have e:min x y=if y<x then y else x:=by
  split<;>omega
 rw[e];rfl
theorem Nu (P:Program) (ts:Array TypeId) (t:TypeId) (x y:Int) (w:Ag):(Builtin.max_ ts t #[Aa Ab x,Aa Ab y]).run P w= .ok (Aa Ab (max x y)) w:=by
 have e:max x y=if x<y then y else x:=by
  split<;>omega
 rw[e];rfl
theorem Zf (c:Cl):bxS (bx0 c) c=⟨c.x,c.x+1,c.y,c.y+1⟩:=by
 unfold bxS bx0;simp
def arL (cs:Array Ah) (N R B:Nat) (b:Bb):List (Nat×Array Ah×TypeId):=[(N,cs,43),(R,#[Aa Ab 0,Aa Ab 0,Aa Ab 0,Aa Ab 0],94),(B,bbV b,94)]
theorem Lz (s:St) (pA:Option Addr) (pc:Nat) (A:Option Addr) (cc:Nat) (w:Ag) (hs:Gs s) (hpr:Rd w pA 3 s.cr.length (crs s.cr)) (h:Cs w A s.l) (hQ:Qf w) (hT:Tn w):
  Ai Tryz.prog 29 #[.agg #[Aa Ab s.a,Aa Ab s.b,Ad pA s.cr.length pc,Aa Ac s.root.t,Aa Ab s.root.x,Aa Ab s.root.y,Ad A s.l.length cc]] w (Cg (.agg (bbV s.box)) w):=by
 have HSI:=Ae (fun(w':Ag) (hb:Below w.heap.size w w')=>Vd s pA pc A cc w' hs (hpr.below hb) (h.below hb) (hQ.below hb) (hT.below hb))
 have hok:∀c∈s.l.map (·.c),c.ok=true:=fun c hc=>by
  obtain⟨x,hx,rfl⟩:=List.mem_map.1 hc;exact(hs.at x hx).1
 have hlen:=hs.len;unfold St.box;obtain⟨cs,hcs⟩:=ey (#[Value.int .i64 s.a,Aa Ab s.b,Ad pA s.cr.length pc,Aa Ac s.root.t,Aa Ab s.root.x,Aa Ab s.root.y,Ad A s.l.length cc]);have HCS:=Ae hcs;rw[hcs]at HSI⊢;obtain⟨L,hL⟩:=ey (s.l.map (·.c));rw[hL]at HSI hok⊢;have hLl:L.length≤1024:=by rw[←hL,Bk];exact hlen
 obtain⟨n,hn⟩:=ey L.length;rw[hn]at hLl;have HN:=Ae hn;have HOK:=Ae hok;have HBD:=Ae (fun(k:Nat)=>Nq (l:=L.take k) fun c hc=>hok c (List.mem_of_mem_take hc));have HSN:=Ae (fun(k:Nat) (hk:k<L.length)=>Wg L k hk);have HBT:=Ae (show Lb (L.take n)=Lb L by rw[←hn,List.take_length]);obtain⟨BX,hBX⟩:=ey (Lb L);rw[hBX]at HBT⊢;have H:=((Bx.start w).new cs 43 rfl).new #[Aa Ab 0,Aa Ab 0,Aa Ab 0,Aa Ab 0] 94 (N:=w.heap.size+1) (by simp);have hrng:=fun(W:Ag) (g:Nat) (hg:W.heap[g]? =some (Obj.cells cs 43 (0,0)))=>show(∀j:Nat,W.cell? ⟨g,j,none⟩=cs[j]?)from fun j=>Bs W g j cs _ (0,0) hg;have HRG:=Ae hrng;clear hs hpr h hQ hT hok hlen hL hn hBX hrng;subst hcs;go_enter Tryz.func29,Tryz.ntmps29;go_upto_region 1 with fail;obtain⟨N,hN⟩:=ez w.heap.size;rw[←hN]at H⊢;have HNN:=Ae hN;clear hN;obtain⟨R,hR⟩:=ey (N+1);rw[hR]at H⊢;clear hR;obtain⟨W1,hW1⟩:=ez ((w.alloc (.cells #[Aa Ab s.a,Aa Ab s.b,Ad pA s.cr.length pc,Aa Ac s.root.t,Aa Ab s.root.x,Aa Ab s.root.y,Ad A s.l.length cc] 43)).alloc (.cells #[Aa Ab 0,Aa Ab 0,Aa Ab 0,Aa Ab 0] 94));rw[←hW1]at H⊢;clear hW1;obtain⟨a0,a1,a2,a3,a4,a5,a6⟩:=De (H.blk 0 _ _ _ rfl);go_wp2_with fail;refine(HSI.out _ H.below).mono ?_;rintro ee w2 ⟨A2,rfl,hao,hrd,hb⟩;have H2:=H.call hb;have hrl:=HN.out;rw[hrl]at hao hrd⊢;have HRD:=Ae (fun(w':Ag) (hb:Below w2.heap.size w2 w')=>hrd.below hb);clear a0 a1 a2 a3 a4 a5 a6 hb H HSI hrd hrl;obtain⟨B,hB⟩:=ey w2.heap.size;have H3:=H2.new #[Aa Ab 0,Aa Ab 0,Aa Ab 0,Aa Ab 0] 94 hB;have hb3:Below w2.heap.size w2 (w2.alloc (.cells #[Aa Ab 0,Aa Ab 0,Aa Ab 0,Aa Ab 0] 94)):=(Below.refl _ _).alloc (Aj _) _;clear H2;go_upto_region 3 with fail
 try rw[hB]
 obtain⟨W3,hW3⟩:=ez (w2.alloc (.cells #[Aa Ab 0,Aa Ab 0,Aa Ab 0,Aa Ab 0] 94));rw[←hW3]at H3 hb3⊢;clear hW3;have HBL:=Ae (Nat.le_of_eq hB);have HI0:Hid (Bx w (arL #[Aa Ab s.a,Aa Ab s.b,Ad pA s.cr.length pc,Aa Ac s.root.t,Aa Ab s.root.x,Aa Ab s.root.y,Ad A s.l.length cc] N R B (Lb (L.take 0))) W3∧Below w2.heap.size w2 W3):=Ae ⟨H3,hb3⟩;clear hB H3 hb3;obtain⟨ST,hST⟩:=ey (#[Value.int .i64 s.a,Aa Ab s.b,Ad pA s.cr.length pc,Aa Ac s.root.t,Aa Ab s.root.x,Aa Ab s.root.y,Ad A s.l.length cc]);rw[hST]at HI0;clear hST;go_wp2_with fail
 go_loopw [15] (fun s15 wr=>∃k:Nat,k≤n∧s15= Aa Ab k∧Hid (Bx w (arL ST N R B (Lb (L.take k))) wr∧Below w2.heap.size w2 wr)) (fun s15 _=>n-(intOf s15).toNat)
 case atStart=>exact⟨0,by omega,rfl,HI0⟩
 case round=>
  obtain⟨k,hk,rfl,HZ⟩:=hrel;clear HI0;obtain⟨hB,hbw⟩:=HZ.out;unfold arL bbV at hB;by_cases hlt:k<n
  ·have q0:(k:Int)<(n:Int):=by omega
   have hkl:k<L.length:=by have:=HN.out;omega
   obtain⟨b9,o9,hA2,-,d0,d1,d2⟩:=Sj (HRD.out _ hbw) k hkl;have hcok:=Er.1 (HOK.out L[k] (Au hkl));have hsn:=HSN.out k hkl;have hbd:=HBD.out k;obtain⟨⟨x0,x1,x2⟩,hx⟩:=ey (L[k]);rw[hx]at d0 d1 d2 hcok hsn;dsimp only at d0 d1 d2 hcok;obtain⟨bb,hbb⟩:=ey (Lb (L.take k));rw[hbb]at hB hbd hsn;obtain⟨b0,b1,b2,b3⟩:=bb;unfold Bb.bd at hbd;dsimp only at hB hbd;have e1:wrap64 (x0+1)=x0+1:=Bw _ (by omega);have e2:wrap64 (x1+1)=x1+1:=Bw _ (by omega);obtain⟨X,hX⟩:=ey wr.heap.size;have H5:=hB.new #[Aa Ab x0,Aa Ab x1,Aa Ac x2] 123 hX;have hb5:=hbw.alloc hbw.size (.cells #[Aa Ab x0,Aa Ab x1,Aa Ac x2] 123);subst hA2;have HSN2:=Ae hsn;have HMN:=fun(x y:Int) (ts:Array TypeId) (t:TypeId) (W:Ag)=>jD Tryz.prog ts t x y W;have HMX:=fun(x y:Int) (ts:Array TypeId) (t:TypeId) (W:Ag)=>Nu Tryz.prog ts t x y W;clear hx hcok hsn hbb hbd hB hbw HZ;go_upto_region 6 with fail
   try rw[hX]
   obtain⟨W5,hW5⟩:=ez (wr.alloc (.cells #[Aa Ab x0,Aa Ab x1,Aa Ac x2] 123));rw[←hW5]at H5 hb5⊢;clear hW5;clear d0 d1 d2 hX;obtain⟨⟨c0,c1,c2⟩,-⟩:=Ci (H5.blk 3 _ _ _ rfl);obtain⟨⟨g0,g1,g2,g3⟩,z0,z1,z2,z3⟩:=Co (H5.blk 2 _ _ _ rfl);have hne:B≠X:=H5.ne 2 3 (by decide) rfl rfl;have HWB:=HBL.out;by_cases hk0:k=0
   ·subst hk0;rw[if_pos rfl]at HSN2;have H6:=(((H5.set 2 0 rfl (Aa Ab x0)).set 2 1 rfl (Aa Ab (x0+1))).set 2 2 rfl (Aa Ab x1)).set 2 3 rfl (Aa Ab (x1+1));have hb6:=(((hb5.setCell (p:=⟨B,0,none⟩) HWB (Aa Ab x0)).setCell (p:=⟨B,1,none⟩) HWB (Aa Ab (x0+1))).setCell (p:=⟨B,2,none⟩) HWB (Aa Ab x1)).setCell (p:=⟨B,3,none⟩) HWB (Aa Ab (x1+1));clear H5 hb5;go_upto_region 8 with fail;obtain⟨W6,hW6⟩:=ez ((((W5.setCell ⟨B,0,none⟩ (Aa Ab x0)).setCell ⟨B,1,none⟩ (Aa Ab (x0+1))).setCell ⟨B,2,none⟩ (Aa Ab x1)).setCell ⟨B,3,none⟩ (Aa Ab (x1+1)));rw[←hW6]at H6 hb6⊢;clear hW6;clear c0 c1 c2 g0 g1 g2 g3 z0 z1 z2 z3;obtain⟨⟨c0,c1,c2⟩,-⟩:=Ci (H6.blk 3 _ _ _ rfl);obtain⟨⟨g0,g1,g2,g3⟩,z0,z1,z2,z3⟩:=Co (H6.blk 2 _ _ _ rfl);have H7:=(((H6.set 2 0 rfl (Aa Ab x0)).set 2 1 rfl (Aa Ab (x0+1))).set 2 2 rfl (Aa Ab x1)).set 2 3 rfl (Aa Ab (x1+1));have hb7:=(((hb6.setCell (p:=⟨B,0,none⟩) HWB (Aa Ab x0)).setCell (p:=⟨B,1,none⟩) HWB (Aa Ab (x0+1))).setCell (p:=⟨B,2,none⟩) HWB (Aa Ab x1)).setCell (p:=⟨B,3,none⟩) HWB (Aa Ab (x1+1));have HF:Hid (Bx w (arL ST N R B (Lb (L.take (0+1)))) ((((W6.setCell ⟨B,0,none⟩ (Aa Ab x0)).setCell ⟨B,1,none⟩ (Aa Ab (x0+1))).setCell ⟨B,2,none⟩ (Aa Ab x1)).setCell ⟨B,3,none⟩ (Aa Ab (x1+1)))∧Below w2.heap.size w2 ((((W6.setCell ⟨B,0,none⟩ (Aa Ab x0)).setCell ⟨B,1,none⟩ (Aa Ab (x0+1))).setCell ⟨B,2,none⟩ (Aa Ab x1)).setCell ⟨B,3,none⟩ (Aa Ab (x1+1)))):=Ae ⟨by rw[HSN2.out,Zf];exact H7.upto 3,hb7⟩;clear H6 hb6 H7 hb7;go_wp2_with fail;exact⟨⟨0+1,by omega,by go_num,HF⟩,by simp[intOf];omega⟩
   ·have q1:((k:Int)==0)=false:=by simpa using hk0
    rw[if_neg hk0]at HSN2;have H7:=(((H5.set 2 0 rfl (Aa Ab (min b0 x0))).set 2 1 rfl (Aa Ab (max b1 (x0+1)))).set 2 2 rfl (Aa Ab (min b2 x1))).set 2 3 rfl (Aa Ab (max b3 (x1+1)));have hb7:=(((hb5.setCell (p:=⟨B,0,none⟩) HWB (Aa Ab (min b0 x0))).setCell (p:=⟨B,1,none⟩) HWB (Aa Ab (max b1 (x0+1)))).setCell (p:=⟨B,2,none⟩) HWB (Aa Ab (min b2 x1))).setCell (p:=⟨B,3,none⟩) HWB (Aa Ab (max b3 (x1+1)));have HF:Hid (Bx w (arL ST N R B (Lb (L.take (k+1)))) ((((W5.setCell ⟨B,0,none⟩ (Aa Ab (min b0 x0))).setCell ⟨B,1,none⟩ (Aa Ab (max b1 (x0+1)))).setCell ⟨B,2,none⟩ (Aa Ab (min b2 x1))).setCell ⟨B,3,none⟩ (Aa Ab (max b3 (x1+1))))∧Below w2.heap.size w2 ((((W5.setCell ⟨B,0,none⟩ (Aa Ab (min b0 x0))).setCell ⟨B,1,none⟩ (Aa Ab (max b1 (x0+1)))).setCell ⟨B,2,none⟩ (Aa Ab (min b2 x1))).setCell ⟨B,3,none⟩ (Aa Ab (max b3 (x1+1))))):=Ae ⟨by rw[HSN2.out];exact H7.upto 3,hb7⟩;clear H5 hb5 H7 hb7;go_wp2_with fail;exact⟨⟨k+1,by omega,by go_num,HF⟩,by simp[intOf];omega⟩
  ·obtain⟨W1,rfl⟩:=ez wr;obtain rfl:k=n:=by omega
   have q0:¬(k:Int)<(k:Int):=by omega
   rw[HBT.out]at hB;obtain⟨⟨g0,g1,g2,g3⟩,-⟩:=Co (hB.blk 2 _ _ _ rfl);obtain⟨⟨u0,u1,u2,u3⟩,z0,z1,z2,z3⟩:=Co (hB.blk 1 _ _ _ rfl);have H9:=Ae ((((hB.set 1 0 rfl (Aa Ab BX.l)).set 1 1 rfl (Aa Ab BX.r)).set 1 2 rfl (Aa Ab BX.d)).set 1 3 rfl (Aa Ab BX.u));clear hB hbw HZ;go_wp2_with fail;exact Af (Dg rfl rfl (H9.out.range 1 rfl) Tryz.underlying94 rfl (by kernel_rfl)) rfl ⟨rfl,H9.out.below⟩
theorem qS (k:Nat):1≤(Oo k).1∧(Oo k).1≤4∧(Oo k).2≤1:=by
 unfold Oo
 split<;>decide
theorem oS {b:Bb} (h:b.bd 5000) (k:Nat): -10000≤Tj b k∧Tj b k≤10000:=by
 unfold Bb.bd at h;unfold Tj
 split<;>omega
theorem We (b:Bb) (t:Sn) (hb:b.bd 5000) (hk:t.k≤7) (hp:1≤t.p∧t.p≤512) (w:Ag):
  Ai Tryz.prog 30 #[.agg (bbV b),.agg #[Aa Ac t.k,Aa Ab t.p,.bool t.o]] w (Cg (.agg #[Aa Ac (Hl b t).k,Aa Ab (Hl b t).c,Aa Ac ((Hl b t).side:Int),.bool (Hl b t).over]) w):=by
 have HK:=Ae (fun w'=>mV t.k hk w');have HBS:=Ae (fun w'=>oT b hb t.k hk w');have hkb:=qS t.k;have hbb:=oS hb t.k;obtain⟨k,p,o⟩:=t;unfold Hl;dsimp only at HK HBS hkb hbb hp⊢;obtain⟨⟨kk,sd⟩,hkt⟩:=ey (Oo k);rw[hkt]at HK hkb⊢;obtain⟨bs,hbs⟩:=ey (Tj b k);rw[hbs]at HBS hbb⊢;obtain⟨l,r,d,u⟩:=b;unfold bbV at HBS⊢;dsimp only at HK HBS hkb⊢;have H:=(((Bx.start w).new #[Aa Ab l,Aa Ab r,Aa Ab d,Aa Ab u] 94 rfl).new #[Aa Ac k,Aa Ab p,.bool o] 32 (N:=w.heap.size+1) (by simp)).new #[Aa Ac 0,Aa Ab 0,Aa Ac 0,.bool false] 53 (N:=w.heap.size+1+1) (by simp);have e1:wrap64 (bs+p)=bs+p:=Bw _ (by omega);have e2:wrap64 (bs-p)=bs-p:=Bw _ (by omega);obtain⟨cc,hcc⟩:=ey ((if sd=1 then bs-p else bs+p));rw[hcc];have HCC:=Ae hcc;clear hkt hbs hk hb hcc;go_enter Tryz.func30,Tryz.ntmps30;go_upto_region 1 with fail;obtain⟨N,hN⟩:=ez w.heap.size;rw[←hN]at H⊢;have HNN:=Ae hN;clear hN;obtain⟨P,hP⟩:=ey (N+1);obtain⟨R,hR⟩:=ey (P+1);rw[hP,hR]at H⊢;clear hP hR;obtain⟨W1,hW1⟩:=ez (((w.alloc (.cells #[Aa Ab l,Aa Ab r,Aa Ab d,Aa Ab u] 94)).alloc (.cells #[Aa Ac k,Aa Ab p,.bool o] 32)).alloc (.cells #[Aa Ac 0,Aa Ab 0,Aa Ac 0,.bool false] 53));rw[←hW1]at H⊢;clear hW1;obtain⟨⟨c0,c1,c2⟩,-⟩:=Ci (H.blk 1 _ _ _ rfl);go_wp2_with fail;refine(HK.out _).mono ?_;rintro ee w2 ⟨rfl,hb⟩;have H2:=H.call hb;clear c0 c1 c2 hb H HK;obtain⟨⟨b0,b1,b2,b3⟩,-⟩:=Co (H2.blk 0 _ _ _ rfl);obtain⟨⟨c0,c1,c2⟩,-⟩:=Ci (H2.blk 1 _ _ _ rfl);obtain⟨S,hSd⟩:∃S:Ag→Prop,S=fun W'=>(W'.cell? ⟨N,0,none⟩=some (Aa Ab l)∧W'.cell? ⟨N,1,none⟩=some (Aa Ab r)∧W'.cell? ⟨N,2,none⟩=some (Aa Ab d)∧W'.cell? ⟨N,3,none⟩=some (Aa Ab u))∧W'.cell? ⟨P,0,none⟩=some (Aa Ac k)∧W'.cell? ⟨P,1,none⟩=some (Aa Ab p):=⟨_,rfl⟩
 have HSO:Hid (∀W',S W'→(W'.cell? ⟨N,0,none⟩=some (Aa Ab l)∧W'.cell? ⟨N,1,none⟩=some (Aa Ab r)∧W'.cell? ⟨N,2,none⟩=some (Aa Ab d)∧W'.cell? ⟨N,3,none⟩=some (Aa Ab u))∧W'.cell? ⟨P,0,none⟩=some (Aa Ac k)∧W'.cell? ⟨P,1,none⟩=some (Aa Ab p)):=Ae fun W' h=>by subst hSd;exact h
 have HSB:Hid (∀W' W'',S W'→Below W'.heap.size W' W''→S W''):=Ae fun W' W'' hs h=>by
  subst hSd;exact⟨⟨Ce h hs.1.1,Ce h hs.1.2.1,Ce h hs.1.2.2.1,Ce h hs.1.2.2.2⟩,Ce h hs.2.1,Ce h hs.2.2⟩
 have hS0:S w2.drew:=by subst hSd;exact⟨⟨b0,b1,b2,b3⟩,c0,c1⟩
 clear hSd b0 b1 b2 b3 c0 c1 c2;go_upto_region 2 with fail;refine Al (S:=S) (by kernel_rfl) hS0 (fun hS=>?_);have H3:=H2.drew;obtain⟨X0,hX0⟩:=ez w2.drew;rw[←hX0]at hS H3⊢;clear hX0;clear hS0 H2;refine Cf 0 ?_;refine Cf 1 ?_;refine Cf 2 ?_;refine Cf 4 ?_;refine Cf 5 ?_;refine rdy 3 (fun K hK=>?_);go_simp;refine(HBS.out _).mono ?_;rintro ee X1 ⟨rfl,hbm⟩;have H4:=H3.call hbm;refine hK.out _ _ (HSB.out _ _ hS hbm) (fun hS=>?_);clear hK K hbm H3;refine Cf 6 ?_;refine Cf 7 ?_;refine Ak (by kernel_rfl) ?_ _;by_cases hsd:sd=1
 ·subst hsd;have hcc:=HCC.out;rw[if_pos rfl]at hcc;subst hcc;have hS1:S X1.drew:=HSB.out _ _ hS (Below.refl _ _).drew;clear hS;go_upto_region 4 with fail;refine Al (S:=S) (by kernel_rfl) hS1 (fun hS=>?_);have H5:=H4.drew;obtain⟨X2,hX2⟩:=ez X1.drew;rw[←hX2]at hS H5⊢;clear hX2;clear hS1 H4;refine Cf 0 ?_;refine Cf 1 ?_;refine Cf 2 ?_;refine Cf 4 ?_;refine Cf 5 ?_;refine rdy 3 (fun K hK=>?_);go_simp;refine(HBS.out _).mono ?_;rintro ee X3 ⟨rfl,hbm⟩;have H6:=H5.call hbm;refine hK.out _ _ (HSB.out _ _ hS hbm) (fun hS=>?_);clear hK K hbm H5;refine Cf 6 ?_;refine Cf 7 ?_;refine Ak (by kernel_rfl) ?_ _;clear hS HSB HSO;obtain⟨⟨c0,c1,c2⟩,-⟩:=Ci (H6.blk 1 _ _ _ rfl);obtain⟨⟨g0,g1,g2,g3⟩,z0,z1,z2,z3⟩:=Co (H6.blk 2 _ _ _ rfl);have H9:=Ae ((((H6.set 2 0 rfl (Aa Ac kk)).set 2 1 rfl (Aa Ab (bs-p))).set 2 2 rfl (Aa Ac ((1:Nat):Int))).set 2 3 rfl (.bool o));clear H6;go_wp2_with fail;exact Af (Dg rfl rfl (H9.out.range 2 rfl) Tryz.underlying53 rfl (by kernel_rfl)) rfl ⟨rfl,H9.out.below⟩
 ·obtain rfl:sd=0:=by omega
  have hcc:=HCC.out;rw[if_neg (by decide)]at hcc;subst hcc;clear hS HSB HSO;obtain⟨⟨c0,c1,c2⟩,-⟩:=Ci (H4.blk 1 _ _ _ rfl);obtain⟨⟨g0,g1,g2,g3⟩,z0,z1,z2,z3⟩:=Co (H4.blk 2 _ _ _ rfl);have H9:=Ae ((((H4.set 2 0 rfl (Aa Ac kk)).set 2 1 rfl (Aa Ab (bs+p))).set 2 2 rfl (Aa Ac ((0:Nat):Int))).set 2 3 rfl (.bool o));clear H4;go_wp2_with fail;exact Af (Dg rfl rfl (H9.out.range 2 rfl) Tryz.underlying53 rfl (by kernel_rfl)) rfl ⟨rfl,H9.out.below⟩
def Qp (k:Nat) (p:Int):Bool:=decide (k≤7)&&decide (1≤p)&&decide (p≤512)
theorem Xf (k:Nat) (p:Int) (o:Bool) (w:Ag):Ai Tryz.prog 20 #[.agg #[Aa Ac k,Aa Ab p,.bool o]] w (Cg (.bool (Qp k p)) w):=by
 have H:=(Bx.start w).new #[Aa Ac k,Aa Ab p,.bool o] 32 rfl;obtain⟨R,hR⟩:=ey (Qp k p);rw[hR];unfold Qp at hR;have HR:=Ae hR;clear hR;go_enter Tryz.func20,Tryz.ntmps20;go_upto_region 1 with fail;obtain⟨N,hN⟩:=ez w.heap.size;rw[←hN]at H⊢;have HNN:=Ae hN;clear hN;obtain⟨W,hW⟩:=ez (w.alloc (.cells #[Aa Ac k,Aa Ab p,.bool o] 32));rw[←hW]at H⊢;clear hW;obtain⟨⟨a0,a1,a2⟩,-⟩:=Ci (H.blk 0 _ _ _ rfl);by_cases h1:(k:Int)≤7
 ·by_cases h2:1≤p
  ·by_cases h3:p≤512
   ·go_wp2_with fail;go_ret;exact⟨by rw[←HR.out];simp;omega,H.below⟩
   ·go_wp2_with fail;go_ret;exact⟨by rw[←HR.out];simp;omega,H.below⟩
  ·go_wp2_with fail;go_ret;exact⟨by rw[←HR.out];simp;omega,H.below⟩
 ·go_wp2_with fail;go_ret;exact⟨by rw[←HR.out];simp;omega,H.below⟩
def put7 (W:Ag) (g:Nat) (a b c d e f h:Ah):Ag:=((((((W.setCell ⟨g,0,none⟩ a).setCell ⟨g,1,none⟩ b).setCell ⟨g,2,none⟩ c).setCell ⟨g,3,none⟩ d).setCell ⟨g,4,none⟩ e).setCell ⟨g,5,none⟩ f).setCell ⟨g,6,none⟩ h
section
variable {w W:Ag} {l:List (Nat×Array Ah×TypeId)}
theorem Bx.put7 (H:Bx w l W) (i:Nat) {g:Nat} {t:TypeId} {x0 x1 x2 x3 x4 x5 x6:Ah} (hi:l[i]? =some (g,#[x0,x1,x2,x3,x4,x5,x6],t)) (a b c d e f h:Ah):Bx w (l.set i (g,#[a,b,c,d,e,f,h],t)) (put7 W g a b c d e f h):=by
 have hl:i<l.length:=(As.1 hi).1
 have step:∀{W:Ag} {cs ds:Array Ah},Bx w (l.set i (g,cs,t)) W→∀(j:Nat) (v:Ah),cs.setIfInBounds j v=ds→Bx w (l.set i (g,ds,t)) (W.setCell ⟨g,j,none⟩ v):=by
  intro W cs ds hb j v e;have h2:=hb.set i j (List.getElem?_set_self hl) v
  rwa [List.set_set,e]at h2
 have h0:Bx w (l.set i (g,#[x0,x1,x2,x3,x4,x5,x6],t)) W:=by
  have e:l.set i (g,#[x0,x1,x2,x3,x4,x5,x6],t)=l:=by
   have e1:=(As.1 hi).2;rw[←e1];exact List.set_getElem_self hl
  rw[e];exact H
 have s0:=step (ds:=#[a,x1,x2,x3,x4,x5,x6]) h0 0 a rfl;have s1:=step (ds:=#[a,b,x2,x3,x4,x5,x6]) s0 1 b rfl;have s2:=step (ds:=#[a,b,c,x3,x4,x5,x6]) s1 2 c rfl;have s3:=step (ds:=#[a,b,c,d,x4,x5,x6]) s2 3 d rfl;have s4:=step (ds:=#[a,b,c,d,e,x5,x6]) s3 4 e rfl;have s5:=step (ds:=#[a,b,c,d,e,f,x6]) s4 5 f rfl;exact step (ds:=#[a,b,c,d,e,f,h]) s5 6 h rfl
theorem Hi.put7 {b g:Nat} (hg:g<b) (W:Ag) (v0 v1 v2 v3 v4 v5 v6:Ah):Hi b W (put7 W g v0 v1 v2 v3 v4 v5 v6):=
 ((((((Hi.set hg W 0 v0).trans (Hi.set hg _ 1 v1)).trans (Hi.set hg _ 2 v2)).trans (Hi.set hg _ 3 v3)).trans (Hi.set hg _ 4 v4)).trans (Hi.set hg _ 5 v5)).trans (Hi.set hg _ 6 v6)
theorem Ah3 {M e sz n:Nat} {v:Ah} {xs:List Ah} (h:W.ownsRow M e sz v n xs) {g:Nat} (hg:g<M) (v0 v1 v2 v3 v4 v5 v6:Ah):(put7 W g v0 v1 v2 v3 v4 v5 v6).ownsRow M e sz v n xs:=
 Cn (Cn (Cn (Cn (Cn (Cn (Cn h hg 0 v0) hg 1 v1) hg 2 v2) hg 3 v3) hg 4 v4) hg 5 v5) hg 6 v6
theorem Tk {B:Nat} {a:Ag} (h:Below B a W) {g:Nat} (hg:B≤g) (v0 v1 v2 v3 v4 v5 v6:Ah):Below B a (put7 W g v0 v1 v2 v3 v4 v5 v6):=
 ((((((h.setCell (p:=⟨g,0,none⟩) hg v0).setCell (p:=⟨g,1,none⟩) hg v1).setCell (p:=⟨g,2,none⟩) hg v2).setCell (p:=⟨g,3,none⟩) hg v3).setCell (p:=⟨g,4,none⟩) hg v4).setCell (p:=⟨g,5,none⟩) hg v5).setCell (p:=⟨g,6,none⟩) hg v6
theorem Jz (g:Nat) (v0 v1 v2 v3 v4 v5 v6:Ah):(put7 W g v0 v1 v2 v3 v4 v5 v6).heap.size=W.heap.size:=by simp[Go.Proofs.YteoffhpfcgffcaaGreatDoor.put7]
theorem Dz {k g:Nat} (hk:k≠g) (v0 v1 v2 v3 v4 v5 v6:Ah):(put7 W g v0 v1 v2 v3 v4 v5 v6).heap[k]? =W.heap[k]? :=by
 unfold Go.Proofs.YteoffhpfcgffcaaGreatDoor.put7;rw[Below.heap_setCell _ ⟨g,6,none⟩ v6 k hk,Below.heap_setCell _ ⟨g,5,none⟩ v5 k hk,Below.heap_setCell _ ⟨g,4,none⟩ v4 k hk,Below.heap_setCell _ ⟨g,3,none⟩ v3 k hk,Below.heap_setCell _ ⟨g,2,none⟩ v2 k hk,Below.heap_setCell _ ⟨g,1,none⟩ v1 k hk,Below.heap_setCell _ ⟨g,0,none⟩ v0 k hk]
theorem Ch {W':Ag} {b:Nat} (h:W'.heap[b]? =W.heap[b]?) (o:Nat):W'.cell? ⟨b,o,none⟩=W.cell? ⟨b,o,none⟩:=by
 unfold World.cell?;rw[h]
theorem Jm {g:Nat} {cs:Array Ah} {t:TypeId} (h:W.heap[g]? =some (Obj.cells cs t (0,0))):W.frozen? ⟨g,0,none⟩=false∧W.frozen? ⟨g,1,none⟩=false∧W.frozen? ⟨g,2,none⟩=false∧W.frozen? ⟨g,3,none⟩=false∧W.frozen? ⟨g,4,none⟩=false∧W.frozen? ⟨g,5,none⟩=false∧W.frozen? ⟨g,6,none⟩=false:=
 ⟨Db h 0,Db h 1,Db h 2,Db h 3,Db h 4,Db h 5,Db h 6⟩
end
theorem eC (l:List Stk) (k:Nat) (h:k<l.length):Mx (l.take (k+1))=max (Mx (l.take k)) l[k].ls.length:=by
 unfold Mx;rw[Ax h,List.foldl_append];rfl
theorem dZ (A:Option Addr) (l:List Stk) (n cc:Nat) (w:Ag) (hn:n=l.length) (h:Cs w A l) (hl:n≤100000):
  Ai Tryz.prog 129 #[Ad A n cc] w (Cg (Aa Ab (Mx l)) w):=by
 have HST:=Ae (fun(w':Ag) (hb:Below w.heap.size w w') (k:Nat) (hk:k<l.length)=>(h.below hb).get k hk);have HN:=Ae hn;have HSN:=Ae (fun k (hk:k<l.length)=>eC l k hk);have HBT:=Ae (show Mx (l.take n)=Mx l by rw[hn,List.take_length]);obtain⟨R,hR⟩:=ey (Mx l);rw[hR]at HBT⊢;have HI0:Hid (Bx w [] w):=Ae (Bx.start w);clear hn h hR;go_enter Tryz.func129,Tryz.ntmps129;go_wp2_with fail
 go_loopw [3,8] (fun s3 s8 wr=>∃k:Nat,k≤n∧s8= Aa Ab k∧s3= Aa Ab (Mx (l.take k))∧Hid (Bx w [] wr)) (fun _ s8 _=>n-(intOf s8).toNat)
 case atStart=>exact⟨0,by omega,rfl,rfl,HI0⟩
 case round=>
  obtain⟨k,hk,rfl,rfl,HZ⟩:=hrel;clear HI0;by_cases hlt:k<n
  ·have q0:(k:Int)<(n:Int):=by omega
   have hkl:k<l.length:=by have:=HN.out;omega
   obtain⟨b,o,A',c',hA,hbl,⟨d0,d1,d2,d3⟩,-⟩:=HST.out _ HZ.out.below k hkl;have hsn:=HSN.out k hkl;obtain⟨⟨⟨x0,x1,x2⟩,ids⟩,hx⟩:∃z,l[k]=z:=⟨_,rfl⟩;rw[hx]at d0 d1 d2 d3 hsn;dsimp only at d0 d1 d2 d3 hsn;obtain⟨m,hm⟩:=ey ids.length;rw[hm]at d3 hsn;have HSN2:=Ae hsn;obtain⟨g,hg⟩:=ey (Mx (l.take k));rw[hg]at HSN2⊢;have HMX:=fun(x y:Int) (ts:Array TypeId) (t:TypeId) (W:Ag)=>Nu Tryz.prog ts t x y W;have emx:max (g:Int) (m:Int)=((max g m:Nat):Int):=by omega
   obtain⟨X,hX⟩:=ey wr.heap.size;have H5:=HZ.out.new #[Aa Ab x0,Aa Ab x1,Aa Ac x2,Ad A' m c'] 125 hX;subst hA;clear hx hsn hm hg hkl HZ;go_upto_region 5 with fail
   try rw[hX]
   obtain⟨W5,hW5⟩:=ez (wr.alloc (.cells #[Aa Ab x0,Aa Ab x1,Aa Ac x2,Ad A' m c'] 125));rw[←hW5]at H5⊢;clear hW5;clear d0 d1 d2 d3 hX;obtain⟨⟨-,-,-,e3⟩,-⟩:=Co (H5.blk 0 _ _ _ rfl);have HB5:=Ae (H5.upto 0);clear H5;go_wp2_with fail;exact⟨⟨k+1,by omega,by go_num,by rw[HSN2.out,←emx],HB5⟩,by simp[intOf];omega⟩
  ·obtain rfl:k=n:=by omega
   have q0:¬(k:Int)<(k:Int):=by omega
   rw[HBT.out];go_wp2_with fail;go_ret;exact⟨rfl,HZ.out.below⟩
theorem cH (m:Mh) (s:St) (t:Sn) (mA:Option Addr) (mn mc:Nat) (pA:Option Addr) (pc:Nat) (A:Option Addr) (cc:Nat) (w:Ag) (hs:Gs s) (hA:AOk pA s.cr.length pc) (hpr:Rd w pA 3 s.cr.length (crs s.cr)) (hst:Cs w A s.l) (hQ:Qf w) (hT:Tn w) (hk:t.k≤7) (hp:1≤t.p∧t.p≤512):
  Ai Tryz.prog 66 #[.agg #[Aa Ab m.a,Aa Ab m.b,Aa Ab m.c,Ad mA mn mc],.agg #[Aa Ab s.a,Aa Ab s.b,Ad pA s.cr.length pc,Aa Ac s.root.t,Aa Ab s.root.x,Aa Ab s.root.y,Ad A s.l.length cc],.agg #[Aa Ac t.k,Aa Ab t.p,.bool t.o]] w (Yw (Hd m s t) w):=by
 have hbd:s.box.bd 5000:=Nq fun c hc=>by
  obtain⟨x,hx,rfl⟩:=List.mem_map.1 hc;exact(hs.at x hx).1
 have HAR:=Ae (fun(w':Ag) (hb:Below w.heap.size w w')=>Lz s pA pc A cc w' hs (hpr.below hb) (hst.below hb) (hQ.below hb) (hT.below hb));have HHT:=Ae (fun(w':Ag) (hb:Below w.heap.size w w')=>dZ A s.l s.l.length cc w' rfl (hst.below hb) (by have:=hs.len;omega));have HDO:=Ae (fun(w':Ag) (hb:Below w.heap.size w w')=>Xt s (Hl s.box t) pA pc A cc w' hs hA (hpr.below hb) (hst.below hb) (hQ.below hb) (hT.below hb));have HFD:=Ae (fun(w':Ag)=>We s.box t hbd hk hp w');unfold Hd;unfold bbV at HAR HFD;obtain⟨⟨l,r,d,u⟩,hbx⟩:=ey s.box;rw[hbx]at HAR HFD HDO hbd⊢;obtain⟨fd,hfd⟩:=ey (Hl ⟨l,r,d,u⟩ t);rw[hfd]at HFD HDO⊢;obtain⟨R,hR⟩:=ey (s.do fd);rw[hR]at HDO⊢;obtain⟨hh,hhh⟩:=ey (Mx s.l);rw[hhh]at HHT⊢;obtain⟨ma,mb,mcc,mst⟩:=m;obtain⟨tk,tp,tv⟩:=t;obtain⟨n,hn⟩:=ey s.l.length;obtain⟨pn,hpn⟩:=ey s.cr.length;rw[hn,hpn]at HAR HDO⊢;rw[hn]at HHT;unfold Bb.bd at hbd;dsimp only at HAR HFD hbd⊢;obtain⟨RR,hRR⟩:=ey ((if r-l>mb∨u-d>mb then ((3:Int),(none:Option St))else if(hh:Int)>ma then (16,none)else R));rw[hRR];have HRR:=Ae hRR;have e1:wrap64 (r-l)=r-l:=Bw _ (by omega);have e2:wrap64 (u-d)=u-d:=Bw _ (by omega);have H:=((((Bx.start w).new #[Aa Ab ma,Aa Ab mb,Aa Ab mcc,Ad mA mn mc] 24 rfl).new #[Aa Ab s.a,Aa Ab s.b,Ad pA pn pc,Aa Ac s.root.t,Aa Ab s.root.x,Aa Ab s.root.y,Ad A n cc] 43 (N:=w.heap.size+1) (by simp)).new #[Aa Ac tk,Aa Ab tp,.bool tv] 32 (N:=w.heap.size+1+1) (by simp)).new #[Aa Ab 0,Aa Ab 0,Ad none 0 0,Aa Ac 0,Aa Ab 0,Aa Ab 0,Ad none 0 0] 43 (N:=w.heap.size+1+1+1) (by simp);clear hs hA hpr hst hQ hT hk hp hbx hfd hR hhh hn hpn hbd hRR;go_enter Tryz.func66,Tryz.ntmps66;go_upto_region 1 with fail;obtain⟨N,hN⟩:=ez w.heap.size;rw[←hN]at H⊢;have HNN:=Ae hN;clear hN;obtain⟨P,hP⟩:=ey (N+1);obtain⟨Q,hQ⟩:=ey (P+1)
 obtain⟨Z,hZ⟩:=ey (Q+1);rw[hP,hQ,hZ]at H⊢;clear hP hQ hZ;obtain⟨W1,hW1⟩:=ez ((((w.alloc (.cells #[Aa Ab ma,Aa Ab mb,Aa Ab mcc,Ad mA mn mc] 24)).alloc (.cells #[Aa Ab s.a,Aa Ab s.b,Ad pA pn pc,Aa Ac s.root.t,Aa Ab s.root.x,Aa Ab s.root.y,Ad A n cc] 43)).alloc (.cells #[Aa Ac tk,Aa Ab tp,.bool tv] 32)).alloc (.cells #[Aa Ab 0,Aa Ab 0,Ad none 0 0,Aa Ac 0,Aa Ab 0,Aa Ab 0,Ad none 0 0] 43));rw[←hW1]at H⊢;clear hW1;obtain⟨a0,a1,a2,a3,a4,a5,a6⟩:=De (H.blk 1 _ _ _ rfl);go_wp2_with fail;refine(HAR.out _ H.below).mono ?_;rintro ee w2 ⟨rfl,hb⟩;have H2:=H.call hb;clear a0 a1 a2 a3 a4 a5 a6 hb H HAR;obtain⟨B,hB⟩:=ey w2.heap.size;have H3:=H2.new #[Aa Ab l,Aa Ab r,Aa Ab d,Aa Ab u] 94 hB;clear H2;go_upto_region 2 with fail
 try rw[hB]
 obtain⟨W3,hW3⟩:=ez (w2.alloc (.cells #[Aa Ab l,Aa Ab r,Aa Ab d,Aa Ab u] 94));rw[←hW3]at H3⊢;clear hW3;clear hB;obtain⟨⟨-,m1,-,-⟩,-⟩:=Co (H3.blk 0 _ _ _ rfl);obtain⟨⟨b0,b1,b2,b3⟩,-⟩:=Co (H3.blk 4 _ _ _ rfl);by_cases hw1:mb<r-l
 ·have hrr:=HRR.out;rw[if_pos (.inl hw1)]at hrr;subst hrr;obtain⟨z0,z1,z2,z3,z4,z5,z6⟩:=De (H3.blk 3 _ _ _ rfl);obtain⟨y0,y1,y2,y3,y4,y5,y6⟩:=Jm (H3.blk 3 _ _ _ rfl);have HZ:=Ae (H3.put7 3 rfl (Aa Ab 0) (Aa Ab 0) (Ad none 0 0) (Aa Ac 0) (Aa Ab 0) (Aa Ab 0) (Ad none 0 0));clear H3;go_wp2_with fail;exact Af (Cj rfl rfl (HZ.out.range 3 rfl) Tryz.underlying43 rfl (by kernel_rfl)) rfl ⟨HZ.out.below,.inl ⟨rfl,rfl⟩⟩
 ·by_cases hw2:mb<u-d
  ·have hrr:=HRR.out;rw[if_pos (.inr hw2)]at hrr;subst hrr;obtain⟨z0,z1,z2,z3,z4,z5,z6⟩:=De (H3.blk 3 _ _ _ rfl);obtain⟨y0,y1,y2,y3,y4,y5,y6⟩:=Jm (H3.blk 3 _ _ _ rfl);have HZ:=Ae (H3.put7 3 rfl (Aa Ab 0) (Aa Ab 0) (Ad none 0 0) (Aa Ac 0) (Aa Ab 0) (Aa Ab 0) (Ad none 0 0));clear H3;go_wp2_with fail;exact Af (Cj rfl rfl (HZ.out.range 3 rfl) Tryz.underlying43 rfl (by kernel_rfl)) rfl ⟨HZ.out.below,.inl ⟨rfl,rfl⟩⟩
  ·have hrr:=HRR.out;rw[if_neg (by omega)]at hrr;have HR2:=Ae hrr;clear HRR hrr;go_upto_region 4 with fail;clear m1 b0 b1 b2 b3 hw1 hw2 e1 e2;obtain⟨-,-,-,-,-,-,a6⟩:=De (H3.blk 1 _ _ _ rfl);obtain⟨⟨m0,-,-,-⟩,-⟩:=Co (H3.blk 0 _ _ _ rfl);obtain⟨S,hSd⟩:∃S:Ag→Prop,S=fun W'=>W'.cell? ⟨N,0,none⟩=some (Aa Ab ma)∧W'.cell? ⟨P,6,none⟩=some (Ad A n cc):=⟨_,rfl⟩;have HSO:Hid (∀W',S W'→W'.cell? ⟨N,0,none⟩=some (Aa Ab ma)∧W'.cell? ⟨P,6,none⟩=some (Ad A n cc)):=Ae fun W' h=>by subst hSd;exact h
   have HSB:Hid (∀W' W'',S W'→Below W'.heap.size W' W''→S W''):=Ae fun W' W'' hs h=>by
    subst hSd;exact⟨Ce h hs.1,Ce h hs.2⟩
   have hS0:S W3.drew:=by subst hSd;exact⟨m0,a6⟩
   clear hSd m0 a6;refine Al (S:=S) (by kernel_rfl) hS0 (fun hS=>?_);have H4:=H3.drew;obtain⟨X0,hX0⟩:=ez W3.drew;rw[←hX0]at hS H4⊢;clear hX0;clear hS0 H3;refine Cf 0 ?_;refine Cf 1 ?_;refine Cf 3 ?_;refine Cf 4 ?_;refine rdy 2 (fun K hK=>?_);go_simp;refine(HHT.out _ H4.below).mono ?_;rintro ee X1 ⟨rfl,hbm⟩;have H5:=H4.call hbm;refine hK.out _ _ (HSB.out _ _ hS hbm) (fun hS=>?_);clear hK K hbm H4;refine Cf 5 ?_;refine Cf 6 ?_;refine Ak (by kernel_rfl) ?_ _;clear hS HSB HSO;by_cases hw3:ma<(hh:Int)
   ·have hrr:=HR2.out;rw[if_pos hw3]at hrr;subst hrr;obtain⟨z0,z1,z2,z3,z4,z5,z6⟩:=De (H5.blk 3 _ _ _ rfl);obtain⟨y0,y1,y2,y3,y4,y5,y6⟩:=Jm (H5.blk 3 _ _ _ rfl);have HZ:=Ae (H5.put7 3 rfl (Aa Ab 0) (Aa Ab 0) (Ad none 0 0) (Aa Ac 0) (Aa Ab 0) (Aa Ab 0) (Ad none 0 0));clear H5;go_wp2_with fail;exact Af (Cj rfl rfl (HZ.out.range 3 rfl) Tryz.underlying43 rfl (by kernel_rfl)) rfl ⟨HZ.out.below,.inl ⟨rfl,rfl⟩⟩
   ·have hrr:=HR2.out;rw[if_neg hw3]at hrr;subst hrr;go_upto_region 6 with fail;clear hw3;obtain⟨a0,a1,a2,a3,a4,a5,a6⟩:=De (H5.blk 1 _ _ _ rfl);obtain⟨⟨t0,t1,t2⟩,-⟩:=Ci (H5.blk 2 _ _ _ rfl);obtain⟨⟨b0,b1,b2,b3⟩,-⟩:=Co (H5.blk 4 _ _ _ rfl);obtain⟨S,hSd⟩:∃S:Ag→Prop,S=fun W'=>(W'.cell? ⟨P,0,none⟩=some (Aa Ab s.a)∧W'.cell? ⟨P,1,none⟩=some (Aa Ab s.b)∧W'.cell? ⟨P,2,none⟩=some (Ad pA pn pc)∧W'.cell? ⟨P,3,none⟩=some (Aa Ac s.root.t)∧W'.cell? ⟨P,4,none⟩=some (Aa Ab s.root.x)∧W'.cell? ⟨P,5,none⟩=some (Aa Ab s.root.y)∧W'.cell? ⟨P,6,none⟩=some (Ad A n cc))∧(W'.cell? ⟨B,0,none⟩=some (Aa Ab l)∧W'.cell? ⟨B,1,none⟩=some (Aa Ab r)∧W'.cell? ⟨B,2,none⟩=some (Aa Ab d)∧W'.cell? ⟨B,3,none⟩=some (Aa Ab u))∧W'.cell? ⟨Q,0,none⟩=some (Aa Ac tk)∧W'.cell? ⟨Q,1,none⟩=some (Aa Ab tp)∧W'.cell? ⟨Q,2,none⟩=some (.bool tv):=⟨_,rfl⟩;have HSO:Hid (∀W',S W'→(W'.cell? ⟨P,0,none⟩=some (Aa Ab s.a)∧W'.cell? ⟨P,1,none⟩=some (Aa Ab s.b)∧W'.cell? ⟨P,2,none⟩=some (Ad pA pn pc)∧W'.cell? ⟨P,3,none⟩=some (Aa Ac s.root.t)∧W'.cell? ⟨P,4,none⟩=some (Aa Ab s.root.x)∧W'.cell? ⟨P,5,none⟩=some (Aa Ab s.root.y)∧W'.cell? ⟨P,6,none⟩=some (Ad A n cc))∧(W'.cell? ⟨B,0,none⟩=some (Aa Ab l)∧W'.cell? ⟨B,1,none⟩=some (Aa Ab r)∧W'.cell? ⟨B,2,none⟩=some (Aa Ab d)∧W'.cell? ⟨B,3,none⟩=some (Aa Ab u))∧W'.cell? ⟨Q,0,none⟩=some (Aa Ac tk)∧W'.cell? ⟨Q,1,none⟩=some (Aa Ab tp)∧W'.cell? ⟨Q,2,none⟩=some (.bool tv)):=Ae fun W' h=>by subst hSd;exact h
    have HSB:Hid (∀W' W'',S W'→Below W'.heap.size W' W''→S W''):=Ae fun W' W'' hs h=>by
     subst hSd;obtain⟨⟨h0,h1,h2,h3,h4,h5,h6⟩,⟨k0,k1,k2,k3⟩,j0,j1,j2⟩:=hs;exact⟨⟨Ce h h0,Ce h h1,Ce h h2,Ce h h3,Ce h h4,Ce h h5,Ce h h6⟩,⟨Ce h k0,Ce h k1,Ce h k2,Ce h k3⟩,Ce h j0,Ce h j1,Ce h j2⟩
    have hS0:S X1.drew:=by subst hSd;exact⟨⟨a0,a1,a2,a3,a4,a5,a6⟩,⟨b0,b1,b2,b3⟩,t0,t1,t2⟩
    have hPZ:P≠Z:=H5.ne 1 3 (by decide) rfl rfl;have hQZ:Q≠Z:=H5.ne 2 3 (by decide) rfl rfl;have hBZ:B≠Z:=H5.ne 4 3 (by decide) rfl rfl
    have HSZ:Hid (∀(W':Ag) (v0 v1 v2 v3 v4 v5 v6:Ah),S W'→S (put7 W' Z v0 v1 v2 v3 v4 v5 v6)):=Ae fun W' v0 v1 v2 v3 v4 v5 v6 h=>by
     subst hSd;obtain⟨⟨h0,h1,h2,h3,h4,h5,h6⟩,⟨k0,k1,k2,k3⟩,j0,j1,j2⟩:=h;have eP:=Dz (W:=W') hPZ v0 v1 v2 v3 v4 v5 v6;have eQ:=Dz (W:=W') hQZ v0 v1 v2 v3 v4 v5 v6;have eB:=Dz (W:=W') hBZ v0 v1 v2 v3 v4 v5 v6;exact⟨⟨(Ch eP _).trans h0,(Ch eP _).trans h1,(Ch eP _).trans h2,(Ch eP _).trans h3,(Ch eP _).trans h4,(Ch eP _).trans h5,(Ch eP _).trans h6⟩,⟨(Ch eB _).trans k0,(Ch eB _).trans k1,(Ch eB _).trans k2,(Ch eB _).trans k3⟩,(Ch eQ _).trans j0,(Ch eQ _).trans j1,(Ch eQ _).trans j2⟩
    clear hPZ hQZ hBZ;clear hSd a0 a1 a2 a3 a4 a5 a6 b0 b1 b2 b3 t0 t1 t2;refine Al (S:=S) (by kernel_rfl) hS0 (fun hS=>?_);have H6:=H5.drew;obtain⟨X2,hX2⟩:=ez X1.drew;rw[←hX2]at hS H6⊢;clear hX2;clear hS0 H5;refine Cf 0 ?_;refine Cf 1 ?_;refine Cf 2 ?_;refine rdy 3 (fun K hK=>?_);go_simp;refine(HFD.out _).mono ?_;rintro ee X3 ⟨rfl,hbm⟩;have H7:=H6.call hbm;refine hK.out _ _ (HSB.out _ _ hS hbm) (fun hS=>?_);clear hK K hbm H6;refine rdy 4 (fun K hK=>?_);go_simp;refine(HDO.out _ H7.below).mono ?_;rintro ee X4 ⟨hbm,⟨ho,rfl⟩|⟨t8,cs8,ho,rfl,hkp⟩⟩
    ·have H8:=H7.call hbm;have HF:=Ae ho;unfold stZ;dsimp only;refine hK.out _ _ (HSB.out _ _ hS hbm) (fun hS=>?_);clear hK K hbm H7 ho;refine Cf 5 ?_;refine Cf 6 ?_;obtain⟨z0,z1,z2,z3,z4,z5,z6⟩:=De (H8.blk 3 _ _ _ rfl);obtain⟨y0,y1,y2,y3,y4,y5,y6⟩:=Jm (H8.blk 3 _ _ _ rfl);have H9:=Ae (H8.put7 3 rfl (Aa Ab 0) (Aa Ab 0) (Ad none 0 0) (Aa Ac 0) (Aa Ab 0) (Aa Ab 0) (Ad none 0 0));have HSP:=Ae (HSZ.out X4 (Aa Ab 0) (Aa Ab 0) (Ad none 0 0) (Aa Ac 0) (Aa Ab 0) (Aa Ab 0) (Ad none 0 0) hS);clear H8;refine rdy 7 (fun K hK=>?_);go_simp;refine hK.out _ _ HSP.out (fun hS=>?_);clear hK K z0 z1 z2 z3 z4 z5 z6 y0 y1 y2 y3 y4 y5 y6;refine Cf 8 ?_;refine Ak (by kernel_rfl) ?_ _;go_wp2_with fail;exact Af (Cj rfl rfl (H9.out.range 3 rfl) Tryz.underlying43 rfl (by kernel_rfl)) rfl ⟨H9.out.below,.inl ⟨HF.out,rfl⟩⟩
    ·have H8:=H7.call hbm;obtain⟨pA8,pc8,A8,cc8,rfl,-,-,-⟩:=hkp.st.held;have HF:=Ae ho;have HKP:=Ae ((hkp.go (Hi.put7 (H7.lt 3 rfl) X4 (Aa Ab t8.a) (Aa Ab t8.b) (Ad pA8 t8.cr.length pc8) (Aa Ac t8.root.t) (Aa Ab t8.root.x) (Aa Ab t8.root.y) (Ad A8 t8.l.length cc8))).base H7.below.size);refine hK.out _ _ (HSB.out _ _ hS hbm) (fun hS=>?_);clear hK K hbm H7 ho hkp;refine Cf 5 ?_;refine Cf 6 ?_;obtain⟨z0,z1,z2,z3,z4,z5,z6⟩:=De (H8.blk 3 _ _ _ rfl);obtain⟨y0,y1,y2,y3,y4,y5,y6⟩:=Jm (H8.blk 3 _ _ _ rfl);have H9:=Ae (H8.put7 3 rfl (Aa Ab t8.a) (Aa Ab t8.b) (Ad pA8 t8.cr.length pc8) (Aa Ac t8.root.t) (Aa Ab t8.root.x) (Aa Ab t8.root.y) (Ad A8 t8.l.length cc8));have HSP:=Ae (HSZ.out X4 (Aa Ab t8.a) (Aa Ab t8.b) (Ad pA8 t8.cr.length pc8) (Aa Ac t8.root.t) (Aa Ab t8.root.x) (Aa Ab t8.root.y) (Ad A8 t8.l.length cc8) hS);clear H8;refine rdy 7 (fun K hK=>?_);go_simp;refine hK.out _ _ HSP.out (fun hS=>?_);clear hK K z0 z1 z2 z3 z4 z5 z6 y0 y1 y2 y3 y4 y5 y6;refine Cf 8 ?_;refine Ak (by kernel_rfl) ?_ _;go_wp2_with fail;exact Af (Cj rfl rfl (H9.out.range 3 rfl) Tryz.underlying43 rfl (by kernel_rfl)) rfl ⟨H9.out.below,.inr ⟨t8,_,HF.out,rfl,HKP.out⟩⟩
theorem jO (s:Sn):(snC s).length=3:=rfl
theorem jM {w:Ag} {A:Option Addr} {l:List Sn} {n:Nat} (h:Rd w A 3 n (l.flatMap snC)) (i:Nat) (hi:i<l.length):
  ∃b o,A=some ⟨b,o,none⟩∧b<w.heap.size∧w.cell? ⟨b,o+i*3,none⟩=some (Aa Ac (l[i].k:Int))∧w.cell? ⟨b,o+i*3+1,none⟩=some (Aa Ab l[i].p)∧w.cell? ⟨b,o+i*3+2,none⟩=some (.bool l[i].o):=by
 have hl:=h.1;rw[Dl snC 3 jO]at hl;obtain⟨b,o,e,hb,hc⟩:=h.2 (by omega);have hat:∀f,f<3→(l.flatMap snC)[i*3+f]? =(snC l[i])[f]? :=fun f hf=>Dc snC 3 jO _ i f hi hf;exact⟨b,o,e,hb,hc (i*3+0) _ ((hat 0 (by omega)).trans rfl),hc (i*3+1) _ ((hat 1 (by omega)).trans rfl),hc (i*3+2) _ ((hat 2 (by omega)).trans rfl)⟩
theorem eM (F:FuncId) (hen:∀(args:Array Ah) (w:Ag),(callFunc F args).run Tryz.prog w= .ok (.enter F args) w) (caps:Array Ah) (p:Sn→Bool) (A:Option Addr) (l:List (Sn)) (n c:Nat) (w:Ag) (hn:n=l.length) (h:Rd w A 3 n (l.flatMap snC)) (hl:n≤1000000)
  (hf:∀(i:Sn) (w':Ag),i∈l→Below w.heap.size w w'→Ai Tryz.prog F (#[.agg #[Aa Ac (i.k:Int),Aa Ab i.p,.bool i.o]]++caps) w' (Cg (.bool (p i)) w')):
  Ai Tryz.prog 44 #[Ad A n c,.func (.func F) #[] caps] w fun e w'=>(∃r:Int,e= .returned (Aa Ab r)∧((l.any p)=decide (0≤r)))∧Below w.heap.size w w':=by
 have HRD:=Ae h;have HN:=Ae hn;have HFX:=Ae hf;clear h hn hf;go_enter Tryz.func44,Tryz.ntmps44;go_wp2_with fail
 go_loopw [5,8] (fun _ i wr=>∃k:Nat,k≤n∧i= Aa Ab k∧Below w.heap.size w wr∧Hid (∀j (hj:j<l.length),j<k→p l[j]=false)) (fun _ i _=>n-(intOf i).toNat)
 case atStart=>exact⟨0,by omega,rfl,Below.refl _ _,Ae fun j _ hj=>absurd hj (by omega)⟩
 case round=>
  obtain⟨k,hk,rfl,hb,HK⟩:=hrel;by_cases hlt:k<n
  ·have hkl:k<l.length:=by have:=HN.out;omega
   obtain⟨bb,o,rfl,hbl,c0,c1,c2⟩:=jM (HRD.out.below hb) k hkl;have q1:(k:Int)<(n:Int):=by omega
   have hmem:=Au hkl;obtain⟨⟨r,r1,r2⟩,hr⟩:=ey (l[k]);have HRR:=Ae hr;rw[hr]at c0 c1 c2 hmem;dsimp only at c0 c1 c2;have hC:=HFX.out ⟨r,r1,r2⟩ wr hmem hb;dsimp only at hC;obtain⟨ar,har⟩:=ey (#[Value.agg #[Aa Ac (r:Int),Aa Ab r1,.bool r2]]++caps);rw[har]at hC;have HC:=Ae hC;clear hr hmem hC;go_wp2_with fail;refine HC.out.mono ?_;rintro e w2 ⟨rfl,hb2⟩;have hb3:=hb.trans (hb2.mono hb.size)
   cases he:p ⟨r,r1,r2⟩
   ·have HKN:=Ae (fun j (hj:j<l.length) (h:j<k+1)=>show p l[j]=false by
     by_cases hjk:j=k
     ·subst hjk;rw[HRR.out];exact he
     ·exact HK.out j hj (by omega))
    go_wp2_with fail;exact⟨⟨k+1,by omega,by go_num,hb3,HKN⟩,by simp[intOf];omega⟩
   ·have HA:Hid ((l.any p)=true):=Ae (by rw[List.any_eq_true];exact⟨l[k],Au _,by rw[HRR.out];exact he⟩);go_wp2_with fail;go_ret;exact⟨⟨k,rfl,by rw[HA.out];simp⟩,hb3⟩
  ·have q1:¬(k:Int)<(n:Int):=by omega
   have HA:Hid ((l.any p)=false):=Ae (by
    rw[List.any_eq_false];intro x hx;obtain⟨j,hj,rfl⟩:=Ay.1 hx;simpa using HK.out j hj (by have:=HN.out;omega))
   go_wp2_with fail;go_ret;exact⟨⟨-1,rfl,by rw[HA.out];rfl⟩,hb⟩
theorem dL (F:FuncId) (hen:∀(args:Array Ah) (w:Ag),(callFunc F args).run Tryz.prog w= .ok (.enter F args) w) (caps:Array Ah) (p:Sn→Bool) (A:Option Addr) (l:List (Sn)) (n c:Nat) (w:Ag) (hn:n=l.length) (h:Rd w A 3 n (l.flatMap snC)) (hl:n≤1000000)
  (hf:∀(i:Sn) (w':Ag),i∈l→Below w.heap.size w w'→Ai Tryz.prog F (#[.agg #[Aa Ac (i.k:Int),Aa Ab i.p,.bool i.o]]++caps) w' (Cg (.bool (p i)) w')):
  Ai Tryz.prog 18 #[Ad A n c,.func (.func F) #[] caps] w (Cg (.bool (l.any p)) w):=by
 have HC:=Ae (eM F hen caps p A l n c w hn h hl hf);obtain⟨R,hR⟩:=ey (l.any p);rw[hR]at HC⊢;clear hn h hR hl hf hen;go_enter Tryz.func18,Tryz.ntmps18;go_wp2_with fail;refine HC.out.mono ?_;rintro e w2 ⟨⟨r,rfl,hr⟩,hb⟩;go_wp2_with fail;go_ret;exact⟨by rw[hr];rfl,hb⟩
theorem rO (k:Nat) (p:Int) (o:Bool) (M:Nat) (c:Int) (w:Ag) (hc:w.cell? ⟨M,2,none⟩=some (Aa Ab c)) (_hM:M<w.heap.size):
  Ai Tryz.prog 19 #[.agg #[Aa Ac k,Aa Ab p,.bool o],.pointer (some ⟨M,0,none⟩)] w (Cg (.bool (!(Qp k p)||decide (p<c))) w):=by
 have H:=(Bx.start w).new #[Aa Ac k,Aa Ab p,.bool o] 32 rfl;have HV:=Ae (fun w'=>Xf k p o w');have HMC:=Ae (fun(w':Ag) (hb:Below w.heap.size w w')=>Ce hb hc);obtain⟨ok,hok⟩:=ey (Qp k p);rw[hok]at HV⊢;clear hok hc;go_enter Tryz.func19,Tryz.ntmps19;go_upto_region 1 with fail;obtain⟨N,hN⟩:=ez w.heap.size;rw[←hN]at H⊢;have HNN:=Ae hN;clear hN;obtain⟨W,hW⟩:=ez (w.alloc (.cells #[Aa Ac k,Aa Ab p,.bool o] 32));rw[←hW]at H⊢;clear hW;obtain⟨⟨a0,a1,a2⟩,-⟩:=Ci (H.blk 0 _ _ _ rfl);go_wp2_with fail;refine(HV.out _).mono ?_;rintro ee w2 ⟨rfl,hb⟩;have H2:=H.call hb;have mc:=HMC.out _ H2.below;clear a0 a1 a2 hb H;obtain⟨⟨a0,a1,a2⟩,-⟩:=Ci (H2.blk 0 _ _ _ rfl);have HB2:=Ae H2.below;clear H2
 cases ok with
 |false=>
  go_wp2_with fail;go_ret;exact⟨rfl,HB2.out⟩
 |true=>
  by_cases hpc:p<c
  ·go_wp2_with fail;go_ret;exact⟨by simp[hpc],HB2.out⟩
  ·go_wp2_with fail;go_ret;exact⟨by simp,HB2.out⟩
theorem Mh.ok_iff {m:Mh}:m.ok=true↔m.st.length≤16∧(1≤m.a∧m.a≤1024∧1≤m.b∧m.b≤256∧1≤m.c∧m.c≤256)∧∀t∈m.st,t.k≤7∧m.c≤t.p∧t.p≤512:=by
 unfold Mh.ok;simp only[Bool.and_eq_true,decide_eq_true_eq,List.all_eq_true,and_assoc]
theorem eY (m:Mh) (hm:m.ok=true) (A:Option Addr) (n c:Nat) (w:Ag) (hn:n=m.st.length) (hrd:Rd w A 3 n (m.st.flatMap snC)):
  Ai Tryz.prog 5 #[.agg #[Aa Ab m.a,Aa Ab m.b,Aa Ab m.c,Ad A n c]] w (Cg (Aa Ab 0) w):=by
 obtain⟨h16,hb,hall⟩:=Mh.ok_iff.1 hm
 have HCF:=Ae (fun(M:Nat) (w':Ag) (hbl:Below w.heap.size w w') (hc:w'.cell? ⟨M,2,none⟩=some (Aa Ab m.c)) (hM:M<w'.heap.size)=>by
  have h:=dL 19 (enters_of Tryz.func19 (by kernel_rfl) rfl) #[.pointer (some ⟨M,0,none⟩)] (fun t=> !(Qp t.k t.p)||decide (t.p<m.c)) A m.st n c w' hn (hrd.below hbl) (by omega) fun i w2 _ h2=>rO i.k i.p i.o M m.c w2 (Ce h2 hc) (Bm hM h2.size)
  rwa [show(m.st.any fun t=> !(Qp t.k t.p)||decide (t.p<m.c))=false by
   rw[List.any_eq_false];intro t ht;have:=hall t ht;unfold Qp;simp;omega]at h)
 have h16':n≤16:=by omega
 obtain⟨a,b,cc,st⟩:=m;dsimp only at HCF hb⊢;have H:=(Bx.start w).new #[Aa Ab a,Aa Ab b,Aa Ab cc,Ad A n c] 24 rfl;clear hm h16 hall hn hrd;obtain⟨u0,u1,u2,u3,u4,u5⟩:=hb;have q0:¬16<(n:Int):=by omega
 have q1:¬a<1:=by omega
 have q2:¬1024<a:=by omega
 have q3:¬b<1:=by omega
 have q4:¬256<b:=by omega
 have q5:¬cc<1:=by omega
 have q6:¬256<cc:=by omega
 go_enter Tryz.func5,Tryz.ntmps5;go_upto_region 1 with fail;obtain⟨N,hN⟩:=ez w.heap.size;rw[←hN]at H⊢;have HNN:=Ae hN;clear hN;obtain⟨W,hW⟩:=ez (w.alloc (.cells #[Aa Ab a,Aa Ab b,Aa Ab cc,Ad A n c] 24));rw[←hW]at H⊢;clear hW;obtain⟨⟨a0,a1,a2,a3⟩,-⟩:=Co (H.blk 0 _ _ _ rfl);have HC:=Ae (HCF.out N W H.below a2 (H.lt 0 rfl));have HB:=Ae H.below;clear H HCF;go_wp2_with fail;refine HC.out.mono ?_;rintro ee w2 ⟨rfl,hb⟩;have hb2:=HB.out.trans (hb.mono HB.out.size);go_wp2_with fail;go_ret;exact⟨rfl,hb2⟩
structure StQ (O:Nat) (Q:Nat→Prop) (w:Ag) (cs:List Ah) (s:St):Prop where
 lo:∀k,Q k→O≤k
 lt:∀k,Q k→k<w.heap.size
 st:∀w':Ag,w.heap.size≤w'.heap.size→(∀k,Q k→w'.heap[k]? =w.heap[k]?)→Mq w' cs s
theorem StQ.of {O b:Nat} {w:Ag} {cs:List Ah} {s:St} (h:La b w cs s) (hO:O≤b):StQ O (fun k=>b≤k∧k<w.heap.size) w cs s:=
 ⟨fun _ hk=>Bo hO hk.1,fun _ hk=>hk.2,fun w' hs hq=>h w' ⟨hs,fun k h1 h2=>hq k ⟨h1,h2⟩⟩⟩
theorem StQ.go {O:Nat} {Q:Nat→Prop} {w w':Ag} {cs:List Ah} {s:St} (h:StQ O Q w cs s) (hs:w.heap.size≤w'.heap.size) (hq:∀k,Q k→w'.heap[k]? =w.heap[k]?):StQ O Q w' cs s:=
 ⟨h.lo,fun k hk=>Bm (h.lt k hk) hs,fun w2 h2 h3=>h.st w2 (Bo hs h2) fun k hk=>(h3 k hk).trans (hq k hk)⟩
theorem StQ.below {O:Nat} {Q:Nat→Prop} {w w':Ag} {cs:List Ah} {s:St} (h:StQ O Q w cs s) (hb:Below w.heap.size w w'):StQ O Q w' cs s:=
 h.go hb.size fun k hk=>hb.block k (h.lt k hk)
theorem StQ.kp {O:Nat} {Q:Nat→Prop} {w:Ag} {cs:List Ah} {s:St} (h:StQ O Q w cs s):La O w cs s:=
 fun w' hk=>h.st w' hk.size fun k hq=>hk.blk k (h.lo k hq) (h.lt k hq)
abbrev SzT:=List Ah×St
structure AlI (O:Nat) (v:Ah) (c0:List Ah) (zt:List SzT) (w:Ag):Prop where
 own:w.ownsRow O 43 7 v (zt.length+1) (c0++zt.flatMap (·.1))
 st:∀x∈zt,x.1.length=7∧Gs x.2∧∃Q,StQ O Q w x.1 x.2∧∀g,v.ownBlock=some g→¬Q g
theorem AlI.below {O:Nat} {v:Ah} {c0:List Ah} {zt:List SzT} {w w':Ag} (h:AlI O v c0 zt w) (hb:Below w.heap.size w w'):AlI O v c0 zt w':=
 ⟨Ck h.own (Aj _) hb,fun x hx=>by
  obtain⟨h1,h2,Q,h3,h4⟩:=h.st x hx;exact⟨h1,h2,Q,h3.below hb,h4⟩⟩
theorem AlI.get {O:Nat} {v:Ah} {c0:List Ah} {zt:List SzT} {w:Ag} {s:St} (h:AlI O v c0 zt w) (hg:Gs s) (h0:Mq w c0 s) (h7:c0.length=7):∀x∈(c0,s)::zt,x.1.length=7∧Gs x.2∧Mq w x.1 x.2:=fun x hx=>by
 rcases Bh.1 hx with rfl|hx
 ·exact⟨h7,hg,h0⟩
 ·obtain⟨h1,h2,Q,h3,-⟩:=h.st x hx;exact⟨h1,h2,h3.st w (Aj _) fun _ _=>rfl⟩
theorem Am7 {zt:List SzT} (h:∀x∈zt,x.1.length=7):(zt.flatMap (·.1)).length=zt.length*7:=by
 induction zt with
 |nil=>rfl
 |cons x r ih=>
  rw[Ba,Be,ih fun y hy=>h y (by simp[hy]),h x (by simp),List.length_cons];omega
theorem Tv:∀{zt:List SzT},(∀x∈zt,x.1.length=7)→∀(i:Nat) (hi:i<zt.length) (f:Nat),f<7→(zt.flatMap (·.1))[i*7+f]? =zt[i].1[f]?
 |[],_,i,hi,_,_=>absurd hi (Nat.not_lt_zero _)
 |x::r,h,0,_,f,hf=>by
  rw[Ba,List.getElem?_append_left (by rw[h x (by simp)];omega)];simp
 |x::r,h,i+1,hi,f,hf=>by
  have h7:=h x (by simp);rw[Ba,List.getElem?_append_right (by rw[h7];omega),h7,show(i+1)*7+f-7=i*7+f by omega];exact Tv (zt:=r) (fun y hy=>h y (by simp[hy])) i (by simpa using hi) f hf
theorem AlI.snoc {O:Nat} {v v':Ah} {c0:List Ah} {zt:List SzT} {w w':Ag} {x:SzT} (h:AlI O v c0 zt w) (hx:x.1.length=7) (hg:Gs x.2) {Q:Nat→Prop} (hq:StQ O Q w x.1 x.2) (hqv:∀g,v.ownBlock=some g→¬Q g)
  (ho:w'.ownsRow O 43 7 v' (zt.length+1+1) (c0++zt.flatMap (·.1)++x.1)) (hgr:w.grownBy w' v.ownBlock) (hv:v'.ownBlock=v.ownBlock∨∃g,v'.ownBlock=some g∧w.heap.size≤g):AlI O v' c0 (zt++[x]) w':=by
 have hst:∀(cs:List Ah) (s:St) (Q:Nat→Prop),StQ O Q w cs s→(∀g,v.ownBlock=some g→¬Q g)→StQ O Q w' cs s∧∀g,v'.ownBlock=some g→¬Q g:=fun cs s Q h1 h2=>by
  refine⟨h1.go hgr.size fun k hk=>hgr.block k (h1.lt k hk) fun e=>h2 k e.symm hk,fun g hg hQ=>?_⟩;rcases hv with e|⟨g',e,hle⟩
  ·exact h2 g (e▸hg) hQ
  ·rw[e]at hg;injection hg with hg;have:=h1.lt g hQ;omega
 refine⟨?_,fun y hy=>?_⟩
 ·rw[Be,Bf,Ba,List.flatMap_nil,List.append_nil,←Bg];exact ho
 ·rcases Bi.1 hy with hy|hy
  ·obtain⟨h1,h2,Q',h3,h4⟩:=h.st y hy;obtain⟨h5,h6⟩:=hst _ _ _ h3 h4;exact⟨h1,h2,Q',h5,h6⟩
  ·obtain rfl:=List.mem_singleton.1 hy;obtain⟨h5,h6⟩:=hst _ _ _ hq hqv;exact⟨hx,hg,Q,h5,h6⟩
def Tf (m:Mh) (s:St) (c0:List Ah) (w:Ag) (e:Ending) (w':Ag):Prop:=
 ∃A c zt,e= .returned (.tuple #[Ad A (zt.length+1) c,Aa Ab (Em m m.st s).2])∧s::zt.map (·.2)=(Em m m.st s).1∧AlI w.heap.size (Ad A (zt.length+1) c) c0 zt w'∧Below w.heap.size w w'
theorem gR {m:Mh} {s t:St} {n:Sn} (h:Gs s) (hd:(Hd m s n).2=some t):Gs t∧(Hd m s n).1=0:=by
 unfold Hd at hd⊢
 split at hd
 ·cases hd
 ·rename_i h1;rw[if_neg h1]
  split at hd
  ·cases hd
  ·rename_i h2;rw[if_neg h2];exact⟨(iQ h hd).1,(Qd hd).2.1⟩
theorem gQ {m:Mh} {s:St} {n:Sn} (hd:(Hd m s n).2=none):(Hd m s n).1≠0:=by
 unfold Hd at hd⊢
 split at hd
 ·rename_i h1;rw[if_pos h1]
  decide
 ·rename_i h1;rw[if_neg h1]
  split at hd
  ·rename_i h2;rw[if_pos h2]
   decide
  ·rename_i h2;rw[if_neg h2];exact iR hd
theorem Jv {m:Mh} {t:Sn} {r:List Sn} {s s':St} (h:(Hd m s t).2=some s'):Em m (t::r) s=(s::(Em m r s').1,(Em m r s').2):=by
 show(match(Hd m s t).2 with|none=>([s],(Hd m s t).1)|some s'=>(s::(Em m r s').1,(Em m r s').2))=_;rw[h]
theorem Ju {m:Mh} {t:Sn} {r:List Sn} {s:St} (h:(Hd m s t).2=none):Em m (t::r) s=([s],(Hd m s t).1):=by
 show(match(Hd m s t).2 with|none=>([s],(Hd m s t).1)|some s'=>(s::(Em m r s').1,(Em m r s').2))=_;rw[h]
structure AlP (m:Mh) (s:St) (k:Nat) (zt:List SzT) (last:SzT) (c0:List Ah):Prop where
 len:zt.length=k
 ex:∃pre:List SzT,(c0,s)::zt=pre++[last]∧Em m m.st s=(pre.map (·.2)++(Em m (m.st.drop k) last.2).1,(Em m (m.st.drop k) last.2).2)
theorem wC:(Tryz.prog.info? 43).map (fun i=>(i.zero,i.size,i.bytes))=some (some (.agg stZ.toArray),7,88):=by kernel_rfl
theorem AlP.zero (m:Mh) (s:St) (c0:List Ah):AlP m s 0 [] (c0,s) c0:=⟨rfl,[],rfl,rfl⟩
theorem AlP.next {m:Mh} {s t:St} {k:Nat} {zt:List SzT} {last:SzT} {c0 cs:List Ah} (h:AlP m s k zt last c0) (hk:k<m.st.length) (hd:(Hd m last.2 m.st[k]).2=some t):AlP m s (k+1) (zt++[(cs,t)]) (cs,t) c0:=by
 obtain⟨pre,h1,h2⟩:=h.ex;refine⟨by rw[Be,h.len];rfl,pre++[last],by rw[←List.cons_append,h1],?_⟩;rw[h2,List.drop_eq_getElem_cons hk,Jv hd];simp
theorem AlP.none {m:Mh} {s:St} {k:Nat} {zt:List SzT} {last:SzT} {c0:List Ah} (h:AlP m s k zt last c0) (hk:k<m.st.length) (hd:(Hd m last.2 m.st[k]).2=Option.none):s::zt.map (·.2)=(Em m m.st s).1∧(Em m m.st s).2=(Hd m last.2 m.st[k]).1:=by
 obtain⟨pre,h1,h2⟩:=h.ex;rw[h2,List.drop_eq_getElem_cons hk,Ju hd];have:=congrArg (List.map (·.2)) h1;simp at this;exact⟨by simpa using this,rfl⟩
theorem AlP.stop {m:Mh} {s:St} {k:Nat} {zt:List SzT} {last:SzT} {c0:List Ah} (h:AlP m s k zt last c0) (hk:k=m.st.length):s::zt.map (·.2)=(Em m m.st s).1∧(Em m m.st s).2=0:=by
 obtain⟨pre,h1,h2⟩:=h.ex;rw[h2,List.drop_eq_nil_of_le (by omega)];have:=congrArg (List.map (·.2)) h1;simp at this;exact⟨by simpa[Em]using this,rfl⟩
theorem AlP.last_mem {m:Mh} {s:St} {k:Nat} {zt:List SzT} {last:SzT} {c0:List Ah} (h:AlP m s k zt last c0):last∈(c0,s)::zt:=by
 obtain⟨pre,h1,-⟩:=h.ex;rw[h1];simp
theorem AlI.cell {O n c:Nat} {A:Option Addr} {c0:List Ah} {zt:List SzT} {w:Ag} {m:Mh} {s:St} {k:Nat} {last:SzT} (h:AlI O (Ad A n c) c0 zt w) (hp:AlP m s k zt last c0) (h7:c0.length=7):
  ∃g,A=some ⟨g,0,none⟩∧O≤g∧g<w.heap.size∧∀f v,f<7→last.1[f]? =some v→w.cell? ⟨g,k*7+f,none⟩=some v:=by
 have hown:=h.own;rcases hown.2 with⟨h9,h0⟩|⟨g,cap,cur,hv,hO,hg,-⟩
 ·omega
 obtain⟨rfl,rfl,-⟩:A=some ⟨g,0,none⟩∧n=zt.length+1∧c=cap:=by simpa using hv
 obtain⟨b,o,e,-,hc⟩:=(Rd.of_own hown).2 (by omega);obtain⟨rfl,rfl⟩:g=b∧0=o:=by simpa using e
 refine⟨g,rfl,hO,(Aq.1 hg).1,fun f v hf hv=>?_⟩;have h1:=hc (k*7+f) v;rw[Bp]at h1;refine h1 ?_;obtain⟨pre,h2,-⟩:=hp.ex
 have hZ:∀x∈(c0,s)::zt,x.1.length=7:=fun x hx=>by
  rcases Bh.1 hx with rfl|hx
  ·exact h7
  ·exact(h.st x hx).1
 have hl:((c0,s)::zt).length=k+1:=by rw[List.length_cons,hp.len]
 have hpl:pre.length=k:=by
  have:=congrArg List.length h2;rw[hl]at this;simpa using this.symm
 have h3:=Tv hZ k (by omega) f hf
 have h4:((c0,s)::zt)[k]'(by omega)=last:=by
  simp only[h2];rw[List.getElem_append_right (by omega)];simp[hpl]
 rw[h4,hv]at h3
 rwa [Ba]at h3
def AlU (O:Nat) (v:Ah) (c0:List Ah) (zt:List SzT) (w:Ag) (l:List (Nat×Array Ah×TypeId)) (R:Option St) (U:Nat) (wx:Ag):Prop:=
 ∃cs:List Ah,AlI O v c0 zt wx∧Bx w (l++[(U,cs.toArray,43)]) wx∧∀t,R=some t→∃Q,StQ O Q wx cs t∧∀g,v.ownBlock=some g→¬Q g
theorem AlU.none {O:Nat} {v:Ah} {c0:List Ah} {zt:List SzT} {w W X:Ag} {l:List (Nat×Array Ah×TypeId)} {U:Nat} {cs:List Ah} {v0 v1 v2 v3 v4 v5 v6:Ah} (h:AlI O v c0 zt W) (hb:Below W.heap.size W X) (hU:W.heap.size≤U) (hB:Bx w (l++[(U,cs.toArray,43)]) (put7 X U v0 v1 v2 v3 v4 v5 v6)):
  AlU O v c0 zt w l Option.none U (put7 X U v0 v1 v2 v3 v4 v5 v6):=⟨cs,h.below (Tk hb hU ..),hB,fun _ e=>by cases e⟩
theorem AlU.some {O b:Nat} {v:Ah} {c0:List Ah} {zt:List SzT} {w W X1 X:Ag} {l:List (Nat×Array Ah×TypeId)} {U:Nat} {cs:List Ah} {t:St} {v0 v1 v2 v3 v4 v5 v6:Ah} (h:AlI O v c0 zt W) (hb:Below W.heap.size W X) (hU:W.heap.size≤U) (hB:Bx w (l++[(U,cs.toArray,43)]) (put7 X U v0 v1 v2 v3 v4 v5 v6))
  (hkp:La b X1 cs t) (hO:O≤b) (hWb:W.heap.size≤b) (hX:Below X1.heap.size X1 X) (hUb:U<b∨X1.heap.size≤U):AlU O v c0 zt w l (Option.some t) U (put7 X U v0 v1 v2 v3 v4 v5 v6):=by
 refine⟨cs,h.below (Tk hb hU ..),hB,fun t' e=>?_⟩;injection e with e;subst e;refine⟨_,((StQ.of hkp hO).below hX).go (by rw[Jz];exact Aj _) fun k hk=>Dz (by omega) ..,fun g hg hQ=>?_⟩;have:=(h.own.lt g hg).2;omega
def alL (ma mb mc:Int) (sv:Ah) (s:St) (pv tv:Ah) (N P:Nat):List (Nat×Array Ah×TypeId):=
 [(N,#[Aa Ab ma,Aa Ab mb,Aa Ab mc,sv],24),(P,#[Aa Ab s.a,Aa Ab s.b,pv,Aa Ac s.root.t,Aa Ab s.root.x,Aa Ab s.root.y,tv],43)]
structure AlW (m:Mh) (s:St) (c0:List Ah) (w:Ag) (L:List (Nat×Array Ah×TypeId)) (O k c:Nat) (A:Option Addr) (wr:Ag):Prop where
 bx:Bx w L wr
 le:O≤wr.heap.size
 ex:∃zt last,AlP m s k zt last c0∧AlI O (Ad A (k+1) c) c0 zt wr
theorem AlI.base {O O':Nat} {v:Ah} {c0:List Ah} {zt:List SzT} {w:Ag} (h:AlI O v c0 zt w) (hO:O'≤O):AlI O' v c0 zt w:=
 ⟨Dr h.own hO,fun x hx=>by
  obtain⟨h1,h2,Q,h3,h4⟩:=h.st x hx;exact⟨h1,h2,Q,⟨fun k hk=>Bo hO (h3.lo k hk),h3.lt,h3.st⟩,h4⟩⟩
theorem iE (m:Mh) (s:St) (hm:m.ok=true) (mA:Option Addr) (mn mc:Nat) (hmn:mn=m.st.length) (pA:Option Addr) (pc:Nat) (A:Option Addr) (cc:Nat) (w:Ag) (hrd:Rd w mA 3 mn (m.st.flatMap snC)) (hs:Gs s) (hA:AOk pA s.cr.length pc) (hpr:Rd w pA 3 s.cr.length (crs s.cr)) (hst:Cs w A s.l) (hQ:Qf w) (hT:Tn w):
  Ai Tryz.prog 33 #[.agg #[Aa Ab m.a,Aa Ab m.b,Aa Ab m.c,Ad mA mn mc],.agg #[Aa Ab s.a,Aa Ab s.b,Ad pA s.cr.length pc,Aa Ac s.root.t,Aa Ab s.root.x,Aa Ab s.root.y,Ad A s.l.length cc]] w
   (Tf m s [Aa Ab s.a,Aa Ab s.b,Ad pA s.cr.length pc,Aa Ac s.root.t,Aa Ab s.root.x,Aa Ab s.root.y,Ad A s.l.length cc] w):=by
 have hmo:=Mh.ok_iff.1 hm;have HMC:=Ae (fun(w':Ag) (hb:Below w.heap.size w w')=>eY m hm mA mn mc w' hmn (hrd.below hb));have HCK:=Ae (fun(w':Ag) (hb:Below w.heap.size w w')=>Sy s pA pc A cc w' hs (hpr.below hb) (hst.below hb) (hQ.below hb) (hT.below hb));have HRD:=Ae (fun(w':Ag) (hb:Below w.heap.size w w') (k:Nat) (hk:k<m.st.length)=>jM (hrd.below hb) k hk)
 have HTH:=Ae (fun(w':Ag) (hb:Below w.heap.size w w') (t:Sn) (ht:t∈m.st) (s2:St) (pA2:Option Addr) (pc2:Nat) (A2:Option Addr) (cc2:Nat) (hs2:Gs s2) (hA2:AOk pA2 s2.cr.length pc2) (hpr2:Rd w' pA2 3 s2.cr.length (crs s2.cr)) (hst2:Cs w' A2 s2.l)=>
  cH m s2 t mA mn mc pA2 pc2 A2 cc2 w' hs2 hA2 hpr2 hst2 (hQ.below hb) (hT.below hb) (hmo.2.2 t ht).1 ⟨by have:=(hmo.2.2 t ht).2.1;have:=hmo.2.1;omega,(hmo.2.2 t ht).2.2⟩)
 have HIN:=Ae (fun(w':Ag) (hb:Below w.heap.size w w')=>(⟨⟨pA,pc,A,cc,rfl,hA,hpr.below hb,hst.below hb⟩⟩:Mq w' [Aa Ab s.a,Aa Ab s.b,Ad pA s.cr.length pc,Aa Ac s.root.t,Aa Ab s.root.x,Aa Ab s.root.y,Ad A s.l.length cc] s));have HGS:=Ae hs;have HMN:=Ae hmn;have hm16:mn≤16:=by have:=hmo.1;omega
 have H:=((Bx.start w).new #[Aa Ab m.a,Aa Ab m.b,Aa Ab m.c,Ad mA mn mc] 24 rfl).new #[Aa Ab s.a,Aa Ab s.b,Ad pA s.cr.length pc,Aa Ac s.root.t,Aa Ab s.root.x,Aa Ab s.root.y,Ad A s.l.length cc] 43 (N:=w.heap.size+1) (by simp);obtain⟨n,hn⟩:=ey s.l.length;obtain⟨pn,hpn⟩:=ey s.cr.length;rw[hn,hpn]at HCK HIN H⊢;clear hm hmn hrd hs hA hpr hst hQ hT hmo hn hpn;go_enter Tryz.func33,Tryz.ntmps33;go_upto_region 1 with fail;obtain⟨N,hN⟩:=ez w.heap.size;rw[←hN]at H⊢;have HNN:=Ae hN;clear hN;obtain⟨P,hP⟩:=ey (N+1);rw[hP]at H⊢;clear hP;obtain⟨W1,hW1⟩:=ez ((w.alloc (.cells #[Aa Ab m.a,Aa Ab m.b,Aa Ab m.c,Ad mA mn mc] 24)).alloc (.cells #[Aa Ab s.a,Aa Ab s.b,Ad pA pn pc,Aa Ac s.root.t,Aa Ab s.root.x,Aa Ab s.root.y,Ad A n cc] 43));rw[←hW1]at H⊢;clear hW1;obtain⟨⟨m0,m1,m2,m3⟩,-⟩:=Co (H.blk 0 _ _ _ rfl);go_wp2_with fail;refine(HMC.out _ H.below).mono ?_;rintro ee w2 ⟨rfl,hb⟩;have H2:=H.call hb;clear m0 m1 m2 m3 hb H HMC;obtain⟨a0,a1,a2,a3,a4,a5,a6⟩:=De (H2.blk 1 _ _ _ rfl);go_wp2_with fail;refine(HCK.out _ H2.below).mono ?_;rintro ee w3 ⟨rfl,hb⟩;have H3:=H2.call hb;clear a0 a1 a2 a3 a4 a5 a6 hb H2 HCK;obtain⟨a0,a1,a2,a3,a4,a5,a6⟩:=De (H3.blk 1 _ _ _ rfl);obtain⟨O,hO⟩:=ey w3.heap.size;have H4:=H3.other (.cells #[Aa Ab s.a,Aa Ab s.b,Ad pA pn pc,Aa Ac s.root.t,Aa Ab s.root.x,Aa Ab s.root.y,Ad A n cc] 43);have hPO:P<O:=hO▸H3.lt 1 rfl;have hNO:N<O:=hO▸H3.lt 0 rfl;have HWO:Hid (w.heap.size≤O):=Ae (hO▸H3.below.size)
 have HLO:Hid (∀x∈alL m.a m.b m.c (Ad mA mn mc) s (Ad pA pn pc) (Ad A n cc) N P,x.1<O):=Ae (by
  intro x hx;rcases Bh.1 hx with rfl|hx
  ·exact hNO
  ·obtain rfl:=List.mem_singleton.1 hx;exact hPO)
 have ho4:(w3.alloc (.cells #[Aa Ab s.a,Aa Ab s.b,Ad pA pn pc,Aa Ac s.root.t,Aa Ab s.root.x,Aa Ab s.root.y,Ad A n cc] 43)).ownsRow O 43 7 (Ad (some ⟨O,0,none⟩) 1 1) 1 [Aa Ab s.a,Aa Ab s.b,Ad pA pn pc,Aa Ac s.root.t,Aa Ab s.root.x,Aa Ab s.root.y,Ad A n cc]:=by
  subst hO;exact⟨rfl,.inr ⟨w3.heap.size,1,_,rfl,Aj _,Bt w3 _,Aj _,by unfold maxLen;omega,rfl,rfl⟩⟩
 have hO4:O≤(w3.alloc (.cells #[Aa Ab s.a,Aa Ab s.b,Ad pA pn pc,Aa Ac s.root.t,Aa Ab s.root.x,Aa Ab s.root.y,Ad A n cc] 43)).heap.size:=by rw[←hO];simp
 clear H3 hPO hNO;go_upto_region 8 with fail
 try rw[hO]
 obtain⟨W4,hW4⟩:=ez (w3.alloc (.cells #[Aa Ab s.a,Aa Ab s.b,Ad pA pn pc,Aa Ac s.root.t,Aa Ab s.root.x,Aa Ab s.root.y,Ad A n cc] 43));rw[←hW4]at H4 ho4 hO4⊢;clear hW4;clear a0 a1 a2 a3 a4 a5 a6 hO;obtain⟨⟨m0,m1,m2,m3⟩,-⟩:=Co (H4.blk 0 _ _ _ rfl)
 have HI0:Hid (AlW m s [Aa Ab s.a,Aa Ab s.b,Ad pA pn pc,Aa Ac s.root.t,Aa Ab s.root.x,Aa Ab s.root.y,Ad A n cc] w (alL m.a m.b m.c (Ad mA mn mc) s (Ad pA pn pc) (Ad A n cc) N P) O 0 1 (some ⟨O,0,none⟩) W4):=
  Ae ⟨H4,hO4,[],_,AlP.zero m s _,⟨by simpa using ho4,fun x hx=>by cases hx⟩⟩
 clear H4 ho4 hO4;obtain⟨C0,hC0⟩:=ey ([Value.int .i64 s.a,Aa Ab s.b,Ad pA pn pc,Aa Ac s.root.t,Aa Ab s.root.x,Aa Ab s.root.y,Ad A n cc]);rw[hC0]at HI0 HIN⊢;have HC7:Hid (C0.length=7):=Ae (by rw[←hC0];rfl);have HC0:=Ae hC0;clear hC0;go_upto_region 9 with fail;clear m0 m1 m2 m3;go_wp2_with fail
 go_loopw [8,28] (fun s8 s28 wr=>∃(k c:Nat) (A1:Option Addr),k≤mn∧s28= Aa Ab k∧s8= Ad A1 (k+1) c∧Hid (AlW m s C0 w (alL m.a m.b m.c (Ad mA mn mc) s (Ad pA pn pc) (Ad A n cc) N P) O k c A1 wr)) (fun _ s28 _=>mn-(intOf s28).toNat)
 case atStart=>exact⟨0,1,_,by omega,rfl,rfl,HI0⟩
 case round=>
  obtain⟨k,c,A1,hk,rfl,rfl,HZ⟩:=hrel;clear HI0;have hB:=HZ.out.bx;have hOw:=HZ.out.le;obtain⟨zt,⟨cl,s2⟩,hp,hI⟩:=HZ.out.ex;have hmem:=hp.last_mem;clear HZ;by_cases hlt:k<mn
  ·have q0:(k:Int)<(mn:Int):=by omega
   have q7:(k:Int)<(k:Int)+1:=by omega
   have hkm:k<m.st.length:=by have:=HMN.out;omega
   obtain⟨h7l,hgl,hil⟩:=hI.get HGS.out (HIN.out wr hB.below) HC7.out _ hmem;obtain⟨pA2,pc2,A2,cc2,hcs,hA2,hpr2,hst2⟩:=hil.held;obtain⟨g,rfl,hOg,hgW,hcell⟩:=hI.cell hp HC7.out;dsimp only at hcs hgl hcell;have r0:=hcell 0 _ (by omega) (by rw[hcs];rfl);have r1:=hcell 1 _ (by omega) (by rw[hcs];rfl);have r2:=hcell 2 _ (by omega) (by rw[hcs];rfl);have r3:=hcell 3 _ (by omega) (by rw[hcs];rfl);have r4:=hcell 4 _ (by omega) (by rw[hcs];rfl);have r5:=hcell 5 _ (by omega) (by rw[hcs];rfl);have r6:=hcell 6 _ (by omega) (by rw[hcs];rfl);rw[Nat.add_zero]at r0;obtain⟨kb,ko,hmA,-,t0,t1,t2⟩:=HRD.out wr hB.below k hkm;have hth:=fun(w':Ag) (hb:Below wr.heap.size wr w')=>HTH.out w' (hB.below.trans (hb.mono hB.below.size)) m.st[k] (Au hkm) s2 pA2 pc2 A2 cc2 hgl hA2 (hpr2.below hb) (hst2.below hb);have hnx:=fun(t:St) (cs:List Ah) (h:(Hd m s2 m.st[k]).2=some t)=>hp.next (cs:=cs) hkm h;have hno:=fun(h:(Hd m s2 m.st[k]).2=none)=>hp.none hkm h;have hgt:=fun(t:St) (h:(Hd m s2 m.st[k]).2=some t)=>gR hgl h;have her:=fun(h:(Hd m s2 m.st[k]).2=none)=>gQ (m:=m) (s:=s2) (n:=m.st[k]) h;obtain⟨R,hR⟩:=ey (Hd m s2 m.st[k]);rw[hR]at hth hnx hno hgt her;obtain⟨⟨tk,tp,tv⟩,ht⟩:=ey (m.st[k]);rw[ht]at t0 t1 t2 hth;obtain⟨er,o⟩:=R;dsimp only at t0 t1 t2 hth hnx hno hgt her;have HNX:=Ae hnx;have HNO:=Ae hno;have HGT:=Ae hgt;have HER:=Ae her;obtain⟨X,hX⟩:=ey wr.heap.size;have H5:=hB.new #[Aa Ac tk,Aa Ab tp,.bool tv] 32 hX;have hb5:Below wr.heap.size wr (wr.alloc (.cells #[Aa Ac tk,Aa Ab tp,.bool tv] 32)):=(Below.refl _ _).alloc (Aj _) _;have hI5:=hI.below hb5;have hth5:=fun(w':Ag) (hb:Below (wr.alloc (.cells #[Aa Ac tk,Aa Ab tp,.bool tv] 32)).heap.size (wr.alloc (.cells #[Aa Ac tk,Aa Ab tp,.bool tv] 32)) w')=>hth w' (hb5.trans (hb.mono hb5.size));have hOw5:O≤(wr.alloc (.cells #[Aa Ac tk,Aa Ab tp,.bool tv] 32)).heap.size:=Bo hOw hb5.size
   have hgW5:=Bm hgW hb5.size;have hkz:=hp.len;have hrr:∀f v,wr.cell? ⟨g,k*7+f,none⟩=some v→(wr.alloc (.cells #[Aa Ac tk,Aa Ab tp,.bool tv] 32)).cell? ⟨g,k*7+f,none⟩=some v:=fun f v h=>Ce hb5 h;subst hmA;clear hR ht hcs hA2 hpr2 hst2 hil h7l hgl hcell hth hnx hno hgt her hB hOw hI hmem hb5 hkm hgW;go_upto_region 11 with fail
   try rw[hX]
   obtain⟨W5,hW5⟩:=ez (wr.alloc (.cells #[Aa Ac tk,Aa Ab tp,.bool tv] 32));rw[←hW5]at H5 hI5 hth5 hOw5 hgW5 hrr⊢;clear hW5;have p0:=hrr 0 _ (by rw[Nat.add_zero];exact r0);have p1:=hrr 1 _ r1;have p2:=hrr 2 _ r2;have p3:=hrr 3 _ r3;have p4:=hrr 4 _ r4;have p5:=hrr 5 _ r5;have p6:=hrr 6 _ r6;rw[Nat.add_zero]at p0;clear r0 r1 r2 r3 r4 r5 r6 t0 t1 t2 hX hrr;obtain⟨⟨m0,m1,m2,m3⟩,-⟩:=Co (H5.blk 0 _ _ _ rfl);obtain⟨⟨t0,t1,t2⟩,-⟩:=Ci (H5.blk 2 _ _ _ rfl);have hNb:=H5.blk 0 _ _ _ rfl;have hXb:=H5.blk 2 _ _ _ rfl;have hNl:=H5.lt 0 rfl;have hXl:=H5.lt 2 rfl;have HTHH:=Ae hth5;have HI5:=Ae hI5;have HB5:Bx w (alL m.a m.b m.c (Ad (some ⟨kb,ko,none⟩) mn mc) s (Ad pA pn pc) (Ad A n cc) N P) W5:=H5.upto 2;obtain⟨S,hSd⟩:∃S:Ag→Prop,S=fun W'=>W'.heap[N]? =W5.heap[N]? ∧W'.heap[g]? =W5.heap[g]? ∧W'.heap[X]? =W5.heap[X]? :=⟨_,rfl⟩
   have HSO:Hid (∀W',S W'→(W'.cell? ⟨N,0,none⟩=some (Aa Ab m.a)∧W'.cell? ⟨N,1,none⟩=some (Aa Ab m.b)∧W'.cell? ⟨N,2,none⟩=some (Aa Ab m.c)∧W'.cell? ⟨N,3,none⟩=some (Ad (some ⟨kb,ko,none⟩) mn mc))∧(W'.cell? ⟨g,k*7,none⟩=some (Aa Ab s2.a)∧W'.cell? ⟨g,k*7+1,none⟩=some (Aa Ab s2.b)∧W'.cell? ⟨g,k*7+2,none⟩=some (Ad pA2 s2.cr.length pc2)∧W'.cell? ⟨g,k*7+3,none⟩=some (Aa Ac s2.root.t)∧W'.cell? ⟨g,k*7+4,none⟩=some (Aa Ab s2.root.x)∧W'.cell? ⟨g,k*7+5,none⟩=some (Aa Ab s2.root.y)∧W'.cell? ⟨g,k*7+6,none⟩=some (Ad A2 s2.l.length cc2))∧W'.cell? ⟨X,0,none⟩=some (Aa Ac tk)∧W'.cell? ⟨X,1,none⟩=some (Aa Ab tp)∧W'.cell? ⟨X,2,none⟩=some (.bool tv)):=Ae fun W' h=>by
    subst hSd;obtain⟨h1,h2,h3⟩:=h;exact⟨⟨(Ch h1 _).trans m0,(Ch h1 _).trans m1,(Ch h1 _).trans m2,(Ch h1 _).trans m3⟩,⟨(Ch h2 _).trans p0,(Ch h2 _).trans p1,(Ch h2 _).trans p2,(Ch h2 _).trans p3,(Ch h2 _).trans p4,(Ch h2 _).trans p5,(Ch h2 _).trans p6⟩,(Ch h3 _).trans t0,(Ch h3 _).trans t1,(Ch h3 _).trans t2⟩
   have HSB:Hid (∀W' W'':Ag,S W'→Below W5.heap.size W' W''→S W''):=Ae fun W' W'' hs h=>by
    subst hSd;obtain⟨h1,h2,h3⟩:=hs;exact⟨(h.block N hNl).trans h1,(h.block g hgW5).trans h2,(h.block X hXl).trans h3⟩
   have hS0:S W5.drew:=by subst hSd;exact⟨rfl,rfl,rfl⟩
   have HSU:Hid (∀(W':Ag) (U:Nat) (v0 v1 v2 v3 v4 v5 v6:Ah),W5.heap.size≤U→S W'→S (put7 W' U v0 v1 v2 v3 v4 v5 v6)):=Ae fun W' U v0 v1 v2 v3 v4 v5 v6 hU hs=>by
    subst hSd;obtain⟨h1,h2,h3⟩:=hs;exact⟨(Dz (by omega) v0 v1 v2 v3 v4 v5 v6).trans h1,(Dz (by omega) v0 v1 v2 v3 v4 v5 v6).trans h2,(Dz (by omega) v0 v1 v2 v3 v4 v5 v6).trans h3⟩
   clear hSd m0 m1 m2 m3 p0 p1 p2 p3 p4 p5 p6 t0 t1 t2 hNb hXb hNl hXl hth5 hI5 H5 hgW5;go_cut [11,12]from 33 to 42 (fun s11 s12 wx=>∃U:Nat,s11= .pointer (some ⟨U,0,none⟩)∧s12= Aa Ab er∧Hid (AlU O (Ad (some ⟨g,0,none⟩) (k+1) c) C0 zt w (alL m.a m.b m.c (Ad (some ⟨kb,ko,none⟩) mn mc) s (Ad pA pn pc) (Ad A n cc) N P) o U wx∧O≤wx.heap.size))
   case first=>
    refine Al (S:=S) (by kernel_rfl) hS0 (fun hS=>?_);have hb:Below W5.heap.size W5 W5.drew:=(Below.refl _ _).drew;have H:=HB5.drew;obtain⟨X0,hX0⟩:=ez W5.drew;rw[←hX0]at hb hS H⊢;clear hX0;clear hS0 HB5;refine Cf 0 ?_;refine Cf 1 ?_;refine Cf 2 ?_;refine Cf 3 ?_;refine Cf 4 ?_;refine Cf 5 ?_;refine Am (rs:=[6,10]) (by kernel_rfl) (by simp) (An rfl (fun K hK=>?_) (An rfl (fun K hK=>?_) Ao))
    ·go_simp;refine(HTHH.out _ hb).mono ?_;rintro ee X1 ⟨hbm,⟨ho,rfl⟩|⟨t8,cs8,ho,rfl,hkp⟩⟩
     ·unfold stZ;dsimp only;have H1:=H.call hbm;have hb1:=hb.trans (hbm.mono hb.size);refine hK.out _ _ (HSB.out _ _ hS (hbm.mono hb.size)) (fun hS=>?_);clear hK K hbm H hb;subst ho;refine Cf 7 ?_;refine Cf 8 ?_;refine Cf 9 ?_;obtain⟨U,hU⟩:=ey X1.heap.size;have hUX:X1.heap.size≤U:=Nat.le_of_eq hU;have hUW:W5.heap.size≤U:=Bo (hb1).size hUX;have H2:=H1.new #[Aa Ab 0,Aa Ab 0,Ad none 0 0,Aa Ac 0,Aa Ab 0,Aa Ab 0,Ad none 0 0] 43 hU;have hX12:Below X1.heap.size X1 (X1.alloc (.cells #[Aa Ab 0,Aa Ab 0,Ad none 0 0,Aa Ac 0,Aa Ab 0,Aa Ab 0,Ad none 0 0] 43)):=(Below.refl _ _).alloc (Aj _) _;have hb2:=(hb1).trans (hX12.mono (hb1).size);have hS2:=HSB.out _ _ hS (hX12.mono (hb1).size);refine rdy 10 (fun K hK=>?_);go_simp;refine hK.out _ _ hS2 (fun hS=>?_);clear hK K hS2 H1 hb1
      try rw[hU]
      obtain⟨X2,hX2⟩:=ez (X1.alloc (.cells #[Aa Ab 0,Aa Ab 0,Ad none 0 0,Aa Ac 0,Aa Ab 0,Aa Ab 0,Ad none 0 0] 43));rw[←hX2]at H2 hX12 hb2 hS⊢;clear hX2;clear hU;obtain⟨z0,z1,z2,z3,z4,z5,z6⟩:=De (H2.blk 2 _ _ _ rfl);obtain⟨y0,y1,y2,y3,y4,y5,y6⟩:=Jm (H2.blk 2 _ _ _ rfl);have H9:=H2.put7 2 rfl (Aa Ab 0) (Aa Ab 0) (Ad none 0 0) (Aa Ac 0) (Aa Ab 0) (Aa Ab 0) (Ad none 0 0);have HSP:=Ae (HSU.out X2 U (Aa Ab 0) (Aa Ab 0) (Ad none 0 0) (Aa Ac 0) (Aa Ab 0) (Aa Ab 0) (Ad none 0 0) hUW hS);have HREL:=Ae (show AlU O (Ad (some ⟨g,0,none⟩) (k+1) c) C0 zt w (alL m.a m.b m.c (Ad (some ⟨kb,ko,none⟩) mn mc) s (Ad pA pn pc) (Ad A n cc) N P) _ U (put7 X2 U (Aa Ab 0) (Aa Ab 0) (Ad none 0 0) (Aa Ac 0) (Aa Ab 0) (Aa Ab 0) (Ad none 0 0))∧O≤(put7 X2 U (Aa Ab 0) (Aa Ab 0) (Ad none 0 0) (Aa Ac 0) (Aa Ab 0) (Aa Ab 0) (Ad none 0 0)).heap.size from⟨AlU.none HI5.out hb2 hUW H9 (cs:=[Aa Ab 0,Aa Ab 0,Ad none 0 0,Aa Ac 0,Aa Ab 0,Aa Ab 0,Ad none 0 0]),by rw[Jz];exact Bo hOw5 hb2.size⟩);clear H9 H2;refine rdy 11 (fun K hK=>?_);go_simp;refine hK.out _ _ HSP.out (fun hS=>?_);clear hK K z0 z1 z2 z3 z4 z5 z6 y0 y1 y2 y3 y4 y5 y6;refine Cf 12 ?_;refine Ak (by kernel_rfl) ?_ _;go_wp2_with fail;go_meet;exact⟨U,rfl,rfl,HREL⟩
     ·obtain⟨pA8,pc8,A8,cc8,rfl,-,-,-⟩:=hkp.st.held;have H1:=H.call hbm;have hb1:=hb.trans (hbm.mono hb.size);have hWb:=hb.size;refine hK.out _ _ (HSB.out _ _ hS (hbm.mono hb.size)) (fun hS=>?_);clear hK K hbm H hb;subst ho;refine Cf 7 ?_;refine Cf 8 ?_;refine Cf 9 ?_;obtain⟨U,hU⟩:=ey X1.heap.size;have hUX:X1.heap.size≤U:=Nat.le_of_eq hU;have hUW:W5.heap.size≤U:=Bo (hb1).size hUX;have H2:=H1.new #[Aa Ab 0,Aa Ab 0,Ad none 0 0,Aa Ac 0,Aa Ab 0,Aa Ab 0,Ad none 0 0] 43 hU;have hX12:Below X1.heap.size X1 (X1.alloc (.cells #[Aa Ab 0,Aa Ab 0,Ad none 0 0,Aa Ac 0,Aa Ab 0,Aa Ab 0,Ad none 0 0] 43)):=(Below.refl _ _).alloc (Aj _) _;have hb2:=(hb1).trans (hX12.mono (hb1).size);have hS2:=HSB.out _ _ hS (hX12.mono (hb1).size);refine rdy 10 (fun K hK=>?_);go_simp;refine hK.out _ _ hS2 (fun hS=>?_);clear hK K hS2 H1 hb1
      try rw[hU]
      obtain⟨X2,hX2⟩:=ez (X1.alloc (.cells #[Aa Ab 0,Aa Ab 0,Ad none 0 0,Aa Ac 0,Aa Ab 0,Aa Ab 0,Ad none 0 0] 43));rw[←hX2]at H2 hX12 hb2 hS⊢;clear hX2;clear hU;obtain⟨z0,z1,z2,z3,z4,z5,z6⟩:=De (H2.blk 2 _ _ _ rfl);obtain⟨y0,y1,y2,y3,y4,y5,y6⟩:=Jm (H2.blk 2 _ _ _ rfl);have H9:=H2.put7 2 rfl (Aa Ab t8.a) (Aa Ab t8.b) (Ad pA8 t8.cr.length pc8) (Aa Ac t8.root.t) (Aa Ab t8.root.x) (Aa Ab t8.root.y) (Ad A8 t8.l.length cc8);have HSP:=Ae (HSU.out X2 U (Aa Ab t8.a) (Aa Ab t8.b) (Ad pA8 t8.cr.length pc8) (Aa Ac t8.root.t) (Aa Ab t8.root.x) (Aa Ab t8.root.y) (Ad A8 t8.l.length cc8) hUW hS);have HREL:=Ae (show AlU O (Ad (some ⟨g,0,none⟩) (k+1) c) C0 zt w (alL m.a m.b m.c (Ad (some ⟨kb,ko,none⟩) mn mc) s (Ad pA pn pc) (Ad A n cc) N P) _ U (put7 X2 U (Aa Ab t8.a) (Aa Ab t8.b) (Ad pA8 t8.cr.length pc8) (Aa Ac t8.root.t) (Aa Ab t8.root.x) (Aa Ab t8.root.y) (Ad A8 t8.l.length cc8))∧O≤(put7 X2 U (Aa Ab t8.a) (Aa Ab t8.b) (Ad pA8 t8.cr.length pc8) (Aa Ac t8.root.t) (Aa Ab t8.root.x) (Aa Ab t8.root.y) (Ad A8 t8.l.length cc8)).heap.size from⟨AlU.some HI5.out hb2 hUW H9 hkp (Bo hOw5 hWb) hWb hX12 (.inr hUX) (cs:=[Aa Ab t8.a,Aa Ab t8.b,Ad pA8 t8.cr.length pc8,Aa Ac t8.root.t,Aa Ab t8.root.x,Aa Ab t8.root.y,Ad A8 t8.l.length cc8]),by rw[Jz];exact Bo hOw5 hb2.size⟩);clear H9 H2;refine rdy 11 (fun K hK=>?_);go_simp;refine hK.out _ _ HSP.out (fun hS=>?_);clear hK K z0 z1 z2 z3 z4 z5 z6 y0 y1 y2 y3 y4 y5 y6;refine Cf 12 ?_;refine Ak (by kernel_rfl) ?_ _;go_wp2_with fail;go_meet;exact⟨U,rfl,rfl,HREL⟩
    ·obtain⟨U,hU⟩:=ey X0.heap.size;have hUW:W5.heap.size≤U:=Bo (hb).size (Nat.le_of_eq hU);have H:=H.new #[Aa Ab 0,Aa Ab 0,Ad none 0 0,Aa Ac 0,Aa Ab 0,Aa Ab 0,Ad none 0 0] 43 hU;have hX12:Below X0.heap.size X0 (X0.alloc (.cells #[Aa Ab 0,Aa Ab 0,Ad none 0 0,Aa Ac 0,Aa Ab 0,Aa Ab 0,Ad none 0 0] 43)):=(Below.refl _ _).alloc (Aj _) _;have hS2:=HSB.out _ _ hS (hX12.mono (hb).size);have hb:=(hb).trans (hX12.mono (hb).size);go_simp;refine hK.out _ _ hS2 (fun hS=>?_);clear hK K hS2 hX12
     try rw[hU]
     obtain⟨X1,hX1⟩:=ez (X0.alloc (.cells #[Aa Ab 0,Aa Ab 0,Ad none 0 0,Aa Ac 0,Aa Ab 0,Aa Ab 0,Ad none 0 0] 43));rw[←hX1]at H hb hS⊢;clear hX1;clear hU;refine rdy 6 (fun K hK=>?_);go_simp;refine(HTHH.out _ hb).mono ?_;rintro ee X2 ⟨hbm,⟨ho,rfl⟩|⟨t8,cs8,ho,rfl,hkp⟩⟩
     ·unfold stZ;dsimp only;have H2:=H.call hbm;have hb2:=hb.trans (hbm.mono hb.size);refine hK.out _ _ (HSB.out _ _ hS (hbm.mono hb.size)) (fun hS=>?_);clear hK K hbm H hb;subst ho;refine Cf 7 ?_;refine Cf 8 ?_;refine Cf 9 ?_;obtain⟨z0,z1,z2,z3,z4,z5,z6⟩:=De (H2.blk 2 _ _ _ rfl);obtain⟨y0,y1,y2,y3,y4,y5,y6⟩:=Jm (H2.blk 2 _ _ _ rfl);have H9:=H2.put7 2 rfl (Aa Ab 0) (Aa Ab 0) (Ad none 0 0) (Aa Ac 0) (Aa Ab 0) (Aa Ab 0) (Ad none 0 0);have HSP:=Ae (HSU.out X2 U (Aa Ab 0) (Aa Ab 0) (Ad none 0 0) (Aa Ac 0) (Aa Ab 0) (Aa Ab 0) (Ad none 0 0) hUW hS);have HREL:=Ae (show AlU O (Ad (some ⟨g,0,none⟩) (k+1) c) C0 zt w (alL m.a m.b m.c (Ad (some ⟨kb,ko,none⟩) mn mc) s (Ad pA pn pc) (Ad A n cc) N P) _ U (put7 X2 U (Aa Ab 0) (Aa Ab 0) (Ad none 0 0) (Aa Ac 0) (Aa Ab 0) (Aa Ab 0) (Ad none 0 0))∧O≤(put7 X2 U (Aa Ab 0) (Aa Ab 0) (Ad none 0 0) (Aa Ac 0) (Aa Ab 0) (Aa Ab 0) (Ad none 0 0)).heap.size from⟨AlU.none HI5.out hb2 hUW H9 (cs:=[Aa Ab 0,Aa Ab 0,Ad none 0 0,Aa Ac 0,Aa Ab 0,Aa Ab 0,Ad none 0 0]),by rw[Jz];exact Bo hOw5 hb2.size⟩);clear H9 H2;refine rdy 11 (fun K hK=>?_);go_simp;refine hK.out _ _ HSP.out (fun hS=>?_);clear hK K z0 z1 z2 z3 z4 z5 z6 y0 y1 y2 y3 y4 y5 y6;refine Cf 12 ?_;refine Ak (by kernel_rfl) ?_ _;go_wp2_with fail;go_meet;exact⟨U,rfl,rfl,HREL⟩
     ·obtain⟨pA8,pc8,A8,cc8,rfl,-,-,-⟩:=hkp.st.held;have hUX:=H.lt 2 rfl;have H2:=H.call hbm;have hb2:=hb.trans (hbm.mono hb.size);have hWb:=hb.size;refine hK.out _ _ (HSB.out _ _ hS (hbm.mono hb.size)) (fun hS=>?_);clear hK K hbm H hb;subst ho;refine Cf 7 ?_;refine Cf 8 ?_;refine Cf 9 ?_;obtain⟨z0,z1,z2,z3,z4,z5,z6⟩:=De (H2.blk 2 _ _ _ rfl);obtain⟨y0,y1,y2,y3,y4,y5,y6⟩:=Jm (H2.blk 2 _ _ _ rfl);have H9:=H2.put7 2 rfl (Aa Ab t8.a) (Aa Ab t8.b) (Ad pA8 t8.cr.length pc8) (Aa Ac t8.root.t) (Aa Ab t8.root.x) (Aa Ab t8.root.y) (Ad A8 t8.l.length cc8);have HSP:=Ae (HSU.out X2 U (Aa Ab t8.a) (Aa Ab t8.b) (Ad pA8 t8.cr.length pc8) (Aa Ac t8.root.t) (Aa Ab t8.root.x) (Aa Ab t8.root.y) (Ad A8 t8.l.length cc8) hUW hS);have HREL:=Ae (show AlU O (Ad (some ⟨g,0,none⟩) (k+1) c) C0 zt w (alL m.a m.b m.c (Ad (some ⟨kb,ko,none⟩) mn mc) s (Ad pA pn pc) (Ad A n cc) N P) _ U (put7 X2 U (Aa Ab t8.a) (Aa Ab t8.b) (Ad pA8 t8.cr.length pc8) (Aa Ac t8.root.t) (Aa Ab t8.root.x) (Aa Ab t8.root.y) (Ad A8 t8.l.length cc8))∧O≤(put7 X2 U (Aa Ab t8.a) (Aa Ab t8.b) (Ad pA8 t8.cr.length pc8) (Aa Ac t8.root.t) (Aa Ab t8.root.x) (Aa Ab t8.root.y) (Ad A8 t8.l.length cc8)).heap.size from⟨AlU.some HI5.out hb2 hUW H9 hkp (Bo hOw5 hWb) hWb (Below.refl _ _) (.inl hUX) (cs:=[Aa Ab t8.a,Aa Ab t8.b,Ad pA8 t8.cr.length pc8,Aa Ac t8.root.t,Aa Ab t8.root.x,Aa Ab t8.root.y,Ad A8 t8.l.length cc8]),by rw[Jz];exact Bo hOw5 hb2.size⟩);clear H9 H2;refine rdy 11 (fun K hK=>?_);go_simp;refine hK.out _ _ HSP.out (fun hS=>?_);clear hK K z0 z1 z2 z3 z4 z5 z6 y0 y1 y2 y3 y4 y5 y6;refine Cf 12 ?_;refine Ak (by kernel_rfl) ?_ _;go_wp2_with fail;go_meet;exact⟨U,rfl,rfl,HREL⟩
   case rest=>
    obtain⟨U,rfl,rfl,HU⟩:=hcut;clear hS0 HSO HSB HSU;obtain⟨⟨cs,hIu,hBu,hSu⟩,hOc⟩:=HU.out
    cases o with
    |none=>
     have her:=HER.out rfl;have q8:(er != 0)=true:=by simpa using her
     obtain⟨h1,h2⟩:=HNO.out rfl;have hkz:=hp.len;have hb2:=hBu.below;have HF:Hid (Tf m s C0 w (.returned (.tuple #[Ad (some ⟨g,0,none⟩) (k+1) c,Aa Ab er])) wc):=Ae ⟨_,_,zt,by rw[h2,hkz],h1,by rw[hkz];exact hIu.base HWO.out,hb2⟩;rw[←HC0.out]at HF;clear hIu hBu hSu hOc HU h1 h2 hkz hb2 her hp;go_wp2_with fail;refine Af (v:= .tuple #[Ad (some ⟨g,0,none⟩) (k+1) c,Aa Ab er]) (by simp[results,Tryz.results33,go_sem]) rfl ?_;exact HF.out
    |some t=>
     obtain⟨hgt,her⟩:=HGT.out t rfl;subst her;obtain⟨Qs,hq,hqg⟩:=hSu t rfl;obtain⟨pA3,pc3,A3,cc3,rfl,-,-,-⟩:=(hq.st wc (Aj _) fun _ _=>rfl).held;obtain⟨z0,z1,z2,z3,z4,z5,z6⟩:=De (hBu.blk 2 _ _ _ rfl);have hkz:=hp.len;obtain⟨A',c',w6,hrun,ho6,hb6,hg6,hO6,-,-,hfr⟩:=Pa (sl:=99) Tryz.underlying99 wC rfl (by decide) (by decide) wc O (k+1) (Ad (some ⟨g,0,none⟩) (k+1) c) _ (by have h:=hIu.own;rw[hkz]at h;exact h) hOc (by omega) [Aa Ab t.a,Aa Ab t.b,Ad pA3 t.cr.length pc3,Aa Ac t.root.t,Aa Ab t.root.x,Aa Ab t.root.y,Ad A3 t.l.length cc3] rfl (by simp[Value.oneCell'])
     have hI6:AlI O (Ad A' (k+1+1) c') C0 (zt++[([Aa Ab t.a,Aa Ab t.b,Ad pA3 t.cr.length pc3,Aa Ac t.root.t,Aa Ab t.root.x,Aa Ab t.root.y,Ad A3 t.l.length cc3],t)]) w6:=
      hIu.snoc rfl hgt hq hqg (by rw[hkz];exact ho6) hg6 hfr
     have HR:Hid (AlW m s C0 w (alL m.a m.b m.c (Ad (some ⟨kb,ko,none⟩) mn mc) s (Ad pA pn pc) (Ad A n cc) N P) O (k+1) c' A' w6):=Ae ⟨(hBu.upto 2).keepN HLO.out HWO.out hb6,hO6,_,_,HNX.out t _ rfl,hI6⟩;have HRUN:=Ae hrun;clear hrun ho6 hb6 hg6 hO6 hI6 hIu hBu hSu hOc HU hq hqg hgt hkz hfr hp;go_wp2_with (at_builtin;refine Ap _ rfl _ _ _ _ rfl _ _ rfl rfl _ _ HRUN.out ?_);clear z0 z1 z2 z3 z4 z5 z6;go_wp2_with fail
     go_roundw
     case rel=>exact⟨k+1,c',A',by omega,by go_num,rfl,HR⟩
     case measure=>simp[intOf];omega
  ·obtain⟨W9,rfl⟩:=ez wr;obtain rfl:k=mn:=by omega
   have q0:¬(k:Int)<(k:Int):=by omega
   obtain⟨h1,h2⟩:=hp.stop HMN.out;have hkz:=hp.len;have hb2:=hB.below;have HF:Hid (Tf m s C0 w (.returned (.tuple #[Ad A1 (k+1) c,Aa Ab 0])) W9):=Ae ⟨_,_,zt,by rw[h2,hkz],h1,by rw[hkz];exact hI.base HWO.out,hb2⟩;rw[←HC0.out]at HF;clear hB hOw hI hp hmem h1 h2 hkz hb2;go_wp2_with fail;refine Af (v:= .tuple #[Ad A1 (k+1) c,Aa Ab 0]) (by simp[results,Tryz.results33,go_sem]) rfl ?_;exact HF.out
theorem AlI.at {O n c:Nat} {A:Option Addr} {c0:List Ah} {zt:List SzT} {w:Ag} {s:St} (h:AlI O (Ad A n c) c0 zt w) (h7:c0.length=7):
  ∃g,A=some ⟨g,0,none⟩∧n=zt.length+1∧O≤g∧g<w.heap.size∧∀i (hi:i<((c0,s)::zt).length) f v,f<7→(((c0,s)::zt)[i]).1[f]? =some v→w.cell? ⟨g,i*7+f,none⟩=some v:=by
 have hown:=h.own;rcases hown.2 with⟨h9,h0⟩|⟨g,cap,cur,hv,hO,hg,-⟩
 ·omega
 obtain⟨rfl,rfl,-⟩:A=some ⟨g,0,none⟩∧n=zt.length+1∧c=cap:=by simpa using hv
 obtain⟨b,o,e,-,hc⟩:=(Rd.of_own hown).2 (by omega);obtain⟨rfl,rfl⟩:g=b∧0=o:=by simpa using e
 refine⟨g,rfl,rfl,hO,(Aq.1 hg).1,fun i hi f v hf hv=>?_⟩;have h1:=hc (i*7+f) v;rw[Bp]at h1;refine h1 ?_
 have hZ:∀x∈(c0,s)::zt,x.1.length=7:=fun x hx=>by
  rcases Bh.1 hx with rfl|hx
  ·exact h7
  ·exact(h.st x hx).1
 have h3:=Tv hZ i hi f hf;rw[hv]at h3
 rwa [Ba]at h3
theorem Yz (m:Mh):∀(l:List Sn) (s:St),(Em m l s).1.length≤l.length+1∧1≤(Em m l s).1.length
 |[],s=>by simp[Em]
 |t::r,s=>by
  cases h:(Hd m s t).2 with
  |none=>rw[Ju h];simp
  |some s'=>
   rw[Jv h];have:=Yz m r s';simp;omega
def Xi (R:List St×Int) (s:St) (c0:List Ah) (w:Ag) (e:Ending) (w':Ag):Prop:=Below w.heap.size w w'∧
 ((R.2≠0∧e= .returned (.tuple #[.agg stZ.toArray,Aa Ab ((R.1.length-1:Nat):Int),Aa Ab R.2]))∨
  (R.2=0∧∃t cs,R.1.getLast? =some t∧e= .returned (.tuple #[.agg cs.toArray,Aa Ab ((R.1.length-1:Nat):Int),Aa Ab 0])∧Gs t∧Mq w' cs t∧((cs=c0∧t=s)∨La w.heap.size w' cs t)))
theorem Ox {P:Program} {fn:Func} {s u v:Nat} {t:TypeId} (hr:fn.results= #[.cell s t,.tmp u,.tmp v]) {tmps:Array Ah} {w:Ag} {g:Nat} {cs:Array Ah} {d:TypeDesc} (hs:tmps.getD s undef= .pointer (some ⟨g,0,none⟩))
  (hc:w.rangeAt g 0 cs.toList) (hu:P.underlying t=some d) (hd:d.isRow=true) (hi:(P.info? t).map (·.size)=some cs.size):(results fn tmps).run P w= .ok (.tuple #[.agg cs,tmps.getD u undef,tmps.getD v undef]) w:=by
 have h:=run_loadVar_mid (P:=P) w g 0 t cs.toList d hc hu hd (by simpa using hi);have e:tmps[s]?.getD undef= .pointer (some ⟨g,0,none⟩):=by rw[←hs];simp
 simp[results,hr,e,asAddr,h]
theorem tE {c0:List Ah} {s:St} {zt:List SzT} {l:List St} (h:s::zt.map (·.2)=l):∃t cs,l.getLast? =some t∧l.length-1=zt.length∧(((c0,s)::zt)[zt.length]'(by simp))=(cs,t)∧(((cs,t)=(c0,s))∨(cs,t)∈zt):=by
 subst h;refine⟨(((c0,s)::zt)[zt.length]'(by simp)).2,(((c0,s)::zt)[zt.length]'(by simp)).1,?_,by simp,rfl,?_⟩
 ·have e:(s::zt.map (·.2))=((c0,s)::zt).map (·.2):=rfl;rw[e,List.getLast?_eq_getElem?,List.getElem?_map];simp
 ·have h1:=Au (l:=(c0,s)::zt) (n:=zt.length) (by simp);rcases Bh.1 h1 with h1|h1
  ·exact .inl h1
  ·exact .inr h1
theorem Qx (m:Mh) (s:St) (hm:m.ok=true) (mA:Option Addr) (mn mc:Nat) (hmn:mn=m.st.length) (pA:Option Addr) (pc:Nat) (A:Option Addr) (cc:Nat) (w:Ag) (hrd:Rd w mA 3 mn (m.st.flatMap snC)) (hs:Gs s) (hA:AOk pA s.cr.length pc) (hpr:Rd w pA 3 s.cr.length (crs s.cr)) (hst:Cs w A s.l) (hQ:Qf w) (hT:Tn w):
  Ai Tryz.prog 12 #[.agg #[Aa Ab m.a,Aa Ab m.b,Aa Ab m.c,Ad mA mn mc],.agg #[Aa Ab s.a,Aa Ab s.b,Ad pA s.cr.length pc,Aa Ac s.root.t,Aa Ab s.root.x,Aa Ab s.root.y,Ad A s.l.length cc]] w
   (Xi (Em m m.st s) s [Aa Ab s.a,Aa Ab s.b,Ad pA s.cr.length pc,Aa Ac s.root.t,Aa Ab s.root.x,Aa Ab s.root.y,Ad A s.l.length cc] w):=by
 have HAL:=Ae (fun(w':Ag) (hb:Below w.heap.size w w')=>iE m s hm mA mn mc hmn pA pc A cc w' (hrd.below hb) hs hA (hpr.below hb) (hst.below hb) (hQ.below hb) (hT.below hb));have HIN:=Ae (fun(w':Ag) (hb:Below w.heap.size w w')=>(⟨⟨pA,pc,A,cc,rfl,hA,hpr.below hb,hst.below hb⟩⟩:Mq w' [Aa Ab s.a,Aa Ab s.b,Ad pA s.cr.length pc,Aa Ac s.root.t,Aa Ab s.root.x,Aa Ab s.root.y,Ad A s.l.length cc] s));have HGS:=Ae hs;have hn4:=hs.len;have hmo:=Mh.ok_iff.1 hm;have hml:=Yz m m.st s;have H:=(((Bx.start w).new #[Aa Ab m.a,Aa Ab m.b,Aa Ab m.c,Ad mA mn mc] 24 rfl).new #[Aa Ab s.a,Aa Ab s.b,Ad pA s.cr.length pc,Aa Ac s.root.t,Aa Ab s.root.x,Aa Ab s.root.y,Ad A s.l.length cc] 43 (N:=w.heap.size+1) (by simp)).new #[Aa Ab 0,Aa Ab 0,Ad none 0 0,Aa Ac 0,Aa Ab 0,Aa Ab 0,Ad none 0 0] 43 (N:=w.heap.size+1+1) (by simp);unfold Tf at HAL;obtain⟨⟨ss,er⟩,hR⟩:=ey (Em m m.st s);rw[hR]at hml HAL⊢;dsimp only at hml HAL;obtain⟨n,hn⟩:=ey s.l.length;obtain⟨pn,hpn⟩:=ey s.cr.length;rw[hn,hpn]at HAL HIN H⊢;have hm16:=hmo.1;clear hm hmn hrd hs hA hpr hst hQ hT hmo hn hpn hR hn4;go_enter Tryz.func12,Tryz.ntmps12;go_upto_region 1 with fail;obtain⟨N,hN⟩:=ez w.heap.size;rw[←hN]at H⊢;have HNN:=Ae hN;clear hN;obtain⟨P,hP⟩:=ey (N+1);obtain⟨Q,hQ⟩:=ey (P+1);rw[hP,hQ]at H⊢;clear hP hQ;obtain⟨W1,hW1⟩:=ez (((w.alloc (.cells #[Aa Ab m.a,Aa Ab m.b,Aa Ab m.c,Ad mA mn mc] 24)).alloc (.cells #[Aa Ab s.a,Aa Ab s.b,Ad pA pn pc,Aa Ac s.root.t,Aa Ab s.root.x,Aa Ab s.root.y,Ad A n cc] 43)).alloc (.cells #[Aa Ab 0,Aa Ab 0,Ad none 0 0,Aa Ac 0,Aa Ab 0,Aa Ab 0,Ad none 0 0] 43));rw[←hW1]at H⊢;clear hW1;obtain⟨⟨m0,m1,m2,m3⟩,-⟩:=Co (H.blk 0 _ _ _ rfl);obtain⟨a0,a1,a2,a3,a4,a5,a6⟩:=De (H.blk 1 _ _ _ rfl);go_wp2_with fail;refine(HAL.out _ H.below).mono ?_
 rintro ee w2 ⟨A2,c2,zt,rfl,hss,hI,hb⟩;have hW1:w.heap.size≤W1.heap.size:=H.below.size;have hQ1:Q<W1.heap.size:=H.lt 2 rfl;have H2:=H.call hb;clear m0 m1 m2 m3 a0 a1 a2 a3 a4 a5 a6 hb H HAL;obtain⟨t,cs,hl1,hl2,hl3,hl4⟩:=tE (c0:=[Aa Ab s.a,Aa Ab s.b,Ad pA pn pc,Aa Ac s.root.t,Aa Ab s.root.x,Aa Ab s.root.y,Ad A n cc]) hss;obtain⟨g,rfl,-,-,hgW,hcell⟩:=hI.at (s:=s) rfl;have hc:=hcell zt.length (by simp);rw[hl3]at hc;dsimp only at hc;have hzl:zt.length≤16:=by omega
 obtain⟨k,hk⟩:=ey zt.length;rw[hk]at hc hzl hl2⊢;have HL1:=Ae hl1;have HL2:=Ae hl2;have e1:wrap64 (((k+1:Nat):Int)-1)=(k:Int):=by rw[Bw _ (by omega)];omega
 have emx:max (k:Int) 0=(k:Int):=by omega
 have HMX:=fun(x y:Int) (ts:Array TypeId) (t:TypeId) (W:Ag)=>Nu Tryz.prog ts t x y W
 have hgs:Gs t:=by
  rcases hl4 with h|h
  ·injection h with h1 h2;rw[h2];exact HGS.out
  ·exact(hI.st _ h).2.1
 have hkp:((cs,t)=([Aa Ab s.a,Aa Ab s.b,Ad pA pn pc,Aa Ac s.root.t,Aa Ab s.root.x,Aa Ab s.root.y,Ad A n cc],s))∨La W1.heap.size w2 cs t:=by
  rcases hl4 with h|h
  ·exact .inl h
  ·obtain⟨-,-,Q',h3,-⟩:=hI.st _ h;exact .inr h3.kp
 have hin:Mq w2 cs t:=by
  rcases hkp with h|h
  ·injection h with h1 h2;rw[h1,h2];exact HIN.out _ H2.below
  ·exact h.st
 obtain⟨pA3,pc3,A3,cc3,rfl,-,-,-⟩:=hin.held;have r0:=hc 0 _ (by omega) rfl;have r1:=hc 1 _ (by omega) rfl;have r2:=hc 2 _ (by omega) rfl;have r3:=hc 3 _ (by omega) rfl;have r4:=hc 4 _ (by omega) rfl;have r5:=hc 5 _ (by omega) rfl;have r6:=hc 6 _ (by omega) rfl;rw[Nat.add_zero]at r0;obtain⟨z0,z1,z2,z3,z4,z5,z6⟩:=De (H2.blk 2 _ _ _ rfl);obtain⟨y0,y1,y2,y3,y4,y5,y6⟩:=Jm (H2.blk 2 _ _ _ rfl);have q7:(k:Int)<(k:Int)+1:=by omega
 by_cases her:er=0
 ·subst her;have H9:=Ae (H2.put7 2 rfl (Aa Ab t.a) (Aa Ab t.b) (Ad pA3 t.cr.length pc3) (Aa Ac t.root.t) (Aa Ab t.root.x) (Aa Ab t.root.y) (Ad A3 t.l.length cc3))
  have HF:Hid (Xi (ss,0) s [Aa Ab s.a,Aa Ab s.b,Ad pA pn pc,Aa Ac s.root.t,Aa Ab s.root.x,Aa Ab s.root.y,Ad A n cc] w (.returned (.tuple #[.agg #[Aa Ab t.a,Aa Ab t.b,Ad pA3 t.cr.length pc3,Aa Ac t.root.t,Aa Ab t.root.x,Aa Ab t.root.y,Ad A3 t.l.length cc3],Aa Ab (k:Int),Aa Ab 0])) (put7 w2 Q (Aa Ab t.a) (Aa Ab t.b) (Ad pA3 t.cr.length pc3) (Aa Ac t.root.t) (Aa Ab t.root.x) (Aa Ab t.root.y) (Ad A3 t.l.length cc3))):=Ae (by
   have hbz:=H9.out.below;have hhi:Hi W1.heap.size w2 (put7 w2 Q (Aa Ab t.a) (Aa Ab t.b) (Ad pA3 t.cr.length pc3) (Aa Ac t.root.t) (Aa Ab t.root.x) (Aa Ab t.root.y) (Ad A3 t.l.length cc3)):=Hi.put7 hQ1 w2 _ _ _ _ _ _ _;obtain⟨wF,hwF⟩:=ey (put7 w2 Q (Aa Ab t.a) (Aa Ab t.b) (Ad pA3 t.cr.length pc3) (Aa Ac t.root.t) (Aa Ab t.root.x) (Aa Ab t.root.y) (Ad A3 t.l.length cc3));rw[hwF]at hbz hhi⊢;clear hwF;refine⟨hbz,.inr ⟨rfl,t,[Aa Ab t.a,Aa Ab t.b,Ad pA3 t.cr.length pc3,Aa Ac t.root.t,Aa Ab t.root.x,Aa Ab t.root.y,Ad A3 t.l.length cc3],HL1.out,by rw[HL2.out],hgs,?_,?_⟩⟩
   ·rcases hkp with h|h
    ·rw[(Prod.mk.inj h).1,(Prod.mk.inj h).2];exact HIN.out _ hbz
    ·exact(h.go hhi).st
   ·rcases hkp with h|h
    ·exact .inl ⟨(Prod.mk.inj h).1,(Prod.mk.inj h).2⟩
    ·exact .inr ((h.go hhi).base hW1))
  clear hss hl1 hl2 hl3 hl4 hI hkp hin hgs hc hcell H2;go_wp2_with fail;exact Af (Ox (u:=5) (v:=6) rfl rfl (H9.out.range 2 rfl) Tryz.underlying43 rfl (by kernel_rfl)) rfl HF.out
 ·have q8:(er != 0)=true:=by simpa using her
  have H9:=Ae (H2.put7 2 rfl (Aa Ab 0) (Aa Ab 0) (Ad none 0 0) (Aa Ac 0) (Aa Ab 0) (Aa Ab 0) (Ad none 0 0));have HF:Hid (Xi (ss,er) s [Aa Ab s.a,Aa Ab s.b,Ad pA pn pc,Aa Ac s.root.t,Aa Ab s.root.x,Aa Ab s.root.y,Ad A n cc] w (.returned (.tuple #[.agg stZ.toArray,Aa Ab (k:Int),Aa Ab er])) (put7 w2 Q (Aa Ab 0) (Aa Ab 0) (Ad none 0 0) (Aa Ac 0) (Aa Ab 0) (Aa Ab 0) (Ad none 0 0))):=Ae ⟨H9.out.below,.inl ⟨her,by rw[HL2.out]⟩⟩;clear hss hl1 hl2 hl3 hl4 hI hkp hin hgs hc hcell H2 r0 r1 r2 r3 r4 r5 r6;go_wp2_with fail;exact Af (Ox (u:=5) (v:=6) rfl rfl (H9.out.range 2 rfl) Tryz.underlying43 rfl (by kernel_rfl)) rfl HF.out
end Go.Proofs.YteoffhpfcgffcaaGreatDoor
