/- The law SignaturesForme of crimplaw36: for every G, and whichever pages are exchanged and turned, it returns true, where lives does. -/
import Derived.Test.YthpcfeifmdbhnaaGreatDoorQFoi
open Array renaming getElem?_eq_some_iff→Au
open Go renaming Calls→Al,Value→Ak,World→Aj,cell_of_row→By
open Go.IntKind renaming i64→Ab,u8→Ac
open Go.IntWalk renaming i64_in→Ca
open Go.Lib renaming hid→Ah
open Go.RowKit.Below renaming refl→Ag
open Go.Value renaming int→Aa,slice→Ad
open List renaming length_map→Bo,mem_cons→Bk
open Nat renaming le_refl→Am,lt_of_lt_of_le→Bq
open Option renaming none→Ae,some→Af
set_option maxHeartbeats 32000000
set_option maxRecDepth 100000
namespace Go.Proofs.YthpcfeifmdbhnaaGreatDoor
open Go.RowKit
theorem Xb4 {a b G:Nat} {t:St} {m:List Mv} (I:Fk a b 1 1 t m) (ha:1≤a∧a≤8) (hb:1≤b∧b≤4) (s:Mt×Mt) (v:Nat→Int) (hE:fmE (Hj a b s.1) (Hj a b s.2)=0) (hv:∀k,k<2*(a*b)→fmG a s (pgK a m (Do t) k)=v k) (w:Aj) (h:FmA w G a b s) (pA:Option Addr) (pc:Nat) (A:Option Addr) (cc:Nat) (hA:AOk pA t.cr.length pc) (hpr:Rd w pA 3 t.cr.length (crs t.cr)) (hst:Dh w A t.l) (hQ:Qf w) (hT:Tn w):
  Al Tryz.prog 9 #[.agg (fmV G a b),.agg #[Aa Ab t.a,Aa Ab t.b,Ad pA t.cr.length pc,Aa Ac t.root.t,Aa Ab t.root.x,Aa Ab t.root.y,Ad A t.l.length cc]] w λe w'=>Below w.heap.size w w'∧∃g,w.heap.size≤g∧e= .returned (.tuple #[Ad (Af ⟨g,0,Ae⟩) (2*(a*b)) (2*(a*b)),Aa Ab 0])∧w'.heap[g]? =Af (Ms (2*(a*b)) λk=>sgn (pgK a m (Do t) k) (v k)):=by
 have hc:=jE a b t m _ (Rw I ha.2 hb.2) (dY I) (Af ⟨G,0,Ae⟩) (Af ⟨G+b+1,0,Ae⟩) _ _ b b pA pc A cc w (h.inn Ci Ci) hA hpr hst hQ hT;rw[Nl,Nl,Wo,Wo]at hc;have hl:(atF t.l ⟨0,0,0⟩).reverse.length=a*b:=Hs I;refine hc.mono ?_;rintro e w' ⟨h1,h2⟩;rw[hE,hl]at h2;rcases h2 with⟨h0,-⟩|⟨-,h0,-⟩|⟨-,-,g,hg,rfl,hh⟩
 ·exact absurd rfl h0
 ·refine absurd ⟨Va a b _,?_⟩ h0;rw[Qk hb.1,Bo,List.length_range]
 ·refine⟨h1,g,hg,rfl,hh.trans (congrArg Af ?_)⟩;unfold Ms
  congr 2
  apply List.map_congr_left;intro k hk;have hk:=List.mem_range.1 hk;obtain⟨hx,hy⟩:=(Uv I).lt k hk;show Value.int .i64 (sgn (pgK a m (Do t) k) (fmL _ _ (pgK a m (Do t) k)))=_;rw[xS hx hy,hv k hk]
theorem Xa8 {a b G:Nat} (ha:1≤a∧a≤8) (hb:1≤b∧b≤4) (s:Mt×Mt) (hE:fmE (Hj a b s.1) (Hj a b s.2)=0) (w:Aj) (h:FmA w G a b s):
  Al Tryz.prog 14 #[.agg (fmV G a b)] w (Co (Aa Ab 0) w):=by
 have hi:=h.inn Ci Ci;have hc:=Xi (Af ⟨G,0,Ae⟩) (Af ⟨G+b+1,0,Ae⟩) _ _ b b w hi.f hi.b hi.lf hi.lb hi.lk;have e1:(Ut (G+1) a b s.1).map (·.ks)=Hj a b s.1:=Wo _ _ _ _;have e2:(Ut (G+b+2) a b s.2).map (·.ks)=Hj a b s.2:=Wo _ _ _ _;rw[Nl,Nl,e1,e2,hE]at hc;exact hc
theorem Xc3 (p:Pg) (k:Nat):sgn p ((k:Int)+1)≠0:=(Ws p k).1
theorem Xb9 (pg:Nat→Pg) (A B C k:Nat):wtF pg A B C k≠0:=λh=>by
 have:=Xa0 pg A B C k;rw[h]at this;omega
theorem Xa2 (z n:Nat):((z:Int)).tmod (n:Int)=((z%n:Nat):Int):=(Int.ofNat_tmod z n).symm
theorem Xa6 (xw xh xo:Nat) (h1:xw≤255) (h2:xh≤255) (h3:xo≤255) (z0 z1 z2:Nat) (k0:z0≤255) (k1:z1≤255) (k2:z2≤255) (w:Aj) (hQ:Qf w) (hT:Tn w) (hP:Pw w):
  Al Tryz.prog 4 #[.agg #[Aa Ac xw,Aa Ac xh,Aa Ac xo],.agg #[Aa Ac z0,Aa Ac z1,Aa Ac z2]] w (Co (.bool true) w):=by
 have hpw:=Aq9 xw;have hph:=Aq8 xh;have HLV:=Ah (λ(w':Aj) (hb:Below w.heap.size w w')=>gI w' (hQ.below hb) (hT.below hb) (hP.below hb));have HQT:=Ah (λ(w':Aj) (hb:Below w.heap.size w w')=>show Qf w'∧Tn w' from⟨hQ.below hb,hT.below hb⟩);have hgof:=λt hr w' (hb:Below w.heap.size w w')=>dG xw xh xo h1 h2 h3 t hr w' (hQ.below hb) (hT.below hb);unfold Mp at hgof;obtain⟨a,ha⟩:∃z:Nat,2^(xw%4)=z:=⟨_,rfl⟩;obtain⟨b,hb⟩:∃z:Nat,2^(xh%3)=z:=⟨_,rfl⟩;rw[ha,hb]at hgof;rw[ha]at hpw;rw[hb]at hph;obtain⟨t,m,hr,I⟩:=Rh hpw hph (ovG xo);have HG:=Ah (λ(w':Aj) (hb:Below w.heap.size w w')=>hgof t hr w' hb);have ha8:1≤a∧a≤8:=by simp only[Bk,List.not_mem_nil,or_false]at hpw;omega
 have hb8:1≤b∧b≤4:=by simp only[Bk,List.not_mem_nil,or_false]at hph;omega
 have HI:=Ah I;have hsa:=I.G.sa;have hsb:=I.G.sb;obtain⟨ids,hids⟩:=ey (Do t);obtain⟨n,hn⟩:=ey (2*(a*b))
 have hn64:2≤n∧n≤64:=by
  have h1:1*1≤a*b:=Nat.mul_le_mul ha8.1 hb8.1;have h2:a*b≤8*4:=Nat.mul_le_mul ha8.2 hb8.2;omega
 have hlr:2*(atF t.l ⟨0,0,0⟩).reverse.length=n:=by
  have:=Hs I;unfold Do at this;rw[this,hn]
 have hat:(atF t.l ⟨0,0,0⟩).reverse=ids:=hids
 have hpgok:Af9 a b (pgK a m ids) n:=by
  have:=Uv I;rw[hids,hn]at this;exact this
 obtain⟨pg,hpg⟩:=ey (pgK a m ids);have HPG0:=Ah hpg;rw[hpg]at hpgok;have HOK:=Ah hpgok;have HLR:=Ah hlr;have HAT:=Ah hat;have HIDS:=Ah hids;have HN:=Ah hn;have H:=((Bx.start w).new #[Aa Ac xw,Aa Ac xh,Aa Ac xo] 23 rfl).new #[Aa Ac z0,Aa Ac z1,Aa Ac z2] 56 (N:=w.heap.size+1) Cn;clear hpw hph hgof hr ha hb hQ hT hP I hids hn hlr hat hpg hpgok;go_enter Tryz.func4,Tryz.ntmps4;go_upto_region 1 with fail;obtain⟨N,hN⟩:=ez w.heap.size;rw[←hN]at H⊢;have HNN:=Ah hN;clear hN;obtain⟨P,hP⟩:=ey (N+1);rw[hP]at H⊢;clear hP;obtain⟨W1,hW1⟩:=ez ((w.alloc (.cells #[Aa Ac xw,Aa Ac xh,Aa Ac xo] 23)).alloc (.cells #[Aa Ac z0,Aa Ac z1,Aa Ac z2] 56));rw[←hW1]at H⊢;clear hW1;obtain⟨⟨g0,g1,g2⟩,-⟩:=Cv (H.blk 0 _ _ _ rfl);go_wp2_with fail;refine(HG.out W1 H.below).mono ?_;rintro ee w2 ⟨cs,LA,rfl,hkp,-,hb,-⟩;obtain⟨pA,pc,A,cc,rfl,hA,hp,hst⟩:=hkp.st.held;obtain⟨ll,hll⟩:=ey ((hvG (ovG xo) 10 a b 0).length);rw[hll,hsa,hsb];obtain⟨T3,hT3⟩:=ey w2.heap.size;have H2:=(H.call hb).new #[Aa Ab a,Aa Ab b,Ad pA t.cr.length pc,Aa Ac t.root.t,Aa Ab t.root.x,Aa Ab t.root.y,Ad A t.l.length cc] 33 hT3;have HST:=Ah (λ(w':Aj) (hb:Below w2.heap.size w2 w')=>show Rd w' pA 3 t.cr.length (crs t.cr)∧Dh w' A t.l from⟨hp.below hb,hst.below hb⟩);have hb23:Below w2.heap.size w2 (w2.alloc (.cells #[Aa Ab a,Aa Ab b,Ad pA t.cr.length pc,Aa Ac t.root.t,Aa Ab t.root.x,Aa Ab t.root.y,Ad A t.l.length cc] 33)):=(Ag _ _).alloc (Am _) _;clear hkp hp hst hb HG g0 g1 g2 H hll;go_upto_region 2 with fail
 try rw[hT3]
 obtain⟨W3,hW3⟩:=ez (w2.alloc (.cells #[Aa Ab a,Aa Ab b,Ad pA t.cr.length pc,Aa Ac t.root.t,Aa Ab t.root.x,Aa Ab t.root.y,Ad A t.l.length cc] 33));rw[←hW3]at H2 hb23⊢;clear hW3;have HT3:=Ah hT3;clear hT3;obtain⟨s0,s1,s2,s3,s4,s5,s6⟩:=Gb (H2.blk 2 _ _ _ rfl);have hs:=HST.out _ hb23;have hq:=HQT.out _ H2.below;have hof:=Vd a b t m _ (Rw HI.out ha8.2 hb8.2) (dY HI.out) pA pc A cc W3 hA hs.1 hs.2 hq.1 hq.2;rw[hsa,hsb]at hof;have HOF:=Ah hof;clear hof hs hq;go_wp2_with fail;refine HOF.out.mono ?_;rintro ee w5 ⟨hb,G,hG,rfl,hfm⟩;rw[HAT.out]at hfm;have hln2:=HLR.out;rw[HAT.out]at hln2;rw[hln2,HPG0.out]at hfm;have hNG:=H2.lt 0 rfl;have hPG:=H2.lt 1 rfl;have hTG:=H2.lt 2 rfl;have H5:=H2.call hb;have hb25:=hb23.trans (hb.mono hb23.size);obtain⟨T7,hT7⟩:=ey w5.heap.size;have hal:Below w5.heap.size w5 (w5.alloc (.cells (fmV G a b) 39)):=(Ag _ _).alloc (Am _) _;have H6:=H5.new (fmV G a b) 39 hT7;have hfl5:=hfm.lt hb8.1;have hfm6:=hfm.same λj _ hj=>hal.block j Ci;have hb26:=hb25.trans (hal.mono hb25.size)
 have HGG:Hid (N<G∧P<G∧T3<G∧G+2*b+2≤T7∧w.heap.size≤G∧w2.heap.size≤G):=Ah (by
  have h1:=H2.below.size;have h2:=hb23.size;omega)
 clear s0 s1 s2 s3 s4 s5 s6 hb H2 hb23 hfm H5 hb25 hal hfl5 HOF hln2 hNG hPG hTG hG;unfold fmV at H6 hb26 hfm6;unfold fmV;go_upto_region 3 with fail
 try rw[hT7]
 obtain⟨W6,hW6⟩:=ez (w5.alloc (.cells #[Ad (Af ⟨G,0,Ae⟩) b b,Ad (Af ⟨G+b+1,0,Ae⟩) b b] 39));rw[←hW6]at H6 hfm6 hb26⊢;clear hW6;clear hT7;obtain⟨s0,s1,s2,s3,s4,s5,s6⟩:=Gb (H6.blk 2 _ _ _ rfl);have hs:=HST.out _ hb26;have hq:=HQT.out _ H6.below;have hpg:=Nn a b t m _ (Rw HI.out ha8.2 hb8.2) pA pc A cc W6 hA hs.1 hs.2 hq.1 hq.2;rw[hsa,hsb]at hpg;have HPG:=Ah hpg;clear hpg hs hq;go_wp2_with fail;refine HPG.out.mono ?_;rintro ee w7 ⟨hb,pgA0,pgC,rfl,hown⟩;rw[HLR.out,HAT.out]at hown;rw[HLR.out];have H7:=H6.call hb;have hb27:=hb26.trans (hb.mono hb26.size);have hfm7:=hfm6.same λj _ hj=>hb.block j (Bq hj (hfm6.lt hb8.1));have hT7l:=H6.lt 3 rfl
 have HF7:Hid (FoI w w2 [(N,#[Aa Ac xw,Aa Ac xh,Aa Ac xo],23),(P,#[Aa Ac z0,Aa Ac z1,Aa Ac z2],56),(T3,#[Aa Ab a,Aa Ab b,Ad pA t.cr.length pc,Aa Ac t.root.t,Aa Ab t.root.x,Aa Ab t.root.y,Ad A t.l.length cc],33),(T7,#[Ad (Af ⟨G,0,Ae⟩) b b,Ad (Af ⟨G+b+1,0,Ae⟩) b b],39)] W6.heap.size G a b m ids (Ad pgA0 n pgC) n (fmT a pg n) w7):=Ah (by
  obtain⟨e1,e2,e3,e4,e5,e6⟩:=HGG.out;refine⟨H7,hfm7,hown,λq hq=>?_,λi g cs u hi=>?_,λq hq i g cs u hi=>?_,⟨e5,hb8.1,e6⟩,hb27⟩
  ·have:=(hown.lt q hq).1;omega
  ·have:=List.mem_of_getElem? hi;simp only[Bk,Prod.mk.injEq,List.not_mem_nil,or_false]at this;omega
  ·have h1:=(hown.lt q hq).1;have:=List.mem_of_getElem? hi;simp only[Bk,Prod.mk.injEq,List.not_mem_nil,or_false]at this;omega)
 obtain⟨O,hO⟩:=ey W6.heap.size;rw[hO]at HF7;clear s0 s1 s2 s3 s4 s5 s6 hb H6 hb26 hfm6 HPG hO hfm7 hown hb27 hT7l H7;obtain⟨T11,hT11⟩:=ey w7.heap.size;have HF8:=Ah (HF7.out.new #[Aa Ab a] 3 hT11);obtain⟨s0,s1,-⟩:=Gb (HF7.out.bx.blk 2 _ _ _ rfl);go_upto_region 5 with fail
 try rw[hT11]
 obtain⟨W8,hW8⟩:=ez (w7.alloc (.cells #[Aa Ab a] 3));rw[←hW8]at HF8⊢;clear hW8
 have t0:W8.cell? ⟨T11,0,Ae⟩=Af (Aa Ab a):=by
  rw[By _ _ 0 _ _ _ (HF8.out.bx.blk 4 _ _ _ rfl)];rfl
 have q1:((n:Int)==0)=false:=by simp;omega
 have q2:¬(a:Int)<1:=Ci;obtain⟨T12,hT12⟩:=ey W8.heap.size;have HF9:=Ah (HF8.out.new #[.func (.func 12) #[] #[.pointer (Af ⟨T11,0,Ae⟩)]] 57 hT12);clear s0 s1 hT11 HF7;go_upto_region 9 with fail
 try rw[hT12]
 obtain⟨W9,hW9⟩:=ez (W8.alloc (.cells #[.func (.func 12) #[] #[.pointer (Af ⟨T11,0,Ae⟩)]] 57));rw[←hW9]at HF9⊢;clear hW9;clear t0 q2 hT12 HF8;obtain⟨⟨y0,y1,y2⟩,-⟩:=Cv (HF9.out.bx.blk 1 _ _ _ rfl);obtain⟨AA,hAA⟩:=ey (z0%n);obtain⟨BB,hBB⟩:=ey (z1%n);obtain⟨CC,hCC⟩:=ey (z2%n);have hAn:AA<n:=by rw[←hAA];exact Nat.mod_lt _ Ci
 have hBn:BB<n:=by rw[←hBB];exact Nat.mod_lt _ Ci
 have hCn:CC<n:=by rw[←hCC];exact Nat.mod_lt _ Ci
 have c0:Ab.wrap (z0:Int)=(z0:Int):=Ca _ Ci;have c1:Ab.wrap (z1:Int)=(z1:Int):=Ca _ Ci;have c2:Ab.wrap (z2:Int)=(z2:Int):=Ca _ Ci;have r0:(z0:Int).tmod (n:Int)=(AA:Int):=by rw[Xa2,hAA]
 have r1:(z1:Int).tmod (n:Int)=(BB:Int):=by rw[Xa2,hBB]
 have r2:(z2:Int).tmod (n:Int)=(CC:Int):=by rw[Xa2,hCC]
 have u0:(z0:Int)%(n:Int)=(AA:Int):=by rw[←hAA];simp
 have u1:(z1:Int)%(n:Int)=(BB:Int):=by rw[←hBB];simp
 have u2:(z2:Int)%(n:Int)=(CC:Int):=by rw[←hCC];simp
 have v0:Ab.wrap (AA:Int)=(AA:Int):=Ca _ Ci;have v1:Ab.wrap (BB:Int)=(BB:Int):=Ca _ Ci;have v2:Ab.wrap (CC:Int)=(CC:Int):=Ca _ Ci;have HABC:=Ah (And.intro hAn (And.intro hBn hCn));clear hAA hBB hCC hAn hBn hCn;go_wp2
 go_quiet (fail)
 have HF10:=Ah (HF9.out.call (Dg (Ag _ _) nq));obtain⟨W10,hW10⟩:=ez (W9.drewN nq);rw[←hW10]at HF10⊢;clear hW10;clear c0 c1 c2 r0 r1 r2 u0 u1 u2 v0 v1 v2 y0 y1 y2 q1 HF9;have m1:=Yg n Ci;obtain⟨OW,hOW⟩:=ey W10.heap.size;have HF11:=Ah (HF10.out.new (Array.replicate n (Aa Ab 0)) 3 hOW);obtain⟨V,hV⟩:∃f:Nat→Int,f=λk=>sgn (pg k) ((k:Int)+1):=⟨_,rfl⟩;have hOWl:w2.heap.size≤OW:=by rw[←hOW];exact HF10.out.b2.size
 go_upto_region 11 with fail
 try rw[hOW]
 obtain⟨W11,hW11⟩:=ez (W10.alloc (.cells (Array.replicate n (Value.int .i64 0)) 3));rw[←hW11]at HF11⊢;clear hW11;clear m1 hOW HF10;obtain⟨BF,hBF⟩:∃f:Array Ak→List (Nat×Array Ak×TypeId),f=λrow=>[(N,#[Aa Ac xw,Aa Ac xh,Aa Ac xo],23),(P,#[Aa Ac z0,Aa Ac z1,Aa Ac z2],56),(T3,#[Aa Ab a,Aa Ab b,Ad pA t.cr.length pc,Aa Ac t.root.t,Aa Ab t.root.x,Aa Ab t.root.y,Ad A t.l.length cc],33),(T7,#[Ad (Af ⟨G,0,Ae⟩) b b,Ad (Af ⟨G+b+1,0,Ae⟩) b b],39),(T11,#[Aa Ab a],3),(T12,#[.func (.func 12) #[] #[.pointer (Af ⟨T11,0,Ae⟩)]],57),(OW,row,3)]:=⟨_,rfl⟩
 have hf11:FoI w w2 (BF (Yw n (Tl V 0))) O G a b m ids (Ad pgA0 n pgC) n (fmT a pg n) W11:=by
  rw[hBF,←uW];exact HF11.out
 have HI0:=Ah hf11
 have HFI:Hid (∀row s wr,FoI w w2 (BF row) O G a b m ids (Ad pgA0 n pgC) n s wr→wr.cell? ⟨T11,0,Ae⟩=Af (Aa Ab a)∧T11<wr.heap.size∧wr.cell? ⟨T12,0,Ae⟩=Af (.func (.func 12) #[] #[.pointer (Af ⟨T11,0,Ae⟩)])∧wr.cell? ⟨T7,0,Ae⟩=Af (Ad (Af ⟨G,0,Ae⟩) b b)∧wr.cell? ⟨T7,1,Ae⟩=Af (Ad (Af ⟨G+b+1,0,Ae⟩) b b)∧wr.heap[OW]? =Af (Obj.cells row 3 (0,0))):=Ah λrow s wr h=>by
  subst hBF;obtain⟨⟨f0,f1⟩,-⟩:=Cy (h.bx.blk 3 _ _ _ rfl);refine⟨?_,h.bx.lt 4 rfl,?_,f0,f1,h.bx.blk 6 _ _ _ rfl⟩
  ·rw[By _ _ 0 _ _ _ (h.bx.blk 4 _ _ _ rfl)];rfl
  ·rw[By _ _ 0 _ _ _ (h.bx.blk 5 _ _ _ rfl)];rfl
 have HSS:Hid (∀row s wr,FoI w w2 (BF row) O G a b m ids (Ad pgA0 n pgC) n s wr→wr.cell? ⟨T3,0,Ae⟩=Af (Aa Ab a)∧wr.cell? ⟨T3,1,Ae⟩=Af (Aa Ab b)∧wr.cell? ⟨T3,2,Ae⟩=Af (Ad pA t.cr.length pc)∧wr.cell? ⟨T3,3,Ae⟩=Af (Aa Ac t.root.t)∧wr.cell? ⟨T3,4,Ae⟩=Af (Aa Ab t.root.x)∧wr.cell? ⟨T3,5,Ae⟩=Af (Aa Ab t.root.y)∧wr.cell? ⟨T3,6,Ae⟩=Af (Ad A t.l.length cc)):=Ah λrow s wr h=>by
  subst hBF;exact Gb (h.bx.blk 2 _ _ _ rfl)
 have HFS:Hid (∀row s wr k v,FoI w w2 (BF row) O G a b m ids (Ad pgA0 n pgC) n s wr→FoI w w2 (BF (row.setIfInBounds k v)) O G a b m ids (Ad pgA0 n pgC) n s (wr.setCell ⟨OW,k,Ae⟩ v)):=Ah λrow s wr k v h=>by
  subst hBF;exact h.set 6 k rfl hOWl v
 have HVV:Hid (∀k,V k=sgn (pg k) ((k:Int)+1)):=Ah λk=>by rw[hV]
 have HVF:Hid (∀k,k<n→fmG a (fmT a pg n) (pg k)=V k):=Ah λk hk=>by
  rw[hV];exact Xj HOK.out n (Am _) k hk
 have HNI:Hid (n=2*ids.length):=Ah (by
  have h1:=HLR.out;rw[HAT.out]at h1;exact h1.symm)
 obtain⟨s0,hs0⟩:=ey (fmT a pg n);rw[hs0]at HI0 HVF;clear HF11 hf11 hBF hV hs0;go_wp2
 go_loopw [18] (λs18 wr=>∃k:Nat,k≤n∧s18= Aa Ab k∧Hid (FoI w w2 (BF (Yw n (Tl V k))) O G a b m ids (Ad pgA0 n pgC) n s0 wr)) (λs18 _=>n-(intOf s18).toNat)
 case atStart=>exact⟨0,Ci,rfl,HI0⟩
 obtain⟨k,hk,rfl,HZ⟩:=hrel;clear HI0;by_cases hlt:k<n
 ·have q0:(k:Int)<(n:Int):=Ci;obtain⟨b0,o0,hpA,hb0,c0,c1,c2,c3⟩:=bI HNI.out (Rd.of_own HZ.out.ow) k hlt;obtain⟨hx,hy⟩:=HOK.out.lt k hlt;have hvf:=HVF.out k hlt;rw[HPG0.out]at c0 c1 c2 c3;obtain⟨⟨px,py,pbk,pdn⟩,hp⟩:=ey (pg k);rw[hp]at c0 c1 c2 c3 hx hy hvf;dsimp only at c0 c1 c2 c3 hx hy;obtain⟨d0,d1,d2,d3,d4,d5⟩:=HFI.out _ _ _ HZ.out;have hset:=Xa4 G a b T11 T12 T7 s0 ⟨px,py,pbk,pdn⟩ 0 hx hy Ci hb8.1 wr d0 d1 d2 d3 d4 HZ.out.fm;rw[hvf]at hset;dsimp only at hset;obtain⟨v,hv⟩:=ey (V k);rw[hv]at hset;have HSET:=Ah hset;have HV:=Ah hv;have HLT:=Ah hlt;subst hpA;clear hset hv hlt d0 d1 d2 d3 d4 d5 hp hvf hx hy;go_wp2_with fail;refine HSET.out.mono ?_;rintro ee w9 ⟨rfl,wq,hb,h0,-⟩;obtain rfl:=h0 rfl;have hz2:=HZ.out.call hb;obtain⟨-,-,-,-,-,d5⟩:=HFI.out _ _ _ hz2;obtain⟨e0,e1⟩:=bK d5 HLT.out;have hz3:=HFS.out _ _ _ k (Aa Ab v) hz2;rw[Tg,←HV.out,vE,HV.out]at hz3;have HZ3:=Ah hz3;clear hz2 hz3 d5 hb h0 HZ HSET c0 c1 c2 c3 HFI HFS HSS HVV HVF
  as_aux_lemma=>
  go_wp2;exact⟨⟨k+1,Nat.succ_le_of_lt HLT.out,Cn,HZ3⟩,Tk HLT.out⟩
 ·obtain rfl:k=n:=Ci;have q0:¬(k:Int)<(k:Int):=Ci;obtain⟨WY,rfl⟩:=ez wr;have hz:=HZ.out;rw[Xa5]at hz;obtain⟨-,-,-,-,-,d5⟩:=HFI.out _ _ _ hz;obtain⟨hAn,hBn,hCn⟩:=HABC.out;obtain⟨e0,e1⟩:=bK d5 hAn;obtain⟨e2,e3⟩:=bK d5 hBn;have i0:(AA:Int)<(k:Int):=Ci;have i1:(BB:Int)<(k:Int):=Ci;have i2:(CC:Int)<(k:Int):=Ci;have hz2:=HFS.out _ _ _ BB (Aa Ab (V AA)) (HFS.out _ _ _ AA (Aa Ab (V BB)) hz);have hz1:=HFS.out _ _ _ AA (Aa Ab (V BB)) hz;rw[Tg]at hz1;obtain⟨-,-,-,-,-,d6⟩:=HFI.out _ _ _ hz1;obtain⟨e4,e5⟩:=bK d6 hBn
  have e4:(WY.setCell ⟨OW,AA,Ae⟩ (Aa Ab (V BB))).cell? ⟨OW,BB,Ae⟩=Af (Aa Ab (V BB)):=by
   rw[e4]
   split<;>rfl
  rw[Xb5]at hz2;have HZ2:=Ah (hz2.call (Ag _ _).drew);have HZ0:=Ah HZ.out.bx.below;obtain⟨va,hva⟩:=ey (V AA);obtain⟨vb,hvb⟩:=ey (V BB);rw[hva]at e0 HZ2;rw[hvb]at e2 e4 e5 HZ2;have HVA:=Ah (And.intro hva hvb);clear hz hz1 hz2 d5 d6 hAn hBn hCn hva hvb HZ;go_wp2
  go_region
  obtain⟨W12,hW12⟩:=ez (((WY.setCell ⟨OW,AA,Ae⟩ (Aa Ab vb)).setCell ⟨OW,BB,Ae⟩ (Aa Ab va)).drew);rw[←hW12]at HZ2⊢;clear e0 e1 e2 e3 e4 e5 i0 i1 hW12;obtain⟨-,-,-,-,-,d5⟩:=HFI.out _ _ _ HZ2.out;obtain⟨e0,e1⟩:=bK d5 HABC.out.2.2
  have hsw:(swF AA BB V CC).natAbs≤64:=by
   have h1:=(Ws (pg (swK AA BB CC)) (swK AA BB CC)).2;have h2:swK AA BB CC<k:=Xb0 HABC.out.1 HABC.out.2.1 HABC.out.2.2;rw[Xb2,HVV.out,h1];omega
  have hz3:=HFS.out _ _ _ CC (Aa Ab (-(swF AA BB V CC))) HZ2.out;rw[Xb3]at hz3
  have hwt:ngF CC (swF AA BB V)=wtF pg AA BB CC:=by
   unfold wtF
   congr 2
   funext j
   exact HVV.out j
  rw[hwt]at hz3;have HZ3:=Ah hz3;obtain⟨u,hu⟩:=ey (swF AA BB V CC);rw[hu]at e0 HZ3 hsw;have en:Ab.wrap (-u)= -u:=Ca _ Ci;clear hz3 hwt hu hsw d5 HZ2;go_upto_region 17 with fail;obtain⟨W13,hW13⟩:=ez (W12.setCell ⟨OW,CC,Ae⟩ (Aa Ab (-u)));rw[←hW13]at HZ3⊢;clear hW13;clear e0 e1 en i2 q0;obtain⟨WT,hWT⟩:=ey (wtF pg AA BB CC)
  have HE0:Hid (fmE (Hj a b (fmU a pg WT s0 k).1) (Hj a b (fmU a pg WT s0 k).2)=0):=Ah (by
   rw[←hWT];exact Xc0 ha8.1 hb8.1 HOK.out HN.out.symm HABC.out.1 HABC.out.2.1)
  have HEV:Hid (∀j,j<k→fmG a (fmU a pg WT s0 k) (pg j)=WT j):=Ah λj hj=>Xa3 HOK.out WT s0 k (Am _) j hj
  have HNE:Hid (∀j,WT j≠0∧(WT j).natAbs≤j+65):=Ah λj=>by
   rw[←hWT];refine⟨Xb9 _ _ _ _ _,?_⟩;rw[Xa0];unfold swK;have:=HABC.out
   split
   ·omega
   ·split
    ·omega
    ·omega
  rw[hWT]at HZ3;have hz4:FoI w w2 (BF (Yw k WT)) O G a b m ids (Ad pgA0 k pgC) k (fmU a pg WT s0 0) W13:=HZ3.out;have HI4:=Ah hz4;clear hWT HVV HVF HVA hz4 HZ3 HZ0;go_wp2
  go_loopw [19] (λs19 wr=>∃j:Nat,j≤k∧s19= Aa Ab j∧Hid (FoI w w2 (BF (Yw k WT)) O G a b m ids (Ad pgA0 k pgC) k (fmU a pg WT s0 j) wr)) (λs19 _=>k-(intOf s19).toNat)
  case atStart=>exact⟨0,Ci,rfl,HI4⟩
  obtain⟨j,hj,rfl,HZ⟩:=hrel;clear HI4;by_cases hlt:j<k
  ·have q0:(j:Int)<(k:Int):=Ci;obtain⟨b0,o0,hpA,hb0,c0,c1,c2,c3⟩:=bI HNI.out (Rd.of_own HZ.out.ow) j hlt;obtain⟨hx,hy⟩:=HOK.out.lt j hlt;rw[HPG0.out]at c0 c1 c2 c3;have hstep:fmS a (fmU a pg WT s0 j) (pg j) (WT j)=fmU a pg WT s0 (j+1):=rfl;obtain⟨⟨px,py,pbk,pdn⟩,hp⟩:=ey (pg j);rw[hp]at c0 c1 c2 c3 hx hy hstep;dsimp only at c0 c1 c2 c3 hx hy;have hz:=HZ.out.call (Ag _ _).drew;obtain⟨d0,d1,d2,d3,d4,-⟩:=HFI.out _ _ _ hz;obtain⟨-,-,-,-,-,d5⟩:=HFI.out _ _ _ HZ.out;obtain⟨e0,-⟩:=bK d5 hlt;obtain⟨v,hv⟩:=ey (WT j);rw[hv]at e0 hstep;have hset:=Xa4 G a b T11 T12 T7 _ ⟨px,py,pbk,pdn⟩ v hx hy Ci hb8.1 wr.drew d0 d1 d2 d3 d4 hz.fm;dsimp only at hset;have hvn:v≠0:=by rw[←hv];exact(HNE.out j).1
   have HREL:Hid (∀wx,Below wr.drew.heap.size wr.drew wx→FoI w w2 (BF (Yw k WT)) O G a b m ids (Ad pgA0 k pgC) k (fmU a pg WT s0 (j+1)) (wx.setCell ⟨(fmP G a b ⟨px,py,pbk,pdn⟩).1,(fmP G a b ⟨px,py,pbk,pdn⟩).2,Ae⟩ (Aa Ab v))):=Ah λwx hb=>by
    rw[←hstep];exact(hz.call hb).put hy v
   have HSET:=Ah hset;have HLT:=Ah hlt;have HVN:=Ah hvn;subst hpA;clear hset hv hlt d0 d1 d2 d3 d4 d5 hp hx hy hstep hz hvn HNE HEV HE0 HFS HSS HFI HZ;go_wp2
   go_still_tail 9,Cm
   change wpList _ _ _ _ _ wr.drew;go_wp2_with fail;refine HSET.out.mono ?_;rintro ee w9 ⟨rfl,wq,hb,-,h1⟩;obtain rfl:=h1 HVN.out;have HZ3:=Ah (HREL.out _ hb);clear HREL HSET hb h1 c0 c1 c2 c3 e0
   as_aux_lemma=>
   go_wp2;exact⟨⟨j+1,Nat.succ_le_of_lt HLT.out,Cn,HZ3⟩,Tk HLT.out⟩
  ·obtain rfl:j=k:=Ci;have q0:¬(j:Int)<(j:Int):=Ci;obtain⟨WZ,rfl⟩:=ez wr;obtain⟨s1,hs1⟩:=ey (fmU a pg WT s0 j);rw[hs1]at HZ HE0 HEV;obtain⟨-,-,-,d3,d4,-⟩:=HFI.out _ _ _ HZ.out;obtain⟨f0,f1,f2,f3,f4,f5,f6⟩:=HSS.out _ _ _ HZ.out;have hs:=HST.out _ HZ.out.b2;have hq:=HQT.out _ HZ.out.bx.below;have hrd:=Xb4 HI.out ha8 hb8 s1 WT HE0.out (by rw[HIDS.out,HPG0.out,HN.out];exact HEV.out) WZ HZ.out.fm pA pc A cc hA hs.1 hs.2 hq.1 hq.2;rw[HIDS.out,HPG0.out,HN.out,hsa,hsb]at hrd;unfold fmV at hrd;have HRD:=Ah hrd;clear hrd hs hq hs1;go_wp2_with fail;refine HRD.out.mono ?_;rintro ee w14 ⟨hb,g,hg,rfl,hgb⟩;have hz:=HZ.out.call hb;have hck:=Xa8 ha8 hb8 s1 HE0.out w14 hz.fm;unfold fmV at hck;have HCK:=Ah hck
   have HGO:Hid (OW<g):=Ah (by
    obtain⟨-,-,-,-,-,d5⟩:=HFI.out _ _ _ HZ.out;have:=(Au.1 d5).1;omega)
   have HZ4:=Ah hz;have HGB:=Ah hgb;clear d3 d4 f0 f1 f2 f3 f4 f5 f6 HRD hck hz hb hg hgb HZ HE0 HEV;obtain⟨-,-,-,d3,d4,-⟩:=HFI.out _ _ _ HZ4.out;go_wp2_with fail;refine HCK.out.mono ?_;rintro ee w15 ⟨rfl,hb⟩;have hgl:=(Au.1 HGB.out).1;obtain⟨R,hR⟩:∃f:Nat→Int,f=λi=>sgn (pg i) (WT i):=⟨_,rfl⟩;have HRR:Hid (∀i,R i=sgn (pg i) (WT i)):=Ah λi=>by rw[hR]
   have HI5:Hid (FoI w w2 (BF (Yw j (dnF pg WT 0))) O G a b m ids (Ad pgA0 j pgC) j s1 w15∧w15.heap[g]? =Af (Ms j R)):=Ah (by
    rw[Xa9,hR];exact⟨HZ4.out.call hb,(hb.block g hgl).trans HGB.out⟩)
   have q1:((j:Int) != (j:Int))=false:=Cn;clear d3 d4 HCK HZ4 HGB hb hgl hR HSS;go_upto_region 24 with fail;clear q0 q1;go_wp2
   go_loopw [22] (λs22 wr=>∃i:Nat,i≤j∧s22= Aa Ab i∧Hid (FoI w w2 (BF (Yw j (dnF pg WT i))) O G a b m ids (Ad pgA0 j pgC) j s1 wr∧wr.heap[g]? =Af (Ms j R))) (λs22 _=>j-(intOf s22).toNat)
   case atStart=>exact⟨0,Ci,rfl,HI5⟩
   obtain⟨i,hi,rfl,HZ⟩:=hrel;clear HI5;by_cases hlt:i<j
   ·have q0:(i:Int)<(j:Int):=Ci;obtain⟨b0,o0,hpA,hb0,c0,c1,c2,c3⟩:=bI HNI.out (Rd.of_own HZ.out.1.ow) i hlt;rw[HPG0.out]at c3;obtain⟨pdn,hpd⟩:=ey ((pg i).dn);rw[hpd]at c3;obtain⟨-,-,-,-,-,d5⟩:=HFI.out _ _ _ HZ.out.1;obtain⟨e0,e1⟩:=bK d5 hlt;obtain⟨e2,-⟩:=Lr HZ.out.2 hlt
    have hw0:dnF pg WT i i=WT i:=by
     unfold dnF;rw[if_neg Ci]
    have hnx:=Xb1 pg WT i;have hRi:=HRR.out i;have hwn:=(HNE.out i).2;rw[hw0]at e0;obtain⟨v,hv⟩:=ey (WT i);rw[hv]at e0 hnx hRi hwn;have HLT:=Ah hlt;have HHZ:=Ah HZ.out;subst hpA
    cases pdn with
    |false=>
     have hs:sgn (pg i) v=v:=by unfold sgn;rw[hpd];rfl
     rw[hs]at hnx hRi;rw[hRi]at e2
     have hrow:Yw j (dnF pg WT i)=Yw j (dnF pg WT (i+1)):=by
      rw[←hnx]
      congr 1
      funext x
      by_cases e:x=i
      ·subst e;rw[if_pos rfl,hw0,hv]
      ·rw[if_neg e]
     have HZ5:Hid (FoI w w2 (BF (Yw j (dnF pg WT (i+1)))) O G a b m ids (Ad (Af ⟨b0,o0,Ae⟩) j pgC) j s1 wr∧wr.heap[g]? =Af (Ms j R)):=Ah (by
      rw[←hrow];exact HHZ.out)
     have qv:(v != v)=false:=Cn;clear c0 c1 c2 hb0 hpd hw0 hnx hRi hwn hv hs hrow HHZ HZ d5 hlt HFI HFS HRR HNE
     as_aux_lemma=>
     go_wp2
     go_quiet (fail)
     have HZ6:Hid (FoI w w2 (BF (Yw j (dnF pg WT (i+1)))) O G a b m ids (Ad (Af ⟨b0,o0,Ae⟩) j pgC) j s1 (wr.drewN nq)∧(wr.drewN nq).heap[g]? =Af (Ms j R)):=Ah ⟨HZ5.out.1.call (Dg (Ag _ _) nq),HZ5.out.2⟩;go_wp2;exact⟨⟨i+1,Nat.succ_le_of_lt HLT.out,Cn,HZ6⟩,Tk HLT.out⟩
    |true=>
     have hs:sgn (pg i) v= -v:=by unfold sgn;rw[hpd];rfl
     rw[hs]at hnx hRi;rw[hRi]at e2;have en:Ab.wrap (-v)= -v:=Ca _ Ci;have hz5:=HFS.out _ _ _ i (Aa Ab (-v)) HHZ.out.1;rw[Tg,hnx]at hz5;have hg5:(wr.setCell ⟨OW,i,Ae⟩ (Aa Ab (-v))).heap[g]? =Af (Ms j R):=(Db (by have:=HGO.out;omega)).trans HHZ.out.2;obtain⟨-,-,-,-,-,d6⟩:=HFI.out _ _ _ hz5;obtain⟨e3,-⟩:=bK d6 HLT.out;obtain⟨e4,-⟩:=Lr hg5 HLT.out
     have hdi:dnF pg WT (i+1) i= -v:=by
      rw[←hnx];exact if_pos rfl
     rw[hdi]at e3;rw[hRi]at e4;have HZ5:=Ah (And.intro hz5 hg5);have qv:(-v != -v)=false:=Cn;clear c0 c1 c2 hb0 hpd hw0 hnx hRi hwn hv hs hz5 hg5 hdi HHZ HZ d5 d6 hlt HFI HFS HRR HNE
     as_aux_lemma=>
     go_wp2
     go_quiet (fail)
     have HZ6:Hid (FoI w w2 (BF (Yw j (dnF pg WT (i+1)))) O G a b m ids (Ad (Af ⟨b0,o0,Ae⟩) j pgC) j s1 ((wr.setCell ⟨OW,i,Ae⟩ (Aa Ab (-v))).drewN nq)∧((wr.setCell ⟨OW,i,Ae⟩ (Aa Ab (-v))).drewN nq).heap[g]? =Af (Ms j R)):=Ah ⟨HZ5.out.1.call (Dg (Ag _ _) nq),HZ5.out.2⟩;go_wp2;exact⟨⟨i+1,Nat.succ_le_of_lt HLT.out,Cn,HZ6⟩,Tk HLT.out⟩
   ·obtain rfl:i=j:=Ci;have q0:¬(i:Int)<(i:Int):=Ci;have HBF:=Ah HZ.out.1.bx.below;have HL:=Ah (HLV.out _ HBF.out);clear HLV HZ HFI HFS HRR HNE
    as_aux_lemma=>
    go_wp2_with fail;refine HL.out.mono ?_;rintro ee w16 ⟨rfl,hb⟩;have HF:=Ah (HBF.out.trans (hb.mono HBF.out.size));clear hb;go_wp2;go_ret;exact⟨rfl,HF.out⟩
end Go.Proofs.YthpcfeifmdbhnaaGreatDoor
