import Derived.Test.YthpcfeifmdbhnaaGreatDoorQLrp
open Go renaming Calls→Al,World→Aj
open Go.IntKind renaming i64→Ab,u8→Ac
open Go.IntWalk renaming i64_in→Ca,wrap64_in→Cb
open Go.Lib renaming hid→Ah
open Go.RowKit.Below renaming refl→Ag
open Go.Value renaming int→Aa,slice→Ad
open List renaming mem_cons→Bk
open Nat renaming le_refl→Am,lt_of_lt_of_le→Bq
open Option renaming none→Ae,some→Af
set_option maxHeartbeats 32000000
set_option maxRecDepth 100000
namespace Go.Proofs.YthpcfeifmdbhnaaGreatDoor
open Go.RowKit
theorem Ak4 {a b ab n nl:Nat} (ha:1≤a∧a≤8) (_:1≤b∧b≤4) (hab:(a:Int)*(b:Int)=(ab:Int)) (hn:2*ab=n) (hl:2^nl=ab) (h32:ab≤32):
  Ab.wrap (2*(a:Int))=2*(a:Int)∧Ab.wrap (2*(a:Int)*(b:Int))=(n:Int)∧Ab.wrap ((a:Int)*(b:Int))=(ab:Int)∧(wrap64 ((2:Int)^nl) != (ab:Int))=false∧nl<64:=by
 have e:2*(a:Int)*(b:Int)=(n:Int):=by
  rw[Int.mul_assoc,hab];omega
 have e2:(2:Int)^nl=(ab:Int):=by rw[←hl];simp
 refine⟨Ca _ Ci,?_,?_,?_,?_⟩
 ·rw[e];exact Ca _ Ci
 ·rw[hab];exact Ca _ Ci
 ·rw[e2,Cb _ Ci];simp
 ·rcases Nat.lt_or_ge nl 64 with h|h
  ·exact h
  ·exfalso;have:2^64≤2^nl:=Nat.pow_le_pow_right Ct h;omega
theorem yW {n k k1:Nat} (h:k<n) (e:k+1=k1):k1≤n:=Ci
theorem Ak3 {n k k1:Nat} (h:k<n) (e:k+2=k1) (hn:n%2=0) (hk:k%2=0):k1≤n:=Ci
theorem Av7 {k k1:Nat} (hk:k%2=0) (e:k+2=k1):k1%2=0:=Ci
theorem tS {n k k1:Nat} (h:k<n) (e:k+2=k1):n-(intOf (Aa Ab (k1:Int))).toNat<n-(intOf (Aa Ab (k:Int))).toNat:=by
 show n-k1<n-k;omega
theorem gK {n k k1:Nat} (h:k<n) (e:k+1=k1):n-(intOf (Aa Ab (k1:Int))).toNat<n-(intOf (Aa Ab (k:Int))).toNat:=by
 subst e;simpa using Xm h
theorem tT (xw xh xo:Nat) (h1:xw≤255) (h2:xh≤255) (h3:xo≤255) (w:Aj) (hQ:Qf w) (hT:Tn w) (hP:Pw w):
  Al Tryz.prog 3 #[.agg #[Aa Ac xw,Aa Ac xh,Aa Ac xo]] w (Co (.bool true) w):=by
 have hpw:=Aq9 xw;have hph:=Aq8 xh;have hfl:=qA hpw hph (ovG xo);have HLV:=Ah (λ(w':Aj) (hb:Below w.heap.size w w')=>gI w' (hQ.below hb) (hT.below hb) (hP.below hb));have HQT:=Ah (λ(w':Aj) (hb:Below w.heap.size w w')=>show Qf w'∧Tn w' from⟨hQ.below hb,hT.below hb⟩);have hgof:=λt hr w' (hb:Below w.heap.size w w')=>dG xw xh xo h1 h2 h3 t hr w' (hQ.below hb) (hT.below hb);unfold Mp at hgof;obtain⟨a,ha⟩:∃z:Nat,2^(xw%4)=z:=⟨_,rfl⟩;obtain⟨b,hb⟩:∃z:Nat,2^(xh%3)=z:=⟨_,rfl⟩;rw[ha,hb]at hgof hfl;rw[ha]at hpw;rw[hb]at hph;obtain⟨t,m,hr,I⟩:=Rh hpw hph (ovG xo);have HG:=Ah (λ(w':Aj) (hb:Below w.heap.size w w')=>hgof t hr w' hb);have ha8:1≤a∧a≤8:=by simp only[Bk,List.not_mem_nil,or_false]at hpw;omega
 have hb8:1≤b∧b≤4:=by simp only[Bk,List.not_mem_nil,or_false]at hph;omega
 obtain⟨l,hl⟩:=ey (hvG (ovG xo) 10 a b 0);rw[hl]at hfl HG;obtain⟨nl,hnl⟩:=ey l.length;rw[hnl]at hfl;have HNL:=Ah hnl;have HI:=Ah I;have hsa:=I.G.sa;have hsb:=I.G.sb;obtain⟨ids,hids⟩:=ey (Do t);obtain⟨ab,hab⟩:=ey (a*b);have habi:(a:Int)*(b:Int)=(ab:Int):=by rw[←hab];simp
 have hab32:1≤ab∧ab≤32:=by
  rw[←hab];exact⟨Nat.mul_le_mul ha8.1 hb8.1,Nat.mul_le_mul ha8.2 hb8.2⟩
 rw[hab]at hfl;have HAB:=Ah hab;have H:=(Bx.start w).new #[Aa Ac xw,Aa Ac xh,Aa Ac xo] 23 rfl;clear hpw hph hgof hr ha hb hQ hT hP hl hnl I hab;go_enter Tryz.func3,Tryz.ntmps3;go_upto_region 1 with fail;obtain⟨N,hN⟩:=ez w.heap.size;rw[←hN]at H⊢;have HNN:=Ah hN;clear hN;obtain⟨W1,hW1⟩:=ez (w.alloc (.cells #[Aa Ac xw,Aa Ac xh,Aa Ac xo] 23));rw[←hW1]at H⊢;clear hW1;obtain⟨⟨g0,g1,g2⟩,-⟩:=Cv (H.blk 0 _ _ _ rfl);go_wp2_with fail;refine(HG.out W1 H.below).mono ?_;rintro ee w2 ⟨cs,LA,rfl,hkp,-,hb,-⟩;obtain⟨pA,pc,A,cc,rfl,hA,hp,hst⟩:=hkp.st.held;rw[HNL.out,hsa,hsb];obtain⟨T3,hT3⟩:=ey w2.heap.size;have H2:=(H.call hb).new #[Aa Ab a,Aa Ab b,Ad pA t.cr.length pc,Aa Ac t.root.t,Aa Ab t.root.x,Aa Ab t.root.y,Ad A t.l.length cc] 33 hT3;have HST:=Ah (λ(w':Aj) (hb:Below w2.heap.size w2 w')=>show Rd w' pA 3 t.cr.length (crs t.cr)∧Dh w' A t.l from⟨hp.below hb,hst.below hb⟩);have hb23:Below w2.heap.size w2 (w2.alloc (.cells #[Aa Ab a,Aa Ab b,Ad pA t.cr.length pc,Aa Ac t.root.t,Aa Ab t.root.x,Aa Ab t.root.y,Ad A t.l.length cc] 33)):=(Ag _ _).alloc (Am _) _;clear hkp hp hst hb HG g0 g1 g2 H;go_upto_region 2 with fail
 try rw[hT3]
 obtain⟨W3,hW3⟩:=ez (w2.alloc (.cells #[Aa Ab a,Aa Ab b,Ad pA t.cr.length pc,Aa Ac t.root.t,Aa Ab t.root.x,Aa Ab t.root.y,Ad A t.l.length cc] 33));rw[←hW3]at H2 hb23⊢;clear hW3;clear hT3;obtain⟨s0,s1,s2,s3,s4,s5,s6⟩:=Gb (H2.blk 1 _ _ _ rfl)
 go_quiet (fail)
 have H3:=H2.drewN nq;have hb24:=hb23.trans (Dg (Ag _ W3) nq|>.mono hb23.size);obtain⟨W4,hW4⟩:=ez (W3.drewN nq);rw[←hW4]at H3 hb24⊢;clear hW4;clear s0 s1 s2 s3 s4 s5 s6 H2 hb23;obtain⟨s0,s1,s2,s3,s4,s5,s6⟩:=Gb (H3.blk 1 _ _ _ rfl);have hs:=HST.out _ hb24;have hq:=HQT.out _ H3.below;have hof:=Vd a b t m _ (Rw HI.out ha8.2 hb8.2) (dY HI.out) pA pc A cc W4 hA hs.1 hs.2 hq.1 hq.2;rw[hsa,hsb]at hof;have HOF:=Ah hof;clear hof hs hq;go_wp2_with fail;refine HOF.out.mono ?_;rintro ee w5 ⟨hb,G,hG,rfl,hfm⟩;have hfm:FmA w5 G a b (fmT a (pgK a m ids) (2*ids.length)):=by rw[←hids];exact hfm
 have H5:=H3.call hb;have hb25:=hb24.trans (hb.mono hb24.size);obtain⟨T7,hT7⟩:=ey w5.heap.size;have hal:Below w5.heap.size w5 (w5.alloc (.cells (fmV G a b) 39)):=(Ag _ _).alloc (Am _) _;have H6:=H5.new (fmV G a b) 39 hT7;have hfl5:=hfm.lt hb8.1;have hfm6:=hfm.same λj _ hj=>hal.block j Ci;have hb26:=hb25.trans (hal.mono hb25.size);clear s0 s1 s2 s3 s4 s5 s6 hb H3 hb24 hfm H5 hb25 hal hfl5 HOF;unfold fmV at H6 hfm6 hb26;unfold fmV;go_upto_region 4 with fail
 try rw[hT7]
 obtain⟨W6,hW6⟩:=ez (w5.alloc (.cells #[Ad (Af ⟨G,0,Ae⟩) b b,Ad (Af ⟨G+b+1,0,Ae⟩) b b] 39));rw[←hW6]at H6 hfm6 hb26⊢;clear hW6;clear hT7;obtain⟨s0,s1,s2,s3,s4,s5,s6⟩:=Gb (H6.blk 1 _ _ _ rfl);have hs:=HST.out _ hb26;have hq:=HQT.out _ H6.below;have hpg:=Nn a b t m _ (Rw HI.out ha8.2 hb8.2) pA pc A cc W6 hA hs.1 hs.2 hq.1 hq.2;rw[hsa,hsb]at hpg;have HPG:=Ah hpg;clear hpg hs hq;go_wp2_with fail;refine HPG.out.mono ?_;rintro ee w7 ⟨hb,pgA0,pgC,rfl,hown⟩;obtain⟨n,hn⟩:=ey (2*ab)
 have hlr:2*(atF t.l ⟨0,0,0⟩).reverse.length=n:=by
  have:=Hs HI.out;unfold Do at this;rw[this,HAB.out,hn]
 have hnl2:n=2*ids.length:=by rw[←hids];exact hlr.symm
 have hat:(atF t.l ⟨0,0,0⟩).reverse=ids:=hids;rw[hlr,hat]at hown;rw[hlr];have HN2:=Ah hnl2;have H7:=H6.call hb;have hb27:=hb26.trans (hb.mono hb26.size);have hfm7:=hfm6.same λj _ hj=>hb.block j (Bq hj (hfm6.lt hb8.1));obtain⟨O,hO⟩:=ey W6.heap.size;rw[hO]at hown;clear s0 s1 s2 s3 s4 s5 s6 hb H6 hb26 hfm6 HPG hO hlr hnl2 hat;obtain⟨s0,s1,s2,s3,s4,s5,s6⟩:=Gb (H7.blk 1 _ _ _ rfl);obtain⟨⟨f0,f1⟩,-⟩:=Cy (H7.blk 2 _ _ _ rfl);have hs:=HST.out _ hb27;have hq:=HQT.out _ H7.below;have hrd:=Aa6 HI.out ha8 hb8 w7 (by rw[hids];exact hfm7) pA pc A cc hA hs.1 hs.2 hq.1 hq.2;rw[hsa,hsb,HAB.out,hn]at hrd;unfold fmV at hrd;have HRD:=Ah hrd;clear hrd hs hq;go_wp2_with fail;refine HRD.out.mono ?_;rintro ee w8 ⟨hb,g,hg,rfl,hgb⟩;have H8:=H7.call hb;have hb28:=hb27.trans (hb.mono hb27.size);have hfm8:=hfm7.same λj _ hj=>hb.block j (Bq hj (hfm7.lt hb8.1));have hown8:=Kh hown λq hq=>hb.block q (hown.lt q hq).2;clear s0 s1 s2 s3 s4 s5 s6 f0 f1 hb H7 hb27 hfm7 hown hg HRD;obtain⟨⟨f0,f1⟩,-⟩:=Cy (H8.blk 2 _ _ _ rfl);have hn64:n≤64:=Ci;have E:=Ah (Ak4 ha8 hb8 habi hn hfl hab32.2);obtain⟨e1,e2,e3,e4,q1⟩:=E.out;go_upto_region 8 with fail;clear e1 e2 e3 e4 q1 f0 f1;have HH8:=Ah H8;have HFM:=Ah hfm8;have HOW:=Ah hown8;have HGB:=Ah hgb;have HB28:=Ah hb28;have HCL:=Ah (gL HI.out hids HN2.out (by have h1:=HAB.out;omega) hb8.1 hfm8 hown8 hgb);clear H8 hfm8 hown8 hgb hb28;have hbl8:Hid (Below w8.heap.size w8 w8):=Ah (Ag _ _);go_wp2
 go_loopw [13] (λs13 wr=>∃k:Nat,k≤n∧s13= Aa Ab k∧Hid (Below w8.heap.size w8 wr)) (λs13 _=>n-(intOf s13).toNat)
 case atStart=>exact⟨0,Ci,rfl,hbl8⟩
 case round=>
  obtain⟨k,hk,rfl,HB⟩:=hrel;clear hbl8;obtain⟨⟨f0,f1⟩,-⟩:=Cy ((HH8.out.call HB.out).blk 2 _ _ _ rfl);by_cases hlt:k<n
  ·have q0:(k:Int)<(n:Int):=Ci;obtain⟨pb,po,rfl,hx,hy,hX⟩:=HCL.out k hlt;have hpr:k%2=0→pgK a m ids (k+1)=(pgK a m ids k).flip:=An3 a m ids k;obtain⟨pq,hpq⟩:=ey (pgK a m ids (k+1));rw[hpq]at hX hpr;obtain⟨⟨px,py,pbk,pdn⟩,hp⟩:=ey (pgK a m ids k);rw[hp]at hX hx hy hpr;dsimp only at hx hy;have HX:=Ah hX;have HPR:=Ah hpr;have HLT:=Ah hlt;have hn64':n≤64:=hn64;obtain⟨cn,⟨p0,p1,p2,p3⟩,-,hf,hb,⟨u,hu,hue⟩,-⟩:=hX _ HB.out;dsimp only at p0 p1 p2 p3 hf hb hu hue;have HUE:=Ah hue;have ek:Ab.wrap ((k:Int)+1)=(k:Int)+1:=(Zf hlt (show n≤512 by omega)).1;have HXY:=Ah (And.intro hx hy);have HA8:=Ah ha8;have y0:¬(py:Int)<0:=Ci;have y1:¬(py:Int)≥(b:Int):=Ci;have y2:(py:Int)<(b:Int):=Ci;have x0:¬(px:Int)<0:=Ci;have x1:¬(px:Int)≥(a:Int):=Ci;have x2:(px:Int)<(a:Int):=Ci;clear hpq hp hX hpr hlt hx hy hue;go_upto_region 16 with fail
   go_quiet (fail)
   have HBW:=Ah (HB.out.trans (Dg (Ag _ wr) nq|>.mono HB.out.size));obtain⟨wq,hwq⟩:=ez (wr.drewN nq);rw[←hwq]at HBW⊢;clear hwq;clear cn p0 p1 p2 p3 hf hb hu f0 f1;obtain⟨-,⟨p0,p1,p2,p3⟩,hpq,hf,hb,-,hv⟩:=HX.out _ HBW.out;obtain⟨⟨f0,f1⟩,-⟩:=Cy ((HH8.out.call HBW.out).blk 2 _ _ _ rfl);dsimp only at p0 p1 p2 p3 hf hb;have HPQ:=Ah hpq;clear hpq HB;go_upto_if 218 with fail;go_cut [15]from 214 to 233 (λs15 wx=>s15= Aa Ab (sgn ⟨px,py,pbk,pdn⟩ ((k:Int)+1))∧Hid (Below wq.heap.size wq wx))
   case first=>
    clear HFM HOW HGB HCL HI HPR HPQ HX
    cases pbk with
    |false=>
     obtain rfl:=HUE.out rfl;clear hv
     as_aux_lemma=>
     go_wp2;go_meet;exact⟨rfl,Ah (Ag _ _)⟩
    |true=>
     have hv:wq.cell? ⟨G+b+2+py,a-1-px,Ae⟩=Af (Aa Ab (sgn ⟨px,py,true,pdn⟩ ((k:Int)+1))):=hv;obtain⟨w1,w2,w3,w4⟩:=Ak6 HA8.out HXY.out.1
     as_aux_lemma=>
     go_wp2
     go_quiet (fail)
     go_wp2;go_meet;exact⟨rfl,Ah (Dg (Ag _ _) nq)⟩
   case rest=>
    obtain⟨rfl,HWX⟩:=hcut;have HBC:=Ah (HBW.out.trans (HWX.out.mono HBW.out.size));clear p0 p1 p2 p3 hf hb f0 f1 hv HUE HPQ;obtain⟨-,⟨p0,p1,p2,p3⟩,hpq,-,-,-,-⟩:=HX.out _ HBC.out;dsimp only at p0 p1 p2 p3;have HPQ:=Ah hpq;clear hpq HX HBW HWX;go_upto_if 238 with fail;go_cut [15]from 234 to 240 (λs15 wx=>s15= Aa Ab ((k:Int)+1)∧wc=wx)
    case first=>
     clear HFM HOW HGB HCL HI HPR HPQ
     cases pdn with
     |false=>
      as_aux_lemma=>
      go_wp2;go_meet;exact⟨rfl,rfl⟩
     |true=>
      rw[show sgn ⟨px,py,pbk,true⟩ ((k:Int)+1)= -((k:Int)+1)from rfl]
      as_aux_lemma=>
      go_wp2;go_meet;exact⟨rfl,rfl⟩
    case rest=>
     obtain⟨rfl,rfl⟩:=hcut;have hne:n%2=0:=Ci;obtain⟨k1,hk1⟩:∃z:Nat,k+1=z:=⟨_,rfl⟩;have hk1i:(k:Int)+1=(k1:Int):=Ci;have ek1:Ab.wrap ((k:Int)+1)=(k1:Int):=by rw[ek];exact hk1i
     have HK1:=Ah hk1;rw[hk1i];rw[hk1]at HPQ;clear HFM HOW HGB HCL HI HST HH8 ek;by_cases he:k%2=0
     ·obtain⟨c0,c1,c2,c3⟩:=HPQ.out he;obtain rfl:=HPR.out he;dsimp only[Pg.flip]at c0 c1 c2 c3
      have em:((k:Int).tmod 2==0)=true:=by
       have:(k:Int).tmod 2=((k%2:Nat):Int):=rfl;rw[this,he];rfl
      have em2:decide ((k:Int).tmod 2=0)=true:=by simpa using em
      have qb:(pbk== !pbk)=false:=by cases pbk<;>rfl
      have q9:(k1:Int)<(n:Int):=by have:=HLT.out;omega
      clear HPQ HPR he hne hk1 hk1i
      as_aux_lemma=>
      go_wp2
      go_quiet (fail)
      go_wp2;exact⟨⟨k1,yW HLT.out HK1.out,rfl,Ah (HBC.out.trans (Dg (Ag _ _) nq|>.mono HBC.out.size))⟩,gK HLT.out HK1.out⟩
     ·have em:((k:Int).tmod 2==0)=false:=by
       have h9:k%2=1:=Ci;have:(k:Int).tmod 2=((k%2:Nat):Int):=rfl;rw[this,h9];rfl
      have em2:((k:Int)%2==0)=false:=by
       have h9:k%2=1:=Ci;have:(k:Int)%2=((k%2:Nat):Int):=rfl;rw[this,h9];rfl
      clear HPQ HPR he hne hk1 hk1i
      as_aux_lemma=>
      go_wp2
      go_quiet (fail)
      go_wp2;exact⟨⟨k1,yW HLT.out HK1.out,rfl,Ah (HBC.out.trans (Dg (Ag _ _) nq|>.mono HBC.out.size))⟩,gK HLT.out HK1.out⟩
  ·obtain rfl:k=n:=Ci;have q0:¬(k:Int)<(k:Int):=Ci;have HR:=HH8.out.call HB.out;obtain⟨s0,s1,s2,s3,s4,s5,s6⟩:=Gb (HR.blk 1 _ _ _ rfl);have hs:=HST.out _ (HB28.out.trans (HB.out.mono HB28.out.size));have hq:=HQT.out _ HR.below;have hup:=Af4 t.a t.b pA t.cr t.cr.length pc t.root wr HI.out.gs.pat rfl hs.1 (by have:=HI.out.gs.pn;omega) (by have:=gV HI.out.gs.root;omega) hq.1 hq.2;rw[Ay2 HI.out,hsa,hsb]at hup;dsimp only at hup;obtain⟨ul,hul⟩:=ey ((m.map λx=> !Hy x).length);rw[hul]at hup;have hwu:=Ak5 HI.out ha8 hb8 hul;have HUL:=Ah (hup:Al _ _ _ wr (cG _ _ _ _ wr));have HWU:=Ah (And.intro hul hwu);have HBR:=Ah HR.below;have HNN:=Ah (show k=2*(a*b)by have h1:=HAB.out;omega);have HKE:=Ah (show k%2=0 by omega);have HB0:=HB;clear hup hs hq hul f0 f1 HR hwu HFM HOW HGB;go_wp2_with fail;refine HUL.out.mono ?_;rintro ee w9 ⟨hb,⟨h0,-⟩|⟨-,g0,rfl,-,hg0⟩⟩
   ·exact absurd rfl h0
   have hb9:=HBR.out.trans (hb.mono HBR.out.size);have HBC:=Ah (HB.out.trans (hb.mono HB.out.size));have HUP:=Ah (yX HI.out hids ha8 hb8 HNN.out hg0);obtain⟨hul,e1,e2⟩:=HWU.out;have HLQ:=Ah (λ(w':Aj) (hb':Below w9.heap.size w9 w')=>HLV.out w' (hb9.trans (hb'.mono hb9.size)));have HBQ:=Ah hb9;rw[hul]at HUP;have hbl9:Hid (Below w9.heap.size w9 w9):=Ah (Ag _ _);clear s0 s1 s2 s3 s4 s5 s6 hb hb9 hg0 HUL HBR HB hul HI HH8 HST HQT HLV HB28;go_upto_region 28 with fail;clear e1 e2;go_wp2
   go_loopw [18] (λs18 wx=>∃j:Nat,j≤k∧j%2=0∧s18= Aa Ab j∧Hid (Below w9.heap.size w9 wx)) (λs18 _=>k-(intOf s18).toNat)
   case atStart=>exact⟨0,Ci,rfl,rfl,hbl9⟩
   case round=>
    obtain⟨j,hj,hj2,rfl,HB⟩:=hrel;clear hbl9;by_cases hlt:j<k
    ·have q0:(j:Int)<(k:Int):=Ci;obtain⟨pb,po,rfl,-,-,hX⟩:=HCL.out j hlt;obtain⟨i1,i2,iu,hiu,e1,e2,e3,hc⟩:=HUP.out j hlt hj2;obtain⟨-,⟨p0,p1,p2,-⟩,-,-,-,-,-⟩:=hX _ (HBC.out.trans (HB.out.mono HBC.out.size));have hc:=hc _ HB.out;obtain⟨⟨px,py,pbk,pdn⟩,hp⟩:=ey (pgK a m ids j);rw[hp]at e1 e2 hc p0 p1 p2;dsimp only at e1 e2 hc p0 p1 p2;obtain⟨j2,hj3⟩:∃z:Nat,j+2=z:=⟨_,rfl⟩
     have ej:Ab.wrap ((j:Int)+2)=(j2:Int):=by
      rw[Ca _ Ci];omega
     have qb:((!pbk)==pbk)=false:=by cases pbk<;>rfl
     have HJ:=Ah (And.intro hlt hj3);have HJ2:=Ah hj2;clear hX hp hlt hj2 hj3 hj HCL HUP
     as_aux_lemma=>
     go_wp2
     go_quiet (fail)
     go_wp2;exact⟨⟨j2,Ak3 HJ.out.1 HJ.out.2 HKE.out HJ2.out,Av7 HJ2.out HJ.out.2,rfl,Ah (HB.out.trans (Dg (Ag _ _) nq|>.mono HB.out.size))⟩,tS HJ.out.1 HJ.out.2⟩
    ·obtain rfl:j=k:=Ci;have q0:¬(j:Int)<(j:Int):=Ci;have HL:=Ah (HLQ.out _ HB.out);have HBF:=Ah (HBQ.out.trans (HB.out.mono HBQ.out.size));clear HLQ HB HBQ HBC HUP HCL
     as_aux_lemma=>
     go_wp2_with fail;refine HL.out.mono ?_;rintro ee w10 ⟨rfl,hb⟩;have HF:=Ah (HBF.out.trans (hb.mono HBF.out.size));clear hb;go_wp2;go_ret;exact⟨rfl,HF.out⟩
end Go.Proofs.YthpcfeifmdbhnaaGreatDoor
