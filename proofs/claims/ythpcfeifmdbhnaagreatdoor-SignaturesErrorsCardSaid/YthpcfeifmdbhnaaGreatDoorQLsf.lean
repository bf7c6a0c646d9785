/- The law SignaturesErrors of crimplaw36: for every forme and every G it returns true. -/
import Derived.Test.YthpcfeifmdbhnaaGreatDoorQLse
open Go renaming Calls→Al,World→Aj
open Go.IntKind renaming i64→Ab,u8→Ac
open Go.IntWalk renaming i64_in→Ca
open Go.Lib renaming hid→Ah,wpList_append_run→As
open Go.RowKit.Below renaming refl→Ag
open Go.Value renaming int→Aa,slice→Ad
open List renaming getElem?_eq_getElem→Aw,getElem_mem→Ay,length_append→Bh,mem_cons→Bk,mem_iff_getElem→Be
open Nat renaming le_refl→Am
open Option renaming none→Ae,some→Af
set_option maxHeartbeats 32000000
set_option maxRecDepth 100000
namespace Go.Proofs.YthpcfeifmdbhnaaGreatDoor
open Go.RowKit
theorem Xb4 (fr bk:List Gq) (FA BA:Option Addr) (nf nb c1 c2:Nat) (hnf:fr.length=nf) (hnb:bk.length=nb) (xw xh xo:Nat) (h1:xw≤255) (h2:xh≤255) (h3:xo≤255) (w:Aj) (hF:Ik w FA fr) (hB:Ik w BA bk) (hQ:Qf w) (hT:Tn w) (hP:Pw w):
  Al Tryz.prog 5 #[.agg #[Ad FA nf c1,Ad BA nb c2],.agg #[Aa Ac xw,Aa Ac xh,Aa Ac xo]] w (Co (.bool true) w):=by
 obtain⟨i0,hi0,hz0,hz1,hz2⟩:=info_parts Xz;have HI0:=Ah hi0;have HZ0:=Ah hz0;have HZ1:=Ah hz1;have HZ2:=Ah hz2;have hpw:=Aq9 xw;have hph:=Aq8 xh;have HLV:=Ah (λ(w':Aj) (hb:Below w.heap.size w w')=>gI w' (hQ.below hb) (hT.below hb) (hP.below hb));have HQT:=Ah (λ(w':Aj) (hb:Below w.heap.size w w')=>show Qf w'∧Tn w'∧Pw w' from⟨hQ.below hb,hT.below hb,hP.below hb⟩);have HFB:=Ah (λ(w':Aj) (hb:Below w.heap.size w w')=>show Ik w' FA fr∧Ik w' BA bk from⟨hF.below hb,hB.below hb⟩);have hgof:=λt hr w' (hb:Below w.heap.size w w')=>dG xw xh xo h1 h2 h3 t hr w' (hQ.below hb) (hT.below hb);unfold Mp at hgof;obtain⟨a,ha⟩:∃z:Nat,2^(xw%4)=z:=⟨_,rfl⟩;obtain⟨b,hb⟩:∃z:Nat,2^(xh%3)=z:=⟨_,rfl⟩;rw[ha,hb]at hgof;rw[ha]at hpw;rw[hb]at hph;obtain⟨t,m,hr,I⟩:=Rh hpw hph (ovG xo);have HG:=Ah (λ(w':Aj) (hb:Below w.heap.size w w')=>hgof t hr w' hb);have ha8:1≤a∧a≤8:=by simp only[Bk,List.not_mem_nil,or_false]at hpw;omega
 have hb8:1≤b∧b≤4:=by simp only[Bk,List.not_mem_nil,or_false]at hph;omega
 have HI:=Ah I;have hsa:=I.G.sa;have hsb:=I.G.sb;obtain⟨rs,hrs⟩:=ey (fr++bk);have hrl:rs.length=nf+nb:=by rw[←hrs,Bh,hnf,hnb]
 obtain⟨R,hR⟩:=ey (nf+nb);have hkl:(ksL fr++ksL bk).length=R:=by rw[←hR,←hnf,←hnb];simp[ksL]
 obtain⟨c0,hc0⟩:=ey (((ksL fr).getD 0 []).length);have hkf:(ksL fr).length=nf:=by rw[←hnf];simp[ksL]
 have hkb:(ksL bk).length=nb:=by rw[←hnb];simp[ksL]
 obtain⟨W,hW⟩:=ey (wdE (ksL fr) (ksL bk));have HW0:Hid (W 0=if nf=0∨nf≠nb then 5 else 0):=Ah (by rw[←hW,Xb7,hkf,hkb])
 have HWN:Hid (∀k (h:k<rs.length),W (k+1)=if rs[k].ks.length=0∨(0<nf∧rs[k].ks.length≠c0)then 5 else W k):=Ah λk h=>by
  subst hrs;rw[←hW];exact Xc9 (Xc1 h) hkf hc0
 obtain⟨X,hX⟩:=ey ((ksL fr++ksL bk).flatten)
 have HXC:Hid (Nt rs R=X):=Ah (by
  rw[←hX,←hR,←hrl,wV,←hrs,←Wm];rfl)
 obtain⟨N2,hN2⟩:=ey X.length;have HN2:=Ah hN2;obtain⟨Z,hZ⟩:=ey (fmE (ksL fr) (ksL bk));have HZ:=Ah hZ
 have HV:Hid (∀i,i≤N2→(¬wnE (W R) N2 X i=0∨i=N2)→wnE (W R) N2 X i=Z):=Ah λi hi h=>by
  rw[←hZ];exact Xc4 hX hN2 (by rw[hkl,hW]) hi h
 have HCN:Hid (Z=0→pV a b (ksL fr)→N2=2*(a*b)):=Ah λh0 hf=>by
  rw[←hN2,←hX];exact Xc2 (by rw[hZ];exact h0) hf
 have HC0:Hid (0<nf→∃h:0<fr.length,fr[0].ks.length=c0):=Ah λh=>⟨Ci,by
  rw[←hc0,Sw Ci]⟩
 have HFT:Hid (pV a b (ksL fr)↔nf=b∧c0=a):=Ah (by
  unfold pV;rw[hkf,hc0])
 have HSD:Hid (∀sd,sd<2→∃(LA:Option Addr) (ln lc:Nat) (ls:List Gq),((sd=0∧LA=FA∧ln=nf∧lc=c1)∨(sd=1∧LA=BA∧ln=nb∧lc=c2))∧ln=ls.length∧(∀w',Below w.heap.size w w'→Ik w' LA ls)∧(∀y (h:y<ls.length),∃h2:Xa4 nf nb sd+y<rs.length,rs[Xa4 nf nb sd+y]=ls[y])∧Xa4 nf nb sd+ln=Xa4 nf nb (sd+1)):=Ah λsd h=>by
  subst hrs;rcases(show sd=0∨sd=1 by omega)with rfl|rfl
  ·refine⟨FA,nf,c1,fr,.inl ⟨rfl,rfl,rfl,rfl⟩,hnf.symm,λw' hb=>(HFB.out w' hb).1,λy h=>?_,by simp[Xa4]⟩;have e:Xa4 nf nb 0+y=y:=by simp[Xa4]
   refine⟨by rw[e,Bh];omega,?_⟩;simp only[e];rw[List.getElem_append_left]
  ·refine⟨BA,nb,c2,bk,.inr ⟨rfl,rfl,rfl,rfl⟩,hnb.symm,λw' hb=>(HFB.out w' hb).2,λy h=>?_,by simp[Xa4]⟩;have e:Xa4 nf nb 1+y=fr.length+y:=by simp[Xa4,hnf]
   refine⟨by rw[e,Bh];omega,?_⟩;simp only[e];rw[List.getElem_append_right Ci];simp
 have HRS:=Ah hrs;have HRL:=Ah hrl;have HR:=Ah hR;have HNF:=Ah hnf;have HNB:=Ah hnb;have H:=((Bx.start w).new #[Ad FA nf c1,Ad BA nb c2] 39 rfl).new #[Aa Ac xw,Aa Ac xh,Aa Ac xo] 23 (N:=w.heap.size+1) Cn;clear hpw hph hgof hr ha hb hQ hT hP I hF hB hrs hrl hR hkl hc0 hkf hkb hW hX hN2 hZ hnf hnb hi0 hz0 hz1 hz2;go_enter Tryz.func5,Tryz.ntmps5;go_upto_region 1 with fail;obtain⟨N,hN⟩:=ez w.heap.size;rw[←hN]at H⊢;have HNN:=Ah hN;clear hN;obtain⟨P,hP⟩:=ey (N+1);rw[hP]at H⊢;clear hP;obtain⟨W1,hW1⟩:=ez ((w.alloc (.cells #[Ad FA nf c1,Ad BA nb c2] 39)).alloc (.cells #[Aa Ac xw,Aa Ac xh,Aa Ac xo] 23));rw[←hW1]at H⊢;clear hW1;obtain⟨⟨f0,f1⟩,-⟩:=Cy (H.blk 0 _ _ _ rfl);have HBW:=Ah H.below;by_cases q0:(nf:Int)>8
 ·clear HI HSD HFT HC0 HCN HV HXC HWN HW0 HFB HG HQT H
  as_aux_lemma=>
  go_wp2_with fail;refine(HLV.out _ HBW.out).mono ?_;rintro ee w10 ⟨rfl,hb⟩;have HF:=Ah (btr HBW.out hb);clear hb;go_wp2;go_ret;exact⟨rfl,HF.out⟩
 by_cases q1:(nb:Int)>8
 ·clear HI HSD HFT HC0 HCN HV HXC HWN HW0 HFB HG HQT H
  as_aux_lemma=>
  go_wp2_with fail;refine(HLV.out _ HBW.out).mono ?_;rintro ee w10 ⟨rfl,hb⟩;have HF:=Ah (btr HBW.out hb);clear hb;go_wp2;go_ret;exact⟨rfl,HF.out⟩
 have n8:nf≤8:=Ci;have m8:nb≤8:=Ci;have HR16:Hid (R≤16):=Ah (by have:=HR.out;omega);have HH:=Ah H;obtain⟨cb,hcb⟩:∃z:Bool,decide (nf=0∨nf≠nb)=z:=⟨_,rfl⟩
 have HCB:Hid (W 0=if cb then 5 else 0):=Ah (by
  rw[HW0.out,←hcb];by_cases h:nf=0∨nf≠nb
  ·rw[if_pos h,if_pos (decide_eq_true h)]
  ·rw[if_neg h,if_neg (by simpa using h)])
 go_upto_region 4 with fail;clear q0 q1;go_cut [47]from 35 to 47 (λs47 wx=>s47= .bool cb∧W1=wx)
 case first=>
  clear HI HSD HFT HC0 HCN HV HXC HWN HFB HG HQT H HLV HCB HW0;by_cases z0:nf=0
  ·have q2:((nf:Int)==0)=true:=by simp;omega
   obtain rfl:cb=true:=by rw[←hcb];exact decide_eq_true (.inl z0)
   clear z0 hcb
   as_aux_lemma=>
   go_wp2;go_meet;exact⟨rfl,rfl⟩
  ·have q2:((nf:Int)==0)=false:=by simpa using z0
   have q3:((nf:Int) != (nb:Int))=cb:=by
    rw[←hcb];by_cases h:nf=nb
    ·rw[decide_eq_false (λe=>e.elim z0 (λe=>e h))];simp[h]
    ·rw[decide_eq_true (.inr h)];simp;omega
   clear z0 hcb
   as_aux_lemma=>
   go_wp2;go_meet;exact⟨rfl,rfl⟩
 obtain⟨rfl,rfl⟩:=hcut
 apply_assumption
 go_cut [5]from 5 to 5 (λs5 wx=>s5= Aa Ab (W 0)∧W1=wx)
 case first=>
  clear HI HSD HFT HC0 HCN HV HXC HWN HFB HG HQT H HLV HW0 hcb
  cases cb with
  |true=>
   as_aux_lemma=>
   go_wp2;go_meet;exact⟨by rw[HCB.out];rfl,rfl⟩
  |false=>
   as_aux_lemma=>
   go_wp2;go_meet;exact⟨by rw[HCB.out];rfl,rfl⟩
 obtain⟨rfl,rfl⟩:=hcut;clear HCB hcb;have HO0:Hid (W1.ownsRow W1.heap.size 3 1 (Ad Ae 0 0) 0 (Ni (Nt rs 0))∧Below W1.heap.size W1 W1):=Ah ⟨by simpa[Nt,Ni]using World.ownsRow_nil _ _ _ _,Ag _ _⟩;clear f0 f1 H HW0;go_wp2
 go_loopw [5,6,7] (λs5 s6 s7 wr=>∃(sd k mm c:Nat) (A:Option Addr),sd≤2∧s7= Aa Ab sd∧s5= Aa Ab (W k)∧s6= Ad A mm c∧Hid (k=Xa4 nf nb sd∧mm=(Nt rs k).length∧∀j (h:j<rs.length),j<k→rs[j].ks.length≤8)∧Hid (wr.ownsRow W1.heap.size 3 1 (Ad A mm c) mm (Ni (Nt rs k))∧Below W1.heap.size W1 wr)) (λ_ _ s7 _=>2-(intOf s7).toNat)
 case atStart=>exact⟨0,0,0,0,Ae,Ci,rfl,rfl,rfl,Ah ⟨rfl,by simp[Nt],λj _ h2=>absurd h2 Ci⟩,HO0⟩
 obtain⟨sd,k,mm,c,A,hsd,rfl,rfl,rfl,HK,HO⟩:=hrel;obtain⟨WY,rfl⟩:=ez wr;clear HO0;have HB:=Ah (btr HBW.out HO.out.2);obtain⟨⟨f0,f1⟩,-⟩:=Cy ((HH.out.call HO.out.2).blk 0 _ _ _ rfl);by_cases hlt:sd<2
 ·obtain⟨LA,ln,lc,ls,hside,hln,hls,hrow,hoff⟩:=HSD.out sd hlt;have HLS:=Ah hls;rw[←HK.out.1]at hrow hoff;have HROW:=Ah hrow;have HOFF:=Ah hoff;have HLN:=Ah hln;have HLT:=Ah hlt;have q0:(sd:Int)<2:=Ci;clear hln hls hrow hoff hlt;go_upto_if 55 with fail;go_cut [8]from 54 to 57 (λs8 wx=>s8= Ad LA ln lc∧WY=wx)
  case first=>
   clear HLS HROW HOFF HLN HLT HI HSD HFT HC0 HCN HV HXC HWN HFB HG HQT HLV HK HO HB;rcases hside with⟨rfl,rfl,rfl,rfl⟩|⟨rfl,rfl,rfl,rfl⟩
   ·as_aux_lemma=>
    go_wp2;go_meet;exact⟨rfl,rfl⟩
   ·as_aux_lemma=>
    go_wp2;go_meet;exact⟨rfl,rfl⟩
  obtain⟨rfl,rfl⟩:=hcut;have HK0:Hid (k=k+0∧mm=(Nt rs k).length∧∀j (h:j<rs.length),j<k→rs[j].ks.length≤8):=Ah ⟨rfl,HK.out.2⟩;clear f0 f1 hside HSD;go_wp2
  go_loopw [5,6,9] (λs5 s6 s9 wx=>∃(y k2 m2 cc2:Nat) (A2:Option Addr),y≤ln∧s9= Aa Ab y∧s5= Aa Ab (W k2)∧s6= Ad A2 m2 cc2∧Hid (k2=k+y∧m2=(Nt rs k2).length∧∀j (h:j<rs.length),j<k2→rs[j].ks.length≤8)∧Hid (wx.ownsRow W1.heap.size 3 1 (Ad A2 m2 cc2) m2 (Ni (Nt rs k2))∧Below W1.heap.size W1 wx)) (λ_ _ s9 _=>ln-(intOf s9).toNat)
  case atStart=>exact⟨0,k,mm,c,A,Ci,rfl,rfl,rfl,HK0,HO⟩
  obtain⟨y,k2,m2,cc2,A2,hy,rfl,rfl,rfl,HK2,HO2⟩:=hrel;clear HK0 HO;have HB2:=Ah (btr HBW.out HO2.out.2);by_cases hlt2:y<ln
  ·have hyl:y<ls.length:=by have:=HLN.out;omega
   obtain⟨hk2l,hrk⟩:=HROW.out y hyl;simp only[←HK2.out.1]at hk2l hrk;obtain⟨b5,o5,e5,hbl5,t0⟩:=(HLS.out _ HB2.out).at' y hyl;have hrok:=(HLS.out _ HB2.out).row ls[y] (Ay _);have hwn:=HWN.out k2 hk2l;have hnx:=Uf rs k2 hk2l
   have hlen8:ls[y].ks.length≤8→∀j (h:j<rs.length),j<k2+1→rs[j].ks.length≤8:=λh8 j h hj=>by
    by_cases e:j=k2
    ·subst e;rw[hrk];exact h8
    ·exact HK2.out.2.2 j h Ci
   have hcl:=Xa7 rs k2 HK2.out.2.2 Ci;rw[←HK2.out.2.1]at hcl;have hkR:k2<R:=by have h1:=HRL.out;have h2:=HR.out;omega
   rw[hrk]at hwn hnx;obtain⟨⟨rA,rc,rks⟩,hr2⟩:=ey (ls[y]);rw[hr2]at t0 hrok hwn hnx hlen8;dsimp only at t0 hwn hnx hlen8;obtain⟨rl,hrl⟩:=ey rks.length;have hrok:Tv wr ⟨rA,rc,rks⟩:=hrok;rw[hrl]at t0 hwn hlen8;have HRK:=Ah (And.intro hrok hrl);have HNX:=Ah hnx;have HL8:=Ah hlen8;have HCL:=Ah (show m2≤128 by have:=HR16.out;omega);subst e5;have q2:(y:Int)<(ln:Int):=Ci;have eyy:Ab.wrap ((y:Int)+1)=(y:Int)+1:=Ca _ (by have h1:=HK2.out.1;have h2:=HR16.out;omega);obtain⟨k3,hk3⟩:=ey (k2+1);rw[hk3]at hwn;have HWN3:=Ah hwn;have HK3:=Ah hk3;have HLT2:=Ah hlt2;have HHB:=HH.out.call HO2.out.2;obtain⟨⟨f0,f1⟩,-⟩:=Cy (HHB.blk 0 _ _ _ rfl);clear hyl hk2l hrk hrok hwn hnx hlen8 hcl hkR hr2 hrl hk3 hlt2 HHB;by_cases q3:(rl:Int)>8
   ·have HLQ:=Ah (HLV.out _ HB2.out);clear HI HFT HC0 HCN HV HXC HWN HFB HG HQT HLV HROW HLS f0 f1
    as_aux_lemma=>
    go_wp2_with fail;refine HLQ.out.mono ?_;rintro ee w10 ⟨rfl,hb⟩;have HF:=Ah (btr HB2.out hb);clear hb;go_wp2;go_ret;exact⟨rfl,HF.out⟩
   obtain⟨cb,hcb⟩:∃z:Bool,decide (rl=0∨0<nf∧rl≠c0)=z:=⟨_,rfl⟩
   have HCB:Hid (W k3=if cb then 5 else W k2):=Ah (by
    rw[HWN3.out,←hcb];by_cases h:rl=0∨0<nf∧rl≠c0
    ·rw[if_pos h,if_pos (decide_eq_true h)]
    ·rw[if_neg h,if_neg (by simpa using h)])
   clear HWN3;go_upto_region 18 with fail;go_cut [95]from 71 to 95 (λs95 wx=>s95= .bool cb∧Hid (Below wr.heap.size wr wx))
   case first=>
    have HF0:Hid (0<nf→∃bFv oFv rF cFv,FA=Af ⟨bFv,oFv,Ae⟩∧wr.cell? ⟨bFv,oFv,Ae⟩=Af (Ad rF c0 cFv)):=Ah λh=>by
     obtain⟨h0,e0⟩:=HC0.out h;obtain⟨bFv,oFv,e1,-,e2⟩:=(HFB.out _ HB2.out).1.at' 0 h0;rw[e0]at e2;exact⟨bFv,oFv,_,_,e1,by simpa using e2⟩
    clear HI HFT HC0 HCN HV HXC HWN HFB HG HQT HLV HROW HLS HOFF HLN HRK HNX HL8 HCL HK2 HO2 HB2 HCB;by_cases z0:rl=0
    ·have q4:((rl:Int)==0)=true:=by simp;omega
     obtain rfl:cb=true:=by rw[←hcb];exact decide_eq_true (.inl z0)
     clear z0 HF0 hcb
     as_aux_lemma=>
     go_quiet (fail)
     go_wp2;go_meet;exact⟨rfl,Ah (Dg (Ag _ _) nq)⟩
    have q4:((rl:Int)==0)=false:=by simpa using z0
    by_cases z1:0<nf
    ·have q5:(nf:Int)>0:=Ci;have q6:(0:Int)<(nf:Int):=Ci;obtain⟨bFv,oFv,rF,cFv,rfl,g0⟩:=HF0.out z1
     have q7:((rl:Int) != (c0:Int))=cb:=by
      rw[←hcb];by_cases h:rl=c0
      ·rw[decide_eq_false (λe=>e.elim z0 (λe=>e.2 h))];simp[h]
      ·rw[decide_eq_true (.inr ⟨z1,h⟩)];simp;omega
     have z3:decide (0<nf)=true:=decide_eq_true z1;clear z0 HF0 hcb
     as_aux_lemma=>
     go_quiet (fail)
     go_wp2;go_meet;exact⟨rfl,Ah (Dg (Ag _ _) nq)⟩
    ·have q5:¬(nf:Int)>0:=Ci;obtain rfl:cb=false:=by rw[←hcb];exact decide_eq_false (λh=>h.elim z0 (λh=>z1 h.1))
     have q6:decide ((0:Int)<(nf:Int))=false:=decide_eq_false Ci;have z3:decide (0<nf)=false:=decide_eq_false z1;clear z0 z1 HF0 hcb
     as_aux_lemma=>
     go_quiet (fail)
     go_wp2;go_meet;exact⟨rfl,Ah (Dg (Ag _ _) nq)⟩
   obtain⟨rfl,HWX⟩:=hcut;obtain⟨WX,rfl⟩:=ez wc
   apply_assumption
   go_cut [5]from 5 to 5 (λs5 wx=>s5= Aa Ab (W k3)∧WX=wx)
   case first=>
    clear HI HFT HC0 HCN HV HXC HWN HFB HG HQT HLV HROW HLS HOFF HLN HRK HNX HL8 HCL HK2 HO2 HB2 hcb
    cases cb with
    |true=>
     as_aux_lemma=>
     go_wp2;go_meet;exact⟨by rw[HCB.out];rfl,rfl⟩
    |false=>
     as_aux_lemma=>
     go_wp2;go_meet;exact⟨by rw[HCB.out];rfl,rfl⟩
   obtain⟨rfl,rfl⟩:=hcut;have HB3:=Ah (btr HO2.out.2 HWX.out);have hown:=Kh HO2.out.1 λq hq=>HWX.out.block q (HO2.out.1.lt q hq).2;have t1:=Cj HWX.out t0;have hrow:=HRK.out.1.below HWX.out;have hrl:=HRK.out.2;have hm2:=HCL.out;have hrl8:rl≤8:=Ci;obtain⟨v2,w2,hr2,hown2,hg2⟩:=Dx (P:=Tryz.prog) WX W1.heap.size 46 46 3 i0 _ 1 8 Tryz.underlying46 HI0.out HZ0.out HZ1.out HZ2.out rfl Ci (Ad A2 m2 cc2) m2 (Ni (Nt rs k2)) hown rA rks.length rc (Ni rks) (yM _) hrow.rd hrow.nil Ci Ci HB3.out.size;have hb2:Below W1.heap.size W1 w2:=HB3.out.grown hg2 HB3.out.size (λq hq=>(hown.lt q hq).1);obtain⟨B2,c5,rfl,hbc2,hcm2⟩:=Dv hown2;rw[hrl]at hown2 hr2
   have hown3:w2.ownsRow W1.heap.size 3 1 (Ad B2 (m2+rl) c5) (m2+rl) (Ni (Nt rs k3)):=by
    rw[←HK3.out,HNX.out,yL];exact hown2
   have HR2:=Ah hr2;have HO3:=Ah (And.intro hown3 hb2);have HK4:Hid (k3=k+(y+1)∧m2+rl=(Nt rs k3).length∧∀j (h:j<rs.length),j<k3→rs[j].ks.length≤8):=Ah ⟨by rw[←HK3.out,HK2.out.1];rfl,by rw[←HK3.out,HNX.out,Bh,HK2.out.2.1,hrl],by rw[←HK3.out];exact HL8.out hrl8⟩;clear t0 f0 f1 hown hrow hrl hm2 hrl8 hr2 hown2 hg2 hb2 hbc2 hcm2 hown3 HI HFT HC0 HCN HV HXC HWN HFB HG HQT HLV HROW HLS HOFF HLN HRK HNX HL8 HCL HK2 HO2 HB2 HCB hcb HWX HK3
   as_aux_lemma=>
   go_wp2_with (at_builtin;refine As _ rfl _ _ _ _ rfl _ _ rfl rfl _ _ HR2.out ?_);go_wp2;exact⟨⟨y+1,k3,m2+rl,c5,B2,Xa2 HLT2.out,Cn,rfl,rfl,HK4,HO3⟩,Xa0 HLT2.out⟩
  ·obtain rfl:y=ln:=Ci;have q2:¬(y:Int)<(y:Int):=Ci;have HK5:Hid (k2=Xa4 nf nb (sd+1)∧m2=(Nt rs k2).length∧∀j (h:j<rs.length),j<k2→rs[j].ks.length≤8):=Ah ⟨by rw[HK2.out.1];exact HOFF.out,HK2.out.2⟩;clear HI HFT HC0 HCN HV HXC HWN HFB HG HQT HLV HROW HLS HOFF HLN HK2 HB2
   as_aux_lemma=>
   go_wp2;exact⟨⟨sd+1,k2,m2,cc2,A2,Xa2 HLT.out,Cn,rfl,rfl,HK5,HO2⟩,Xa0 HLT.out⟩
 ·obtain rfl:sd=2:=Ci;have q0:¬(((2:Nat):Int)<2):=Ct;obtain rfl:k=R:=by rw[HK.out.1,←HR.out];rfl
  obtain rfl:mm=N2:=by rw[HK.out.2.1,HXC.out,HN2.out]
  have hown:=HO.out.1;rw[HXC.out]at hown;have HRX:=Ah (λ(w':Aj) (hb:Below WY.heap.size WY w')=>(Rd.of_own hown).below hb)
  have HN128:Hid (mm≤128):=Ah (by
   have h1:=Xa7 rs k HK.out.2.2 (by have h1:=HRL.out;have h2:=HR.out;omega);rw[HXC.out,HN2.out]at h1;have:=HR16.out;omega)
  have HL8:Hid (∀r∈fr++bk,r.ks.length≤100):=Ah λr hr=>by
   rw[HRS.out]at hr;obtain⟨j,hj,rfl⟩:=Be.1 hr;have:=HK.out.2.2 j hj (by have h1:=HRL.out;have h2:=HR.out;omega);omega
  have hbY:Hid (Below WY.heap.size WY WY):=Ah (Ag _ _);have HOB:=Ah HO.out.2;clear hown HO HK HWN HXC HSD f0 f1;go_upto_block 4 with fail;go_cut [5]from 102 to 161 (λs5 wx=>s5= Aa Ab Z∧Hid (Below WY.heap.size WY wx))
  case first=>
   obtain⟨V,hV⟩:=ey (wnE (W k) mm X);have HV0:Hid (V 0=W k):=Ah (by rw[←hV,Xb6])
   have HVN:Hid (∀i,V i=0→V (i+1)=arE mm X i i):=Ah λi h=>by
    rw[←hV]at h⊢;exact Xb5 h
   rw[hV]at HV;clear hV HI HFT HC0 HCN HFB HG HQT HLV HL8 HB HH HRS HRL HR HNF HNB HZ HR16;go_wp2
   go_loopw [5,10] (λs5 s10 wr=>∃i:Nat,i≤mm∧s10= Aa Ab i∧s5= Aa Ab (V i)∧Hid (Below WY.heap.size WY wr)) (λ_ s10 _=>mm-(intOf s10).toNat)
   case atStart=>exact⟨0,Ci,rfl,by rw[HV0.out],hbY⟩
   obtain⟨i,hi,rfl,rfl,HBI⟩:=hrel;obtain⟨WI,rfl⟩:=ez wr;clear hbY HV0;by_cases hlt:i<mm
   ·have q2:(i:Int)<(mm:Int):=Ci;obtain⟨vi,hvi⟩:=ey (V i);have HVZ:=Ah (HV.out i hi);rw[hvi]at HVZ;rw[hvi];clear HV;by_cases hv:vi=0
    ·subst hv;have HVI:=Ah (HVN.out i hvi);obtain⟨bXv,oXv,rfl,-,hcx⟩:=(HRX.out WI HBI.out).2 Ci
     have HCX:Hid (∀w',Below WI.heap.size WI w'→∀j,j<mm→w'.cell? ⟨bXv,oXv+j,Ae⟩=Af (Aa Ab (X.getD j 0))):=Ah λw' hb j hj=>by
      have hjX:j<X.length:=by rw[HN2.out];exact hj
      refine Cj hb (hcx j _ ?_);unfold Ni;rw[List.getElem?_map,Aw hjX,List.getD_eq_getElem?_getD,Aw hjX];rfl
     have t0:=HCX.out WI (Ag _ _) i hlt;obtain⟨z,hz⟩:=ey (X.getD i 0);rw[hz]at t0;have HZI:=Ah hz;have HLT:=Ah hlt;have hn128:=HN128.out;have e1:Ab.wrap (-(mm:Int))= -(mm:Int):=Ca _ Ci;clear hvi HVN HVZ hcx hz hlt hn128 HRX HN2;obtain⟨cb,hcb⟩:∃c:Bool,decide (z=0∨z>(mm:Int)∨z< -(mm:Int))=c:=⟨_,rfl⟩
     have HCB:Hid (arE mm X i 0=if cb then 1 else 0):=Ah (by
      rw[←hcb];by_cases h:z=0∨z>(mm:Int)∨z< -(mm:Int)
      ·rw[Xc5 HZI.out h,if_pos (decide_eq_true h)]
      ·rw[Xd2 HZI.out (λe=>h (.inl e)) (λe=>h (.inr (.inl e))) (λe=>h (.inr (.inr e))),if_neg (by simpa using h)])
     go_upto_region 24 with fail;go_cut [135]from 112 to 135 (λs135 wx=>s135= .bool cb∧WI=wx)
     case first=>
      clear HCX HBI HVI HCB;by_cases z0:z=0
      ·have q4:(z==0)=true:=by simpa using z0
       obtain rfl:cb=true:=by rw[←hcb];exact decide_eq_true (.inl z0)
       clear z0 hcb
       as_aux_lemma=>
       go_wp2;go_meet;exact⟨rfl,rfl⟩
      have q4:(z==0)=false:=by simpa using z0
      by_cases z1:z>(mm:Int)
      ·obtain rfl:cb=true:=by rw[←hcb];exact decide_eq_true (.inr (.inl z1))
       clear z0 hcb
       as_aux_lemma=>
       go_wp2;go_meet;exact⟨rfl,rfl⟩
      by_cases z2:z< -(mm:Int)
      ·obtain rfl:cb=true:=by rw[←hcb];exact decide_eq_true (.inr (.inr z2))
       clear z0 hcb
       as_aux_lemma=>
       go_wp2;go_meet;exact⟨rfl,rfl⟩
      ·obtain rfl:cb=false:=by rw[←hcb];exact decide_eq_false (λh=>h.elim z0 (λh=>h.elim z1 z2))
       clear z0 hcb
       as_aux_lemma=>
       go_wp2;go_meet;exact⟨rfl,rfl⟩
     obtain⟨rfl,rfl⟩:=hcut
     apply_assumption
     go_cut [5]from 5 to 5 (λs5 wx=>s5= Aa Ab (arE mm X i 0)∧WI=wx)
     case first=>
      clear HCX HBI HVI hcb
      cases cb with
      |true=>
       as_aux_lemma=>
       go_wp2;go_meet;exact⟨by rw[HCB.out];rfl,rfl⟩
      |false=>
       as_aux_lemma=>
       go_wp2;go_meet;exact⟨by rw[HCB.out];rfl,rfl⟩
     obtain⟨rfl,rfl⟩:=hcut;clear HCB hcb;obtain⟨u,hu⟩:=ey (Ab.wrap (-z))
     have hun:z.natAbs≤mm→u= -z:=λh=>by
      rw[←hu];exact Ca _ (by have:=HN128.out;omega)
     have S1:Hid (∀j v,X.getD j 0=v→(v=z∨v=u)→arE mm X i (j+1)=1):=Ah λj v hv h=>Xc7 HZI.out hv hun h;have S0:Hid (∀j v,X.getD j 0=v→¬v=z→¬v=u→arE mm X i (j+1)=arE mm X i j):=Ah λj v hv h h'=>Xd4 HZI.out hv hun h h';clear hun e1 t0;go_wp2
     go_loopw [5,11] (λs5 s11 wr=>∃j:Nat,j≤i∧s11= Aa Ab j∧s5= Aa Ab (arE mm X i j)∧Hid (Below WI.heap.size WI wr)) (λ_ s11 _=>i-(intOf s11).toNat)
     case atStart=>exact⟨0,Ci,rfl,rfl,Ah (Ag _ _)⟩
     obtain⟨j,hj,rfl,rfl,HBJ⟩:=hrel;by_cases hlt2:j<i
     ·have q5:(j:Int)<(i:Int):=Ci;have q6:(j:Int)<(mm:Int):=Ci;have ej:Ab.wrap ((j:Int)+1)=(j:Int)+1:=Ca _ (by have h2:=HN128.out;omega);have t0:=HCX.out _ HBJ.out i HLT.out;have t1:=HCX.out _ HBJ.out j (by have:=HLT.out;omega);rw[HZI.out]at t0;obtain⟨v,hv⟩:=ey (X.getD j 0);rw[hv]at t1;obtain⟨aj,haj⟩:=ey (arE mm X i j);have s1:=S1.out j v hv;have s0:=S0.out j v hv;rw[haj]at s0⊢;have HL:=Ah hlt2;clear hv haj hlt2 HCX S1 S0;by_cases z1:v=z
      ·have q7:(v==z)=true:=by simpa using z1
       have Z0:=Ah (s1 (.inl z1));clear z1 s1 s0
       as_aux_lemma=>
       go_wp2
       go_quiet (fail)
       go_wp2;exact⟨⟨j+1,Xa2 HL.out,Cn,by rw[Z0.out],Ah (btr HBJ.out (Dg (Ag _ _) nq))⟩,Xa0 HL.out⟩
      have q7:(v==z)=false:=by simpa using z1
      by_cases z2:v=u
      ·have q8:(v==u)=true:=by simpa using z2
       have Z0:=Ah (s1 (.inr z2));clear z1 z2 s1 s0
       as_aux_lemma=>
       go_wp2
       go_quiet (fail)
       go_wp2;exact⟨⟨j+1,Xa2 HL.out,Cn,by rw[Z0.out],Ah (btr HBJ.out (Dg (Ag _ _) nq))⟩,Xa0 HL.out⟩
      ·have q8:(v==u)=false:=by simpa using z2
       have Z0:=Ah (s0 z1 z2);clear z1 z2 s1 s0
       as_aux_lemma=>
       go_wp2
       go_quiet (fail)
       go_wp2;exact⟨⟨j+1,Xa2 HL.out,Cn,by rw[Z0.out],Ah (btr HBJ.out (Dg (Ag _ _) nq))⟩,Xa0 HL.out⟩
     ·obtain rfl:j=i:=Ci;have q5:¬(j:Int)<(j:Int):=Ci;have ej:Ab.wrap ((j:Int)+1)=(j:Int)+1:=Ca _ (by have h1:=HLT.out;have h2:=HN128.out;omega);clear S1 S0 HCX
      as_aux_lemma=>
      go_wp2;exact⟨⟨j+1,Xa2 HLT.out,Cn,by rw[HVI.out],Ah (btr HBI.out HBJ.out)⟩,Xa0 HLT.out⟩
    ·have q3:(vi==0)=false:=by simpa using hv
     have HE:=Ah (HVZ.out (.inl hv));clear hv hvi HVZ HVN HRX
     as_aux_lemma=>
     go_wp2;go_meet;exact⟨by rw[HE.out],HBI⟩
   ·obtain rfl:i=mm:=Ci;have q2:¬(i:Int)<(i:Int):=Ci;have HE:=Ah (HV.out i (Am _) (.inr rfl));clear HV HVN HRX
    as_aux_lemma=>
    go_wp2;go_meet;exact⟨by rw[HE.out],HBI⟩
  obtain⟨rfl,HWX⟩:=hcut;have HBC:=Ah (btr HB.out HWX.out);have H3:=(HH.out.call HOB.out).call HWX.out;have hfb:=HFB.out _ HBC.out;have hfm:jX wc FA BA fr bk:=⟨hfb.1,hfb.2,by have:=HNF.out;omega,by have:=HNB.out;omega,HL8.out⟩;have HFM:=Ah (λ(w':Aj) (hb:Below wc.heap.size wc w')=>hfm.below hb);have HQC:=Ah (λ(w':Aj) (hb:Below wc.heap.size wc w')=>HQT.out w' (btr HBC.out hb));have hck:=λ(w':Aj) (hb:Below wc.heap.size wc w')=>Xi FA BA fr bk c1 c2 w' (HFM.out w' hb).f (HFM.out w' hb).b hfm.lf hfm.lb hfm.lk;have htx:=λ(w':Aj) (hb:Below wc.heap.size wc w')=>jF FA BA fr bk c1 c2 w' (HFM.out w' hb) (HQC.out w' hb).2.2;have hzz:fmE (fr.map (·.ks)) (bk.map (·.ks))=Z:=HZ.out;rw[hzz,HNF.out,HNB.out]at hck;rw[HNF.out,HNB.out]at htx;obtain⟨zb,hzb⟩:=ey ((Z != 0));obtain⟨TS,hTS⟩:=ey (bsL (bW (ksL fr) (ksL bk)));have hte:TS.toList.isEmpty=zb:=by rw[←hTS,Xb3,HZ.out,hzb]
  rw[hTS]at htx;have HCK:=Ah hck;have HTX:=Ah htx;have qz:((!zb)==zb)=false:=by cases zb<;>rfl
  have hbcc:Hid (Below wc.heap.size wc wc):=Ah (Ag _ _);obtain⟨⟨f0,f1⟩,-⟩:=Cy (H3.blk 0 _ _ _ rfl);clear hfb hfm hck htx hzz hTS HRX HFB HV HN2 HH HL8 HRS HRL HR HR16 hbY HB HBW;go_wp2_with fail;refine(HCK.out _ (Ag _ _)).mono ?_;rintro ee w4 ⟨rfl,hb4⟩;have H4:=H3.call hb4;clear f0 f1 H3;obtain⟨⟨f0,f1⟩,-⟩:=Cy (H4.blk 0 _ _ _ rfl);go_wp2_with fail;refine(HTX.out _ hb4).mono ?_;rintro ee w5 ⟨rfl,hb5⟩;have H5:=H4.call hb5;have hb5:=btr hb4 hb5;clear f0 f1 H4 hb4 HTX;obtain⟨⟨f0,f1⟩,-⟩:=Cy (H5.blk 0 _ _ _ rfl);go_upto_region 33 with fail;clear hte qz;obtain⟨⟨g0,g1,g2⟩,-⟩:=Cv (H5.blk 1 _ _ _ rfl);go_wp2_with fail;refine(HG.out _ H5.below).mono ?_;rintro ee w6 ⟨cs,LA,rfl,hkp,-,hb,-⟩;obtain⟨pA,pc,SA,cc,rfl,hA,hp,hst⟩:=hkp.st.held;obtain⟨ll,hll⟩:=ey ((hvG (ovG xo) 10 a b 0).length);rw[hll,hsa,hsb];obtain⟨T3,hT3⟩:=ey w6.heap.size;have H6:=(H5.call hb).new #[Aa Ab a,Aa Ab b,Ad pA t.cr.length pc,Aa Ac t.root.t,Aa Ab t.root.x,Aa Ab t.root.y,Ad SA t.l.length cc] 33 hT3;have HST:=Ah (λ(w':Aj) (hb:Below w6.heap.size w6 w')=>show Rd w' pA 3 t.cr.length (crs t.cr)∧Dh w' SA t.l from⟨hp.below hb,hst.below hb⟩);have hb6:=btr hb5 hb;have hb66:Below w6.heap.size w6 (w6.alloc (.cells #[Aa Ab a,Aa Ab b,Ad pA t.cr.length pc,Aa Ac t.root.t,Aa Ab t.root.x,Aa Ab t.root.y,Ad SA t.l.length cc] 33)):=(Ag _ _).alloc (Am _) _;have hb7:=btr hb6 hb66;clear hkp hp hst hb HG g0 g1 g2 f0 f1 H5 hb5 hb6 hll;go_upto_region 34 with fail
  try rw[hT3]
  obtain⟨W7,hW7⟩:=ez (w6.alloc (.cells #[Aa Ab a,Aa Ab b,Ad pA t.cr.length pc,Aa Ac t.root.t,Aa Ab t.root.x,Aa Ab t.root.y,Ad SA t.l.length cc] 33));rw[←hW7]at H6 hb66 hb7⊢;clear hW7;clear hT3;obtain⟨s0,s1,s2,s3,s4,s5,s6⟩:=Gb (H6.blk 2 _ _ _ rfl);obtain⟨⟨f0,f1⟩,-⟩:=Cy (H6.blk 0 _ _ _ rfl);have hs:=HST.out _ hb66;have hq:=HQC.out _ hb7;have hrd:=jE a b t m _ (Rw HI.out ha8.2 hb8.2) (dY HI.out) FA BA fr bk c1 c2 pA pc SA cc W7 (HFM.out _ hb7) hA hs.1 hs.2 hq.1 hq.2.1;rw[hsa,hsb,HNF.out,HNB.out]at hrd;unfold wH at hrd;rw[HZ.out]at hrd;have HRD:=Ah hrd;have HLQ:=Ah (λ(w':Aj) (hb:Below W7.heap.size W7 w')=>HLV.out w' (btr H6.below hb));have HB7:=Ah H6.below;clear hrd hs hq HLV;go_wp2_with fail;refine HRD.out.mono ?_;clear HRD;rintro ee w8 ⟨hb8x,⟨hz0,rfl⟩|⟨rfl,hnf,rfl⟩|⟨rfl,hft,g,hg,rfl,hgb⟩⟩
  ·obtain rfl:zb=true:=by rw[←hzb];simpa using hz0
   have HW8:=Ah (btr HB7.out hb8x);have HLW:=Ah (HLQ.out _ hb8x);have q9:(Z==Z)=true:=Cn;clear s0 s1 s2 s3 s4 s5 s6 f0 f1 hb8x hz0 HCK H6 HLQ HST HFM HQC HFT HCN HI
   as_aux_lemma=>
   go_wp2_with fail;refine HLW.out.mono ?_;rintro ee w10 ⟨rfl,hb⟩;have HF:=Ah (btr HW8.out hb);clear hb;go_wp2;go_ret;exact⟨rfl,HF.out⟩
  ·obtain rfl:zb=false:=by rw[←hzb];rfl
   have H8:=H6.call hb8x;have HW8:=Ah (btr HB7.out hb8x);have HLW:=Ah (λ(w':Aj) (hb:Below w8.heap.size w8 w')=>HLQ.out w' (btr hb8x hb));have hno:¬(nf=b∧c0=a):=λh=>hnf (HFT.out.2 h);obtain⟨z1,-⟩:=dE HZ.out;have hn0:0<nf:=by have:=HNF.out;rw[←this];simpa[ksL]using z1
   clear s0 s1 s2 s3 s4 s5 s6 f0 f1;obtain⟨s0,s1,s2,s3,s4,s5,s6⟩:=Gb (H8.blk 2 _ _ _ rfl);obtain⟨⟨f0,f1⟩,-⟩:=Cy (H8.blk 0 _ _ _ rfl);obtain⟨hn1,e0⟩:=HC0.out hn0;obtain⟨bFv,oFv,rfl,-,t0⟩:=(HFM.out _ (btr hb7 hb8x)).f.at' 0 hn1;rw[e0]at t0;have t0:w8.cell? ⟨bFv,oFv,Ae⟩=Af (.slice fr[0].A c0 fr[0].c):=by simpa using t0
   obtain⟨rA,hrA⟩:=ey (fr[0].A);obtain⟨rCv,hrC⟩:=ey (fr[0].c);rw[hrA,hrC]at t0;have q7:(0:Int)<(nf:Int):=Ci;clear hb8x HCK H6 H8 HLQ HST HFM HQC HFT HCN HI z1 hn0 hrA hrC e0 hnf HC0;by_cases z1:nf=b
   ·have q5:((nf:Int) != (b:Int))=false:=by simp;omega
    have q6:((c0:Int) != (a:Int))=true:=by simp;exact λh=>hno ⟨z1,Ci⟩
    clear hno z1
    as_aux_lemma=>
    go_wp2
    go_quiet (fail)
    go_wp2_with fail;refine(HLW.out _ (Dg (Ag _ _) nq)).mono ?_;rintro ee w10 ⟨rfl,hb⟩;have HF:=Ah (btr HW8.out (Dg (Ag _ w8) nq|>.trans hb));clear hb;go_wp2;go_ret;exact⟨rfl,HF.out⟩
   ·have q5:((nf:Int) != (b:Int))=true:=by simp;omega
    clear hno z1
    as_aux_lemma=>
    go_wp2
    go_quiet (fail)
    go_wp2_with fail;refine(HLW.out _ (Dg (Ag _ _) nq)).mono ?_;rintro ee w10 ⟨rfl,hb⟩;have HF:=Ah (btr HW8.out (Dg (Ag _ w8) nq|>.trans hb));clear hb;go_wp2;go_ret;exact⟨rfl,HF.out⟩
  ·obtain rfl:zb=false:=by rw[←hzb];rfl
   have H8:=H6.call hb8x;obtain⟨e1,e2⟩:=HFT.out.1 hft;have hnn:=HCN.out rfl hft;have hil:=Hs HI.out;unfold Do at hil;obtain⟨nn,hnn2⟩:=ey (2*(atF t.l ⟨0,0,0⟩).reverse.length);obtain rfl:mm=nn:=by rw[←hnn2,hil,hnn]
   rw[hnn2];obtain⟨z1,-⟩:=dE HZ.out;have hn0:0<nf:=by have:=HNF.out;rw[←this];simpa[ksL]using z1
   clear s0 s1 s2 s3 s4 s5 s6 f0 f1;obtain⟨s0,s1,s2,s3,s4,s5,s6⟩:=Gb (H8.blk 2 _ _ _ rfl);obtain⟨⟨f0,f1⟩,-⟩:=Cy (H8.blk 0 _ _ _ rfl);obtain⟨hn1,e0⟩:=HC0.out hn0;obtain⟨bFv,oFv,rfl,-,t0⟩:=(HFM.out _ (btr hb7 hb8x)).f.at' 0 hn1;rw[e0]at t0;have t0:w8.cell? ⟨bFv,oFv,Ae⟩=Af (.slice fr[0].A c0 fr[0].c):=by simpa using t0
   obtain⟨rA,hrA⟩:=ey (fr[0].A);obtain⟨rCv,hrC⟩:=ey (fr[0].c);rw[hrA,hrC]at t0;have q5:((nf:Int) != (b:Int))=false:=by simp;omega
   have q6:((c0:Int) != (a:Int))=false:=by simp;omega
   have q7:(0:Int)<(nf:Int):=Ci;have HB8:=Ah hb8x;clear hrA hrC e0 z1 hn0 hnn hil hnn2 e1 e2 hft hg hgb HC0 H6 hb8x;go_wp2
   go_quiet (fail)
   have H9:=H8.drewN nq;have HB9:=Ah (btr HB8.out (Dg (Ag _ w8) nq));obtain⟨W9,hW9⟩:=ez (w8.drewN nq);rw[←hW9]at H9 HB9⊢;clear hW9;clear s0 s1 s2 s3 s4 s5 s6 f0 f1 q5 q6 q7 t0 H8 HB8;obtain⟨s0,s1,s2,s3,s4,s5,s6⟩:=Gb (H9.blk 2 _ _ _ rfl);obtain⟨T4,hT4⟩:=ey W9.heap.size;have H10:=H9.new #[Aa Ab a,Aa Ab b,Ad pA t.cr.length pc,Aa Ac t.root.t,Aa Ab t.root.x,Aa Ab t.root.y,Ad SA t.l.length cc] 33 hT4;have hal:Below W9.heap.size W9 (W9.alloc (.cells #[Aa Ab a,Aa Ab b,Ad pA t.cr.length pc,Aa Ac t.root.t,Aa Ab t.root.x,Aa Ab t.root.y,Ad SA t.l.length cc] 33)):=(Ag _ _).alloc (Am _) _;have HT4:=Ah (show W7.heap.size≤T4 by have:=HB9.out.size;omega);have HB10:=Ah (btr HB9.out hal);clear H9 HB9 hal;go_upto_region 40 with fail
   try rw[hT4]
   obtain⟨W10,hW10⟩:=ez (W9.alloc (.cells #[Aa Ab a,Aa Ab b,Ad pA t.cr.length pc,Aa Ac t.root.t,Aa Ab t.root.x,Aa Ab t.root.y,Ad SA t.l.length cc] 33));rw[←hW10]at H10 HB10⊢;clear hW10;clear s0 s1 s2 s3 s4 s5 s6 hT4;have fz:W10.frozen? ⟨T4,6,Ae⟩=false:=by simp[World.frozen?,H10.blk 3 _ _ _ rfl]
   obtain⟨-,-,-,-,-,-,x6⟩:=Gb (H10.blk 3 _ _ _ rfl);have HBA:=Ah (HB10.out.setCell (p:=⟨T4,6,Ae⟩) HT4.out (Ad Ae 0 0));have H11:Bx w [(N,#[Ad (Af ⟨bFv,oFv,Ae⟩) nf c1,Ad BA nb c2],39),(P,#[Aa Ac xw,Aa Ac xh,Aa Ac xo],23),(T3,#[Aa Ab a,Aa Ab b,Ad pA t.cr.length pc,Aa Ac t.root.t,Aa Ab t.root.x,Aa Ab t.root.y,Ad SA t.l.length cc],33),(T4,#[Aa Ab a,Aa Ab b,Ad pA t.cr.length pc,Aa Ac t.root.t,Aa Ab t.root.x,Aa Ab t.root.y,Ad Ae 0 0],33)] (W10.setCell ⟨T4,6,Ae⟩ (Ad Ae 0 0)):=H10.set 3 6 rfl (Ad Ae 0 0);clear H10 HB10 HT4;go_upto_region 41 with fail;obtain⟨WA,hWA⟩:=ez (W10.setCell ⟨T4,6,Ae⟩ (Ad Ae 0 0));rw[←hWA]at H11 HBA⊢;clear hWA;clear fz x6;have HBC7:=Ah hb7;have hgs:=HI.out.gs;have hbd:=λ(w':Aj) (hb:Below WA.heap.size WA w')=>Ug t.a t.b pA t.cr t.cr.length pc t.root Ae [] 0 0 w' hgs.pat rfl (HST.out w' (btr hb66 (btr HBA.out hb))).1 (by have:=hgs.pn;omega) (by have:=gV hgs.root;omega) rfl ⟨[],rfl,Rd.nil,Cn⟩ Ci Cn Cn (HQC.out w' (btr hb7 (btr HBA.out hb))).1 (HQC.out w' (btr hb7 (btr HBA.out hb))).2.1;rw[Xb2 hgs,hsa,hsb]at hbd;have HBD:=Ah hbd;have HCK2:=Ah (λ(w':Aj) (hb:Below WA.heap.size WA w')=>HCK.out w' (btr hb7 (btr HBA.out hb)));have HLQ2:=Ah (λ(w':Aj) (hb:Below WA.heap.size WA w')=>HLQ.out w' (btr HBA.out hb));have HWA:=Ah H11.below;have HH11:=Ah H11;clear hbd hgs hb66 hb7 HBC7 HBA HCK HLQ HQC HST HFM HFT HCN HI HB7 H11;have H11:=HH11.out;obtain⟨s0,s1,s2,s3,s4,s5,s6⟩:=Gb (H11.blk 3 _ _ _ rfl);go_wp2_with fail;refine(HBD.out _ (Ag _ _)).mono ?_;rintro ee wBv ⟨rfl,hb⟩;have HB1:=Ah hb;have H12:=H11.call hb;clear s0 s1 s2 s3 s4 s5 s6 hb H11;obtain⟨s0,s1,s2,s3,s4,s5,s6⟩:=Gb (H12.blk 3 _ _ _ rfl);obtain⟨⟨f0,f1⟩,-⟩:=Cy (H12.blk 0 _ _ _ rfl);go_wp2_with fail
   refine(Xb0 _ _ _ _ _ _ _ _ _ _ _ 6 Ct _ _ _ _ _ _ _ (λw' hb=>HCK2.out w' (btr HB1.out hb)) (λw' hb=>HBD.out w' (btr HB1.out hb))).mono ?_;rintro ee wCv ⟨rfl,hb⟩;have HB2:=Ah (btr HB1.out hb);have H13:=H12.call hb;clear s0 s1 s2 s3 s4 s5 s6 f0 f1 hb H12 HB1;obtain⟨s0,s1,s2,s3,s4,s5,s6⟩:=Gb (H13.blk 3 _ _ _ rfl);go_wp2_with fail;refine(Xa1 _ _ _ _ _ _ _ _ _ _ _ 6 Ct _ (λw' hb=>HBD.out w' (btr HB2.out hb))).mono ?_;rintro ee wDv ⟨rfl,hb⟩;have HB3:=Ah (btr HB2.out hb);have H14:=H13.call hb;clear s0 s1 s2 s3 s4 s5 s6 hb H13 HB2;obtain⟨s0,s1,s2,s3,s4,s5,s6⟩:=Gb (H14.blk 3 _ _ _ rfl);go_wp2_with fail;refine(Xa8 _ _ _ _ _ _ _ _ _ _ _ 6 Ct _ (λw' hb=>HBD.out w' (btr HB3.out hb))).mono ?_;rintro ee wEv ⟨rfl,hb⟩;have HB4:=Ah (btr HB3.out hb);have HB5:=Ah (btr HB4.out (((Ag wEv.heap.size wEv).alloc (Am _) (.cells #[Ad Ae 0 0,Ad Ae 0 0] 39))));clear s0 s1 s2 s3 s4 s5 s6 hb H14 HB3 HB4 HBD HCK2
   as_aux_lemma=>
   go_wp2_with fail;refine(HLQ2.out _ HB5.out).mono ?_;rintro ee wFv ⟨rfl,hb⟩;have HF:=Ah (btr HWA.out (btr HB5.out hb));clear hb;go_wp2;go_ret;exact⟨rfl,HF.out⟩
end Go.Proofs.YthpcfeifmdbhnaaGreatDoor
