import Derived.Test.YteoffhpfcgffcaaGreatDoorQMun
import Derived.Test.YteoffhpfcgffcaaGreatDoorQPln
import Derived.Test.YteoffhpfcgffcaaGreatDoorQMlv
open Go renaming Calls→Ai,Value→Ah,World→Ag,wpAnyH_done→Ak,wp_region_held_drew→Al
open Go.IntKind renaming i64→Ab,u8→Ac
open Go.Lib renaming hid→Ae
open Go.Value renaming int→Aa,slice→Ad
open List renaming getElem_cons_succ→Bz,getElem_cons_zero→By,getElem_toArray→Ca,setIfInBounds_toArray→Cd,set_cons_succ→Cc,set_cons_zero→Cb
open Nat renaming le_refl→Aj
set_option maxHeartbeats 64000000
set_option maxRecDepth 100000
namespace Go.Proofs.YteoffhpfcgffcaaGreatDoor
open Go.RowKit
def LeS (w:Ag) (l:List (Nat×Array Ah×TypeId)) (mv:Array Ah) (sp:Bool) (E:Int) (U:Nat) (B F:Int) (wx:Ag):Prop:=∃v0 v1 v2 v3 v4 v5 v6,
 Bx w (l++[(U,#[v0,v1,v2,v3,v4,v5,v6],43)]) wx∧UnC wx #[v0,v1,v2,v3,v4,v5,v6] mv B F E∧(sp=true→B=6∧F=6)∧(sp=false→B=0∧F=1)
theorem LeS.upto {w:Ag} {l:List (Nat×Array Ah×TypeId)} {mv:Array Ah} {sp:Bool} {E:Int} {U:Nat} {B F:Int} {wx wy:Ag} (h:LeS w l mv sp E U B F wx) (hb:Below wx.heap.size wx wy):LeS w l mv sp E U B F wy:=by
 obtain⟨v0,v1,v2,v3,v4,v5,v6,h1,h2,h3,h4⟩:=h;exact⟨v0,v1,v2,v3,v4,v5,v6,h1.call hb,fun w' h'=>h2 w' (hb.trans (h'.mono hb.size)),h3,h4⟩
theorem ler_any (m:Mh) (pK:Option Addr) (mn cK:Nat) (hmn:mn=m.st.length) (_hml:mn≤maxLen) (x y:Nat) (ks:List Nat) (hk:∀k∈ks,k≤255) (n:Nat) (hn:n=ks.length) (hnm:n≤maxLen) (pF:Option Addr) (c:Nat) (sp:Bool) (w:Ag)
  (hrK:Rd w pK 3 mn (m.st.flatMap snC)) (hrF:Rd w pF 1 n (ksV ks)) (hQ:Qf w) (hT:Tn w):
  Ai Tryz.prog 3 #[.agg #[Aa Ab m.a,Aa Ab m.b,Aa Ab m.c,Ad pK mn cK],.agg #[Aa Ac x,Aa Ac y,Ad pF n c],.bool sp] w (Cg (.bool true) w):=by
 have HOF:=Ae (fun(w':Ag) (hb:Below w.heap.size w w')=>rY x y ks hk n hn hnm pF c w' (hrF.below hb) (hQ.below hb) (hT.below hb));have HLV:=Ae (fun(w':Ag) (hb:Below w.heap.size w w')=>lN w' (hQ.below hb) (hT.below hb));have HQT:=Ae (fun(w':Ag) (hb:Below w.heap.size w w')=>show Qf w'∧Tn w' from⟨hQ.below hb,hT.below hb⟩);have HRK:=Ae (fun(w':Ag) (hb:Below w.heap.size w w')=>hrK.below hb);have HGS:=Ae (Ab5 x y ks);have HMN:=Ae hmn;have HWA:=Ae (wantK_all m);have HW0:=Ae (wantK_zero m);have HWN:=Ae (fun(k:Nat) (hk:k<m.st.length)=>wantK_next (m:=m) hk);have H:=((Bx.start w).new #[Aa Ab m.a,Aa Ab m.b,Aa Ab m.c,Ad pK mn cK] 24 rfl).new #[Aa Ac x,Aa Ac y,Ad pF n c] 27 (N:=w.heap.size+1) (by simp);obtain⟨s,hs⟩:=ey (ofF x y ks);rw[hs]at HOF HGS;unfold dB at HOF;obtain⟨E,hE⟩:=ey (mchkF m);rw[hE]at HWA;have HE:=Ae hE;obtain⟨fr,hfr⟩:=ey m.far;rw[hfr]at HW0;unfold Mh.far at hfr;have HFR:=Ae hfr;obtain⟨E0,hE0⟩:∃z:Int,(if fr then 1 else 0)=z:=⟨_,rfl⟩;rw[hE0]at HW0;have HE0:=Ae hE0;have HMC:=Ae (fun(hl:mn≤20) (w':Ag) (hb:Below w.heap.size w w')=>mchk_any m pK mn cK w' hmn (by omega) (hrK.below hb));have HUO:=Ae (fun(hl:mn≤20) (pA:Option Addr) (pc:Nat) (A:Option Addr) (cc:Nat) (w':Ag) (hb:Below w.heap.size w w') (h1:AOk pA s.cr.length pc) (h2:Rd w' pA 3 s.cr.length (crs s.cr)) (h3:Cs w' A s.l)=>un_ok m s pK mn cK hmn (by omega) pA pc A cc w' (hrK.below hb) HGS.out h1 h2 h3 (hQ.below hb) (hT.below hb));have HUB:=Ae (fun(hl:mn≤20) (pA:Option Addr) (pc:Nat) (w':Ag) (hb:Below w.heap.size w w') (h2:Rd w' pA 3 s.cr.length (crs s.cr))=>un_bad m s pK mn cK hmn (by omega) pA pc w' (hrK.below hb) HGS.out h2 (hQ.below hb) (hT.below hb));rw[hE]at HMC HUO HUB;have HFZ:=Ae (fun(w':Ag)=>Vo 0 0 0 false w');rw[show ec (Kg 0 0 0) 1=1 by decide]at HFZ
 have HF1:=Ae (fun(w':Ag) (hb:Below w.heap.size w w')=>Tu 1 1 w' (by kernel_rfl) (by kernel_rfl) (hQ.below hb) (hT.below hb));have hg1:=Al9;have hfn:=far_none;obtain⟨s1,he1⟩:=ey (Es 1 1);rw[he1]at HF1 hg1 hfn;unfold dB at HF1;have HMO:=Ae (fun(w':Ag) (hb:Below w.heap.size w w') (pA:Option Addr) (pc:Nat) (A:Option Addr) (cc:Nat) (hin:Mq w' [Aa Ab s1.a,Aa Ab s1.b,Ad pA s1.cr.length pc,Aa Ac s1.root.t,Aa Ab s1.root.x,Aa Ab s1.root.y,Ad A s1.l.length cc] s1)=>mofNo_any s1 1 4096 0 false (by decide) (by decide) hfn pA pc A cc w' hg1 (Do hin).2.1 (Do hin).2.2 (hQ.below hb) (hT.below hb));clear hk hn hnm hmn hrF hrK hQ hT hs hE hfr hE0 he1 hg1 hfn;go_enter Tryz.func3,Tryz.ntmps3;go_upto_region 1 with fail;obtain⟨N,hN⟩:=ez w.heap.size;rw[←hN]at H⊢;have HNN:=Ae hN;clear hN;obtain⟨P,hP⟩:=ey (N+1);rw[hP]at H⊢;clear hP;obtain⟨W1,hW1⟩:=ez ((w.alloc (.cells #[Aa Ab m.a,Aa Ab m.b,Aa Ab m.c,Ad pK mn cK] 24)).alloc (.cells #[Aa Ac x,Aa Ac y,Ad pF n c] 27));rw[←hW1]at H⊢;clear hW1;obtain⟨⟨a0,a1,a2,a3⟩,-⟩:=Co (H.blk 0 _ _ _ rfl);by_cases hL:20<(mn:Int)
 ·go_wp2_with fail;refine(HLV.out _ H.below).mono ?_;rintro ee w2 ⟨rfl,hb⟩;have HF:=Ae (H.call hb).below;clear a0 a1 a2 a3 H hb;go_wp2_with fail;go_ret;exact⟨rfl,HF.out⟩
 have hm20:mn≤20:=by omega
 have HI0:=Ae H;clear H;go_upto_region 4 with fail;go_cut [63]from 36 to 63 (fun s63 wx=>s63= .bool fr∧Hid (W1=wx))
 case first=>
  by_cases q1:m.a<1
  ·go_wp2_with fail;go_meet;exact⟨by rw[←HFR.out];simp[q1],Ae rfl⟩
  ·by_cases q2:1024<m.a
   ·go_wp2_with fail;go_meet;exact⟨by rw[←HFR.out];simp[q2],Ae rfl⟩
   ·by_cases q3:m.b<1
    ·go_wp2_with fail;go_meet;exact⟨by rw[←HFR.out];simp[q3],Ae rfl⟩
    ·by_cases q4:256<m.b
     ·go_wp2_with fail;go_meet;exact⟨by rw[←HFR.out];simp[q4],Ae rfl⟩
     ·by_cases q5:m.c<1
      ·go_wp2_with fail;go_meet;exact⟨by rw[←HFR.out];simp[q5],Ae rfl⟩
      ·by_cases q6:256<m.c
       ·go_wp2_with fail;go_meet;exact⟨by rw[←HFR.out];simp[q6],Ae rfl⟩
       ·go_wp2_with fail;go_meet;exact⟨by rw[←HFR.out];simp[q1,q2,q3,q4,q5,q6],Ae rfl⟩
 case rest=>
 obtain⟨rfl,HW⟩:=hcut;obtain rfl:=HW.out;clear HW HFR a0 a1 a2 a3;go_upto_if 63 with fail;go_cut [7]from 63 to 63 (fun s7 wx=>s7= Aa Ab E0∧Hid (W1=wx))
 case first=>
  cases fr with
  |true=>
   go_wp2_with fail;go_meet;exact⟨by rw[←HE0.out];rfl,Ae rfl⟩
  |false=>
   go_wp2_with fail;go_meet;exact⟨by rw[←HE0.out];rfl,Ae rfl⟩
 case rest=>
 obtain⟨rfl,HW⟩:=hcut;obtain rfl:=HW.out;clear HW;go_wp2_with fail
 go_loopw [9,7] (fun s9 s7 wr=>∃k:Nat,k≤mn∧s9= Aa Ab k∧s7= Aa Ab (wantK m k)∧Hid (Bx w [(N,#[Aa Ab m.a,Aa Ab m.b,Aa Ab m.c,Ad pK mn cK],24),(P,#[Aa Ac x,Aa Ac y,Ad pF n c],27)] wr)) (fun s9 _ _=>mn-(intOf s9).toNat)
 case atStart=>exact⟨0,by omega,rfl,by rw[HW0.out],HI0⟩
 case round=>
  obtain⟨k,hk,rfl,rfl,HZ⟩:=hrel;clear HI0;by_cases hlt:k<mn
  ·have q0:(k:Int)<(mn:Int):=by omega
   have hkl:k<m.st.length:=by have:=HMN.out;omega
   obtain⟨kb,ko,hA,hkb,t0,t1,t2⟩:=jM (HRK.out _ HZ.out.below) k hkl;have hwn:=HWN.out k hkl;obtain⟨⟨tk,tp,tv⟩,ht⟩:=ey (m.st[k]);rw[ht]at t0 t1 t2 hwn;unfold oddL at hwn;dsimp only at t0 t1 t2 hwn;obtain⟨e0,he0⟩:=ey (wantK m k);rw[he0]at hwn⊢;have HWK:=Ae hwn;obtain⟨X,hX⟩:=ey wr.heap.size;have H5:=HZ.out.new #[Aa Ac tk,Aa Ab tp,.bool tv] 32 hX;obtain⟨⟨-,-,-,a3⟩,-⟩:=Co (HZ.out.blk 0 _ _ _ rfl);subst hA;clear ht hwn he0 hkl HZ hkb;go_upto_region 11 with fail
   try rw[hX]
   obtain⟨W5,hW5⟩:=ez (wr.alloc (.cells #[Aa Ac tk,Aa Ab tp,.bool tv] 32));rw[←hW5]at H5⊢;clear hW5;clear t0 t1 t2 hX a3;obtain⟨⟨c0,c1,c2⟩,-⟩:=Ci (H5.blk 2 _ _ _ rfl);obtain⟨⟨-,-,a2,-⟩,-⟩:=Co (H5.blk 0 _ _ _ rfl);have HB5:=Ae (H5.upto 2);clear H5;by_cases p1:7<(tk:Int)
   ·go_wp2_with fail;exact⟨⟨k+1,by omega,by go_num,by rw[HWK.out,if_pos (by simp;omega)],HB5⟩,by simp[intOf];omega⟩
   ·by_cases p2:tp<m.c
    ·go_wp2_with fail;exact⟨⟨k+1,by omega,by go_num,by rw[HWK.out,if_pos (by simp[p2])],HB5⟩,by simp[intOf];omega⟩
    ·by_cases p3:512<tp
     ·go_wp2_with fail;exact⟨⟨k+1,by omega,by go_num,by rw[HWK.out,if_pos (by simp[p3])],HB5⟩,by simp[intOf];omega⟩
     ·go_wp2_with fail;exact⟨⟨k+1,by omega,by go_num,by rw[HWK.out,if_neg (by simp;omega)],HB5⟩,by simp[intOf];omega⟩
  ·obtain rfl:mn=k:=by omega
   have q0:¬(mn:Int)<(mn:Int):=by omega
   have HWM:Hid ((if 16<mn then 3 else wantK m mn)=E):=Ae (by have h:=HWA.out;rw[←HMN.out]at h;exact h);obtain⟨e0,he0⟩:=ey (wantK m mn);rw[he0]at HWM⊢;clear he0 HWA HWN HW0;obtain⟨⟨-,-,-,a3⟩,-⟩:=Co (HZ.out.blk 0 _ _ _ rfl);go_upto_if 95 with fail;go_cut [7]from 92 to 95 (fun s7 wx=>s7= Aa Ab E∧Hid (wr=wx))
   case first=>
    by_cases hq:16<(mn:Int)
    ·go_wp2_with fail;go_meet;exact⟨by rw[←HWM.out,if_pos (by omega)],Ae rfl⟩
    ·go_wp2_with fail;go_meet;exact⟨by rw[←HWM.out,if_neg (by omega)],Ae rfl⟩
   case rest=>
   obtain⟨rfl,HW⟩:=hcut;obtain rfl:=HW.out;clear HW HWM a3;obtain⟨⟨a0,a1,a2,a3⟩,-⟩:=Co (HZ.out.blk 0 _ _ _ rfl);have q9:(E != E)=false:=by simp
   go_wp2_with fail;refine(HMC.out hm20 _ HZ.out.below).mono ?_;rintro ee w2 ⟨rfl,hb⟩;have H2:=HZ.out.call hb;clear a0 a1 a2 a3 HZ hb HMC;obtain⟨⟨b0,b1,b2⟩,-⟩:=Ci (H2.blk 1 _ _ _ rfl);go_wp2_with fail;refine(HOF.out _ H2.below).mono ?_;rintro ee w3 ⟨cs,rfl,hkp,hb⟩;obtain⟨pA,pc,A,cc,rfl,-,-,-⟩:=hkp.st.held;obtain⟨U,hU⟩:=ey w3.heap.size;have H4:=(H2.call hb).new #[Aa Ab s.a,Aa Ab s.b,Ad pA s.cr.length pc,Aa Ac s.root.t,Aa Ab s.root.x,Aa Ab s.root.y,Ad A s.l.length cc] 43 hU;have hal:=(Below.refl w3.heap.size w3).alloc (Aj _) (.cells #[Aa Ab s.a,Aa Ab s.b,Ad pA s.cr.length pc,Aa Ac s.root.t,Aa Ab s.root.x,Aa Ab s.root.y,Ad A s.l.length cc] 43);have hp:=Do hkp.st;have hA:=hp.1;have hpr:=hp.2.1.below hal;have hst:=hp.2.2.below hal;have HPS:Hid (Rd ((w3.alloc (.cells #[Aa Ab s.a,Aa Ab s.b,Ad pA s.cr.length pc,Aa Ac s.root.t,Aa Ab s.root.x,Aa Ab s.root.y,Ad A s.l.length cc] 43)).setCell ⟨U,6,none⟩ (Ad none 0 0)) pA 3 s.cr.length (crs s.cr)):=Ae (hp.2.1.below (hal.setCell (p:=⟨U,6,none⟩) (Nat.le_of_eq hU) (Ad none 0 0)));clear b0 b1 b2 H2 hb hkp hp hal HOF;go_upto_region 18 with fail
   try rw[hU]
   obtain⟨W4,hW4⟩:=ez (w3.alloc (.cells #[Aa Ab s.a,Aa Ab s.b,Ad pA s.cr.length pc,Aa Ac s.root.t,Aa Ab s.root.x,Aa Ab s.root.y,Ad A s.l.length cc] 43));rw[←hW4]at H4 hpr hst HPS⊢;clear hW4;clear hU;have HP4:=Ae (And.intro hA (And.intro hpr hst));have HH4:=Ae H4;clear hA hpr hst H4;go_upto_if 102 with fail;go_cut [102]from 102 to 103 (fun _ wx=>∃B F:Int,Hid (LeS w [(N,#[Aa Ab m.a,Aa Ab m.b,Aa Ab m.c,Ad pK mn cK],24),(P,#[Aa Ac x,Aa Ac y,Ad pF n c],27)] #[Aa Ab m.a,Aa Ab m.b,Aa Ab m.c,Ad pK mn cK] sp E U B F wx))
   case first=>
    cases sp with
    |false=>
     have HR:=Ae (show LeS w [(N,#[Aa Ab m.a,Aa Ab m.b,Aa Ab m.c,Ad pK mn cK],24),(P,#[Aa Ac x,Aa Ac y,Ad pF n c],27)] #[Aa Ab m.a,Aa Ab m.b,Aa Ab m.c,Ad pK mn cK] false E U 0 1 W4 from
      ⟨_,_,_,_,_,_,_,HH4.out,HUO.out hm20 pA pc A cc W4 HH4.out.below HP4.out.1 HP4.out.2.1 HP4.out.2.2,fun h=>Bool.noConfusion h,fun _=>⟨rfl,rfl⟩⟩)
     go_wp2_with fail;go_meet;exact⟨0,1,HR⟩
    |true=>
     obtain⟨z0,z1,z2,z3,z4,z5,z6⟩:=De (HH4.out.blk 2 _ _ _ rfl);obtain⟨y0,y1,y2,y3,y4,y5,y6⟩:=Jm (HH4.out.blk 2 _ _ _ rfl);have H5:Bx w [(N,#[Aa Ab m.a,Aa Ab m.b,Aa Ab m.c,Ad pK mn cK],24),(P,#[Aa Ac x,Aa Ac y,Ad pF n c],27),(U,#[Aa Ab s.a,Aa Ab s.b,Ad pA s.cr.length pc,Aa Ac s.root.t,Aa Ab s.root.x,Aa Ab s.root.y,Ad none 0 0],43)] (W4.setCell ⟨U,6,none⟩ (Ad none 0 0)):=HH4.out.set 2 6 rfl (Ad none 0 0)
     have HR:=Ae (show LeS w [(N,#[Aa Ab m.a,Aa Ab m.b,Aa Ab m.c,Ad pK mn cK],24),(P,#[Aa Ac x,Aa Ac y,Ad pF n c],27)] #[Aa Ab m.a,Aa Ab m.b,Aa Ab m.c,Ad pK mn cK] true E U 6 6 (W4.setCell ⟨U,6,none⟩ (Ad none 0 0))from
      ⟨_,_,_,_,_,_,_,H5,HUB.out hm20 pA pc _ H5.below HPS.out,fun _=>⟨rfl,rfl⟩,fun h=>Bool.noConfusion h⟩)
     clear H5;go_wp2_with fail;go_meet;exact⟨6,6,HR⟩
   case rest=>
   obtain⟨B,F,HU⟩:=hcut;obtain⟨W5,rfl⟩:=ez wc;clear HP4 HH4 HPS HUO HUB;obtain⟨v0,v1,v2,v3,v4,v5,v6,H5,hun,hs1,hs2⟩:=HU.out;have HUN:=Ae hun;have HSP:=Ae (And.intro hs1 hs2);clear HU hun hs1 hs2;obtain⟨a0,a1,a2,a3,a4,a5,a6⟩:=De (H5.blk 2 _ _ _ rfl);go_wp2_with fail;refine((HUN.out _ (Below.refl _ _)).1).mono ?_;rintro ee w6 ⟨rfl,hb6⟩;have H6:=H5.call hb6;clear a0 a1 a2 a3 a4 a5 a6 H5;obtain⟨a0,a1,a2,a3,a4,a5,a6⟩:=De (H6.blk 2 _ _ _ rfl);obtain⟨u0,u1,u2,u3,hbx⟩:=(HUN.out _ hb6).2.1;have HBX:=Ae hbx;clear hbx;go_wp2_with fail;refine HBX.out.mono ?_;rintro ee w7 ⟨rfl,hb⟩;obtain⟨X,hX⟩:=ey w7.heap.size;have H7:=((H6.call hb).new #[Aa Ab u0,Aa Ab u1,Aa Ab u2,Aa Ab u3] 46 hX).upto 3;have hb7:=(hb6.trans (hb.mono hb6.size)).trans (((Below.refl w7.heap.size w7).alloc (Aj _) (.cells #[Aa Ab u0,Aa Ab u1,Aa Ab u2,Aa Ab u3] 46)).mono (hb6.trans (hb.mono hb6.size)).size);clear a0 a1 a2 a3 a4 a5 a6 H6 hb hb6 HBX;go_upto_region 22 with fail
   try rw[hX]
   obtain⟨W7,hW7⟩:=ez (w7.alloc (.cells #[Aa Ab u0,Aa Ab u1,Aa Ab u2,Aa Ab u3] 46));rw[←hW7]at H7 hb7⊢;clear hW7;clear hX;obtain⟨a0,a1,a2,a3,a4,a5,a6⟩:=De (H7.blk 2 _ _ _ rfl);go_wp2_with fail;refine((HUN.out _ hb7).2.2.1).mono ?_;rintro ee w8 ⟨rfl,hb⟩;obtain⟨X8,hX⟩:=ey w8.heap.size;have H8:=((H7.call hb).new #[Aa Ac 0,Aa Ab 0,Aa Ac 0,.bool false] 53 hX).upto 3;have hb8:=(hb7.trans (hb.mono hb7.size)).trans (((Below.refl w8.heap.size w8).alloc (Aj _) (.cells #[Aa Ac 0,Aa Ab 0,Aa Ac 0,.bool false] 53)).mono (hb7.trans (hb.mono hb7.size)).size);clear a0 a1 a2 a3 a4 a5 a6 H7 hb hb7;go_upto_region 23 with fail
   try rw[hX]
   obtain⟨W8,hW8⟩:=ez (w8.alloc (.cells #[Aa Ac 0,Aa Ab 0,Aa Ac 0,.bool false] 53));rw[←hW8]at H8 hb8⊢;clear hW8;clear hX;obtain⟨a0,a1,a2,a3,a4,a5,a6⟩:=De (H8.blk 2 _ _ _ rfl);go_wp2_with fail;refine((HUN.out _ hb8).2.2.2.1).mono ?_;rintro ee w9 ⟨rfl,hb⟩;obtain⟨X9,hX⟩:=ey w9.heap.size;have H9:=((H8.call hb).new #[Aa Ac 0,Aa Ab 0,.bool false] 32 hX).upto 3;have hb9:=(hb8.trans (hb.mono hb8.size)).trans (((Below.refl w9.heap.size w9).alloc (Aj _) (.cells #[Aa Ac 0,Aa Ab 0,.bool false] 32)).mono (hb8.trans (hb.mono hb8.size)).size);clear a0 a1 a2 a3 a4 a5 a6 H8 hb hb8;go_upto_region 24 with fail
   try rw[hX]
   obtain⟨W9,hW9⟩:=ez (w9.alloc (.cells #[Aa Ac 0,Aa Ab 0,.bool false] 32));rw[←hW9]at H9 hb9⊢;clear hW9;clear hX;have HH9:=Ae (And.intro H9 hb9);clear H9 hb9;go_cut [158]from 123 to 158 (fun s158 wx=>s158= .bool false∧Hid (Bx w [(N,#[Aa Ab m.a,Aa Ab m.b,Aa Ab m.c,Ad pK mn cK],24),(P,#[Aa Ac x,Aa Ac y,Ad pF n c],27),(U,#[v0,v1,v2,v3,v4,v5,v6],43)] wx∧Below W5.heap.size W5 wx))
   case first=>
    cases sp with
    |true=>
     obtain⟨rfl,rfl⟩:=HSP.out.1 rfl;go_wp2_with fail;go_meet;exact⟨rfl,HH9⟩
    |false=>
     obtain⟨rfl,rfl⟩:=HSP.out.2 rfl;go_wp2_with fail;refine(HFZ.out _).mono ?_;rintro ee w10 ⟨rfl,hb⟩;have HR:=Ae (And.intro (HH9.out.1.call hb) (HH9.out.2.trans (hb.mono HH9.out.2.size)));clear hb;go_wp2_with fail;go_meet;exact⟨rfl,HR⟩
   case rest=>
   obtain⟨rfl,HX⟩:=hcut;obtain⟨W10,rfl⟩:=ez wc;clear HH9 HSP HFZ;go_upto_if 161 with fail;go_cut [19]from 161 to 162 (fun s19 wx=>s19= Aa Ab (firstE E B)∧Hid (W10=wx))
   case first=>
    by_cases h0:E=0
    ·have q8:(E==0)=true:=by simp[h0]
     have HR:Hid (firstE E B=B):=Ae (by unfold firstE;rw[if_neg (by omega)]);clear h0;go_wp2_with fail;go_meet;exact⟨by rw[HR.out],Ae rfl⟩
    ·have q8:(E==0)=false:=by simp[h0]
     have HR:Hid (firstE E B=E):=Ae (by unfold firstE;rw[if_pos h0]);clear h0;go_wp2_with fail;go_meet;exact⟨by rw[HR.out],Ae rfl⟩
   case rest=>
   obtain⟨rfl,HW⟩:=hcut;obtain rfl:=HW.out;clear HW;have HRN:=Ae (fun(w':Ag) (hb:Below W5.heap.size W5 w')=>(HUN.out w' hb).2.2.2.2.1);have HTC:=Ae (fun(w':Ag) (hb:Below W5.heap.size W5 w')=>(HUN.out w' hb).2.2.2.2.2);obtain⟨f,hf⟩:=ey (firstE E B);rw[hf]at HRN HTC⊢;clear hf HUN;obtain⟨H10,hb10⟩:=HX.out;clear HX;obtain⟨⟨m0,m1,m2,m3⟩,-⟩:=Co (H10.blk 0 _ _ _ rfl);obtain⟨a0,a1,a2,a3,a4,a5,a6⟩:=De (H10.blk 2 _ _ _ rfl);go_wp2_with fail;refine(HRN.out _ hb10).mono ?_;rintro ee w11 ⟨hb,c0,c1,cA,cn,cc2,c2,c3,c4,rA,rn,rc,rk,rh,rfl,hru⟩;obtain⟨T2,hT2⟩:=ey w11.heap.size;have H12:=(H10.call hb).new #[Aa Ab c0,Aa Ab c1,Ad cA cn cc2,Aa Ac c2,Aa Ab c3,Aa Ab c4,Ad rA rn rc] 43 hT2;have hb12:=(hb10.trans (hb.mono hb10.size)).trans (((Below.refl w11.heap.size w11).alloc (Aj _) (.cells #[Aa Ab c0,Aa Ab c1,Ad cA cn cc2,Aa Ac c2,Aa Ab c3,Aa Ab c4,Ad rA rn rc] 43)).mono (hb10.trans (hb.mono hb10.size)).size);have HRU:=Ae hru;clear m0 m1 m2 m3 a0 a1 a2 a3 a4 a5 a6 H10 hb hb10 HRN hru;go_upto_region 30 with fail
   try rw[hT2]
   obtain⟨W12,hW12⟩:=ez (w11.alloc (.cells #[Aa Ab c0,Aa Ab c1,Ad cA cn cc2,Aa Ac c2,Aa Ab c3,Aa Ab c4,Ad rA rn rc] 43));rw[←hW12]at H12 hb12⊢;clear hW12;clear hT2;obtain⟨⟨m0,m1,m2,m3⟩,-⟩:=Co (H12.blk 0 _ _ _ rfl);obtain⟨a0,a1,a2,a3,a4,a5,a6⟩:=De (H12.blk 2 _ _ _ rfl);go_wp2_with fail;refine(HTC.out _ hb12).mono ?_;rintro ee w13 ⟨hb,tA,tn,tc,th,rfl,htu⟩;have H13:=H12.call hb;have HTU:=Ae htu;clear m0 m1 m2 m3 a0 a1 a2 a3 a4 a5 a6 H12 hb hb12 HTC htu;obtain⟨-,-,-,-,-,-,a6⟩:=De (H13.blk 3 _ _ _ rfl);have HH13:=Ae H13;clear H13;go_upto_region 31 with fail;go_cut [200]from 176 to 200 (fun s200 wx=>s200= .bool false∧Hid (w13=wx))
   case first=>
    by_cases h0:f=0
    ·have q8:(f != 0)=false:=by simp[h0]
     clear h0;go_wp2_with fail;go_meet;exact⟨rfl,Ae rfl⟩
    ·have q8:(f != 0)=true:=by simp[h0]
     obtain⟨h1,h2,h3⟩:=HRU.out h0;obtain⟨h4,h5⟩:=HTU.out h0;have q9:(rh != f)=false:=by simp[h3]
     have q10:(th != f)=false:=by simp[h5]
     clear h0 h3 h5;subst h1 h2 h4;go_wp2_with fail;go_meet;exact⟨rfl,Ae rfl⟩
   case rest=>
   obtain⟨rfl,HW⟩:=hcut;obtain rfl:=HW.out;clear HW HRU HTU a6;obtain⟨FR,hFR⟩:=ey w13.heap.size;have H14:=HH13.out.new #[Aa Ac 1,Aa Ab 4096] 51 hFR;clear HH13;go_upto_region 34 with fail
   try rw[hFR]
   obtain⟨W14,hW14⟩:=ez (w13.alloc (.cells #[Aa Ac 1,Aa Ab 4096] 51));rw[←hW14]at H14⊢;clear hW14;clear hFR;obtain⟨⟨b0,b1⟩,-⟩:=Cu (H14.blk 4 _ _ _ rfl);have hFl:=H14.lt 4 rfl;obtain⟨S,hSd⟩:∃S:Ag→Prop,S=fun W'=>W'.heap[FR]? =W14.heap[FR]? :=⟨_,rfl⟩
   have HSO:Hid (∀W',S W'→W'.cell? ⟨FR,0,none⟩=some (Aa Ac 1)∧W'.cell? ⟨FR,1,none⟩=some (Aa Ab 4096)):=Ae fun W' h=>by
    subst hSd;exact⟨(Ch h _).trans b0,(Ch h _).trans b1⟩
   have HSB:Hid (∀W' W'':Ag,S W'→Below W14.heap.size W' W''→S W''):=Ae fun W' W'' hs h=>by
    subst hSd;exact(h.block FR hFl).trans hs
   have HSU:Hid (∀(W':Ag) (Z j:Nat) (v:Ah),W14.heap.size≤Z→S W'→S (W'.setCell ⟨Z,j,none⟩ v)):=Ae fun W' Z j v hZ hs=>by
    subst hSd;exact(Below.heap_setCell W' ⟨Z,j,none⟩ v FR (by show FR≠Z;omega)).trans hs
   have hS0:S W14.drew:=by subst hSd;rfl
   clear hSd b0 b1 hFl;go_cut [27]from 203 to 208 (fun s27 wx=>s27= Aa Ab 1∧Hid (Bx w [(N,#[Aa Ab m.a,Aa Ab m.b,Aa Ab m.c,Ad pK mn cK],24)] wx))
   case first=>
    refine Al (S:=S) (by kernel_rfl) hS0 (fun hS=>?_);have hb:Below W14.heap.size W14 W14.drew:=(Below.refl _ _).drew;have H:=H14.drew;obtain⟨X0,hX0⟩:=ez W14.drew;rw[←hX0]at hb hS H⊢;clear hX0;clear hS0 H14;refine Cf 1 ?_;refine Cf 2 ?_;refine rdy2 0 7 (fun K hK=>?_) (fun K hK=>?_)
    ·go_simp;refine(HF1.out _ H.below).mono ?_;rintro ee X1 ⟨cs1,rfl,hkp,hbm⟩;obtain⟨pB,pb,B1,cb,rfl,-,-,-⟩:=hkp.st.held;have hin:=hkp.st;obtain⟨H,hS1,hb⟩:=cl3 H hb hS HSB.out hbm;refine hK.out _ _ hS1 (fun hS=>?_);clear hK K hbm hS1 hkp;refine rdy2 3 7 (fun K hK=>?_) (fun K hK=>?_)
     ·go_simp;refine(HMO.out _ H.below pB pb B1 cb hin).mono ?_;rintro ee X2 ⟨rfl,hbm⟩;obtain⟨H,hS1,hb⟩:=cl3 H hb hS HSB.out hbm;refine hK.out _ _ hS1 (fun hS=>?_);clear hK K hbm hS1 hin;refine Cf 4 ?_;refine Cf 5 ?_;refine Cf 6 ?_;refine rdy 7 (fun K hK=>?_);obtain⟨Z,hA,hUW,H,hal,hS1,hb⟩:=al3 H hb hS HSB.out #[Aa Ac 0,Aa Ab 0,.bool false] 32
      skip
      go_simp;refine hK.out _ _ hS1 (fun hS=>?_);clear hK K hS1 hal
      try rw[hA]
      obtain⟨X3,hX3⟩:=ez (X2.alloc (.cells #[Aa Ac 0,Aa Ab 0,.bool false] 32));rw[←hX3]at H hb hS⊢;clear hX3;clear hA;obtain⟨⟨z0,z1,z2⟩,y0,y1,y2⟩:=Ci (H.blk 5 _ _ _ rfl);have hSU:=Ae (HSU.out _ Z 2 (.bool false) hUW (HSU.out _ Z 1 (Aa Ab 0) hUW (HSU.out _ Z 0 (Aa Ac 0) hUW hS)));have HREL:=Ae ((((H.set 5 0 rfl (Aa Ac 0)).set 5 1 rfl (Aa Ab 0)).set 5 2 rfl (.bool false)).upto 1);clear H;refine rdy 8 (fun K hK=>?_);go_simp;refine hK.out _ _ hSU.out (fun hS=>?_);clear hK K z0 z1 z2 y0 y1 y2;refine Cf 9 ?_;refine Ak (by kernel_rfl) ?_ _;go_wp2_with fail;go_meet;exact⟨rfl,HREL⟩
     ·obtain⟨Z,hA,hUW,H,hal,hS1,hb⟩:=al3 H hb hS HSB.out #[Aa Ac 0,Aa Ab 0,.bool false] 32;have hin:=hin.below hal;go_simp;refine hK.out _ _ hS1 (fun hS=>?_);clear hK K hS1 hal
      try rw[hA]
      obtain⟨X2,hX2⟩:=ez (X1.alloc (.cells #[Aa Ac 0,Aa Ab 0,.bool false] 32));rw[←hX2]at H hb hS hin⊢;clear hX2;clear hA;refine rdy 3 (fun K hK=>?_);go_simp;refine(HMO.out _ H.below pB pb B1 cb hin).mono ?_;rintro ee X3 ⟨rfl,hbm⟩;obtain⟨H,hS1,hb⟩:=cl3 H hb hS HSB.out hbm;refine hK.out _ _ hS1 (fun hS=>?_);clear hK K hbm hS1 hin;refine Cf 4 ?_;refine Cf 5 ?_;refine Cf 6 ?_;obtain⟨⟨z0,z1,z2⟩,y0,y1,y2⟩:=Ci (H.blk 5 _ _ _ rfl);have hSU:=Ae (HSU.out _ Z 2 (.bool false) hUW (HSU.out _ Z 1 (Aa Ab 0) hUW (HSU.out _ Z 0 (Aa Ac 0) hUW hS)));have HREL:=Ae ((((H.set 5 0 rfl (Aa Ac 0)).set 5 1 rfl (Aa Ab 0)).set 5 2 rfl (.bool false)).upto 1);clear H;refine rdy 8 (fun K hK=>?_);go_simp;refine hK.out _ _ hSU.out (fun hS=>?_);clear hK K z0 z1 z2 y0 y1 y2;refine Cf 9 ?_;refine Ak (by kernel_rfl) ?_ _;go_wp2_with fail;go_meet;exact⟨rfl,HREL⟩
    ·obtain⟨Z,hA,hUW,H,hal,hS1,hb⟩:=al3 H hb hS HSB.out #[Aa Ac 0,Aa Ab 0,.bool false] 32
     skip
     go_simp;refine hK.out _ _ hS1 (fun hS=>?_);clear hK K hS1 hal
     try rw[hA]
     obtain⟨X1,hX1⟩:=ez (X0.alloc (.cells #[Aa Ac 0,Aa Ab 0,.bool false] 32));rw[←hX1]at H hb hS⊢;clear hX1;clear hA;refine rdy 0 (fun K hK=>?_);go_simp;refine(HF1.out _ H.below).mono ?_;rintro ee X2 ⟨cs1,rfl,hkp,hbm⟩;obtain⟨pB,pb,B1,cb,rfl,-,-,-⟩:=hkp.st.held;have hin:=hkp.st;obtain⟨H,hS1,hb⟩:=cl3 H hb hS HSB.out hbm;refine hK.out _ _ hS1 (fun hS=>?_);clear hK K hbm hS1 hkp;refine rdy 3 (fun K hK=>?_);go_simp;refine(HMO.out _ H.below pB pb B1 cb hin).mono ?_;rintro ee X3 ⟨rfl,hbm⟩;obtain⟨H,hS1,hb⟩:=cl3 H hb hS HSB.out hbm;refine hK.out _ _ hS1 (fun hS=>?_);clear hK K hbm hS1 hin;refine Cf 4 ?_;refine Cf 5 ?_;refine Cf 6 ?_;obtain⟨⟨z0,z1,z2⟩,y0,y1,y2⟩:=Ci (H.blk 5 _ _ _ rfl);have hSU:=Ae (HSU.out _ Z 2 (.bool false) hUW (HSU.out _ Z 1 (Aa Ab 0) hUW (HSU.out _ Z 0 (Aa Ac 0) hUW hS)));have HREL:=Ae ((((H.set 5 0 rfl (Aa Ac 0)).set 5 1 rfl (Aa Ab 0)).set 5 2 rfl (.bool false)).upto 1);clear H;refine rdy 8 (fun K hK=>?_);go_simp;refine hK.out _ _ hSU.out (fun hS=>?_);clear hK K z0 z1 z2 y0 y1 y2;refine Cf 9 ?_;refine Ak (by kernel_rfl) ?_ _;go_wp2_with fail;go_meet;exact⟨rfl,HREL⟩
   case rest=>
   obtain⟨rfl,HX⟩:=hcut;obtain⟨W15,rfl⟩:=ez wc;clear hS0 HSO HSB HSU H14 HF1 HMO;have H15:=HX.out;clear HX;obtain⟨⟨m0,m1,m2,m3⟩,-⟩:=Co (H15.blk 0 _ _ _ rfl);go_wp2_with fail;refine(planNo_any m.a m.b m.c pK mn cK _).mono ?_;rintro ee w16 ⟨rfl,hb⟩;obtain⟨Y,hY⟩:=ey w16.heap.size;have H16:=(H15.call hb).new #[Aa Ab 0,Aa Ab 0,Aa Ab 0,Ad none 0 0] 24 hY;clear m0 m1 m2 m3 H15 hb;go_upto_region 36 with fail
   try rw[hY]
   obtain⟨W16,hW16⟩:=ez (w16.alloc (.cells #[Aa Ab 0,Aa Ab 0,Aa Ab 0,Ad none 0 0] 24));rw[←hW16]at H16⊢;clear hW16;clear hY;go_wp2_with fail;refine(patZero_any _).mono ?_;rintro ee w17 ⟨rfl,hb⟩;have HB17:=Ae (H16.call hb).below;clear H16 hb;have hE2:E0=0∨E0=1:=by rw[←HE0.out];cases fr<;>simp
   rcases hE2 with rfl|rfl
   ·go_wp2_with fail;refine(HLV.out _ HB17.out).mono ?_;rintro ee w18 ⟨rfl,hb⟩;have HF:=Ae (HB17.out.trans (hb.mono HB17.out.size));clear hb;go_wp2_with fail;go_ret;exact⟨rfl,HF.out⟩
   ·go_wp2_with fail;refine(HLV.out _ HB17.out).mono ?_;rintro ee w18 ⟨rfl,hb⟩;have HF:=Ae (HB17.out.trans (hb.mono HB17.out.size));clear hb;go_wp2_with fail;go_ret;exact⟨rfl,HF.out⟩
end Go.Proofs.YteoffhpfcgffcaaGreatDoor
