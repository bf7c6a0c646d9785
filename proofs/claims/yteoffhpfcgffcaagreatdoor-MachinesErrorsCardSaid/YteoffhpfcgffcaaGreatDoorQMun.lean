import Derived.Test.YteoffhpfcgffcaaGreatDoorQMlv
import Derived.Test.YteoffhpfcgffcaaGreatDoorQMru
import Derived.Test.YteoffhpfcgffcaaGreatDoorQTch
open Go renaming Calls→Ai,Value→Ah,World→Ag,bodyPost_ret→Af,wpAnyH_done→Ak,wpAnyH_ready→Am,wp_region_held_drew→Al
open Go.AllReadyH renaming cons→An,nil→Ao
open Go.IntKind renaming i64→Ab,u8→Ac
open Go.IntWalk renaming i64_in→Bu
open Go.Lib renaming hid→Ae
open Go.Value renaming int→Aa,slice→Ad
open List renaming getElem_cons_succ→Bz,getElem_cons_zero→By,getElem_toArray→Ca,setIfInBounds_toArray→Cd,set_cons_succ→Cc,set_cons_zero→Cb,take_succ_eq_append_getElem→Ax
open Nat renaming le_refl→Aj,lt_of_lt_of_le→Bm
set_option maxHeartbeats 16000000
set_option maxRecDepth 100000
namespace Go.Proofs.YteoffhpfcgffcaaGreatDoor
open Go.RowKit
theorem al3 {w X0 X:Ag} {l:List (Nat×Array Ah×TypeId)} {S:Ag→Prop} (H:Bx w l X) (hb:Below X0.heap.size X0 X) (hS:S X) (hSB:∀W' W'':Ag,S W'→Below X0.heap.size W' W''→S W'') (cs:Array Ah) (t:TypeId):
  ∃U,X.heap.size=U∧X0.heap.size≤U∧Bx w (l++[(U,cs,t)]) (X.alloc (.cells cs t))∧Below X.heap.size X (X.alloc (.cells cs t))∧S (X.alloc (.cells cs t))∧Below X0.heap.size X0 (X.alloc (.cells cs t)):=by
 have hal:Below X.heap.size X (X.alloc (.cells cs t)):=(Below.refl _ _).alloc (Aj _) _;exact⟨_,rfl,hb.size,H.new cs t rfl,hal,hSB _ _ hS (hal.mono hb.size),hb.trans (hal.mono hb.size)⟩
theorem cl3 {w X0 X X':Ag} {l:List (Nat×Array Ah×TypeId)} {S:Ag→Prop} (H:Bx w l X) (hb:Below X0.heap.size X0 X) (hS:S X) (hSB:∀W' W'':Ag,S W'→Below X0.heap.size W' W''→S W'') (hm:Below X.heap.size X X'):Bx w l X'∧S X'∧Below X0.heap.size X0 X':=
 ⟨H.call hm,hSB _ _ hS (hm.mono hb.size),hb.trans (hm.mono hb.size)⟩
section
variable {P:Program} {ops:Array Oper} {Q:Exit→Act→Ag→Prop} {md:Region.Mode} {S:Ag→Prop} {oi oj ok:Oper} {fuel:Nat} {listed:Array Bool} {a:Act} {w:Ag}
theorem rdy2 (i j:Nat) (h1:∀K':Act→Ag→Prop,Shut (∀a w,S w→(S w→wpAnyH P md ops Q S fuel (listed.setIfInBounds i true) a w)→K' a w)→if Region.wanted oi (yielded ops a.tmps)=true then Oper.wp P oi a w K' Q else K' (a.put oi.dst undef) w)
  (h2:∀K':Act→Ag→Prop,Shut (∀a w,S w→(S w→wpAnyH P md ops Q S fuel (listed.setIfInBounds j true) a w)→K' a w)→if Region.wanted oj (yielded ops a.tmps)=true then Oper.wp P oj a w K' Q else K' (a.put oj.dst undef) w)
  (hi:ops[i]? =some oi:=by exact rfl) (hj:ops[j]? =some oj:=by exact rfl) (hr:Region.ready md ops listed=[i,j]:=by kernel_rfl):wpAnyH P md ops Q S (fuel+1) listed a w:=
 Am hr (by simp) (An hi h1 (An hj h2 Ao))
end
theorem kindT_inj {k j:Nat} (hk:k≤7) (hj:j≤7) (h:Oo k=Oo j):k=j:=by
 rcases(by omega:k=0∨k=1∨k=2∨k=3∨k=4∨k=5∨k=6∨k=7)with rfl|rfl|rfl|rfl|rfl|rfl|rfl|rfl<;>
 rcases(by omega:j=0∨j=1∨j=2∨j=3∨j=4∨j=5∨j=6∨j=7)with rfl|rfl|rfl|rfl|rfl|rfl|rfl|rfl<;>
 first|rfl|exact absurd h (by decide)
def awayT (b:Bb) (k:Nat) (c:Int):Int:=if(Oo k).2=1 then Tj b k-c else c-Tj b k
theorem stnNo_any (b:Bb) (hb:b.bd 5000) (fk fc:Int) (fs:Nat) (fo:Bool) (hfc: -30000≤fc∧fc≤30000) (hno:∀k,k≤7→Oo k=(fk,fs)→Qp k (awayT b k fc)=false) (w:Ag):
  Ai Tryz.prog 31 #[.agg (bbV b),.agg #[Aa Ac fk,Aa Ab fc,Aa Ac (fs:Int),.bool fo]] w (Cg (.tuple #[.agg #[Aa Ac 0,Aa Ab 0,.bool false],Aa Ab 1]) w):=by
 have HSK:=Ae (fun(k:Nat) (hk:k≤7) (w':Ag)=>mV k hk w');have HBA0:=Ae (fun(k:Nat) (hk:k≤7) (w':Ag)=>oT b hb k hk w');have HVA0:=Ae (fun(k:Nat) (p:Int) (w':Ag)=>Xf k p fo w');have HNO:=Ae hno
 have HBD:=Ae (fun(k:Nat)=>show-20000≤Tj b k∧Tj b k≤20000 by
  unfold Bb.bd at hb;unfold Tj
  split<;>omega)
 obtain⟨l,r,d,u⟩:=b;unfold bbV at HBA0⊢;dsimp only at HBA0⊢;have H:=(((Bx.start w).new #[Aa Ab l,Aa Ab r,Aa Ab d,Aa Ab u] 94 rfl).new #[Aa Ac fk,Aa Ab fc,Aa Ac (fs:Int),.bool fo] 53 (N:=w.heap.size+1) (by simp)).new #[Aa Ac 0,Aa Ab 0,.bool false] 32 (N:=w.heap.size+1+1) (by simp);clear hb hno;go_enter Tryz.func31,Tryz.ntmps31;go_upto_region 1 with fail;obtain⟨N,hN⟩:=ez w.heap.size;rw[←hN]at H⊢;have HNN:=Ae hN;clear hN;obtain⟨P,hP⟩:=ey (N+1);obtain⟨R,hR⟩:=ey (P+1);rw[hP,hR]at H⊢;clear hP hR;obtain⟨W1,hW1⟩:=ez (((w.alloc (.cells #[Aa Ab l,Aa Ab r,Aa Ab d,Aa Ab u] 94)).alloc (.cells #[Aa Ac fk,Aa Ab fc,Aa Ac (fs:Int),.bool fo] 53)).alloc (.cells #[Aa Ac 0,Aa Ab 0,.bool false] 32));rw[←hW1]at H⊢;clear hW1;obtain⟨bl,hbl⟩:∃z:List (Nat×Array Ah×TypeId),[(N,#[Aa Ab l,Aa Ab r,Aa Ab d,Aa Ab u],94),(P,#[Aa Ac fk,Aa Ab fc,Aa Ac (fs:Int),.bool fo],53),(R,#[Aa Ac 0,Aa Ab 0,.bool false],32)]=z:=⟨_,rfl⟩;have HBL:=Ae hbl;have HI0:Hid (Bx w bl W1):=Ae (by rw[←hbl];exact H);clear H hbl;go_wp2_with fail
 go_loopw [6] (fun s6 wr=>∃k:Nat,k≤8∧s6= Aa Ac k∧Hid (Bx w bl wr)) (fun s6 _=>9-(intOf s6).toNat)
 case atStart=>exact⟨0,by omega,rfl,HI0⟩
 case round=>
  obtain⟨k,hk,rfl,HZ⟩:=hrel;clear HI0;by_cases hk8:k=8
  ·subst hk8
   have H2:Bx w [(N,#[Aa Ab l,Aa Ab r,Aa Ab d,Aa Ab u],94),(P,#[Aa Ac fk,Aa Ab fc,Aa Ac (fs:Int),.bool fo],53),(R,#[Aa Ac 0,Aa Ab 0,.bool false],32)] wr:=by
    have h:=HZ.out;rw[←HBL.out]at h;exact h
   obtain⟨⟨z0,z1,z2⟩,y0,y1,y2⟩:=Ci (H2.blk 2 _ _ _ rfl);have H9:=Ae (((H2.set 2 0 rfl (Aa Ac 0)).set 2 1 rfl (Aa Ab 0)).set 2 2 rfl (.bool false));clear H2 HZ;go_wp2_with fail;exact Af (Cj (u:=5) rfl rfl (H9.out.range 2 rfl) Tryz.underlying32 rfl (by kernel_rfl)) rfl ⟨rfl,H9.out.below⟩
  have hk7:k≤7:=by omega
  have q0:(k:Int)≤7:=by omega
  go_wp2_with fail;refine(HSK.out k (by omega) _).mono ?_;rintro ee w2 ⟨rfl,hb⟩
  have H2:Bx w [(N,#[Aa Ab l,Aa Ab r,Aa Ab d,Aa Ab u],94),(P,#[Aa Ac fk,Aa Ab fc,Aa Ac (fs:Int),.bool fo],53),(R,#[Aa Ac 0,Aa Ab 0,.bool false],32)] w2:=by
   have h:=HZ.out.call hb;rw[←HBL.out]at h;exact h
  have HI2:Hid (Bx w bl w2):=Ae (HZ.out.call hb);clear hb HZ;obtain⟨⟨f0,f1,f2,f3⟩,-⟩:=Co (H2.blk 1 _ _ _ rfl);have q9:(k:Int)+1≤255:=by omega
  by_cases hkq:Oo k=(fk,fs)
  ·have hno:=HNO.out k hk7 hkq;rw[hkq];dsimp only;unfold awayT at hno;rw[hkq]at hno;dsimp only at hno;have hba:=HBA0.out k hk7;have hbb:=HBD.out k;obtain⟨bs,hbs⟩:=ey (Tj ⟨l,r,d,u⟩ k);rw[hbs]at hba hbb hno;have HBA:=Ae hba;have HNO2:=Ae hno;clear hkq hno hba hbs;go_upto_region 6 with fail;obtain⟨⟨b0,b1,b2,b3⟩,-⟩:=Co (H2.blk 0 _ _ _ rfl);obtain⟨S,hSd⟩:∃S:Ag→Prop,S=fun W'=>(W'.cell? ⟨N,0,none⟩=some (Aa Ab l)∧W'.cell? ⟨N,1,none⟩=some (Aa Ab r)∧W'.cell? ⟨N,2,none⟩=some (Aa Ab d)∧W'.cell? ⟨N,3,none⟩=some (Aa Ab u))∧W'.cell? ⟨P,1,none⟩=some (Aa Ab fc)∧W'.cell? ⟨P,3,none⟩=some (.bool fo):=⟨_,rfl⟩;have HSO:Hid (∀W',S W'→(W'.cell? ⟨N,0,none⟩=some (Aa Ab l)∧W'.cell? ⟨N,1,none⟩=some (Aa Ab r)∧W'.cell? ⟨N,2,none⟩=some (Aa Ab d)∧W'.cell? ⟨N,3,none⟩=some (Aa Ab u))∧W'.cell? ⟨P,1,none⟩=some (Aa Ab fc)∧W'.cell? ⟨P,3,none⟩=some (.bool fo)):=Ae fun W' h=>by subst hSd;exact h
   have hNl:=H2.lt 0 rfl;have hPl:=H2.lt 1 rfl
   have HSB:Hid (∀W' W'':Ag,S W'→Below w2.heap.size W' W''→S W''):=Ae fun W' W'' hs h=>by
    subst hSd;obtain⟨⟨g0,g1,g2,g3⟩,g4,g5⟩:=hs;exact⟨⟨(Ch (h.block N hNl) _).trans g0,(Ch (h.block N hNl) _).trans g1,(Ch (h.block N hNl) _).trans g2,(Ch (h.block N hNl) _).trans g3⟩,(Ch (h.block P hPl) _).trans g4,(Ch (h.block P hPl) _).trans g5⟩
   have HSU:Hid (∀(W':Ag) (Z j:Nat) (v:Ah),w2.heap.size≤Z→S W'→S (W'.setCell ⟨Z,j,none⟩ v)):=Ae fun W' Z j v hz hs=>by
    subst hSd;have eN:=Below.heap_setCell W' ⟨Z,j,none⟩ v N (by show N≠Z;omega);have eP:=Below.heap_setCell W' ⟨Z,j,none⟩ v P (by show P≠Z;omega);obtain⟨⟨g0,g1,g2,g3⟩,g4,g5⟩:=hs;exact⟨⟨(Ch eN _).trans g0,(Ch eN _).trans g1,(Ch eN _).trans g2,(Ch eN _).trans g3⟩,(Ch eP _).trans g4,(Ch eP _).trans g5⟩
   have hS0:S w2.drew:=by subst hSd;exact⟨⟨b0,b1,b2,b3⟩,f1,f3⟩
   have e1:IntKind.i64.wrap (fc-bs)=fc-bs:=Bu _ (by omega);have HE1:=Ae e1;clear hSd b0 b1 b2 b3 f0 f1 f2 f3 e1;go_cut [9]from 30 to 40 (fun s9 wx=>∃Z:Nat,s9= .pointer (some ⟨Z,0,none⟩)∧Hid (Bx w [(N,#[Aa Ab l,Aa Ab r,Aa Ab d,Aa Ab u],94),(P,#[Aa Ac fk,Aa Ab fc,Aa Ac (fs:Int),.bool fo],53),(R,#[Aa Ac 0,Aa Ab 0,.bool false],32),(Z,#[Aa Ac k,Aa Ab (fc-bs),.bool fo],32)] wx))
   case first=>
    refine Al (S:=S) (by kernel_rfl) hS0 (fun hS=>?_);have hb:Below w2.heap.size w2 w2.drew:=(Below.refl _ _).drew;have H:=H2.drew;obtain⟨X0,hX0⟩:=ez w2.drew;rw[←hX0]at hb hS H⊢;clear hX0;clear hS0 H2;refine Cf 0 ?_;refine Cf 1 ?_;refine Cf 2 ?_;refine Cf 3 ?_;refine Cf 4 ?_;refine Cf 5 ?_;refine Cf 8 ?_;refine Cf 9 ?_;refine rdy2 6 11 (fun K hK=>?_) (fun K hK=>?_)
    ·go_simp;refine(HBA.out _).mono ?_;rintro ee X1 ⟨rfl,hbm⟩;obtain⟨H,hS1,hb⟩:=cl3 H hb hS HSB.out hbm;refine hK.out _ _ hS1 (fun hS=>?_);clear hK K hbm hS1;refine Cf 7 ?_;refine Cf 10 ?_;refine rdy 11 (fun K hK=>?_);obtain⟨Z,hA,hUW,H,hal,hS1,hb⟩:=al3 H hb hS HSB.out #[Aa Ac 0,Aa Ab 0,.bool false] 32;go_simp;refine hK.out _ _ hS1 (fun hS=>?_);clear hK K hS1 hal
     try rw[hA]
     obtain⟨X2,hX2⟩:=ez (X1.alloc (.cells #[Aa Ac 0,Aa Ab 0,.bool false] 32));rw[←hX2]at H hb hS⊢;clear hX2;clear hA;obtain⟨⟨z0,z1,z2⟩,y0,y1,y2⟩:=Ci (H.blk 3 _ _ _ rfl);have hSU:=Ae (HSU.out _ Z 2 (.bool fo) hUW (HSU.out _ Z 1 (Aa Ab (fc-bs)) hUW (HSU.out _ Z 0 (Aa Ac k) hUW hS)));have HREL:=Ae (((H.set 3 0 rfl (Aa Ac k)).set 3 1 rfl (Aa Ab (fc-bs))).set 3 2 rfl (.bool fo));clear H;refine rdy 12 (fun K hK=>?_);go_simp;rw[HE1.out];refine hK.out _ _ hSU.out (fun hS=>?_);clear hK K z0 z1 z2 y0 y1 y2;refine Ak (by kernel_rfl) ?_ _;go_wp2_with fail;go_meet;exact⟨Z,rfl,HREL⟩
    ·obtain⟨Z,hA,hUW,H,hal,hS1,hb⟩:=al3 H hb hS HSB.out #[Aa Ac 0,Aa Ab 0,.bool false] 32;go_simp;refine hK.out _ _ hS1 (fun hS=>?_);clear hK K hS1 hal
     try rw[hA]
     obtain⟨X1,hX1⟩:=ez (X0.alloc (.cells #[Aa Ac 0,Aa Ab 0,.bool false] 32));rw[←hX1]at H hb hS⊢;clear hX1;clear hA;refine rdy 6 (fun K hK=>?_);go_simp;refine(HBA.out _).mono ?_;rintro ee X2 ⟨rfl,hbm⟩;obtain⟨H,hS1,hb⟩:=cl3 H hb hS HSB.out hbm;refine hK.out _ _ hS1 (fun hS=>?_);clear hK K hbm hS1;refine Cf 7 ?_;refine Cf 10 ?_;obtain⟨⟨z0,z1,z2⟩,y0,y1,y2⟩:=Ci (H.blk 3 _ _ _ rfl);have hSU:=Ae (HSU.out _ Z 2 (.bool fo) hUW (HSU.out _ Z 1 (Aa Ab (fc-bs)) hUW (HSU.out _ Z 0 (Aa Ac k) hUW hS)));have HREL:=Ae (((H.set 3 0 rfl (Aa Ac k)).set 3 1 rfl (Aa Ab (fc-bs))).set 3 2 rfl (.bool fo));clear H;refine rdy 12 (fun K hK=>?_);go_simp;rw[HE1.out];refine hK.out _ _ hSU.out (fun hS=>?_);clear hK K z0 z1 z2 y0 y1 y2;refine Ak (by kernel_rfl) ?_ _;go_wp2_with fail;go_meet;exact⟨Z,rfl,HREL⟩
   case rest=>
   obtain⟨Z,rfl,HU⟩:=hcut;clear hS0 H2 HSO HSB HSU HI2;have hva:=HVA0.out k;obtain⟨⟨c0,c1,c2⟩,y0,y1,y2⟩:=Ci (HU.out.blk 3 _ _ _ rfl);by_cases hf:fs=1
   ·have hno:=HNO2.out;rw[if_pos hf]at hno;have q1:((fs:Int)==1)=true:=by simp;omega
    have e2: -(fc-bs)=bs-fc:=by omega
    have HE2:=Ae e2;have hv:=hva (bs-fc);rw[hno]at hv;have HVA:=Ae hv;have H5:=HU.out.set 3 1 rfl (Aa Ab (bs-fc));clear e2 hno hv hva hf;go_upto_region 9 with fail;rw[HE2.out];clear c0 c1 c2 y0 y1 y2 HU;obtain⟨⟨c0,c1,c2⟩,-⟩:=Ci (H5.blk 3 _ _ _ rfl);go_wp2_with fail;refine(HVA.out _).mono ?_;rintro ee w5 ⟨rfl,hb⟩;have HI3:Hid (Bx w bl w5):=Ae (by rw[←HBL.out];exact(H5.call hb).upto 3);clear c0 c1 c2 H5 hb;go_wp2_with fail
    first
     |exact⟨⟨k+1,by omega,by go_num,HI3⟩,by simp[intOf];omega⟩
     |(go_roundw
       case rel=>exact⟨k+1,by omega,by go_num,HI3⟩
       case measure=>simp[intOf];omega)
   ·have hno:=HNO2.out;rw[if_neg hf]at hno;have q1:((fs:Int)==1)=false:=by simp;omega
    have hv:=hva (fc-bs);rw[hno]at hv;have HVA:=Ae hv;have H5:=HU.out;clear hno hv hva;go_upto_region 9 with fail;clear c0 c1 c2 y0 y1 y2 HU;obtain⟨⟨c0,c1,c2⟩,-⟩:=Ci (H5.blk 3 _ _ _ rfl);go_wp2_with fail;refine(HVA.out _).mono ?_;rintro ee w5 ⟨rfl,hb⟩;have HI3:Hid (Bx w bl w5):=Ae (by rw[←HBL.out];exact(H5.call hb).upto 3);clear c0 c1 c2 H5 hb;go_wp2_with fail
    first
     |exact⟨⟨k+1,by omega,by go_num,HI3⟩,by simp[intOf];omega⟩
     |(go_roundw
       case rel=>exact⟨k+1,by omega,by go_num,HI3⟩
       case measure=>simp[intOf];omega)
  ·obtain⟨⟨a1,a2⟩,hq⟩:=ey (Oo k);have hne:¬(a1=fk∧a2=fs):=fun h=>hkq (by rw[hq,h.1,h.2]);rw[hq];dsimp only;have hkl:k+1≤8:=by omega
   clear hq H2 hkq;by_cases ha:a1=fk
   ·have ha2:¬((a2:Int)=(fs:Int)):=fun h=>hne ⟨ha,by omega⟩;subst ha;have q1:((a2:Int) != (fs:Int))=true:=by simpa using ha2
    clear hne ha2;go_wp2_with fail;exact⟨⟨k+1,hkl,by go_num,HI2⟩,by simp[intOf];omega⟩
   ·have q1:(a1 != fk)=true:=by simpa using ha
    clear hne ha;go_wp2_with fail;exact⟨⟨k+1,hkl,by go_num,HI2⟩,by simp[intOf];omega⟩
abbrev stL (a b:Int) (pA:Option Addr) (pn pc:Nat) (t x y:Int) (A:Option Addr) (n c:Nat):Array Ah:=#[Aa Ab a,Aa Ab b,Ad pA pn pc,Aa Ac t,Aa Ab x,Aa Ab y,Ad A n c]
theorem boxBad_any (a b:Int) (pA:Option Addr) (pn pc:Nat) (t x y:Int) (A:Option Addr) (n c:Nat) (E:Int) (hE:E≠0) (w:Ag)
  (hck:∀w':Ag,Below w.heap.size w w'→Ai Tryz.prog 7 #[.agg #[Aa Ab a,Aa Ab b,Ad pA pn pc,Aa Ac t,Aa Ab x,Aa Ab y,Ad A n c]] w' (Cg (Aa Ab E) w')):
  Ai Tryz.prog 8 #[.agg #[Aa Ab a,Aa Ab b,Ad pA pn pc,Aa Ac t,Aa Ab x,Aa Ab y,Ad A n c]] w (Cg (.tuple #[.agg #[Aa Ab 0,Aa Ab 0,Aa Ab 0,Aa Ab 0],Aa Ab E]) w):=by
 have HCK:=Ae hck;have q8:(E != 0)=true:=by simpa using hE
 have H:=((Bx.start w).new #[Aa Ab a,Aa Ab b,Ad pA pn pc,Aa Ac t,Aa Ab x,Aa Ab y,Ad A n c] 43 rfl).new #[Aa Ab 0,Aa Ab 0,Aa Ab 0,Aa Ab 0] 46 (N:=w.heap.size+1) (by simp);clear hck hE;go_enter Tryz.func8,Tryz.ntmps8;go_upto_region 1 with fail;obtain⟨N,hN⟩:=ez w.heap.size;rw[←hN]at H⊢;have HNN:=Ae hN;clear hN;obtain⟨P,hP⟩:=ey (N+1);rw[hP]at H⊢;clear hP;obtain⟨W1,hW1⟩:=ez ((w.alloc (.cells #[Aa Ab a,Aa Ab b,Ad pA pn pc,Aa Ac t,Aa Ab x,Aa Ab y,Ad A n c] 43)).alloc (.cells #[Aa Ab 0,Aa Ab 0,Aa Ab 0,Aa Ab 0] 46));rw[←hW1]at H⊢;clear hW1;obtain⟨a0,a1,a2,a3,a4,a5,a6⟩:=De (H.blk 0 _ _ _ rfl);go_wp2_with fail;refine(HCK.out _ H.below).mono ?_;rintro ee w2 ⟨rfl,hb⟩;have H2:=H.call hb;clear a0 a1 a2 a3 a4 a5 a6 hb H HCK;obtain⟨⟨g0,g1,g2,g3⟩,z0,z1,z2,z3⟩:=Co (H2.blk 1 _ _ _ rfl);have H9:=Ae ((((H2.set 1 0 rfl (Aa Ab 0)).set 1 1 rfl (Aa Ab 0)).set 1 2 rfl (Aa Ab 0)).set 1 3 rfl (Aa Ab 0));clear H2;go_wp2_with fail;exact Af (Cj (u:=3) rfl rfl (H9.out.range 1 rfl) Tryz.underlying46 rfl (by kernel_rfl)) rfl ⟨rfl,H9.out.below⟩
theorem foldBad_any (a b:Int) (pA:Option Addr) (pn pc:Nat) (t x y:Int) (A:Option Addr) (n c:Nat) (E:Int) (hE:E≠0) (tk:Nat) (tp:Int) (tv:Bool) (w:Ag)
  (hck:∀w':Ag,Below w.heap.size w w'→Ai Tryz.prog 7 #[.agg #[Aa Ab a,Aa Ab b,Ad pA pn pc,Aa Ac t,Aa Ab x,Aa Ab y,Ad A n c]] w' (Cg (Aa Ab E) w')):
  Ai Tryz.prog 9 #[.agg #[Aa Ab a,Aa Ab b,Ad pA pn pc,Aa Ac t,Aa Ab x,Aa Ab y,Ad A n c],.agg #[Aa Ac tk,Aa Ab tp,.bool tv]] w (Cg (.tuple #[.agg #[Aa Ac 0,Aa Ab 0,Aa Ac 0,.bool false],Aa Ab E]) w):=by
 have HCK:=Ae hck;have q8:(E != 0)=true:=by simpa using hE
 have H:=(((Bx.start w).new #[Aa Ab a,Aa Ab b,Ad pA pn pc,Aa Ac t,Aa Ab x,Aa Ab y,Ad A n c] 43 rfl).new #[Aa Ac tk,Aa Ab tp,.bool tv] 32 (N:=w.heap.size+1) (by simp)).new #[Aa Ac 0,Aa Ab 0,Aa Ac 0,.bool false] 53 (N:=w.heap.size+1+1) (by simp);clear hck hE;go_enter Tryz.func9,Tryz.ntmps9;go_upto_region 1 with fail;obtain⟨N,hN⟩:=ez w.heap.size;rw[←hN]at H⊢;have HNN:=Ae hN;clear hN;obtain⟨P,hP⟩:=ey (N+1);obtain⟨R,hR⟩:=ey (P+1);rw[hP,hR]at H⊢;clear hP hR;obtain⟨W1,hW1⟩:=ez (((w.alloc (.cells #[Aa Ab a,Aa Ab b,Ad pA pn pc,Aa Ac t,Aa Ab x,Aa Ab y,Ad A n c] 43)).alloc (.cells #[Aa Ac tk,Aa Ab tp,.bool tv] 32)).alloc (.cells #[Aa Ac 0,Aa Ab 0,Aa Ac 0,.bool false] 53));rw[←hW1]at H⊢;clear hW1;obtain⟨a0,a1,a2,a3,a4,a5,a6⟩:=De (H.blk 0 _ _ _ rfl);go_wp2_with fail;refine(HCK.out _ H.below).mono ?_;rintro ee w2 ⟨rfl,hb⟩;have H2:=H.call hb;clear a0 a1 a2 a3 a4 a5 a6 hb H HCK;obtain⟨⟨g0,g1,g2,g3⟩,z0,z1,z2,z3⟩:=Co (H2.blk 2 _ _ _ rfl);have H9:=Ae ((((H2.set 2 0 rfl (Aa Ac 0)).set 2 1 rfl (Aa Ab 0)).set 2 2 rfl (Aa Ac 0)).set 2 3 rfl (.bool false));clear H2;go_wp2_with fail;exact Af (Cj (u:=5) rfl rfl (H9.out.range 2 rfl) Tryz.underlying53 rfl (by kernel_rfl)) rfl ⟨rfl,H9.out.below⟩
theorem ofBad_any (a b:Int) (pA:Option Addr) (pn pc:Nat) (t x y:Int) (A:Option Addr) (n c:Nat) (E:Int) (hE:E≠0) (fk fc fs:Int) (fo:Bool) (w:Ag)
  (hck:∀w':Ag,Below w.heap.size w w'→Ai Tryz.prog 7 #[.agg #[Aa Ab a,Aa Ab b,Ad pA pn pc,Aa Ac t,Aa Ab x,Aa Ab y,Ad A n c]] w' (Cg (Aa Ab E) w')):
  Ai Tryz.prog 10 #[.agg #[Aa Ab a,Aa Ab b,Ad pA pn pc,Aa Ac t,Aa Ab x,Aa Ab y,Ad A n c],.agg #[Aa Ac fk,Aa Ab fc,Aa Ac fs,.bool fo]] w (Cg (.tuple #[.agg #[Aa Ac 0,Aa Ab 0,.bool false],Aa Ab E]) w):=by
 have HCK:=Ae hck;have q8:(E != 0)=true:=by simpa using hE
 have H:=(((Bx.start w).new #[Aa Ab a,Aa Ab b,Ad pA pn pc,Aa Ac t,Aa Ab x,Aa Ab y,Ad A n c] 43 rfl).new #[Aa Ac fk,Aa Ab fc,Aa Ac fs,.bool fo] 53 (N:=w.heap.size+1) (by simp)).new #[Aa Ac 0,Aa Ab 0,.bool false] 32 (N:=w.heap.size+1+1) (by simp);clear hck hE;go_enter Tryz.func10,Tryz.ntmps10;go_upto_region 1 with fail;obtain⟨N,hN⟩:=ez w.heap.size;rw[←hN]at H⊢;have HNN:=Ae hN;clear hN;obtain⟨P,hP⟩:=ey (N+1);obtain⟨R,hR⟩:=ey (P+1);rw[hP,hR]at H⊢;clear hP hR;obtain⟨W1,hW1⟩:=ez (((w.alloc (.cells #[Aa Ab a,Aa Ab b,Ad pA pn pc,Aa Ac t,Aa Ab x,Aa Ab y,Ad A n c] 43)).alloc (.cells #[Aa Ac fk,Aa Ab fc,Aa Ac fs,.bool fo] 53)).alloc (.cells #[Aa Ac 0,Aa Ab 0,.bool false] 32));rw[←hW1]at H⊢;clear hW1;obtain⟨a0,a1,a2,a3,a4,a5,a6⟩:=De (H.blk 0 _ _ _ rfl);go_wp2_with fail;refine(HCK.out _ H.below).mono ?_;rintro ee w2 ⟨rfl,hb⟩;have H2:=H.call hb;clear a0 a1 a2 a3 a4 a5 a6 hb H HCK;obtain⟨⟨g0,g1,g2⟩,z0,z1,z2⟩:=Ci (H2.blk 2 _ _ _ rfl);have H9:=Ae (((H2.set 2 0 rfl (Aa Ac 0)).set 2 1 rfl (Aa Ab 0)).set 2 2 rfl (.bool false));clear H2;go_wp2_with fail;exact Af (Cj (u:=5) rfl rfl (H9.out.range 2 rfl) Tryz.underlying32 rfl (by kernel_rfl)) rfl ⟨rfl,H9.out.below⟩
def firstE (p q:Int):Int:=if p≠0 then p else q
theorem firstE_ne {p q:Int} (h:p≠0∨q≠0):firstE p q≠0:=by
 unfold firstE
 split
 ·assumption
 ·rename_i h1;rcases h with h|h
  ·exact absurd h h1
  ·exact h
theorem allBad_any (a b:Int) (pA:Option Addr) (pn pc:Nat) (t x y:Int) (A:Option Addr) (n c:Nat) (ma mb mcc:Int) (mA:Option Addr) (mn mc:Nat) (E1 E2:Int) (hE:E1≠0∨E2≠0) (w:Ag)
  (hm:∀w':Ag,Below w.heap.size w w'→Ai Tryz.prog 5 #[.agg #[Aa Ab ma,Aa Ab mb,Aa Ab mcc,Ad mA mn mc]] w' (Cg (Aa Ab E1) w'))
  (hck:∀w':Ag,Below w.heap.size w w'→Ai Tryz.prog 7 #[.agg #[Aa Ab a,Aa Ab b,Ad pA pn pc,Aa Ac t,Aa Ab x,Aa Ab y,Ad A n c]] w' (Cg (Aa Ab E2) w')):
  Ai Tryz.prog 33 #[.agg #[Aa Ab ma,Aa Ab mb,Aa Ab mcc,Ad mA mn mc],.agg #[Aa Ab a,Aa Ab b,Ad pA pn pc,Aa Ac t,Aa Ab x,Aa Ab y,Ad A n c]] w (Cg (.tuple #[Ad none 0 0,Aa Ab (firstE E1 E2)]) w):=by
 have HM:=Ae hm;have HCK:=Ae hck;have H:=((Bx.start w).new #[Aa Ab ma,Aa Ab mb,Aa Ab mcc,Ad mA mn mc] 24 rfl).new #[Aa Ab a,Aa Ab b,Ad pA pn pc,Aa Ac t,Aa Ab x,Aa Ab y,Ad A n c] 43 (N:=w.heap.size+1) (by simp);clear hm hck;go_enter Tryz.func33,Tryz.ntmps33;go_upto_region 1 with fail;obtain⟨N,hN⟩:=ez w.heap.size;rw[←hN]at H⊢;have HNN:=Ae hN;clear hN;obtain⟨P,hP⟩:=ey (N+1);rw[hP]at H⊢;clear hP;obtain⟨W1,hW1⟩:=ez ((w.alloc (.cells #[Aa Ab ma,Aa Ab mb,Aa Ab mcc,Ad mA mn mc] 24)).alloc (.cells #[Aa Ab a,Aa Ab b,Ad pA pn pc,Aa Ac t,Aa Ab x,Aa Ab y,Ad A n c] 43));rw[←hW1]at H⊢;clear hW1;obtain⟨⟨m0,m1,m2,m3⟩,-⟩:=Co (H.blk 0 _ _ _ rfl);go_wp2_with fail;refine(HM.out _ H.below).mono ?_;rintro ee w2 ⟨rfl,hb⟩;have H2:=H.call hb;clear m0 m1 m2 m3 hb H HM;by_cases h1:E1=0
 ·have h2:E2≠0:=by
   rcases hE with h|h
   ·exact absurd h1 h
   ·exact h
  subst h1;have q8:(E2 != 0)=true:=by simpa using h2
  obtain⟨a0,a1,a2,a3,a4,a5,a6⟩:=De (H2.blk 1 _ _ _ rfl);clear hE h2;go_wp2_with fail;refine(HCK.out _ H2.below).mono ?_;rintro ee w3 ⟨rfl,hb⟩;have H3:=H2.call hb;clear a0 a1 a2 a3 a4 a5 a6 hb H2 HCK;go_wp2_with fail
  go_ret2
  exact⟨rfl,H3.below⟩
 ·have q8:(E1 != 0)=true:=by simpa using h1
  have HE:=Ae h1;clear hE h1;go_wp2_with fail
  go_ret2
  exact⟨by unfold firstE;rw[if_pos HE.out];rfl,H2.below⟩
theorem runBad_any (a b:Int) (pA:Option Addr) (pn pc:Nat) (t x y:Int) (A:Option Addr) (n c:Nat) (ma mb mcc:Int) (mA:Option Addr) (mn mc:Nat) (E1 E2:Int) (hE:E1≠0∨E2≠0) (w:Ag)
  (hm:∀w':Ag,Below w.heap.size w w'→Ai Tryz.prog 5 #[.agg #[Aa Ab ma,Aa Ab mb,Aa Ab mcc,Ad mA mn mc]] w' (Cg (Aa Ab E1) w'))
  (hck:∀w':Ag,Below w.heap.size w w'→Ai Tryz.prog 7 #[.agg #[Aa Ab a,Aa Ab b,Ad pA pn pc,Aa Ac t,Aa Ab x,Aa Ab y,Ad A n c]] w' (Cg (Aa Ab E2) w')):
  Ai Tryz.prog 12 #[.agg #[Aa Ab ma,Aa Ab mb,Aa Ab mcc,Ad mA mn mc],.agg #[Aa Ab a,Aa Ab b,Ad pA pn pc,Aa Ac t,Aa Ab x,Aa Ab y,Ad A n c]] w (Cg (.tuple #[.agg #[Aa Ab 0,Aa Ab 0,Ad none 0 0,Aa Ac 0,Aa Ab 0,Aa Ab 0,Ad none 0 0],Aa Ab 0,Aa Ab (firstE E1 E2)]) w):=by
 have HAL:=Ae (fun(w':Ag) (hb:Below w.heap.size w w')=>allBad_any a b pA pn pc t x y A n c ma mb mcc mA mn mc E1 E2 hE w' (fun w2 h=>hm w2 (hb.trans (h.mono hb.size))) (fun w2 h=>hck w2 (hb.trans (h.mono hb.size))));have hne:=firstE_ne hE;obtain⟨E,hEE⟩:=ey (firstE E1 E2);rw[hEE]at HAL hne⊢;have q8:(E != 0)=true:=by simpa using hne
 have H:=(((Bx.start w).new #[Aa Ab ma,Aa Ab mb,Aa Ab mcc,Ad mA mn mc] 24 rfl).new #[Aa Ab a,Aa Ab b,Ad pA pn pc,Aa Ac t,Aa Ab x,Aa Ab y,Ad A n c] 43 (N:=w.heap.size+1) (by simp)).new #[Aa Ab 0,Aa Ab 0,Ad none 0 0,Aa Ac 0,Aa Ab 0,Aa Ab 0,Ad none 0 0] 43 (N:=w.heap.size+1+1) (by simp);clear hm hck hE hEE hne;go_enter Tryz.func12,Tryz.ntmps12;go_upto_region 1 with fail;obtain⟨N,hN⟩:=ez w.heap.size;rw[←hN]at H⊢;have HNN:=Ae hN;clear hN;obtain⟨P,hP⟩:=ey (N+1);obtain⟨R,hR⟩:=ey (P+1);rw[hP,hR]at H⊢;clear hP hR;obtain⟨W1,hW1⟩:=ez (((w.alloc (.cells #[Aa Ab ma,Aa Ab mb,Aa Ab mcc,Ad mA mn mc] 24)).alloc (.cells #[Aa Ab a,Aa Ab b,Ad pA pn pc,Aa Ac t,Aa Ab x,Aa Ab y,Ad A n c] 43)).alloc (.cells #[Aa Ab 0,Aa Ab 0,Ad none 0 0,Aa Ac 0,Aa Ab 0,Aa Ab 0,Ad none 0 0] 43));rw[←hW1]at H⊢;clear hW1;obtain⟨⟨m0,m1,m2,m3⟩,-⟩:=Co (H.blk 0 _ _ _ rfl);obtain⟨a0,a1,a2,a3,a4,a5,a6⟩:=De (H.blk 1 _ _ _ rfl);go_wp2_with fail;refine(HAL.out _ H.below).mono ?_;rintro ee w2 ⟨rfl,hb⟩;have H2:=H.call hb;clear m0 m1 m2 m3 a0 a1 a2 a3 a4 a5 a6 hb H HAL;obtain⟨z0,z1,z2,z3,z4,z5,z6⟩:=De (H2.blk 2 _ _ _ rfl);obtain⟨y0,y1,y2,y3,y4,y5,y6⟩:=Jm (H2.blk 2 _ _ _ rfl);have H9:=Ae (H2.put7 2 rfl (Aa Ab 0) (Aa Ab 0) (Ad none 0 0) (Aa Ac 0) (Aa Ab 0) (Aa Ab 0) (Ad none 0 0));clear H2;go_wp2_with fail;exact Af (Ox rfl rfl (H9.out.range 2 rfl) Tryz.underlying43 rfl (by kernel_rfl)) rfl ⟨rfl,H9.out.below⟩
theorem ticksBad_any (a b:Int) (pA:Option Addr) (pn pc:Nat) (t x y:Int) (A:Option Addr) (n c:Nat) (ma mb mcc:Int) (mA:Option Addr) (mn mc:Nat) (E1 E2:Int) (hE:E1≠0∨E2≠0) (w:Ag)
  (hm:∀w':Ag,Below w.heap.size w w'→Ai Tryz.prog 5 #[.agg #[Aa Ab ma,Aa Ab mb,Aa Ab mcc,Ad mA mn mc]] w' (Cg (Aa Ab E1) w'))
  (hck:∀w':Ag,Below w.heap.size w w'→Ai Tryz.prog 7 #[.agg #[Aa Ab a,Aa Ab b,Ad pA pn pc,Aa Ac t,Aa Ab x,Aa Ab y,Ad A n c]] w' (Cg (Aa Ab E2) w')):
  Ai Tryz.prog 13 #[.agg #[Aa Ab ma,Aa Ab mb,Aa Ab mcc,Ad mA mn mc],.agg #[Aa Ab a,Aa Ab b,Ad pA pn pc,Aa Ac t,Aa Ab x,Aa Ab y,Ad A n c]] w (Cg (.tuple #[Ad none 0 0,Aa Ab (firstE E1 E2)]) w):=by
 have HAL:=Ae (fun(w':Ag) (hb:Below w.heap.size w w')=>allBad_any a b pA pn pc t x y A n c ma mb mcc mA mn mc E1 E2 hE w' (fun w2 h=>hm w2 (hb.trans (h.mono hb.size))) (fun w2 h=>hck w2 (hb.trans (h.mono hb.size))));have hne:=firstE_ne hE;obtain⟨E,hEE⟩:=ey (firstE E1 E2);rw[hEE]at HAL hne⊢;have q8:(E != 0)=true:=by simpa using hne
 have H:=((Bx.start w).new #[Aa Ab ma,Aa Ab mb,Aa Ab mcc,Ad mA mn mc] 24 rfl).new #[Aa Ab a,Aa Ab b,Ad pA pn pc,Aa Ac t,Aa Ab x,Aa Ab y,Ad A n c] 43 (N:=w.heap.size+1) (by simp);clear hm hck hE hEE hne;go_enter Tryz.func13,Tryz.ntmps13;go_upto_region 1 with fail;obtain⟨N,hN⟩:=ez w.heap.size;rw[←hN]at H⊢;have HNN:=Ae hN;clear hN;obtain⟨P,hP⟩:=ey (N+1);rw[hP]at H⊢;clear hP;obtain⟨W1,hW1⟩:=ez ((w.alloc (.cells #[Aa Ab ma,Aa Ab mb,Aa Ab mcc,Ad mA mn mc] 24)).alloc (.cells #[Aa Ab a,Aa Ab b,Ad pA pn pc,Aa Ac t,Aa Ab x,Aa Ab y,Ad A n c] 43));rw[←hW1]at H⊢;clear hW1;obtain⟨⟨m0,m1,m2,m3⟩,-⟩:=Co (H.blk 0 _ _ _ rfl);obtain⟨a0,a1,a2,a3,a4,a5,a6⟩:=De (H.blk 1 _ _ _ rfl);go_wp2_with fail;refine(HAL.out _ H.below).mono ?_;rintro ee w2 ⟨rfl,hb⟩;have H2:=H.call hb;clear m0 m1 m2 m3 a0 a1 a2 a3 a4 a5 a6 hb H HAL;go_wp2_with fail
 go_ret2
 exact⟨rfl,H2.below⟩
end Go.Proofs.YteoffhpfcgffcaaGreatDoor
namespace Go.Proofs.YteoffhpfcgffcaaGreatDoor
theorem chk_spoilt {s:St} (hg:Gs s):St.chk ⟨s.a,s.b,s.cr,s.root,[]⟩=6:=by
 have hc:0<Cq s.a s.b:=by
  have:=Me hg.pat.sheet;unfold Cq;rw[show 4*s.a*s.b=4*(s.a*s.b)from Int.mul_assoc ..];omega
 have h1:chkS (Cq s.a s.b) []=6:=by
  unfold chkS Dv;simp[hc]
 have h2:Kp s.a s.b s.cr s.root []=6:=by
  unfold Kp;rw[if_neg (by rw[hg.both];decide),if_pos (by rw[h1];decide),h1]
 unfold St.chk;dsimp only;rw[h2,if_pos (by decide)]
theorem flat_box:(Es 1 1).box=⟨0,1,0,1⟩:=by decide+kernel
theorem far_none:∀k,k≤7→Oo k=(1,0)→Qp k (awayT (Es 1 1).box k 4096)=false:=by
 intro k hk h;obtain rfl:k=3:=kindT_inj hk (by decide) h;rw[flat_box]
 decide
end Go.Proofs.YteoffhpfcgffcaaGreatDoor
namespace Go.Proofs.YteoffhpfcgffcaaGreatDoor
open Go.RowKit
theorem mofNo_any (s:St) (fk fc:Int) (fs:Nat) (fo:Bool) (hfc: -30000≤fc∧fc≤30000) (hok:Kg fk fc fs=true) (hno:∀k,k≤7→Oo k=(fk,fs)→Qp k (awayT s.box k fc)=false) (pA:Option Addr) (pc:Nat) (A:Option Addr) (cc:Nat) (w:Ag) (hs:Gs s) (hpr:Rd w pA 3 s.cr.length (crs s.cr)) (h:Cs w A s.l) (hQ:Qf w) (hT:Tn w):
  Ai Tryz.prog 10 #[.agg #[Aa Ab s.a,Aa Ab s.b,Ad pA s.cr.length pc,Aa Ac s.root.t,Aa Ab s.root.x,Aa Ab s.root.y,Ad A s.l.length cc],.agg #[Aa Ac fk,Aa Ab fc,Aa Ac (fs:Int),.bool fo]] w
   (Cg (.tuple #[.agg #[Aa Ac 0,Aa Ab 0,.bool false],Aa Ab 1]) w):=by
 have HCK:=Ae (fun(w':Ag) (hb:Below w.heap.size w w')=>Sy s pA pc A cc w' hs (hpr.below hb) (h.below hb) (hQ.below hb) (hT.below hb));have HAR:=Ae (fun(w':Ag) (hb:Below w.heap.size w w')=>Lz s pA pc A cc w' hs (hpr.below hb) (h.below hb) (hQ.below hb) (hT.below hb));have HFC:=Ae (fun(w':Ag)=>Vo fk fc fs fo w');rw[hok,Fo]at HFC;have HST:=Ae (fun(w':Ag)=>stnNo_any s.box hs.box fk fc fs fo hfc hno w');obtain⟨⟨l,r,d,u⟩,hbx⟩:=ey s.box;rw[hbx]at HAR HST;unfold bbV at HAR HST;dsimp only at HAR HST HFC⊢;have H:=(((Bx.start w).new #[Aa Ab s.a,Aa Ab s.b,Ad pA s.cr.length pc,Aa Ac s.root.t,Aa Ab s.root.x,Aa Ab s.root.y,Ad A s.l.length cc] 43 rfl).new #[Aa Ac fk,Aa Ab fc,Aa Ac (fs:Int),.bool fo] 53 (N:=w.heap.size+1) (by simp)).new #[Aa Ac 0,Aa Ab 0,.bool false] 32 (N:=w.heap.size+1+1) (by simp);obtain⟨n,hn⟩:=ey s.l.length;obtain⟨pn,hpn⟩:=ey s.cr.length;rw[hn,hpn]at HAR HCK H;rw[hn,hpn];clear hs hpr h hQ hT hbx hn hpn hok hfc hno;go_enter Tryz.func10,Tryz.ntmps10;go_upto_region 1 with fail;obtain⟨N,hN⟩:=ez w.heap.size;rw[←hN]at H⊢;have HNN:=Ae hN;clear hN;obtain⟨P,hP⟩:=ey (N+1);obtain⟨R,hR⟩:=ey (P+1);rw[hP,hR]at H⊢;clear hP hR;obtain⟨W1,hW1⟩:=ez (((w.alloc (.cells #[Aa Ab s.a,Aa Ab s.b,Ad pA pn pc,Aa Ac s.root.t,Aa Ab s.root.x,Aa Ab s.root.y,Ad A n cc] 43)).alloc (.cells #[Aa Ac fk,Aa Ab fc,Aa Ac (fs:Int),.bool fo] 53)).alloc (.cells #[Aa Ac 0,Aa Ab 0,.bool false] 32));rw[←hW1]at H⊢;clear hW1;obtain⟨a0,a1,a2,a3,a4,a5,a6⟩:=De (H.blk 0 _ _ _ rfl);go_wp2_with fail;refine(HCK.out _ H.below).mono ?_;rintro ee w2 ⟨rfl,hb⟩;have H2:=H.call hb;clear a0 a1 a2 a3 a4 a5 a6 hb H HCK;obtain⟨⟨c0,c1,c2,c3⟩,-⟩:=Co (H2.blk 1 _ _ _ rfl);go_wp2_with fail;refine(HFC.out _).mono ?_;rintro ee w3 ⟨rfl,hb⟩;have H3:=H2.call hb;clear c0 c1 c2 c3 hb H2 HFC;go_upto_region 7 with fail
 obtain⟨a0,a1,a2,a3,a4,a5,a6⟩:=De (H3.blk 0 _ _ _ rfl);obtain⟨⟨c0,c1,c2,c3⟩,-⟩:=Co (H3.blk 1 _ _ _ rfl);have hNl:=H3.lt 0 rfl;have hPl:=H3.lt 1 rfl;have hNR:N≠R:=H3.ne 0 2 (by decide) rfl rfl;have hPR:P≠R:=H3.ne 1 2 (by decide) rfl rfl;obtain⟨S,hSd⟩:∃S:Ag→Prop,S=fun W'=>W'.heap[N]? =w3.heap[N]? ∧W'.heap[P]? =w3.heap[P]? :=⟨_,rfl⟩
 have HSO:Hid (∀W',S W'→(W'.cell? ⟨N,0,none⟩=some (Aa Ab s.a)∧W'.cell? ⟨N,1,none⟩=some (Aa Ab s.b)∧W'.cell? ⟨N,2,none⟩=some (Ad pA pn pc)∧W'.cell? ⟨N,3,none⟩=some (Aa Ac s.root.t)∧W'.cell? ⟨N,4,none⟩=some (Aa Ab s.root.x)∧W'.cell? ⟨N,5,none⟩=some (Aa Ab s.root.y)∧W'.cell? ⟨N,6,none⟩=some (Ad A n cc))∧W'.cell? ⟨P,0,none⟩=some (Aa Ac fk)∧W'.cell? ⟨P,1,none⟩=some (Aa Ab fc)∧W'.cell? ⟨P,2,none⟩=some (Aa Ac (fs:Int))∧W'.cell? ⟨P,3,none⟩=some (.bool fo)):=Ae fun W' h=>by
  subst hSd;obtain⟨h1,h2⟩:=h;exact⟨⟨(Ch h1 _).trans a0,(Ch h1 _).trans a1,(Ch h1 _).trans a2,(Ch h1 _).trans a3,(Ch h1 _).trans a4,(Ch h1 _).trans a5,(Ch h1 _).trans a6⟩,(Ch h2 _).trans c0,(Ch h2 _).trans c1,(Ch h2 _).trans c2,(Ch h2 _).trans c3⟩
 have HSB:Hid (∀W' W'':Ag,S W'→Below w3.heap.size W' W''→S W''):=Ae fun W' W'' hs h=>by
  subst hSd;obtain⟨h1,h2⟩:=hs;exact⟨(h.block N hNl).trans h1,(h.block P hPl).trans h2⟩
 have HSC:Hid (∀(W':Ag) (j:Nat) (v:Ah),S W'→S (W'.setCell ⟨R,j,none⟩ v)):=Ae fun W' j v hs=>by
  subst hSd;obtain⟨h1,h2⟩:=hs;exact⟨(Below.heap_setCell W' ⟨R,j,none⟩ v N hNR).trans h1,(Below.heap_setCell W' ⟨R,j,none⟩ v P hPR).trans h2⟩
 have hS0:S w3.drew:=by subst hSd;exact⟨rfl,rfl⟩
 clear hSd a0 a1 a2 a3 a4 a5 a6 c0 c1 c2 c3 hNl hPl hNR hPR;refine Al (S:=S) (by kernel_rfl) hS0 (fun hS=>?_);have hb:Below w3.heap.size w3 w3.drew:=(Below.refl _ _).drew;have H4:=H3.drew;obtain⟨X0,hX0⟩:=ez w3.drew;rw[←hX0]at hb hS H4⊢;clear hX0;clear hS0 H3;refine Cf 0 ?_;refine Cf 2 ?_;refine rdy 1 (fun K hK=>?_);go_simp;refine(HAR.out _ H4.below).mono ?_;rintro ee X1 ⟨rfl,hbm⟩;obtain⟨H5,hS1,hb⟩:=cl3 H4 hb hS HSB.out hbm;refine hK.out _ _ hS1 (fun hS=>?_);clear hK K hbm H4 hS1;refine rdy 3 (fun K hK=>?_);go_simp;refine(HST.out _).mono ?_;rintro ee X2 ⟨rfl,hbm⟩;obtain⟨H6,hS1,hb⟩:=cl3 H5 hb hS HSB.out hbm;refine hK.out _ _ hS1 (fun hS=>?_);clear hK K hbm H5 hS1 hb;refine Cf 4 ?_;refine Cf 5 ?_;obtain⟨⟨g0,g1,g2⟩,z0,z1,z2⟩:=Ci (H6.blk 2 _ _ _ rfl);have H9:=Ae (((H6.set 2 0 rfl (Aa Ac 0)).set 2 1 rfl (Aa Ab 0)).set 2 2 rfl (.bool false));have HSP:=Ae (HSC.out _ 2 (.bool false) (HSC.out _ 1 (Aa Ab 0) (HSC.out _ 0 (Aa Ac 0) hS)));clear H6;refine rdy 6 (fun K hK=>?_);go_simp;refine hK.out _ _ HSP.out (fun hS=>?_);clear hK K g0 g1 g2 z0 z1 z2;refine Cf 7 ?_;refine Ak (by kernel_rfl) ?_ _;go_wp2_with fail;exact Af (Cj (u:=5) rfl rfl (H9.out.range 2 rfl) Tryz.underlying32 rfl (by kernel_rfl)) rfl ⟨rfl,H9.out.below⟩
theorem mofArg_any (s:St) (fk fc:Int) (fs:Nat) (fo:Bool) (hok:Kg fk fc fs=false) (pA:Option Addr) (pc:Nat) (A:Option Addr) (cc:Nat) (w:Ag) (hs:Gs s) (hpr:Rd w pA 3 s.cr.length (crs s.cr)) (h:Cs w A s.l) (hQ:Qf w) (hT:Tn w):
  Ai Tryz.prog 10 #[.agg #[Aa Ab s.a,Aa Ab s.b,Ad pA s.cr.length pc,Aa Ac s.root.t,Aa Ab s.root.x,Aa Ab s.root.y,Ad A s.l.length cc],.agg #[Aa Ac fk,Aa Ab fc,Aa Ac (fs:Int),.bool fo]] w
   (Cg (.tuple #[.agg #[Aa Ac 0,Aa Ab 0,.bool false],Aa Ab 1]) w):=by
 have HCK:=Ae (fun(w':Ag) (hb:Below w.heap.size w w')=>Sy s pA pc A cc w' hs (hpr.below hb) (h.below hb) (hQ.below hb) (hT.below hb));have HFC:=Ae (fun(w':Ag)=>Vo fk fc fs fo w');rw[hok,show ec false 1=1 from rfl]at HFC;have H:=(((Bx.start w).new #[Aa Ab s.a,Aa Ab s.b,Ad pA s.cr.length pc,Aa Ac s.root.t,Aa Ab s.root.x,Aa Ab s.root.y,Ad A s.l.length cc] 43 rfl).new #[Aa Ac fk,Aa Ab fc,Aa Ac (fs:Int),.bool fo] 53 (N:=w.heap.size+1) (by simp)).new #[Aa Ac 0,Aa Ab 0,.bool false] 32 (N:=w.heap.size+1+1) (by simp);obtain⟨n,hn⟩:=ey s.l.length;obtain⟨pn,hpn⟩:=ey s.cr.length;rw[hn,hpn]at HCK H;rw[hn,hpn];clear hs hpr h hQ hT hn hpn hok;go_enter Tryz.func10,Tryz.ntmps10;go_upto_region 1 with fail;obtain⟨N,hN⟩:=ez w.heap.size;rw[←hN]at H⊢;have HNN:=Ae hN;clear hN;obtain⟨P,hP⟩:=ey (N+1);obtain⟨R,hR⟩:=ey (P+1);rw[hP,hR]at H⊢;clear hP hR;obtain⟨W1,hW1⟩:=ez (((w.alloc (.cells #[Aa Ab s.a,Aa Ab s.b,Ad pA pn pc,Aa Ac s.root.t,Aa Ab s.root.x,Aa Ab s.root.y,Ad A n cc] 43)).alloc (.cells #[Aa Ac fk,Aa Ab fc,Aa Ac (fs:Int),.bool fo] 53)).alloc (.cells #[Aa Ac 0,Aa Ab 0,.bool false] 32));rw[←hW1]at H⊢;clear hW1;obtain⟨a0,a1,a2,a3,a4,a5,a6⟩:=De (H.blk 0 _ _ _ rfl);go_wp2_with fail;refine(HCK.out _ H.below).mono ?_;rintro ee w2 ⟨rfl,hb⟩;have H2:=H.call hb;clear a0 a1 a2 a3 a4 a5 a6 hb H HCK;obtain⟨⟨c0,c1,c2,c3⟩,-⟩:=Co (H2.blk 1 _ _ _ rfl);go_wp2_with fail;refine(HFC.out _).mono ?_;rintro ee w3 ⟨rfl,hb⟩;have H3:=H2.call hb;clear c0 c1 c2 c3 hb H2 HFC;obtain⟨⟨g0,g1,g2⟩,z0,z1,z2⟩:=Ci (H3.blk 2 _ _ _ rfl);have H9:=Ae (((H3.set 2 0 rfl (Aa Ac 0)).set 2 1 rfl (Aa Ab 0)).set 2 2 rfl (.bool false));clear H3;go_wp2_with fail;exact Af (Cj (u:=5) rfl rfl (H9.out.range 2 rfl) Tryz.underlying32 rfl (by kernel_rfl)) rfl ⟨rfl,H9.out.below⟩
def Mh.far (m:Mh):Bool:=decide (m.a<1)||decide (1024<m.a)||decide (m.b<1)||decide (256<m.b)||decide (m.c<1)||decide (256<m.c)
def Mh.odd (m:Mh):Bool:=m.st.any fun t=> !(Qp t.k t.p)||decide (t.p<m.c)
def mchkF (m:Mh):Int:=if 16<m.st.length then 3 else if m.far then 1 else if m.odd then 1 else 0
theorem mchk_ok {m:Mh}:mchkF m=0↔m.ok=true:=by
 rw[Mh.ok_iff];unfold mchkF Mh.far Mh.odd
 constructor
 ·intro h
  split at h
  ·cases h
  ·split at h
   ·cases h
   ·split at h
    ·cases h
    ·rename_i h1 h2 h3;simp only[Bool.or_eq_true,decide_eq_true_eq,not_or]at h2;refine⟨by omega,by omega,fun t ht=>?_⟩
     have h4:(!(Qp t.k t.p)||decide (t.p<m.c))=false:=by
      cases hh:(!(Qp t.k t.p)||decide (t.p<m.c))with
      |false=>rfl
      |true=>exact absurd (List.any_eq_true.2 ⟨t,ht,hh⟩) h3
     unfold Qp at h4;simp at h4;omega
 ·rintro⟨h1,h2,h3⟩;rw[if_neg (by omega),if_neg (by simp only[Bool.or_eq_true,decide_eq_true_eq];omega),if_neg];intro h;obtain⟨t,ht,h4⟩:=List.any_eq_true.1 h;have:=h3 t ht;unfold Qp at h4;simp at h4;omega
theorem mchk_any (m:Mh) (A:Option Addr) (n c:Nat) (w:Ag) (hn:n=m.st.length) (hl:n≤1000000) (hrd:Rd w A 3 n (m.st.flatMap snC)):
  Ai Tryz.prog 5 #[.agg #[Aa Ab m.a,Aa Ab m.b,Aa Ab m.c,Ad A n c]] w (Cg (Aa Ab (mchkF m)) w):=by
 have HCF:=Ae (fun(M:Nat) (w':Ag) (hbl:Below w.heap.size w w') (hc:w'.cell? ⟨M,2,none⟩=some (Aa Ab m.c)) (hM:M<w'.heap.size)=>
  dL 19 (enters_of Tryz.func19 (by kernel_rfl) rfl) #[.pointer (some ⟨M,0,none⟩)] (fun t=> !(Qp t.k t.p)||decide (t.p<m.c)) A m.st n c w' hn (hrd.below hbl) hl fun i w2 _ h2=>rO i.k i.p i.o M m.c w2 (Ce h2 hc) (Bm hM h2.size))
 have HR:=Ae (show mchkF m=if 16<n then 3 else if m.far then 1 else if m.odd then 1 else 0 by rw[hn];rfl);obtain⟨od,hod⟩:=ey m.odd;have hod2:(m.st.any fun t=> !(Qp t.k t.p)||decide (t.p<m.c))=od:=hod;rw[hod2]at HCF;rw[hod]at HR;obtain⟨E,hE⟩:=ey (mchkF m);rw[hE]at HR⊢;unfold Mh.far at HR;obtain⟨a,b,cc,st⟩:=m;dsimp only at HCF HR⊢;have H:=(Bx.start w).new #[Aa Ab a,Aa Ab b,Aa Ab cc,Ad A n c] 24 rfl;clear hn hl hrd hod hod2 hE;go_enter Tryz.func5,Tryz.ntmps5;go_upto_region 1 with fail;obtain⟨N,hN⟩:=ez w.heap.size;rw[←hN]at H⊢;have HNN:=Ae hN;clear hN;obtain⟨W,hW⟩:=ez (w.alloc (.cells #[Aa Ab a,Aa Ab b,Aa Ab cc,Ad A n c] 24));rw[←hW]at H⊢;clear hW;obtain⟨⟨a0,a1,a2,a3⟩,-⟩:=Co (H.blk 0 _ _ _ rfl);have HC:=Ae (HCF.out N W H.below a2 (H.lt 0 rfl));have HB:=Ae H.below;clear H HCF;by_cases q0:16<(n:Int)
 ·go_wp2_with fail;go_ret;exact⟨by rw[HR.out,if_pos (by omega)];rfl,HB.out⟩
 ·by_cases q1:a<1
  ·go_wp2_with fail;go_ret;exact⟨by rw[HR.out,if_neg (by omega),if_pos (by simp[q1])];rfl,HB.out⟩
  ·by_cases q2:1024<a
   ·go_wp2_with fail;go_ret;exact⟨by rw[HR.out,if_neg (by omega),if_pos (by simp[q2])];rfl,HB.out⟩
   ·by_cases q3:b<1
    ·go_wp2_with fail;go_ret;exact⟨by rw[HR.out,if_neg (by omega),if_pos (by simp[q3])];rfl,HB.out⟩
    ·by_cases q4:256<b
     ·go_wp2_with fail;go_ret;exact⟨by rw[HR.out,if_neg (by omega),if_pos (by simp[q4])];rfl,HB.out⟩
     ·by_cases q5:cc<1
      ·go_wp2_with fail;go_ret;exact⟨by rw[HR.out,if_neg (by omega),if_pos (by simp[q5])];rfl,HB.out⟩
      ·by_cases q6:256<cc
       ·go_wp2_with fail;go_ret;exact⟨by rw[HR.out,if_neg (by omega),if_pos (by simp[q6])];rfl,HB.out⟩
       ·have hr:=HR.out;rw[if_neg (by omega),if_neg (by simp;omega)]at hr;have HR2:=Ae hr;clear hr HR;go_wp2_with fail;refine HC.out.mono ?_;rintro ee w2 ⟨rfl,hb⟩;have hb2:=HB.out.trans (hb.mono HB.out.size)
        cases od with
        |false=>
         go_wp2_with fail;go_ret;exact⟨by rw[HR2.out];rfl,hb2⟩
        |true=>
         go_wp2_with fail;go_ret;exact⟨by rw[HR2.out];rfl,hb2⟩
end Go.Proofs.YteoffhpfcgffcaaGreatDoor
namespace Go.Proofs.YteoffhpfcgffcaaGreatDoor
def oddL (m:Mh) (t:Sn):Bool:=decide (7<t.k)||decide (t.p<m.c)||decide (512<t.p)
def wantK (m:Mh) (k:Nat):Int:=if m.far||(m.st.take k).any (oddL m)then 1 else 0
theorem wantK_zero (m:Mh):wantK m 0=if m.far then 1 else 0:=by simp[wantK]
theorem wantK_next {m:Mh} {k:Nat} (hk:k<m.st.length):wantK m (k+1)=if oddL m m.st[k]then 1 else wantK m k:=by
 unfold wantK;rw[Ax hk,List.any_append];rw[show List.any [m.st[k]] (oddL m)=oddL m m.st[k]by simp]
 cases m.far<;>cases oddL m m.st[k]<;>cases(m.st.take k).any (oddL m)<;>rfl
theorem wantK_all (m:Mh):(if 16<m.st.length then 3 else wantK m m.st.length)=mchkF m:=by
 unfold mchkF wantK
 split
 ·rfl
 ·rw[List.take_length]
  cases hf:m.far with
  |true=>rfl
  |false=>
   have hc:1≤m.c:=by
    unfold Mh.far at hf;simp at hf;omega
   have:m.st.any (oddL m)=m.odd:=by
    unfold Mh.odd oddL Qp
    congr 1
    funext t
    rw[Bool.eq_iff_iff];simp;omega
   rw[this];simp
end Go.Proofs.YteoffhpfcgffcaaGreatDoor
namespace Go.Proofs.YteoffhpfcgffcaaGreatDoor
open Go.RowKit
def RunU (f:Int) (w:Ag) (e:Ending) (w':Ag):Prop:=Below w.heap.size w w'∧∃(a b:Int) (pA:Option Addr) (pn pc:Nat) (t x y:Int) (A:Option Addr) (n c:Nat) (k h:Int),e= .returned (.tuple #[.agg #[Aa Ab a,Aa Ab b,Ad pA pn pc,Aa Ac t,Aa Ab x,Aa Ab y,Ad A n c],Aa Ab k,Aa Ab h])∧(f≠0→n=0∧k=0∧h=f)
def TicU (f:Int) (w:Ag) (e:Ending) (w':Ag):Prop:=Below w.heap.size w w'∧∃A n c h,e= .returned (.tuple #[Ad A n c,Aa Ab h])∧(f≠0→n=0∧h=f)
def UnC (w:Ag) (sv mv:Array Ah) (E F E1:Int):Prop:=∀w',Below w.heap.size w w'→
 Ai Tryz.prog 7 #[.agg sv] w' (Cg (Aa Ab E) w')∧
 (∃v0 v1 v2 v3:Int,Ai Tryz.prog 8 #[.agg sv] w' (Cg (.tuple #[.agg #[Aa Ab v0,Aa Ab v1,Aa Ab v2,Aa Ab v3],Aa Ab E]) w'))∧
 Ai Tryz.prog 9 #[.agg sv,.agg #[Aa Ac 9,Aa Ab 0,.bool false]] w' (Cg (.tuple #[.agg #[Aa Ac 0,Aa Ab 0,Aa Ac 0,.bool false],Aa Ab F]) w')∧
 Ai Tryz.prog 10 #[.agg sv,.agg #[Aa Ac 0,Aa Ab 0,Aa Ac 0,.bool false]] w' (Cg (.tuple #[.agg #[Aa Ac 0,Aa Ab 0,.bool false],Aa Ab F]) w')∧
 Ai Tryz.prog 12 #[.agg mv,.agg sv] w' (RunU (firstE E1 E) w')∧
 Ai Tryz.prog 13 #[.agg mv,.agg sv] w' (TicU (firstE E1 E) w')
theorem firstE_zero {p q:Int} (h:firstE p q=0):p=0∧q=0:=by
 unfold firstE at h
 split at h
 ·rename_i h1;exact absurd h h1
 ·rename_i h1;exact⟨by omega,h⟩
theorem runU_of {f:Int} {w:Ag} {e:Ending} {w':Ag} (h:Cg (.tuple #[.agg #[Aa Ab 0,Aa Ab 0,Ad none 0 0,Aa Ac 0,Aa Ab 0,Aa Ab 0,Ad none 0 0],Aa Ab 0,Aa Ab f]) w e w'):RunU f w e w':=⟨h.2,_,_,_,_,_,_,_,_,_,_,_,_,_,h.1,fun _=>⟨rfl,rfl,rfl⟩⟩
theorem ticU_of {f:Int} {w:Ag} {e:Ending} {w':Ag} (h:Cg (.tuple #[Ad none 0 0,Aa Ab f]) w e w'):TicU f w e w':=⟨h.2,_,_,_,_,h.1,fun _=>⟨rfl,rfl⟩⟩
theorem runU_ok {R:List St×Int} {s:St} {c0:List Ah} {w:Ag} {e:Ending} {w':Ag} (h:Xi R s c0 w e w'):RunU 0 w e w':=by
 obtain⟨hb,⟨-,rfl⟩|⟨-,t,cs,-,rfl,-,hin,-⟩⟩:=h
 ·exact⟨hb,_,_,_,_,_,_,_,_,_,_,_,_,_,rfl,fun h=>absurd rfl h⟩
 ·obtain⟨pA,pc,A,cc,rfl,-⟩:=hin.held;exact⟨hb,_,_,_,_,_,_,_,_,_,_,_,_,_,rfl,fun h=>absurd rfl h⟩
theorem ticU_ok {R:List St×Int} {ts:List Sn} {n:Nat} {w:Ag} {e:Ending} {w':Ag} (h:Mr R ts n w e w'):TicU 0 w e w':=by
 obtain⟨hb,⟨-,rfl⟩|⟨-,g,rfl,-⟩⟩:=h
 ·exact⟨hb,_,_,_,_,rfl,fun h=>absurd rfl h⟩
 ·exact⟨hb,_,_,_,_,rfl,fun h=>absurd rfl h⟩
theorem un_ok (m:Mh) (s:St) (mA:Option Addr) (mn mc:Nat) (hmn:mn=m.st.length) (hml:mn≤1000000) (pA:Option Addr) (pc:Nat) (A:Option Addr) (cc:Nat) (w:Ag) (hrd:Rd w mA 3 mn (m.st.flatMap snC)) (hs:Gs s) (hA:AOk pA s.cr.length pc) (hpr:Rd w pA 3 s.cr.length (crs s.cr)) (hst:Cs w A s.l) (hQ:Qf w) (hT:Tn w):
  UnC w #[Aa Ab s.a,Aa Ab s.b,Ad pA s.cr.length pc,Aa Ac s.root.t,Aa Ab s.root.x,Aa Ab s.root.y,Ad A s.l.length cc] #[Aa Ab m.a,Aa Ab m.b,Aa Ab m.c,Ad mA mn mc] 0 1 (mchkF m):=fun w' hb=>by
 have hck:=fun(w2:Ag) (h2:Below w'.heap.size w' w2)=>Sy s pA pc A cc w2 hs ((hpr.below hb).below h2) ((hst.below hb).below h2) ((hQ.below hb).below h2) ((hT.below hb).below h2);have hmk:=fun(w2:Ag) (h2:Below w'.heap.size w' w2)=>mchk_any m mA mn mc w2 hmn hml ((hrd.below hb).below h2);refine⟨hck w' (Below.refl _ _),?_,?_,?_,?_,?_⟩
 ·exact⟨_,_,_,_,vO s pA pc A cc w' hs (hpr.below hb) (hst.below hb) (hQ.below hb) (hT.below hb)⟩
 ·exact lS s ⟨9,0,false⟩ pA pc A cc w' hs (hpr.below hb) (hst.below hb) (hQ.below hb) (hT.below hb)
 ·exact mofArg_any s 0 0 0 false (by decide) pA pc A cc w' hs (hpr.below hb) (hst.below hb) (hQ.below hb) (hT.below hb)
 ·by_cases h0:firstE (mchkF m) 0=0
  ·rw[h0];exact(Qx m s (mchk_ok.1 (firstE_zero h0).1) mA mn mc hmn pA pc A cc w' (hrd.below hb) hs hA (hpr.below hb) (hst.below hb) (hQ.below hb) (hT.below hb)).mono fun e w2 h=>runU_ok h
  ·have hE:mchkF m≠0∨(0:Int)≠0:= .inl fun h=>h0 (by rw[h];rfl);exact(runBad_any s.a s.b pA s.cr.length pc s.root.t s.root.x s.root.y A s.l.length cc m.a m.b m.c mA mn mc (mchkF m) 0 hE w' hmk hck).mono fun e w2 h=>runU_of h
 ·by_cases h0:firstE (mchkF m) 0=0
  ·rw[h0];exact(Rw m s (mchk_ok.1 (firstE_zero h0).1) mA mn mc hmn pA pc A cc w' (hrd.below hb) hs hA (hpr.below hb) (hst.below hb) (hQ.below hb) (hT.below hb)).mono fun e w2 h=>ticU_ok h
  ·have hE:mchkF m≠0∨(0:Int)≠0:= .inl fun h=>h0 (by rw[h];rfl);exact(ticksBad_any s.a s.b pA s.cr.length pc s.root.t s.root.x s.root.y A s.l.length cc m.a m.b m.c mA mn mc (mchkF m) 0 hE w' hmk hck).mono fun e w2 h=>ticU_of h
theorem un_bad (m:Mh) (s:St) (mA:Option Addr) (mn mc:Nat) (hmn:mn=m.st.length) (hml:mn≤1000000) (pA:Option Addr) (pc:Nat) (w:Ag) (hrd:Rd w mA 3 mn (m.st.flatMap snC)) (hs:Gs s) (hpr:Rd w pA 3 s.cr.length (crs s.cr)) (hQ:Qf w) (hT:Tn w):
  UnC w #[Aa Ab s.a,Aa Ab s.b,Ad pA s.cr.length pc,Aa Ac s.root.t,Aa Ab s.root.x,Aa Ab s.root.y,Ad none 0 0] #[Aa Ab m.a,Aa Ab m.b,Aa Ab m.c,Ad mA mn mc] 6 6 (mchkF m):=fun w' hb=>by
 have hck:∀(w2:Ag) (h2:Below w'.heap.size w' w2),Ai Tryz.prog 7 #[.agg #[Aa Ab s.a,Aa Ab s.b,Ad pA s.cr.length pc,Aa Ac s.root.t,Aa Ab s.root.x,Aa Ab s.root.y,Ad none 0 0]] w2 (Cg (Aa Ab 6) w2):=fun w2 h2=>by
  have h:=Nr s.a s.b pA s.cr s.cr.length pc s.root none [] 0 0 w2 hs.pat rfl ((hpr.below hb).below h2) (by have:=hs.pn;omega) (by have:=Yf hs.root;omega) rfl ⟨[],rfl,Rd.nil,by simp⟩ (by omega) (by simp) (by simp) ((hQ.below hb).below h2) ((hT.below hb).below h2)
  rwa [chk_spoilt hs]at h
 have hmk:=fun(w2:Ag) (h2:Below w'.heap.size w' w2)=>mchk_any m mA mn mc w2 hmn hml ((hrd.below hb).below h2);have hE:mchkF m≠0∨(6:Int)≠0:= .inr (by decide);refine⟨hck w' (Below.refl _ _),⟨_,_,_,_,boxBad_any s.a s.b pA s.cr.length pc s.root.t s.root.x s.root.y none 0 0 6 (by decide) w' hck⟩,foldBad_any s.a s.b pA s.cr.length pc s.root.t s.root.x s.root.y none 0 0 6 (by decide) 9 0 false w' hck,ofBad_any s.a s.b pA s.cr.length pc s.root.t s.root.x s.root.y none 0 0 6 (by decide) 0 0 0 false w' hck,?_,?_⟩
 ·exact(runBad_any s.a s.b pA s.cr.length pc s.root.t s.root.x s.root.y none 0 0 m.a m.b m.c mA mn mc (mchkF m) 6 hE w' hmk hck).mono fun e w2 h=>runU_of h
 ·exact(ticksBad_any s.a s.b pA s.cr.length pc s.root.t s.root.x s.root.y none 0 0 m.a m.b m.c mA mn mc (mchkF m) 6 hE w' hmk hck).mono fun e w2 h=>ticU_of h
end Go.Proofs.YteoffhpfcgffcaaGreatDoor
