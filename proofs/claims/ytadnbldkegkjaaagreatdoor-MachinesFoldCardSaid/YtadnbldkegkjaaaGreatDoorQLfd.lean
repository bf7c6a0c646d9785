/- Steps of a drawn region: a new block, a call, two operations that are ready. · The contract of box.station: the station of a fold that has one. · The contract of machines.Of at a valid state and a fold that has a station. · Cells that touch, under a move; lines between them, and how far they lie from the sides of a box. · The box of cells; lines between cells of the box. · What the places of the cells say of each pair of neighbours. · Small sheets: the tree of the cells, and how far the images lie from each other. · How the images of a small sheet's cells lie: neighbours touch where there is no crease, and all of them lie near to each other. · Each fold of a folded sheet has a station. · Equal arrays of four ints are found equal. · MachinesFold: the law returns true. Printed by mk_lfd.py. -/
import Derived.Test.YtadnbldkegkjaaaGreatDoorQMlb
import Derived.Test.YtadnbldkegkjaaaGreatDoorQMlk
import Derived.ChangeKeysEq
open Go renaming Calls→Ai,Value→Ah,World→Ag,bodyPost_ret→Af,wpAnyH_done→Ak,wpAnyH_ready→Am,wp_region_held_drew→Al
open Go.AllReadyH renaming cons→An,nil→Ao
open Go.IntKind renaming i64→Ab,u8→Ac
open Go.IntWalk renaming i64_in→Bu
open Go.Lib renaming hid→Ae
open Go.Value renaming int→Aa,slice→Ad
open List renaming append_assoc→Bg,getElem_cons_succ→Bz,getElem_cons_zero→By,getElem_mem→Au,getElem_toArray→Ca,length_append→Be,mem_append→Bi,mem_cons→Bh,nodup_append→Bl,replicate→Aw,setIfInBounds_toArray→Cd,set_cons_succ→Cc,set_cons_zero→Cb
open Nat renaming le_refl→Aj
set_option maxHeartbeats 64000000
set_option maxRecDepth 100000
namespace Go.Proofs.YtadnbldkegkjaaaGreatDoor
open Go.RowKit
theorem al3 {w X0 X:Ag} {l:List (Nat×Array Ah×TypeId)} {S:Ag→Prop} (H:Bx w l X) (hb:Below X0.heap.size X0 X) (hS:S X) (hSB:∀W' W'':Ag,S W'→Below X0.heap.size W' W''→S W'') (cs:Array Ah) (t:TypeId):
  ∃U,X.heap.size=U∧X0.heap.size≤U∧Bx w (l++[(U,cs,t)]) (X.alloc (.cells cs t))∧Below X.heap.size X (X.alloc (.cells cs t))∧S (X.alloc (.cells cs t))∧Below X0.heap.size X0 (X.alloc (.cells cs t)):=by
 have hal:Below X.heap.size X (X.alloc (.cells cs t)):=(Below.refl _ _).alloc (Aj _) _;exact⟨_,rfl,hb.size,H.new cs t rfl,hal,hSB _ _ hS (hal.mono hb.size),hb.trans (hal.mono hb.size)⟩
theorem cl3 {w X0 X X':Ag} {l:List (Nat×Array Ah×TypeId)} {S:Ag→Prop} (H:Bx w l X) (hb:Below X0.heap.size X0 X) (hS:S X) (hSB:∀W' W'':Ag,S W'→Below X0.heap.size W' W''→S W'') (hm:Below X.heap.size X X'):Bx w l X'∧S X'∧Below X0.heap.size X0 X':=
 ⟨H.call hm,hSB _ _ hS (hm.mono hb.size),hb.trans (hm.mono hb.size)⟩
section
variable {P:Program} {ops:Array Oper} {Q:Exit→Act→Ag→Prop} {md:Region.Mode} {S:Ag→Prop} {oi oj ok:Oper} {fuel:Nat} {listed:Array Bool} {a:Act} {w:Ag}
theorem rdy2 (i j:Nat) (h1:∀K':Act→Ag→Prop,Shut (∀a w,S w→(S w→wpAnyH P md ops Q S fuel (listed.setIfInBounds i true) a w)→K' a w)→if Region.wanted oi (yielded ops a.tmps)=true then Oper.wp P oi a w K' Q else K' (a.put oi.dst undef) w)
  (h2:∀K':Act→Ag→Prop,Shut (∀a w,S w→(S w→wpAnyH P md ops Q S fuel (listed.setIfInBounds j true) a w)→K' a w)→if Region.wanted oj (yielded ops a.tmps)=true then Oper.wp P oj a w K' Q else K' (a.put oj.dst undef) w)
  (hi:ops[i]? =some oi:=by exact rfl) (hj:ops[j]? =some oj:=by exact rfl) (hr:Region.ready md ops listed=[i,j]:=by kernel_rfl):wpAnyH P md ops Q S (fuel+1) listed a w:=
 Am hr (by simp) (An hi h1 (An hj h2 Ao))
end
theorem kindT_inj {k j:Nat} (hk:k≤7) (hj:j≤7) (h:Oo k=Oo j):k=j:=by
 rcases(by omega:k=0∨k=1∨k=2∨k=3∨k=4∨k=5∨k=6∨k=7)with rfl|rfl|rfl|rfl|rfl|rfl|rfl|rfl<;>
 rcases(by omega:j=0∨j=1∨j=2∨j=3∨j=4∨j=5∨j=6∨j=7)with rfl|rfl|rfl|rfl|rfl|rfl|rfl|rfl<;>
 first|rfl|exact absurd h (by decide)
theorem kindT_le (k:Nat):(Oo k).2≤1:=by
 unfold Oo
 split<;>decide
theorem stn_any (b:Bb) (hb:b.bd 5000) (fc:Int) (fo:Bool) (k0:Nat) (h0:k0≤7) (p0:Int) (hp:p0=if(Oo k0).2=1 then Tj b k0-fc else fc-Tj b k0) (h1:1≤p0) (h2:p0≤512) (w:Ag):
  Ai Tryz.prog 45 #[.agg (bbV b),.agg #[Aa Ac (Oo k0).1,Aa Ab fc,Aa Ac ((Oo k0).2:Int),.bool fo]] w (Cg (.tuple #[.agg #[Aa Ac k0,Aa Ab p0,.bool fo],Aa Ab 0]) w):=by
 have HSK:=Ae (fun(k:Nat) (hk:k≤7) (w':Ag)=>mV k hk w');have HBA:=Ae (fun(w':Ag)=>oT b hb k0 h0 w');have HVA:=Ae (fun(w':Ag)=>Xf k0 p0 fo w');have HKI:=Ae (fun(k:Nat) (hk:k≤7) (h:Oo k=Oo k0)=>kindT_inj hk h0 h)
 have hbb: -20000≤Tj b k0∧Tj b k0≤20000:=by
  unfold Bb.bd at hb;unfold Tj
  split<;>omega
 have hv:Qp k0 p0=true:=by unfold Qp;simp;omega
 rw[hv]at HVA;have hk1:=kindT_le k0;obtain⟨⟨fk,fs⟩,hkk⟩:=ey (Oo k0);rw[hkk]at HKI hp hk1;rw[hkk];dsimp only at hp hk1⊢;obtain⟨bs,hbs⟩:=ey (Tj b k0);rw[hbs]at HBA hp hbb;obtain⟨l,r,d,u⟩:=b;unfold bbV at HBA⊢;dsimp only at HBA⊢;have HP:=Ae hp;have HKK:=Ae hkk
 have hfc: -30000≤fc∧fc≤30000:=by
  split at hp<;>omega
 have H:=(((Bx.start w).new #[Aa Ab l,Aa Ab r,Aa Ab d,Aa Ab u] 90 rfl).new #[Aa Ac fk,Aa Ab fc,Aa Ac (fs:Int),.bool fo] 63 (N:=w.heap.size+1) (by simp)).new #[Aa Ac 0,Aa Ab 0,.bool false] 56 (N:=w.heap.size+1+1) (by simp);clear hb hv hkk hbs hp;go_enter Tryz.func45,Tryz.ntmps45;go_upto_region 1 with fail;obtain⟨N,hN⟩:=ez w.heap.size;rw[←hN]at H⊢;have HNN:=Ae hN;clear hN;obtain⟨P,hP⟩:=ey (N+1);obtain⟨R,hR⟩:=ey (P+1);rw[hP,hR]at H⊢;clear hP hR;obtain⟨W1,hW1⟩:=ez (((w.alloc (.cells #[Aa Ab l,Aa Ab r,Aa Ab d,Aa Ab u] 90)).alloc (.cells #[Aa Ac fk,Aa Ab fc,Aa Ac (fs:Int),.bool fo] 63)).alloc (.cells #[Aa Ac 0,Aa Ab 0,.bool false] 56));rw[←hW1]at H⊢;clear hW1;obtain⟨bl,hbl⟩:∃z:List (Nat×Array Ah×TypeId),[(N,#[Aa Ab l,Aa Ab r,Aa Ab d,Aa Ab u],90),(P,#[Aa Ac fk,Aa Ab fc,Aa Ac (fs:Int),.bool fo],63),(R,#[Aa Ac 0,Aa Ab 0,.bool false],56)]=z:=⟨_,rfl⟩;have HBL:=Ae hbl;have HI0:Hid (Bx w bl W1):=Ae (by rw[←hbl];exact H);clear H hbl;go_wp2_with fail
 go_loopw [6] (fun s6 wr=>∃k:Nat,k≤k0∧s6= Aa Ac k∧Hid (Bx w bl wr)) (fun s6 _=>k0+1-(intOf s6).toNat)
 case atStart=>exact⟨0,by omega,rfl,HI0⟩
 case round=>
  obtain⟨k,hk,rfl,HZ⟩:=hrel;clear HI0;have q0:(k:Int)≤7:=by omega
  go_wp2_with fail;refine(HSK.out k (by omega) _).mono ?_;rintro ee w2 ⟨rfl,hb⟩
  have H2:Bx w [(N,#[Aa Ab l,Aa Ab r,Aa Ab d,Aa Ab u],90),(P,#[Aa Ac fk,Aa Ab fc,Aa Ac (fs:Int),.bool fo],63),(R,#[Aa Ac 0,Aa Ab 0,.bool false],56)] w2:=by
   have h:=HZ.out.call hb;rw[←HBL.out]at h;exact h
  have HI2:Hid (Bx w bl w2):=Ae (HZ.out.call hb);clear hb HZ;obtain⟨⟨f0,f1,f2,f3⟩,-⟩:=Co (H2.blk 1 _ _ _ rfl);by_cases hkq:k=k0
  ·subst hkq;rw[HKK.out];dsimp only;go_upto_region 6 with fail;obtain⟨⟨b0,b1,b2,b3⟩,-⟩:=Co (H2.blk 0 _ _ _ rfl);obtain⟨S,hSd⟩:∃S:Ag→Prop,S=fun W'=>(W'.cell? ⟨N,0,none⟩=some (Aa Ab l)∧W'.cell? ⟨N,1,none⟩=some (Aa Ab r)∧W'.cell? ⟨N,2,none⟩=some (Aa Ab d)∧W'.cell? ⟨N,3,none⟩=some (Aa Ab u))∧W'.cell? ⟨P,1,none⟩=some (Aa Ab fc)∧W'.cell? ⟨P,3,none⟩=some (.bool fo):=⟨_,rfl⟩;have HSO:Hid (∀W',S W'→(W'.cell? ⟨N,0,none⟩=some (Aa Ab l)∧W'.cell? ⟨N,1,none⟩=some (Aa Ab r)∧W'.cell? ⟨N,2,none⟩=some (Aa Ab d)∧W'.cell? ⟨N,3,none⟩=some (Aa Ab u))∧W'.cell? ⟨P,1,none⟩=some (Aa Ab fc)∧W'.cell? ⟨P,3,none⟩=some (.bool fo)):=Ae fun W' h=>by subst hSd;exact h
   have hNl:=H2.lt 0 rfl;have hPl:=H2.lt 1 rfl
   have HSB:Hid (∀W' W'':Ag,S W'→Below w2.heap.size W' W''→S W''):=Ae fun W' W'' hs h=>by
    subst hSd;obtain⟨⟨g0,g1,g2,g3⟩,g4,g5⟩:=hs;exact⟨⟨(Ch (h.block N hNl) _).trans g0,(Ch (h.block N hNl) _).trans g1,(Ch (h.block N hNl) _).trans g2,(Ch (h.block N hNl) _).trans g3⟩,(Ch (h.block P hPl) _).trans g4,(Ch (h.block P hPl) _).trans g5⟩
   have HSU:Hid (∀(W':Ag) (Z j:Nat) (v:Ah),w2.heap.size≤Z→S W'→S (W'.setCell ⟨Z,j,none⟩ v)):=Ae fun W' Z j v hz hs=>by
    subst hSd;have eNv:=Below.heap_setCell W' ⟨Z,j,none⟩ v N (by show N≠Z;omega);have eP:=Below.heap_setCell W' ⟨Z,j,none⟩ v P (by show P≠Z;omega);obtain⟨⟨g0,g1,g2,g3⟩,g4,g5⟩:=hs;exact⟨⟨(Ch eNv _).trans g0,(Ch eNv _).trans g1,(Ch eNv _).trans g2,(Ch eNv _).trans g3⟩,(Ch eP _).trans g4,(Ch eP _).trans g5⟩
   have hS0:S w2.drew:=by subst hSd;exact⟨⟨b0,b1,b2,b3⟩,f1,f3⟩
   have e1:IntKind.i64.wrap (fc-bs)=fc-bs:=Bu _ (by omega);have HE1:=Ae e1;clear hSd b0 b1 b2 b3 f0 f1 f2 f3 e1;go_cut [9]from 30 to 40 (fun s9 wx=>∃Z:Nat,s9= .pointer (some ⟨Z,0,none⟩)∧Hid (Bx w [(N,#[Aa Ab l,Aa Ab r,Aa Ab d,Aa Ab u],90),(P,#[Aa Ac fk,Aa Ab fc,Aa Ac (fs:Int),.bool fo],63),(R,#[Aa Ac 0,Aa Ab 0,.bool false],56),(Z,#[Aa Ac k,Aa Ab (fc-bs),.bool fo],56)] wx))
   case first=>
    refine Al (S:=S) (by kernel_rfl) hS0 (fun hS=>?_);have hb:Below w2.heap.size w2 w2.drew:=(Below.refl _ _).drew;have H:=H2.drew;obtain⟨X0,hX0⟩:=ez w2.drew;rw[←hX0]at hb hS H⊢;clear hX0;clear hS0 H2;refine Cf 0 ?_;refine Cf 1 ?_;refine Cf 2 ?_;refine Cf 3 ?_;refine Cf 4 ?_;refine Cf 5 ?_;refine Cf 8 ?_;refine Cf 9 ?_;refine rdy2 6 11 (fun K hK=>?_) (fun K hK=>?_)
    ·go_simp;refine(HBA.out _).mono ?_;rintro ee X1 ⟨rfl,hbm⟩;obtain⟨H,hS1,hb⟩:=cl3 H hb hS HSB.out hbm;refine hK.out _ _ hS1 (fun hS=>?_);clear hK K hbm hS1;refine Cf 7 ?_;refine Cf 10 ?_;refine rdy 11 (fun K hK=>?_);obtain⟨Z,hA,hUW,H,hal,hS1,hb⟩:=al3 H hb hS HSB.out #[Aa Ac 0,Aa Ab 0,.bool false] 56;go_simp;refine hK.out _ _ hS1 (fun hS=>?_);clear hK K hS1 hal
     try rw[hA]
     obtain⟨X2,hX2⟩:=ez (X1.alloc (.cells #[Aa Ac 0,Aa Ab 0,.bool false] 56));rw[←hX2]at H hb hS⊢;clear hX2;clear hA;obtain⟨⟨z0,z1,z2⟩,y0,y1,y2⟩:=Ci (H.blk 3 _ _ _ rfl);have hSU:=Ae (HSU.out _ Z 2 (.bool fo) hUW (HSU.out _ Z 1 (Aa Ab (fc-bs)) hUW (HSU.out _ Z 0 (Aa Ac k) hUW hS)));have HREL:=Ae (((H.set 3 0 rfl (Aa Ac k)).set 3 1 rfl (Aa Ab (fc-bs))).set 3 2 rfl (.bool fo));clear H;refine rdy 12 (fun K hK=>?_);go_simp;rw[HE1.out];refine hK.out _ _ hSU.out (fun hS=>?_);clear hK K z0 z1 z2 y0 y1 y2;refine Ak (by kernel_rfl) ?_ _;go_wp2_with fail;go_meet;exact⟨Z,rfl,HREL⟩
    ·obtain⟨Z,hA,hUW,H,hal,hS1,hb⟩:=al3 H hb hS HSB.out #[Aa Ac 0,Aa Ab 0,.bool false] 56;go_simp;refine hK.out _ _ hS1 (fun hS=>?_);clear hK K hS1 hal
     try rw[hA]
     obtain⟨X1,hX1⟩:=ez (X0.alloc (.cells #[Aa Ac 0,Aa Ab 0,.bool false] 56));rw[←hX1]at H hb hS⊢;clear hX1;clear hA;refine rdy 6 (fun K hK=>?_);go_simp;refine(HBA.out _).mono ?_;rintro ee X2 ⟨rfl,hbm⟩;obtain⟨H,hS1,hb⟩:=cl3 H hb hS HSB.out hbm;refine hK.out _ _ hS1 (fun hS=>?_);clear hK K hbm hS1;refine Cf 7 ?_;refine Cf 10 ?_;obtain⟨⟨z0,z1,z2⟩,y0,y1,y2⟩:=Ci (H.blk 3 _ _ _ rfl);have hSU:=Ae (HSU.out _ Z 2 (.bool fo) hUW (HSU.out _ Z 1 (Aa Ab (fc-bs)) hUW (HSU.out _ Z 0 (Aa Ac k) hUW hS)));have HREL:=Ae (((H.set 3 0 rfl (Aa Ac k)).set 3 1 rfl (Aa Ab (fc-bs))).set 3 2 rfl (.bool fo));clear H;refine rdy 12 (fun K hK=>?_);go_simp;rw[HE1.out];refine hK.out _ _ hSU.out (fun hS=>?_);clear hK K z0 z1 z2 y0 y1 y2;refine Ak (by kernel_rfl) ?_ _;go_wp2_with fail;go_meet;exact⟨Z,rfl,HREL⟩
   case rest=>
   obtain⟨Z,rfl,HU⟩:=hcut;clear hS0 H2 HSO HSB HSU HI2;obtain⟨⟨c0,c1,c2⟩,y0,y1,y2⟩:=Ci (HU.out.blk 3 _ _ _ rfl);by_cases hf:fs=1
   ·subst hf;have hp:=HP.out;rw[if_pos rfl]at hp;have e2: -(fc-bs)=p0:=by omega
    have HE2:=Ae e2;have H5:=HU.out.set 3 1 rfl (Aa Ab p0);clear e2 hp;go_upto_region 9 with fail;rw[HE2.out];clear c0 c1 c2 y0 y1 y2 HU;obtain⟨⟨c0,c1,c2⟩,-⟩:=Ci (H5.blk 3 _ _ _ rfl);go_wp2_with fail;refine(HVA.out _).mono ?_;rintro ee w5 ⟨rfl,hb⟩;have H6:=H5.call hb;clear c0 c1 c2 H5 hb;obtain⟨⟨c0,c1,c2⟩,-⟩:=Ci (H6.blk 3 _ _ _ rfl);obtain⟨⟨z0,z1,z2⟩,y0,y1,y2⟩:=Ci (H6.blk 2 _ _ _ rfl);have H9:=Ae (((H6.set 2 0 rfl (Aa Ac k)).set 2 1 rfl (Aa Ab p0)).set 2 2 rfl (.bool fo));clear H6;go_wp2_with fail;exact Af (Cj (u:=5) rfl rfl (H9.out.range 2 rfl) Tryz.underlying56 rfl (by kernel_rfl)) rfl ⟨rfl,H9.out.below⟩
   ·have hp:=HP.out;rw[if_neg hf]at hp;have q1:((fs:Int)==1)=false:=by simp;omega
    have H5:Bx w [(N,#[Aa Ab l,Aa Ab r,Aa Ab d,Aa Ab u],90),(P,#[Aa Ac fk,Aa Ab fc,Aa Ac (fs:Int),.bool fo],63),(R,#[Aa Ac 0,Aa Ab 0,.bool false],56),(Z,#[Aa Ac k,Aa Ab p0,.bool fo],56)] wc:=by
     rw[hp];exact HU.out
    clear hp;go_upto_region 9 with fail;clear c0 c1 c2 y0 y1 y2 HU;obtain⟨⟨c0,c1,c2⟩,-⟩:=Ci (H5.blk 3 _ _ _ rfl);go_wp2_with fail;refine(HVA.out _).mono ?_;rintro ee w5 ⟨rfl,hb⟩;have H6:=H5.call hb;clear c0 c1 c2 H5 hb;obtain⟨⟨c0,c1,c2⟩,-⟩:=Ci (H6.blk 3 _ _ _ rfl);obtain⟨⟨z0,z1,z2⟩,y0,y1,y2⟩:=Ci (H6.blk 2 _ _ _ rfl);have H9:=Ae (((H6.set 2 0 rfl (Aa Ac k)).set 2 1 rfl (Aa Ab p0)).set 2 2 rfl (.bool fo));clear H6;go_wp2_with fail;exact Af (Cj (u:=5) rfl rfl (H9.out.range 2 rfl) Tryz.underlying56 rfl (by kernel_rfl)) rfl ⟨rfl,H9.out.below⟩
  ·obtain⟨⟨a1,a2⟩,hq⟩:=ey (Oo k);have hne:¬(a1=fk∧a2=fs):=fun h=>hkq (HKI.out k (by omega) (by rw[hq,h.1,h.2]));rw[hq];dsimp only;have q9:(k:Int)+1≤255:=by omega
   have hkl:k+1≤k0:=by omega
   clear hq H2;by_cases ha:a1=fk
   ·have ha2:¬((a2:Int)=(fs:Int)):=fun h=>hne ⟨ha,by omega⟩;subst ha;have q1:((a2:Int) != (fs:Int))=true:=by simpa using ha2
    clear hne ha2;go_wp2_with fail;exact⟨⟨k+1,hkl,by go_num,HI2⟩,by simp[intOf];omega⟩
   ·have q1:(a1 != fk)=true:=by simpa using ha
    clear hne ha;go_wp2_with fail;exact⟨⟨k+1,hkl,by go_num,HI2⟩,by simp[intOf];omega⟩
def awayT (b:Bb) (k:Nat) (c:Int):Int:=if(Oo k).2=1 then Tj b k-c else c-Tj b k
theorem mof_any (s:St) (k0:Nat) (h0:k0≤7) (fc:Int) (fo:Bool) (hok:Kg (Oo k0).1 fc (Oo k0).2=true) (h1:1≤awayT s.box k0 fc) (h2:awayT s.box k0 fc≤512) (pA:Option Addr) (pc:Nat) (A:Option Addr) (cc:Nat) (w:Ag) (hs:Gs s) (hpr:Rd w pA 3 s.cr.length (crs s.cr)) (h:Cs w A s.l) (hQ:Qf w) (hT:Tn w):
  Ai Tryz.prog 19 #[.agg #[Aa Ab s.a,Aa Ab s.b,Ad pA s.cr.length pc,Aa Ac s.root.t,Aa Ab s.root.x,Aa Ab s.root.y,Ad A s.l.length cc],.agg #[Aa Ac (Oo k0).1,Aa Ab fc,Aa Ac ((Oo k0).2:Int),.bool fo]] w
   (Cg (.tuple #[.agg #[Aa Ac k0,Aa Ab (awayT s.box k0 fc),.bool fo],Aa Ab 0]) w):=by
 have HCK:=Ae (fun(w':Ag) (hb:Below w.heap.size w w')=>Sy s pA pc A cc w' hs (hpr.below hb) (h.below hb) (hQ.below hb) (hT.below hb));have HAR:=Ae (fun(w':Ag) (hb:Below w.heap.size w w')=>Lz s pA pc A cc w' hs (hpr.below hb) (h.below hb) (hQ.below hb) (hT.below hb));have HFC:=Ae (fun(w':Ag)=>Vo (Oo k0).1 fc (Oo k0).2 fo w');rw[hok,Fo]at HFC;have HST:=Ae (fun(w':Ag)=>stn_any s.box hs.box fc fo k0 h0 (awayT s.box k0 fc) rfl h1 h2 w');obtain⟨p0,hp⟩:=ey (awayT s.box k0 fc);rw[hp]at HST⊢;obtain⟨⟨fk,fs⟩,hkk⟩:=ey (Oo k0);rw[hkk]at HST HFC⊢;obtain⟨⟨l,r,d,u⟩,hbx⟩:=ey s.box;rw[hbx]at HAR HST;unfold bbV at HAR HST;dsimp only at HAR HST HFC⊢;have H:=(((Bx.start w).new #[Aa Ab s.a,Aa Ab s.b,Ad pA s.cr.length pc,Aa Ac s.root.t,Aa Ab s.root.x,Aa Ab s.root.y,Ad A s.l.length cc] 37 rfl).new #[Aa Ac fk,Aa Ab fc,Aa Ac (fs:Int),.bool fo] 63 (N:=w.heap.size+1) (by simp)).new #[Aa Ac 0,Aa Ab 0,.bool false] 56 (N:=w.heap.size+1+1) (by simp);obtain⟨n,hn⟩:=ey s.l.length;obtain⟨pn,hpn⟩:=ey s.cr.length;rw[hn,hpn]at HAR HCK H;rw[hn,hpn];clear hs hpr h hQ hT hbx hn hpn hok h1 h2 hp hkk;go_enter Tryz.func19,Tryz.ntmps19;go_upto_region 1 with fail;obtain⟨N,hN⟩:=ez w.heap.size;rw[←hN]at H⊢;have HNN:=Ae hN;clear hN;obtain⟨P,hP⟩:=ey (N+1);obtain⟨R,hR⟩:=ey (P+1);rw[hP,hR]at H⊢;clear hP hR;obtain⟨W1,hW1⟩:=ez (((w.alloc (.cells #[Aa Ab s.a,Aa Ab s.b,Ad pA pn pc,Aa Ac s.root.t,Aa Ab s.root.x,Aa Ab s.root.y,Ad A n cc] 37)).alloc (.cells #[Aa Ac fk,Aa Ab fc,Aa Ac (fs:Int),.bool fo] 63)).alloc (.cells #[Aa Ac 0,Aa Ab 0,.bool false] 56));rw[←hW1]at H⊢;clear hW1;obtain⟨a0,a1,a2,a3,a4,a5,a6⟩:=De (H.blk 0 _ _ _ rfl);go_wp2_with fail;refine(HCK.out _ H.below).mono ?_;rintro ee w2 ⟨rfl,hb⟩;have H2:=H.call hb;clear a0 a1 a2 a3 a4 a5 a6 hb H HCK
 obtain⟨⟨c0,c1,c2,c3⟩,-⟩:=Co (H2.blk 1 _ _ _ rfl);go_wp2_with fail;refine(HFC.out _).mono ?_;rintro ee w3 ⟨rfl,hb⟩;have H3:=H2.call hb;clear c0 c1 c2 c3 hb H2 HFC;go_upto_region 7 with fail;obtain⟨a0,a1,a2,a3,a4,a5,a6⟩:=De (H3.blk 0 _ _ _ rfl);obtain⟨⟨c0,c1,c2,c3⟩,-⟩:=Co (H3.blk 1 _ _ _ rfl);have hNl:=H3.lt 0 rfl;have hPl:=H3.lt 1 rfl;have hNR:N≠R:=H3.ne 0 2 (by decide) rfl rfl;have hPR:P≠R:=H3.ne 1 2 (by decide) rfl rfl;obtain⟨S,hSd⟩:∃S:Ag→Prop,S=fun W'=>W'.heap[N]? =w3.heap[N]? ∧W'.heap[P]? =w3.heap[P]? :=⟨_,rfl⟩
 have HSO:Hid (∀W',S W'→(W'.cell? ⟨N,0,none⟩=some (Aa Ab s.a)∧W'.cell? ⟨N,1,none⟩=some (Aa Ab s.b)∧W'.cell? ⟨N,2,none⟩=some (Ad pA pn pc)∧W'.cell? ⟨N,3,none⟩=some (Aa Ac s.root.t)∧W'.cell? ⟨N,4,none⟩=some (Aa Ab s.root.x)∧W'.cell? ⟨N,5,none⟩=some (Aa Ab s.root.y)∧W'.cell? ⟨N,6,none⟩=some (Ad A n cc))∧W'.cell? ⟨P,0,none⟩=some (Aa Ac fk)∧W'.cell? ⟨P,1,none⟩=some (Aa Ab fc)∧W'.cell? ⟨P,2,none⟩=some (Aa Ac (fs:Int))∧W'.cell? ⟨P,3,none⟩=some (.bool fo)):=Ae fun W' h=>by
  subst hSd;obtain⟨h1,h2⟩:=h;exact⟨⟨(Ch h1 _).trans a0,(Ch h1 _).trans a1,(Ch h1 _).trans a2,(Ch h1 _).trans a3,(Ch h1 _).trans a4,(Ch h1 _).trans a5,(Ch h1 _).trans a6⟩,(Ch h2 _).trans c0,(Ch h2 _).trans c1,(Ch h2 _).trans c2,(Ch h2 _).trans c3⟩
 have HSB:Hid (∀W' W'':Ag,S W'→Below w3.heap.size W' W''→S W''):=Ae fun W' W'' hs h=>by
  subst hSd;obtain⟨h1,h2⟩:=hs;exact⟨(h.block N hNl).trans h1,(h.block P hPl).trans h2⟩
 have HSC:Hid (∀(W':Ag) (j:Nat) (v:Ah),S W'→S (W'.setCell ⟨R,j,none⟩ v)):=Ae fun W' j v hs=>by
  subst hSd;obtain⟨h1,h2⟩:=hs;exact⟨(Below.heap_setCell W' ⟨R,j,none⟩ v N hNR).trans h1,(Below.heap_setCell W' ⟨R,j,none⟩ v P hPR).trans h2⟩
 have hS0:S w3.drew:=by subst hSd;exact⟨rfl,rfl⟩
 clear hSd a0 a1 a2 a3 a4 a5 a6 c0 c1 c2 c3 hNl hPl hNR hPR;refine Al (S:=S) (by kernel_rfl) hS0 (fun hS=>?_);have hb:Below w3.heap.size w3 w3.drew:=(Below.refl _ _).drew;have H4:=H3.drew;obtain⟨X0,hX0⟩:=ez w3.drew;rw[←hX0]at hb hS H4⊢;clear hX0;clear hS0 H3;refine Cf 0 ?_;refine Cf 2 ?_;refine rdy 1 (fun K hK=>?_);go_simp;refine(HAR.out _ H4.below).mono ?_;rintro ee X1 ⟨rfl,hbm⟩;obtain⟨H5,hS1,hb⟩:=cl3 H4 hb hS HSB.out hbm;refine hK.out _ _ hS1 (fun hS=>?_);clear hK K hbm H4 hS1;refine rdy 3 (fun K hK=>?_);go_simp;refine(HST.out _).mono ?_;rintro ee X2 ⟨rfl,hbm⟩;obtain⟨H6,hS1,hb⟩:=cl3 H5 hb hS HSB.out hbm;refine hK.out _ _ hS1 (fun hS=>?_);clear hK K hbm H5 hS1 hb;refine Cf 4 ?_;refine Cf 5 ?_;obtain⟨⟨g0,g1,g2⟩,z0,z1,z2⟩:=Ci (H6.blk 2 _ _ _ rfl);have H9:=Ae (((H6.set 2 0 rfl (Aa Ac k0)).set 2 1 rfl (Aa Ab p0)).set 2 2 rfl (.bool fo));have HSP:=Ae (HSC.out _ 2 (.bool fo) (HSC.out _ 1 (Aa Ab p0) (HSC.out _ 0 (Aa Ac k0) hS)));clear H6;refine rdy 6 (fun K hK=>?_);go_simp;refine hK.out _ _ HSP.out (fun hS=>?_);clear hK K g0 g1 g2 z0 z1 z2;refine Cf 7 ?_;refine Ak (by kernel_rfl) ?_ _;go_wp2_with fail;exact Af (Cj (u:=5) rfl rfl (H9.out.range 2 rfl) Tryz.underlying56 rfl (by kernel_rfl)) rfl ⟨rfl,H9.out.below⟩
end Go.Proofs.YtadnbldkegkjaaaGreatDoor
namespace Go.Proofs.YtadnbldkegkjaaaGreatDoor
def stepC (c:Cl) (e:Nat):Cl:=⟨c.x+(nxt c.q e).1,c.y+(nxt c.q e).2.1,(nxt c.q e).2.2.toNat⟩
theorem nat8 {t:Nat} (h:t≤7):t=0∨t=1∨t=2∨t=3∨t=4∨t=5∨t=6∨t=7:=by omega
theorem nat4 {t:Nat} (h:t≤3):t=0∨t=1∨t=2∨t=3:=by omega
theorem nat3 {t:Nat} (h:t≤2):t=0∨t=1∨t=2:=by omega
theorem moved_step (m:Mv) (ht:m.t≤7) (c:Cl) (hq:c.q≤3) (e:Nat) (he:e≤2):∃e',e'≤2∧Im m (stepC c e)=stepC (Im m c) e':=by
 obtain⟨t,a,b⟩:=m;obtain⟨x,y,q⟩:=c;dsimp only at ht hq;rcases nat8 ht with rfl|rfl|rfl|rfl|rfl|rfl|rfl|rfl<;>rcases nat4 hq with rfl|rfl|rfl|rfl<;>rcases nat3 he with rfl|rfl|rfl<;>
 first
  |(refine⟨0,by decide,?_⟩
    simp[Im,stepC,Le,Gz,mat,Ho,jN,nxt];omega)
  |(refine⟨1,by decide,?_⟩
    simp[Im,stepC,Le,Gz,mat,Ho,jN,nxt]<;>omega)
  |(refine⟨2,by decide,?_⟩
    simp[Im,stepC,Le,Gz,mat,Ho,jN,nxt]<;>omega)
theorem refl_step (c:Cl) (hq:c.q≤3) (e:Nat) (he:e≤2):Im (ofL (Rm c e).1 (Rm c e).2) (stepC c e)=c∧Im (ofL (Rm c e).1 (Rm c e).2) c=stepC c e:=by
 obtain⟨x,y,q⟩:=c;dsimp only at hq;rcases nat4 hq with rfl|rfl|rfl|rfl<;>rcases nat3 he with rfl|rfl|rfl<;>
 simp[Im,stepC,Le,Gz,mat,Ho,jN,nxt,ofL,Rm]<;>omega
def thn (a b:Mv):Mv:=⟨Ro (Iy (mat a.t) (mat b.t)),(Gz (mat b.t) a.x a.y).1+b.x,(Gz (mat b.t) a.x a.y).2+b.y⟩
theorem thn_t (a b:Mv):(thn a b).t≤7:=by
 unfold thn Ro;dsimp only
 repeat' split
 all_goals decide
theorem point_thn (a b:Mv) (ha:a.t≤7) (hb:b.t≤7) (x y:Int):Le (thn a b) x y=Le b (Le a x y).1 (Le a x y).2:=by
 obtain⟨t,a1,a2⟩:=a;obtain⟨u,b1,b2⟩:=b;dsimp only at ha hb;rcases nat8 ha with rfl|rfl|rfl|rfl|rfl|rfl|rfl|rfl<;>rcases nat8 hb with rfl|rfl|rfl|rfl|rfl|rfl|rfl|rfl<;>
 simp[thn,Le,Gz,mat,Iy,Ro]<;>omega
theorem point_odd (m:Mv) (ht:m.t≤7) (x y:Int):(Le m (2*x+1) (2*y+1)).1%2=1∧(Le m (2*x+1) (2*y+1)).2%2=1:=by
 obtain⟨t,a,b⟩:=m;dsimp only at ht;rcases nat8 ht with rfl|rfl|rfl|rfl|rfl|rfl|rfl|rfl<;>simp[Le,Gz,mat]<;>omega
theorem side_thn (a b:Mv) (ha:a.t≤7) (hb:b.t≤7) (q:Nat) (hq:q≤3):jN (Gz (mat (thn a b).t) (Ho q).1 (Ho q).2)=jN (Gz (mat b.t) (Ho (jN (Gz (mat a.t) (Ho q).1 (Ho q).2))).1 (Ho (jN (Gz (mat a.t) (Ho q).1 (Ho q).2))).2):=by
 have key:∀t,t<8→∀u,u<8→∀q,q<4→jN (Gz (mat (Ro (Iy (mat t) (mat u)))) (Ho q).1 (Ho q).2)=jN (Gz (mat u) (Ho (jN (Gz (mat t) (Ho q).1 (Ho q).2))).1 (Ho (jN (Gz (mat t) (Ho q).1 (Ho q).2))).2):=by decide
 exact key a.t (by omega) b.t (by omega) q (by omega)
theorem moved_thn (a b:Mv) (ha:a.t≤7) (hb:b.t≤7) (c:Cl) (hq:c.q≤3):Im (thn a b) c=Im b (Im a c):=by
 have h1:=point_thn a b ha hb (2*c.x+1) (2*c.y+1);have h2:=point_odd a ha c.x c.y;have h3:=side_thn a b ha hb c.q hq;have e1:2*((Le a (2*c.x+1) (2*c.y+1)).1/2)+1=(Le a (2*c.x+1) (2*c.y+1)).1:=by omega
 have e2:2*((Le a (2*c.x+1) (2*c.y+1)).2/2)+1=(Le a (2*c.x+1) (2*c.y+1)).2:=by omega
 unfold Im;dsimp only;rw[h1,h3,e1,e2]
theorem sideQ_le (d:Int×Int):jN d≤3:=by
 unfold jN
 repeat' split
 all_goals decide
theorem moved_q (m:Mv) (c:Cl):(Im m c).q≤3:=sideQ_le _
def Bb.has (b:Bb) (c:Cl):Prop:=b.l≤c.x∧c.x+1≤b.r∧b.d≤c.y∧c.y+1≤b.u
theorem fold_has:∀(l:List Cl) (b:Bb) (c:Cl),b.has c∨c∈l→(l.foldl bxS b).has c
 |[],b,c,h=>by
  rcases h with h|h
  ·exact h
  ·cases h
 |x::r,b,c,h=>by
  refine fold_has r (bxS b x) c ?_;rcases h with h|h
  ·left
   unfold Bb.has bxS at*;dsimp only;omega
  ·rcases Bh.1 h with rfl|h
   ·left
    unfold Bb.has bxS;dsimp only;omega
   ·exact .inr h
theorem boxL_has:∀{l:List Cl} {c:Cl},c∈l→(Lb l).has c
 |[],_,h=>by cases h
 |_::_,_,h=>fold_has _ _ _ (.inr h)
theorem fold_att (P:Int→Prop) (Q:Int→Prop):∀(l:List Cl) (b:Bb),(P b.l∧P (b.r-1)∧Q b.d∧Q (b.u-1))→(∀c∈l,P c.x∧Q c.y)→P (l.foldl bxS b).l∧P ((l.foldl bxS b).r-1)∧Q (l.foldl bxS b).d∧Q ((l.foldl bxS b).u-1)
 |[],_,h,_=>h
 |x::r,b,h,hl=>by
  refine fold_att P Q r (bxS b x) ?_ fun c hc=>hl c (List.mem_cons_of_mem _ hc);obtain⟨h1,h2,h3,h4⟩:=h;obtain⟨k1,k2⟩:=hl x (List.mem_cons_self ..);unfold bxS;dsimp only;refine⟨?_,?_,?_,?_⟩
  ·rcases(by omega:min b.l x.x=b.l∨min b.l x.x=x.x)with e|e<;>rw[e]<;>assumption
  ·rcases(by omega:max b.r (x.x+1)-1=b.r-1∨max b.r (x.x+1)-1=x.x)with e|e<;>rw[e]<;>assumption
  ·rcases(by omega:min b.d x.y=b.d∨min b.d x.y=x.y)with e|e<;>rw[e]<;>assumption
  ·rcases(by omega:max b.u (x.y+1)-1=b.u-1∨max b.u (x.y+1)-1=x.y)with e|e<;>rw[e]<;>assumption
theorem boxL_bound {l:List Cl} (hl:l≠[]) {x0 y0 m:Int} (h:∀c∈l,(x0-m≤c.x∧c.x≤x0+m)∧(y0-m≤c.y∧c.y≤y0+m)):(Lb l).r-(Lb l).l≤2*m+1∧(Lb l).u-(Lb l).d≤2*m+1:=by
 cases l with
 |nil=>exact absurd rfl hl
 |cons c r=>
  have h0:=h c (List.mem_cons_self ..);have:=fold_att (fun v=>x0-m≤v∧v≤x0+m) (fun v=>y0-m≤v∧v≤y0+m) (c::r) (bx0 c) (by unfold bx0;dsimp only;omega) (fun d hd=>h d hd);show((c::r).foldl bxS (bx0 c)).r-((c::r).foldl bxS (bx0 c)).l≤2*m+1∧((c::r).foldl bxS (bx0 c)).u-((c::r).foldl bxS (bx0 c)).d≤2*m+1;omega
theorem away_in {b:Bb} {c:Cl} {e:Nat} (hq:c.q≤3) (he:e≤2) (h1:b.has c) (h2:b.has (stepC c e)) {k:Nat} (hk:k≤7) (hl:(Oo k).1=(Rm c e).1):
  1≤awayT b k (Rm c e).2∧awayT b k (Rm c e).2≤(b.r-b.l)+(b.u-b.d):=by
 obtain⟨x,y,q⟩:=c;dsimp only at hq;unfold Bb.has at h1 h2;rcases nat4 hq with rfl|rfl|rfl|rfl<;>rcases nat3 he with rfl|rfl|rfl<;>rcases nat8 hk with rfl|rfl|rfl|rfl|rfl|rfl|rfl|rfl<;>
 simp[Rm,Oo,awayT,Tj,stepC,nxt]at* <;>omega
theorem getD_set_eq {α:Type} (l:List α) (n:Nat) (v d:α) (h:n<l.length):(l.set n v).getD n d=v:=by simp[List.getD,h]
theorem getD_set_ne {α:Type} (l:List α) (n j:Nat) (v d:α) (h:j≠n):(l.set n v).getD j d=l.getD j d:=by
 simp only[List.getD,List.getElem?_set_ne (Ne.symm h)]
structure RelI (a b:Int) (l:List Cr) (s:RS) (D:List Nat):Prop where
 lo:s.out.length=Cq a b
 lk:s.known.length=Cq a b
 nd:(D++s.wait).Nodup
 kn:∀j,s.known.getD j false=true↔j∈D++s.wait
 lt:∀j∈D++s.wait,j<Cq a b
def RelX (s s':RS):Prop:=∀j,s.known.getD j false=true→s'.known.getD j false=true∧s'.out.getD j mv0=s.out.getD j mv0
theorem RelX.refl (s:RS):RelX s s:=fun _ h=>⟨h,rfl⟩
theorem RelX.trans {s t u:RS} (h:RelX s t) (k:RelX t u):RelX s u:=fun j hj=>⟨(k j (h j hj).1).1,(k j (h j hj).1).2.trans (h j hj).2⟩
def RelC (a b:Int) (l:List Cr) (s:RS) (id e:Nat):Prop:=(nbI a b id e).2=0→s.known.getD (nbI a b id e).1.toNat false=true∧s.out.getD (nbI a b id e).1.toNat mv0=Jq a b l s.out id e
theorem across_eq (a b:Int) (l:List Cr) {o o':List Mv} {id:Nat} (e:Nat) (h:o'.getD id mv0=o.getD id mv0):Jq a b l o' id e=Jq a b l o id e:=by
 unfold Jq;rw[h]
theorem RelC.ext {a b:Int} {l:List Cr} {s s':RS} {id e:Nat} (h:RelC a b l s id e) (hx:RelX s s') (hi:s.known.getD id false=true):RelC a b l s' id e:=fun h0=>by
 obtain⟨h1,h2⟩:=h h0;refine⟨(hx _ h1).1,?_⟩;rw[(hx _ h1).2,h2,across_eq a b l e (hx _ hi).2]
theorem relE_ok {a b:Int} (hs:okS a b=true) {l:List Cr} {s s':RS} {D:List Nat} {id e:Nat} (h:Jr a b l id e s=some s') (hI:RelI a b l s D) (hid:id∈D):RelI a b l s' D∧RelX s s'∧RelC a b l s' id e:=by
 unfold Jr at h
 split at h
 ·rename_i h0;obtain rfl:=Option.some.inj h;exact⟨hI,RelX.refl _,fun h1=>absurd h1 h0⟩
 ·rename_i h0;have h0:(nbI a b id e).2=0:=Decidable.not_not.1 h0;obtain⟨n1,n2⟩:=Uq hs h0;have hn:(nbI a b id e).1.toNat<Cq a b:=by unfold Cq;omega
  dsimp only at h
  cases hk:s.known.getD (nbI a b id e).1.toNat false with
  |true=>
   simp only[hk,if_true]at h
   split at h
   ·rename_i h3;obtain rfl:=Option.some.inj h;exact⟨hI,RelX.refl _,fun _=>⟨hk,h3⟩⟩
   ·cases h
  |false=>
   simp only[hk,Bool.false_eq_true,if_false]at h
   split at h
   ·rename_i h3;obtain rfl:=Option.some.inj h
    have hx:RelX s ⟨s.out.set (nbI a b id e).1.toNat (Jq a b l s.out id e),s.known.set (nbI a b id e).1.toNat true,s.wait++[(nbI a b id e).1.toNat]⟩:=fun j hj=>by
     have hne:j≠(nbI a b id e).1.toNat:=fun e2=>by rw[e2,hk]at hj;cases hj
     dsimp only;rw[getD_set_ne _ _ _ _ _ hne,getD_set_ne _ _ _ _ _ hne];exact⟨hj,rfl⟩
    have hnm:(nbI a b id e).1.toNat∉D++s.wait:=fun h4=>by
     have:=(hI.kn _).2 h4;rw[hk]at this
     cases this
    refine⟨⟨by simpa using hI.lo,by simpa using hI.lk,?_,?_,?_⟩,hx,fun _=>⟨?_,?_⟩⟩
    ·dsimp only;rw[←Bg];refine Bl.2 ⟨hI.nd,by simp,?_⟩;intro x hx1 y hy;rw[List.mem_singleton.1 hy];exact fun e2=>hnm (e2▸hx1)
    ·intro j;dsimp only;rw[←Bg,Bi,←hI.kn j];by_cases hj:j=(nbI a b id e).1.toNat
     ·subst hj;rw[getD_set_eq _ _ _ _ (by rw[hI.lk];exact hn)];simp
     ·rw[getD_set_ne _ _ _ _ _ hj];simp[hj]
    ·intro j hj;dsimp only at hj;rw[←Bg,Bi]at hj;rcases hj with hj|hj
     ·exact hI.lt j hj
     ·rw[List.mem_singleton.1 hj];exact hn
    ·exact getD_set_eq _ _ _ _ (by rw[hI.lk];exact hn)
    ·dsimp only;rw[getD_set_eq _ _ _ _ (by rw[hI.lo];exact hn)];exact(across_eq a b l e (hx id ((hI.kn id).2 (List.mem_append_left _ hid))).2).symm
   ·cases h
theorem relStep_ok {a b:Int} (hs:okS a b=true) {l:List Cr} {s s':RS} {D:List Nat} {id:Nat} (h:Oe a b l id s=some s') (hI:RelI a b l s D) (hid:id∈D):RelI a b l s' D∧RelX s s'∧∀e,e≤2→RelC a b l s' id e:=by
 unfold Oe at h;obtain⟨s1,h1,h⟩:=Option.bind_eq_some_iff.1 h;obtain⟨s2,h2,h3⟩:=Option.bind_eq_some_iff.1 h;obtain⟨i1,x1,c1⟩:=relE_ok hs h1 hI hid;obtain⟨i2,x2,c2⟩:=relE_ok hs h2 i1 hid;obtain⟨i3,x3,c3⟩:=relE_ok hs h3 i2 hid;have k1:=(i1.kn id).2 (List.mem_append_left _ hid);have k2:=(i2.kn id).2 (List.mem_append_left _ hid);refine⟨i3,(x1.trans x2).trans x3,fun e he=>?_⟩;rcases nat3 he with rfl|rfl|rfl
 ·exact(c1.ext x2 k1).ext x3 k2
 ·exact c2.ext x3 k2
 ·exact c3
theorem relGo_ok {a b:Int} (hs:okS a b=true) {l:List Cr}:∀(f:Nat) {s:RS} {D:List Nat} {m:List Mv},Ow a b l f s=some m→f+D.length=Cq a b+1→RelI a b l s D→(∀id∈D,∀e,e≤2→RelC a b l s id e)→
  ∃D':List Nat,(∀id∈D,id∈D')∧(∀id∈s.wait,id∈D')∧(∀id∈D',∀e:Nat,e≤2→(nbI a b id e).2=0→(nbI a b id e).1.toNat∈D'∧m.getD (nbI a b id e).1.toNat mv0=Jq a b l m id e)∧∀j,s.known.getD j false=true→m.getD j mv0=s.out.getD j mv0
 |0,s,D,m,h,hf,hI,hc=>by
  have h1:(D++s.wait).length≤Cq a b:=by
   have:=List.Nodup.length_le_of_subset (l₁:=D++s.wait) (l₂:=List.range (Cq a b)) hI.nd (fun x hx=>List.mem_range.2 (hI.lt x hx));simpa using this
  rw[Be]at h1;omega
 |f+1,s,D,m,h,hf,hI,hc=>by
  unfold Ow at h
  cases hw:s.wait with
  |nil=>
   rw[hw]at h;obtain rfl:=Option.some.inj h;refine⟨D,fun _ h=>h,(fun _ h=>by cases h),fun id hid e he h0=>?_,fun _ _=>rfl⟩;obtain⟨k1,k2⟩:=hc id hid e he h0;have:=(hI.kn _).1 k1;rw[hw,List.append_nil]at this;exact⟨this,k2⟩
  |cons id r=>
   rw[hw]at h;obtain⟨s',h1,h2⟩:=Option.bind_eq_some_iff.1 h
   have hI2:RelI a b l ⟨s.out,s.known,r⟩ (D++[id]):=by
    have e:D++[id]++r=D++s.wait:=by rw[hw];simp
    exact⟨hI.lo,hI.lk,by rw[e];exact hI.nd,fun j=>by rw[e];exact hI.kn j,fun j hj=>hI.lt j (by rw[e]at hj;exact hj)⟩
   obtain⟨i3,x3,c3⟩:=relStep_ok hs h1 hI2 (by simp)
   obtain⟨D',d1,d2,d3,d4⟩:=relGo_ok hs f h2 (by simp;omega) i3 (fun j hj e he=>by
    rcases Bi.1 hj with hj|hj
    ·have hk:s.known.getD j false=true:=(hI.kn j).2 (List.mem_append_left _ hj);exact RelC.ext (s:=s) (hc j hj e he) x3 hk
    ·rw[List.mem_singleton.1 hj];exact c3 e he)
   refine⟨D',fun j hj=>d1 j (List.mem_append_left _ hj),fun j hj=>?_,d3,fun j hj=>(d4 j (x3 j hj).1).trans (x3 j hj).2⟩;rcases Bh.1 hj with rfl|hj
   ·exact d1 _ (by simp)
   ·by_cases hjd:j∈D'
    ·exact hjd
    ·have hk:(⟨s.out,s.known,r⟩:RS).known.getD j false=true:=(hI2.kn j).2 (List.mem_append_right _ hj);have:=(i3.kn j).1 (x3 j hk).1;rcases Bi.1 this with h|h
     ·exact d1 j h
     ·exact d2 j h
theorem relF_ok {a b:Int} (hs:okS a b=true) {l:List Cr} {m:List Mv} (h:Qw a b l=some m):
  m.getD 0 mv0=mv0∧∃D:List Nat,0∈D∧∀id∈D,∀e:Nat,e≤2→(nbI a b id e).2=0→(nbI a b id e).1.toNat∈D∧m.getD (nbI a b id e).1.toNat mv0=Jq a b l m id e:=by
 have hc:1≤Cq a b:=by
  have:=Me hs;unfold Cq;rw[show 4*a*b=4*(a*b)from Int.mul_assoc ..];omega
 unfold Qw at h
 have hI:RelI a b l ⟨Aw (Cq a b) mv0,true::Aw (Cq a b-1) false,[0]⟩ []:=by
  refine⟨by simp,by simp;omega,by simp,fun j=>?_,fun j hj=>?_⟩
  ·cases j with
   |zero=>simp
   |succ j=>
    simp only[List.nil_append,List.mem_singleton,Nat.succ_ne_zero,iff_false];simp[List.getD,List.getElem?_replicate]
    split<;>rfl
  ·have:j=0:=by simpa using hj
   omega
 obtain⟨D,-,d2,d3,d4⟩:=relGo_ok hs _ (D:=[]) h (by simp) hI (fun _ h=>by cases h);refine⟨(d4 0 (by simp)).trans ?_,D,d2 0 (by simp),d3⟩;dsimp only
 cases hc2:Cq a b with
 |zero=>omega
 |succ k=>rfl
def parE (a i:Nat):Nat×Nat:=
 if i%4=1 then (i-1,1)else if i%4=2 then (i-1,2)
 else if i/4/a=0∧i/4≠0 then (if i%4=3 then (4*(i/4-1)+1,0)else (i+3,2))
 else if i%4=3 then (i-3,2)else (4*(i/4-a)+2,0)
def depE (a i:Nat):Nat:=3*(i/4%a)+3*(i/4/a)+(if i%4=3 then 1 else i%4)-(if i%4=3∧i/4/a=0∧i/4≠0 then 2 else 0)
def treeP (a b i:Nat):Prop:=(parE a i).1<4*a*b∧(parE a i).2≤2∧nbI (a:Int) (b:Int) ((parE a i).1:Int) ((parE a i).2:Int)=((i:Int),0)∧depE a (parE a i).1<depE a i∧depE a i≤20
instance (a b i:Nat):Decidable (treeP a b i):=by unfold treeP;infer_instance
def stepP (a b i e:Nat):Prop:=
 Da (a:Int) (nbI (a:Int) (b:Int) (i:Int) (e:Int)).1.toNat=stepC (Da (a:Int) i) e∧
 rG (a:Int) (b:Int) (Fz (a:Int) (b:Int) (i:Int) (e:Int)).1 (Fz (a:Int) (b:Int) (i:Int) (e:Int)).2.1=(Rm (Da (a:Int) i) e,0)∧
 okL (Rm (Da (a:Int) i) e).1 (Rm (Da (a:Int) i) e).2=true∧
 (-4≤(Rm (Da (a:Int) i) e).2∧(Rm (Da (a:Int) i) e).2≤7)
instance (a b i e:Nat):Decidable (stepP a b i e):=by unfold stepP;infer_instance
theorem small_all:((List.range 4).all fun a=>(List.range 4).all fun b=>(List.range 64).all fun i=>decide (i<4*(a+1)*(b+1)→i≠0→treeP (a+1) (b+1) i)&&(List.range 3).all fun e=>decide (i<4*(a+1)*(b+1)→(nbI ((a+1:Nat):Int) ((b+1:Nat):Int) (i:Int) (e:Int)).2=0→stepP (a+1) (b+1) i e))=true:=by decide+kernel
theorem small_ok {a b i:Nat} (ha:1≤a∧a≤4) (hb:1≤b∧b≤4) (hi:i<4*a*b):(i≠0→treeP a b i)∧∀e:Nat,e≤2→(nbI (a:Int) (b:Int) (i:Int) (e:Int)).2=0→stepP a b i e:=by
 obtain⟨a,rfl⟩:∃k,a=k+1:=⟨a-1,by omega⟩;obtain⟨b,rfl⟩:∃k,b=k+1:=⟨b-1,by omega⟩;have hm:4*(a+1)*(b+1)≤4*4*4:=Nat.mul_le_mul (Nat.mul_le_mul (Aj _) (by omega)) (by omega);have h1:=List.all_eq_true.1 small_all a (List.mem_range.2 (by omega));have h2:=List.all_eq_true.1 h1 b (List.mem_range.2 (by omega));have h3:=List.all_eq_true.1 h2 i (List.mem_range.2 (by omega));rw[Bool.and_eq_true]at h3;refine⟨fun h0=>of_decide_eq_true h3.1 hi h0,fun e he h0=>?_⟩;exact of_decide_eq_true (List.all_eq_true.1 h3.2 e (List.mem_range.2 (by omega))) hi h0
theorem thenG_eq {x y:Mv} (h:(Fq x y).2=0):x.ok=true∧y.ok=true∧(Fq x y).1=thn x y:=by
 unfold Fq at h⊢
 cases hx:x.ok with
 |false=>rw[hx]at h;cases h
 |true=>
  cases hy:y.ok with
  |false=>rw[hx,hy]at h;cases h
  |true=>
   rw[hx,hy,Bool.and_self,if_pos rfl]at h;rw[Bool.and_self,if_pos rfl];unfold Ni aI at h⊢;refine⟨rfl,rfl,?_⟩
   split at h
   ·rename_i hk;rw[if_pos hk];rfl
   ·cases h
theorem moveG_eq {m:Mv} {c:Cl} (h:(Ku m c).2=0):(Ku m c).1=Im m c:=by
 unfold Ku at h⊢
 split at h
 ·rename_i hk;rw[if_pos hk];unfold Gh at h⊢
  split at h
  ·rename_i hk;rw[if_pos hk]
  ·cases h
 ·cases h
theorem ok_t {m:Mv} (h:m.ok=true):m.t≤7:=by
 have:=(Mf.1 h).1;omega
theorem both_out {a b:Int} {l:List Cr} {root:Mv} (h:(Dd a b l root).2=0):root.ok=true∧∃m,Qw a b l=some m∧∀j,j<Cq a b→(m.getD j mv0).ok=true∧(Dd a b l root).1.2.getD j cl0=Im (thn (m.getD j mv0) root) (Da a j):=by
 cases hr:root.ok with
 |false=>rw[Pc a b l root hr]at h;cases h
 |true=>
  cases hm:Qw a b l with
  |none=>rw[Tm a b l root hr hm]at h;cases h
  |some m=>
   have h1:=(bL hm).1;refine⟨rfl,m,rfl,fun j hj=>?_⟩;unfold Dd at h⊢;rw[if_neg (by rw[hr];decide),hm]at h⊢;dsimp only at h⊢
   cases hf:(List.range m.length).find? fun i=>decide (Gd a root m i≠0)with
   |some i=>
    rw[hf]at h;have:=List.find?_some hf;dsimp only at h;exact absurd h (by simpa using this)
   |none=>
    have h2:=List.find?_eq_none.1 hf j (List.mem_range.2 (by omega));have h2:Gd a root m j=0:=by simpa using h2
    unfold Gd at h2;by_cases h3:(Fq (m.getD j mv0) root).2=0
    ·rw[if_neg (by simpa using h3)]at h2;obtain⟨k1,-,k2⟩:=thenG_eq h3;refine⟨k1,?_⟩;dsimp only;rw[List.getD_eq_getElem?_getD,List.getElem?_map,List.getElem?_range (by omega)];rw[k2]at h2;simp only[Option.map_some,Option.getD_some];rw[k2,moveG_eq h2]
    ·rw[if_pos h3]at h2;exact absurd h2 h3
def smM (n:Nat) (v:Mv):Prop:=v.t≤7∧(-(16*n:Int)≤v.x∧v.x≤16*n)∧(-(16*n:Int)≤v.y∧v.y≤16*n)∧(v.x+v.y)%2=0
theorem smM_thn {r v:Mv} {n:Nat} (hr:smM 1 r) (hv:smM n v):smM (n+1) (thn r v):=by
 refine⟨thn_t r v,?_⟩;obtain⟨t,x,y⟩:=v;obtain⟨-,h1,h2,h3⟩:=hr;obtain⟨k0,k1,k2,k3⟩:=hv;dsimp only at k0 k1 k2 k3;rcases nat8 k0 with rfl|rfl|rfl|rfl|rfl|rfl|rfl|rfl<;>simp[thn,Gz,mat]<;>omega
theorem smM.mono {n k:Nat} {v:Mv} (h:smM n v) (hk:n≤k):smM k v:=by
 unfold smM at*;omega
theorem smM_ok {v:Mv} {n:Nat} (h:smM n v) (hn:n≤100):v.ok=true:=by
 obtain⟨h0,h1,h2,h3⟩:=h;exact Mf.2 ⟨by omega,by omega,by omega,h3⟩
theorem smM_refl {k c:Int} (hk:okL k c=true) (hc: -4≤c∧c≤7):smM 1 (ofL k c):=by
 have:=Kv.1 hk;unfold ofL smM
 repeat' split
 all_goals dsimp only
 all_goals omega
theorem across_step {a b i e:Nat} {l:List Cr} {m:List Mv} {n:Nat} (h:stepP a b i e) (hm:smM n (m.getD i mv0)) (hn:n≤50):
  (aB l (Fz (a:Int) (b:Int) (i:Int) (e:Int)).1 (Fz (a:Int) (b:Int) (i:Int) (e:Int)).2.1=false∧Jq a b l m i e=m.getD i mv0)∨
  (Jq a b l m i e=thn (ofL (Rm (Da (a:Int) i) e).1 (Rm (Da (a:Int) i) e).2) (m.getD i mv0)∧smM (n+1) (Jq a b l m i e)):=by
 obtain⟨-,h2,h3,h4⟩:=h;unfold Jq
 cases hc:aB l (Fz (a:Int) (b:Int) (i:Int) (e:Int)).1 (Fz (a:Int) (b:Int) (i:Int) (e:Int)).2.1 with
 |false=>exact .inl ⟨rfl,by rw[if_neg (by decide)]⟩
 |true=>
  right
  have hr:=smM_refl h3 h4;have ht:=smM_thn hr hm
  have e1:(Na (rG (a:Int) (b:Int) (Fz (a:Int) (b:Int) (i:Int) (e:Int)).1 (Fz (a:Int) (b:Int) (i:Int) (e:Int)).2.1).1).1=ofL (Rm (Da (a:Int) i) e).1 (Rm (Da (a:Int) i) e).2:=by
   rw[h2];unfold Na;dsimp only;rw[if_pos h3]
  have e2:(Fq (ofL (Rm (Da (a:Int) i) e).1 (Rm (Da (a:Int) i) e).2) (m.getD i mv0)).1=thn (ofL (Rm (Da (a:Int) i) e).1 (Rm (Da (a:Int) i) e).2) (m.getD i mv0):=by
   unfold Fq;rw[smM_ok hr (by omega),smM_ok hm (by omega),Bool.and_self,if_pos rfl];show(aI (thn (ofL (Rm (Da (a:Int) i) e).1 (Rm (Da (a:Int) i) e).2) (m.getD i mv0))).1=_;unfold aI;rw[if_pos (smM_ok ht (by omega))]
  rw[if_pos rfl,e1,e2];exact⟨rfl,ht⟩
theorem cellN_q (a:Int) (i:Nat):(Da a i).q≤3:=by
 unfold Da;dsimp only;omega
def nearC (n:Nat) (c d:Cl):Prop:=(c.x-n≤d.x∧d.x≤c.x+n)∧(c.y-n≤d.y∧d.y≤c.y+n)
theorem step_near {n:Nat} {c d:Cl} (h:nearC n c d) (e:Nat):nearC (n+1) c (stepC d e):=by
 have:=fH d.q e;unfold nearC stepC at*;dsimp only;omega
theorem nearC.mono {n k:Nat} {c d:Cl} (h:nearC n c d) (hk:n≤k):nearC k c d:=by
 unfold nearC at*;omega
theorem img_step {a b i e:Nat} {l:List Cr} {m:List Mv} {root:Mv} {n:Nat} (h:stepP a b i e) (hm:smM n (m.getD i mv0)) (hn:n≤50) (he:e≤2) (hr:root.t≤7):
  (∃e',e'≤2∧Im (thn (Jq a b l m i e) root) (stepC (Da (a:Int) i) e)=stepC (Im (thn (m.getD i mv0) root) (Da (a:Int) i)) e'∧smM (n+1) (Jq a b l m i e))∨
  (aB l (Fz (a:Int) (b:Int) (i:Int) (e:Int)).1 (Fz (a:Int) (b:Int) (i:Int) (e:Int)).2.1=true∧Im (thn (Jq a b l m i e) root) (stepC (Da (a:Int) i) e)=Im (thn (m.getD i mv0) root) (Da (a:Int) i)∧smM (n+1) (Jq a b l m i e)):=by
 rcases across_step (l:=l) h hm hn with⟨h1,h2⟩|⟨h1,h2⟩
 ·left
  rw[h2];obtain⟨e',h3,h4⟩:=moved_step (thn (m.getD i mv0) root) (thn_t _ _) (Da (a:Int) i) (cellN_q _ _) e he;refine⟨e',h3,h4,hm.1,?_⟩;have:=hm.2;omega
 ·cases hc:aB l (Fz (a:Int) (b:Int) (i:Int) (e:Int)).1 (Fz (a:Int) (b:Int) (i:Int) (e:Int)).2.1 with
  |false=>
   have h5:Jq a b l m i e=m.getD i mv0:=by unfold Jq;rw[hc,if_neg (by decide)]
   left
   obtain⟨e',h3,h4⟩:=moved_step (thn (m.getD i mv0) root) (thn_t _ _) (Da (a:Int) i) (cellN_q _ _) e he;rw[h5]at h2⊢;exact⟨e',h3,h4,h2⟩
  |true=>
   right
   refine⟨rfl,?_,h2⟩;have hrf:=smM_refl h.2.2.1 h.2.2.2;rw[h1,moved_thn _ _ (thn_t _ _) hr _ (by unfold stepC;have:=fH (Da (a:Int) i).q e;dsimp only;omega),moved_thn _ _ hrf.1 hm.1 _ (by unfold stepC;have:=fH (Da (a:Int) i).q e;dsimp only;omega),(refl_step _ (cellN_q _ _) e he).1,←moved_thn _ _ hm.1 hr _ (cellN_q _ _)]
theorem img_ok {s:St} (hg:Gs s) {a b:Nat} (ha:s.a=a) (hb:s.b=b) (h1:1≤a∧a≤4) (h2:1≤b∧b≤4):
  (∀i:Nat,i<4*a*b→∀e:Nat,e≤2→(nbI s.a s.b i e).2=0→aB s.cr (Fz s.a s.b i e).1 (Fz s.a s.b i e).2.1=false→∃e',e'≤2∧s.img (nbI s.a s.b i e).1.toNat=stepC (s.img i) e')∧
  ∀i:Nat,i<4*a*b→nearC 20 (s.img 0) (s.img i):=by
 have hs:=hg.pat.sheet;obtain⟨hr,m,hm,hj⟩:=both_out hg.both;obtain⟨hm0,D,hD0,hD⟩:=relF_ok hs hm
 have hcn:Cq s.a s.b=4*a*b:=by
  rw[ha,hb];unfold Cq;have:(4:Int)*(a:Int)*(b:Int)=((4*a*b:Nat):Int):=by simp[Int.natCast_mul]
  rw[this];exact Int.toNat_natCast _
 have hpos:0<4*a*b:=Nat.mul_pos (Nat.mul_pos (by decide) h1.1) h2.1;have himg:∀i,i<4*a*b→s.img i=Im (thn (m.getD i mv0) s.root) (Da s.a i):=fun i hi=>(hj i (by rw[hcn];exact hi)).2;have hroot:=ok_t hr
 have key:∀n:Nat,∀i:Nat,i<4*a*b→depE a i=n→n≤20∧i∈D∧smM n (m.getD i mv0)∧nearC n (s.img 0) (s.img i):=by
  intro n
  induction n using Nat.strongRecOn with
  |_ n ih=>
   intro i hi hn;by_cases h0:i=0
   ·subst h0;refine⟨by rw[←hn];simp[depE],hD0,?_,by unfold nearC;omega⟩;rw[hm0];unfold smM mv0;dsimp only;omega
   ·obtain⟨t1,t2,t3,t4,t5⟩:=(small_ok h1 h2 hi).1 h0;obtain⟨k1,k2,k3,k4⟩:=ih _ (by omega) _ t1 rfl;rw[ha,hb]at hD;have hnb:=hD _ k2 _ t2 (by rw[t3]);rw[t3]at hnb;obtain⟨g1,g2⟩:=hnb;rw[Int.toNat_natCast]at g1 g2;have hst:=(small_ok h1 h2 t1).2 _ t2 (by rw[t3])
    have hc:Da (a:Int) i=stepC (Da (a:Int) (parE a i).1) (parE a i).2:=by
     have:=hst.1;rw[t3,Int.toNat_natCast]at this;exact this
    have hse:=img_step (l:=s.cr) (m:=m) (root:=s.root) hst k3 (by omega) t2 hroot;have hi1:s.img i=Im (thn (Jq (a:Int) (b:Int) s.cr m (parE a i).1 (parE a i).2) s.root) (stepC (Da (a:Int) (parE a i).1) (parE a i).2):=by rw[himg i hi,ha,g2,hc]
    have hp1:s.img (parE a i).1=Im (thn (m.getD (parE a i).1 mv0) s.root) (Da (a:Int) (parE a i).1):=by rw[himg _ t1,ha]
    rw[←hi1,←hp1]at hse;refine⟨by omega,g1,?_⟩;rw[g2];rcases hse with⟨e',-,h5,h6⟩|⟨-,h5,h6⟩
    ·rw[h5];exact⟨h6.mono (by omega),(step_near k4 e').mono (by omega)⟩
    ·rw[h5];exact⟨h6.mono (by omega),k4.mono (by omega)⟩
 refine⟨fun i hi e he h0 hcr=>?_,fun i hi=>((key _ i hi rfl).2.2.2).mono (key _ i hi rfl).1⟩;obtain⟨k1,k2,k3,k4⟩:=key _ i hi rfl;obtain⟨n1,n2⟩:=Uq hs h0
 have hn:(nbI s.a s.b i e).1.toNat<4*a*b:=by
  rw[←hcn];unfold Cq;omega
 obtain⟨g1,g2⟩:=hD _ k2 _ he h0;rw[himg _ hn,himg _ hi,g2];rw[ha,hb]at h0 hcr⊢;have hst:=(small_ok h1 h2 hi).2 e he h0;rcases img_step (l:=s.cr) (m:=m) (root:=s.root) hst k3 (by omega) he hroot with⟨e',h5,h6,-⟩|⟨h5,-⟩
 ·exact⟨e',h5,by rw[hst.1];exact h6⟩
 ·rw[hcr]at h5
  cases h5
theorem compL_mem:∀{l:List (Int×Int)} {x:Int×Int},x∈Qc l→x∈l
 |[],_,h=>by cases h
 |y::r,x,h=>by
  unfold Qc at h
  split at h
  ·exact Bh.2 (.inl (List.mem_singleton.1 h))
  ·rename_i z t hz
   split at h
   ·exact List.mem_cons_of_mem _ (compL_mem (by rw[hz];exact h))
   ·rcases Bh.1 h with rfl|h
    ·exact List.mem_cons_self ..
    ·exact List.mem_cons_of_mem _ (compL_mem (by rw[hz];exact h))
theorem linesF_mem {s:St} {x:Int×Int} (h:x∈Md s):∃u∈Eb s.a s.b,Ya s u=some x:=by
 obtain⟨u,h1,h2⟩:=List.mem_filterMap.1 ((Ps _).mem_iff.1 (compL_mem h));exact⟨u,h1,h2⟩
theorem mem_full {n:Nat} {l:List Nat} (hn:l.Nodup) (hl:n≤l.length) (hb:∀x∈l,x<n) {i:Nat} (hi:i<n):i∈l:=by
 apply Classical.byContradiction;intro h
 have h2:(i::l).length≤(List.range n).length:=List.Nodup.length_le_of_subset (List.nodup_cons.2 ⟨h,hn⟩) fun x hx=>by
  rcases Bh.1 hx with rfl|hx
  ·exact List.mem_range.2 hi
  ·exact List.mem_range.2 (hb x hx)
 simp at h2;omega
theorem img_mem {s:St} (hg:Gs s) {i:Nat} (hi:i<Cq s.a s.b):s.img i∈s.l.map (·.c):=by
 obtain⟨-,h2,h3⟩:=Mt hg.chkS
 have hm:i∈Dv s.l:=mem_full h2 h3 (fun x hx=>by
  obtain⟨y,hy,hxy⟩:=List.mem_flatMap.1 hx;exact(hg.at y hy).2.2 x hxy) hi
 obtain⟨y,hy,hyi⟩:=List.mem_flatMap.1 hm;have h4:=hg.stk;unfold Kp at h4;rw[if_neg (by rw[hg.both];decide),if_neg (by rw[hg.chkS];decide)]at h4
 split at h4
 ·cases h4
 ·rename_i h5
  have:s.img i=y.c:=by
   apply Classical.byContradiction;intro h6;refine h5 (List.any_eq_true.2 ⟨y,hy,List.any_eq_true.2 ⟨i,hyi,?_⟩⟩);exact decide_eq_true h6
  rw[this];exact List.mem_map.2 ⟨y,hy,rfl⟩
theorem nbrC_step {c:Cl} (h:c.ok=true) {e:Nat} (he:e≤2) (h2:(stepC c e).ok=true):Ha c e=(stepC c e,0):=by
 unfold Ha nbr;unfold Cl.ok at h h2;unfold stepC at h2⊢;dsimp only at h2;have hb:=fH c.q e;rw[Int.toNat_of_nonneg hb.2.2.2.2.1]at h2;rw[if_neg (by rw[h];simp;omega)];simp only[Int.toNat_natCast];rw[if_pos h2]
theorem touch_step {c d:Cl} {e:Nat} (he:e≤2) (h:Ha c e=(d,0)):(Ig c d).2=0∧(Ig c d).1≤2∧Ha c (Ig c d).1=(d,0):=by
 unfold Ig
 split
 ·rename_i h0;exact⟨rfl,by decide,h0⟩
 ·split
  ·rename_i h0;exact⟨rfl,by decide,h0⟩
  ·split
   ·rename_i h0;exact⟨rfl,by decide,h0⟩
   ·rcases nat3 he with rfl|rfl|rfl
    all_goals contradiction
theorem nbrC_eq {c d:Cl} {e:Nat} (h:Ha c e=(d,0)):d=stepC c e:=by
 unfold Ha nbr at h;have hb:=fH c.q e
 split at h
 ·simp at h
 ·split at h
  ·simp only[Prod.mk.injEq,and_true]at h;rw[←h];unfold stepC;simp only[Int.toNat_natCast]
  ·simp at h
theorem kindT_ex {k:Int} (hk:1≤k∧k≤4) {sd:Nat} (hs:sd≤1):∃k0,k0≤7∧Oo k0=(k,sd):=by
 rcases(by omega:k=1∨k=2∨k=3∨k=4)with rfl|rfl|rfl|rfl<;>rcases(by omega:sd=0∨sd=1)with rfl|rfl
 ·exact⟨3,by decide,rfl⟩
 ·exact⟨1,by decide,rfl⟩
 ·exact⟨0,by decide,rfl⟩
 ·exact⟨2,by decide,rfl⟩
 ·exact⟨4,by decide,rfl⟩
 ·exact⟨6,by decide,rfl⟩
 ·exact⟨5,by decide,rfl⟩
 ·exact⟨7,by decide,rfl⟩
theorem line_away {s:St} (hg:Gs s) {a b:Nat} (ha:s.a=a) (hb:s.b=b) (h1:1≤a∧a≤4) (h2:1≤b∧b≤4) {x:Int×Int} (h:x∈Md s):
  okL x.1 x.2=true∧∀k,k≤7→(Oo k).1=x.1→1≤awayT s.box k x.2∧awayT s.box k x.2≤512:=by
 obtain⟨⟨i,e⟩,hu,hx⟩:=linesF_mem h;obtain⟨he,-,hU⟩:=Oh hg.pat.sheet hu;obtain⟨i1,i2⟩:=img_ok hg ha hb h1 h2
 have hcn:Cq s.a s.b=4*a*b:=by
  rw[ha,hb];unfold Cq;have:(4:Int)*(a:Int)*(b:Int)=((4*a*b:Nat):Int):=by simp[Int.natCast_mul]
  rw[this];exact Int.toNat_natCast _
 have hnm:=Uh hU;unfold isU at hU;simp only[Bool.and_eq_true,decide_eq_true_eq]at hU he;obtain⟨n1,n2⟩:=Uq hg.pat.sheet hU.1;have hn:(nbI s.a s.b i e).1.toNat<Cq s.a s.b:=by unfold Cq;omega
 have hi:i<Cq s.a s.b:=by omega
 unfold Ya at hx
 split at hx
 ·cases hx
 ·rename_i hk;have hk:Fw s.cr i e=0:=Decidable.not_not.1 hk
  have hcr:aB s.cr (Fz s.a s.b i e).1 (Fz s.a s.b i e).2.1=false:=by
   rw[hnm];dsimp only
   cases hc:aB s.cr (i:Int) (e:Int)with
   |false=>rfl
   |true=>
    unfold aB at hc;obtain⟨r,hr,h3⟩:=List.any_eq_true.1 hc;simp only[Bool.and_eq_true,decide_eq_true_eq]at h3;exact absurd (List.mem_map.2 ⟨r,hr,by unfold crU;rw[h3.1,h3.2]⟩) (eN hg.pat.kind hk)
  obtain⟨e',k1,k2⟩:=i1 i (by rw[←hcn];exact hi) e (by omega) hU.1 hcr;have hin:=img_mem hg hi;have hnn:=img_mem hg hn
  have hok:∀c∈s.l.map (·.c),c.ok=true:=fun c hc=>by
   obtain⟨y,hy,rfl⟩:=List.mem_map.1 hc;exact(hg.at y hy).1
  have ht:=touch_step k1 (nbrC_step (hok _ hin) k1 (by rw[←k2];exact hok _ hnn));rw[←k2]at ht;obtain⟨-,t2,t3⟩:=ht;dsimp only at hx
  split at hx
  ·rename_i h0;obtain rfl:=Option.some.inj hx;obtain⟨T,hT⟩:=ey ((Ig (s.img i) (s.img (nbI s.a s.b i e).1.toNat)).1);rw[hT]at h0 t2 t3⊢;unfold Kt at h0⊢
   split at h0
   ·rename_i hl;rw[if_pos hl];refine⟨hl,fun k hk hkk=>?_⟩;have hst:=nbrC_eq t3
    have hq:(s.img i).q≤3:=by
     have:=(Er.1 (hok _ hin)).2.2.2.2;omega
    have hw:=away_in hq t2 (boxL_has hin) (by rw[←hst];exact boxL_has hnn) hk hkk;refine⟨hw.1,?_⟩
    have hbd:=boxL_bound (l:=s.l.map (·.c)) (List.ne_nil_of_mem hin) (x0:=(s.img 0).x) (y0:=(s.img 0).y) (m:=20) fun c hc=>by
     obtain⟨y,hy,rfl⟩:=List.mem_map.1 hc;obtain⟨-,hne,hlt⟩:=hg.at y hy;obtain⟨j,r,hjr⟩:=List.exists_cons_of_ne_nil hne;have hjm:j∈y.ls:=by rw[hjr];exact List.mem_cons_self ..
     have hj:=hlt j hjm;have h4:=hg.stk;unfold Kp at h4;rw[if_neg (by rw[hg.both];decide),if_neg (by rw[hg.chkS];decide)]at h4
     split at h4
     ·cases h4
     ·rename_i h5
      have h6:s.img j=y.c:=by
       apply Classical.byContradiction;intro h6;exact h5 (List.any_eq_true.2 ⟨y,hy,List.any_eq_true.2 ⟨j,hjm,decide_eq_true h6⟩⟩)
      have:=i2 j (by rw[←hcn];exact hj);rw[h6]at this;unfold nearC at this;omega
    refine Int.le_trans hw.2 ?_;omega
   ·cases h0
  ·cases hx
theorem fold_station (x y:Nat) (ks:List Nat) {f:Fd} (hf:f∈Ma (ofF x y ks)):∃k0,k0≤7∧Oo k0=(f.k,f.side)∧Kg f.k f.c f.side=true∧1≤awayT (ofF x y ks).box k0 f.c∧awayT (ofF x y ks).box k0 f.c≤512:=by
 have hg:=Ab5 x y ks;have hab:=(jJ (ks.take 6) _ (Qe (a:=x%4) (b:=y%4) (by omega) (by omega)).2.2).2;have ha:(ofF x y ks).a=((1+x%4:Nat):Int):=hab.1;have hb:(ofF x y ks).b=((1+y%4:Nat):Int):=hab.2;unfold Ma at hf;obtain⟨l,hl,hf⟩:=List.mem_flatMap.1 hf;obtain⟨h1,h2⟩:=line_away hg ha hb (by omega) (by omega) hl;have h3:=Kv.1 h1
 have hfs:f.k=l.1∧f.c=l.2∧f.side≤1:=by
  simp only[Bh,List.not_mem_nil,or_false]at hf;rcases hf with rfl|rfl|rfl|rfl<;>exact⟨rfl,rfl,by dsimp only;decide⟩
 obtain⟨k0,hk0,hkk⟩:=kindT_ex (k:=f.k) (by rw[hfs.1];omega) hfs.2.2;refine⟨k0,hk0,hkk,?_,?_⟩
 ·unfold Kg;rw[hfs.1,hfs.2.1,h1];simp;omega
 ·rw[hfs.2.1];exact h2 k0 hk0 (by rw[hkk];exact hfs.1)
end Go.Proofs.YtadnbldkegkjaaaGreatDoor
namespace Go.Proofs.YtadnbldkegkjaaaGreatDoor
open Go.RowKit
theorem eq4_any (l r d u:Int) (w:Ag):(Op.equalIn 10000 52 (.agg #[Aa Ab l,Aa Ab r,Aa Ab d,Aa Ab u]) (.agg #[Aa Ab l,Aa Ab r,Aa Ab d,Aa Ab u])).run Tryz.prog w= .ok true w:=by
 obtain⟨i,hi,-,-⟩:=Ak2;have hc:Tryz.prog.cellsOf 3=1:=by kernel_rfl
 have hp:∀(off:Nat) (v:Ah) (w:Ag),(#[Value.int .i64 l,Aa Ab r,Aa Ab d,Aa Ab u]:Array Ah)[off]? =some v→(part 3 #[Value.int .i64 l,Aa Ab r,Aa Ab d,Aa Ab u] off).run Tryz.prog w= .ok v w:=fun off v w h=>run_part_plain w (by kernel_rfl) h
 have he:∀(a:Int) (w:Ag),(Op.equalIn 9999 3 (Aa Ab a) (Aa Ab a)).run Tryz.prog w= .ok true w:=fun a w=>by
  rw[run_equalIn_int w 9998 3 .i64 .i64 a a Tryz.underlying3];simp
 rw[run_equalIn_array w 9999 _ _ Tryz.underlying52 hi,hc,show List.range 4=[0,1,2,3]from rfl];simp[Op.eqItems,hp 0 _ _ rfl,hp 1 _ _ rfl,hp 2 _ _ rfl,hp 3 _ _ rfl,he]
theorem lfd_any (x y:Nat) (ks:List Nat) (hk:∀k∈ks,k≤255) (n:Nat) (hn:n=ks.length) (hnm:n≤maxLen) (pF:Option Addr) (c:Nat) (tk:Nat) (tp:Int) (tv:Bool) (w:Ag)
  (hrF:Rd w pF 1 n (ksV ks)) (hQ:Qf w) (hT:Tn w):
  Ai Tryz.prog 4 #[.agg #[Aa Ac x,Aa Ac y,Ad pF n c],.agg #[Aa Ac tk,Aa Ab tp,.bool tv]] w (Cg (.bool true) w):=by
 have HOF:=Ae (fun(w':Ag) (hb:Below w.heap.size w w')=>rY x y ks hk n hn hnm pF c w' (hrF.below hb) (hQ.below hb) (hT.below hb));have HLV:=Ae (fun(w':Ag) (hb:Below w.heap.size w w')=>lN w' (hQ.below hb) (hT.below hb));have HQT:=Ae (fun(w':Ag) (hb:Below w.heap.size w w')=>show Qf w'∧Tn w' from⟨hQ.below hb,hT.below hb⟩);have HGS:=Ae (Ab5 x y ks);have HFS:=Ae (fun f (hf:f∈Ma (ofF x y ks))=>fold_station x y ks hf);have H:=((Bx.start w).new #[Aa Ac x,Aa Ac y,Ad pF n c] 24 rfl).new #[Aa Ac tk,Aa Ab tp,.bool tv] 56 (N:=w.heap.size+1) (by simp);obtain⟨s,hs⟩:=ey (ofF x y ks);rw[hs]at HOF HGS HFS;unfold dB at HOF;clear hk hn hnm hrF hQ hT hs;go_enter Tryz.func4,Tryz.ntmps4;go_upto_region 1 with fail;obtain⟨N,hN⟩:=ez w.heap.size;rw[←hN]at H⊢;have HNN:=Ae hN;clear hN;obtain⟨P,hP⟩:=ey (N+1);rw[hP]at H⊢;clear hP;obtain⟨W1,hW1⟩:=ez ((w.alloc (.cells #[Aa Ac x,Aa Ac y,Ad pF n c] 24)).alloc (.cells #[Aa Ac tk,Aa Ab tp,.bool tv] 56));rw[←hW1]at H⊢;clear hW1;obtain⟨⟨a0,a1,a2⟩,-⟩:=Ci (H.blk 0 _ _ _ rfl);go_wp2_with fail;refine(HOF.out _ H.below).mono ?_;rintro ee w2 ⟨cs,rfl,hkp,hb⟩;obtain⟨pA,pc,A,cc,rfl,-,-,-⟩:=hkp.st.held;obtain⟨U,hU⟩:=ey w2.heap.size;have H2:=(H.call hb).new #[Aa Ab s.a,Aa Ab s.b,Ad pA s.cr.length pc,Aa Ac s.root.t,Aa Ab s.root.x,Aa Ab s.root.y,Ad A s.l.length cc] 37 hU;have hp:=Do (hkp.st.below ((Below.refl w2.heap.size w2).alloc (Aj _) (.cells #[Aa Ab s.a,Aa Ab s.b,Ad pA s.cr.length pc,Aa Ac s.root.t,Aa Ab s.root.x,Aa Ab s.root.y,Ad A s.l.length cc] 37)));clear a0 a1 a2 H hb hkp HOF;go_upto_region 2 with fail
 try rw[hU]
 obtain⟨W3,hW3⟩:=ez (w2.alloc (.cells #[Aa Ab s.a,Aa Ab s.b,Ad pA s.cr.length pc,Aa Ac s.root.t,Aa Ab s.root.x,Aa Ab s.root.y,Ad A s.l.length cc] 37));rw[←hW3]at H2 hp⊢;clear hW3;have hq:=HQT.out _ H2.below;have HBC:=Ae (fun(w':Ag) (hb:Below W3.heap.size W3 w')=>vO s pA pc A cc w' HGS.out (hp.2.1.below hb) (hp.2.2.below hb) (hq.1.below hb) (hq.2.below hb));have HSI:=Ae (fun(w':Ag) (hb:Below W3.heap.size W3 w')=>Vd s pA pc A cc w' HGS.out (hp.2.1.below hb) (hp.2.2.below hb) (hq.1.below hb) (hq.2.below hb));have HLB:=Ae (fun(w':Ag) (hb:Below W3.heap.size W3 w')=>eO s pA pc A cc w' HGS.out (hp.2.2.below hb));have HMF:=Ae (fun(w':Ag) (hb:Below W3.heap.size W3 w') (t:Sn)=>lS s t pA pc A cc w' HGS.out (hp.2.1.below hb) (hp.2.2.below hb) (hq.1.below hb) (hq.2.below hb));have HLF:=Ae (fun(hok:Qp tk tp=true) (w':Ag)=>aH s.box ⟨tk,tp,tv⟩ HGS.out.box (by unfold Qp at hok;simp at hok;exact hok.1.1) (by unfold Qp at hok;simp at hok;exact⟨hok.1.2,hok.2⟩) w');have HFD:=Ae (fun(w':Ag) (hb:Below W3.heap.size W3 w')=>kT s pA pc A cc w' HGS.out (hp.2.1.below hb) (hp.2.2.below hb) (hq.1.below hb) (hq.2.below hb));have HMO:=Ae (fun(w':Ag) (hb:Below W3.heap.size W3 w') (k0:Nat) (h0:k0≤7) (fc:Int) (fo:Bool) (hok:Kg (Oo k0).1 fc (Oo k0).2=true) (h1:1≤awayT s.box k0 fc) (h2:awayT s.box k0 fc≤512)=>mof_any s k0 h0 fc fo hok h1 h2 pA pc A cc w' HGS.out (hp.2.1.below hb) (hp.2.2.below hb) (hq.1.below hb) (hq.2.below hb));obtain⟨⟨l,r,d,u⟩,hbb⟩:=ey s.box;have HBB:=Ae hbb;rw[hbb]at HBC HLB HLF;unfold bbV at HBC HLB HLF;unfold Th at HSI;unfold oD at HFD;have hl1:=(show(s.l.map (·.c)).length=s.l.length by simp);rw[hl1]at HSI;dsimp only at HBC HLB HLF;have hb3:=Below.refl W3.heap.size W3;clear hp hq hbb hl1;obtain⟨a0,a1,a2,a3,a4,a5,a6⟩:=De (H2.blk 2 _ _ _ rfl);go_wp2_with fail;refine(HBC.out _ hb3).mono ?_
 rintro ee w4 ⟨rfl,hb⟩;obtain⟨X,hX⟩:=ey w4.heap.size;have H4:=(H2.call hb).new #[Aa Ab l,Aa Ab r,Aa Ab d,Aa Ab u] 52 hX;have hb4:=hb.trans (((Below.refl w4.heap.size w4).alloc (Aj _) (.cells #[Aa Ab l,Aa Ab r,Aa Ab d,Aa Ab u] 52)).mono hb.size);clear a0 a1 a2 a3 a4 a5 a6 H2 hb hb3 HBC;go_upto_region 3 with fail
 try rw[hX]
 obtain⟨W4,hW4⟩:=ez (w4.alloc (.cells #[Aa Ab l,Aa Ab r,Aa Ab d,Aa Ab u] 52));rw[←hW4]at H4 hb4⊢;clear hW4;obtain⟨a0,a1,a2,a3,a4,a5,a6⟩:=De (H4.blk 2 _ _ _ rfl);go_wp2_with fail;refine(HSI.out _ hb4).mono ?_;rintro ee w5 ⟨SA,rfl,-,-,hb⟩;have H5:=H4.call hb;have hb5:=hb4.trans (hb.mono hb4.size);clear a0 a1 a2 a3 a4 a5 a6 H4 hb hb4 HSI hX;go_upto_region 4 with fail;obtain⟨a0,a1,a2,a3,a4,a5,a6⟩:=De (H5.blk 2 _ _ _ rfl);obtain⟨⟨b0,b1,b2,b3⟩,-⟩:=Co (H5.blk 3 _ _ _ rfl);have hUl:=H5.lt 2 rfl;have hXl:=H5.lt 3 rfl;obtain⟨S,hSd⟩:∃S:Ag→Prop,S=fun W'=>W'.heap[U]? =w5.heap[U]? ∧W'.heap[X]? =w5.heap[X]? :=⟨_,rfl⟩
 have HSO:Hid (∀W',S W'→(W'.cell? ⟨U,0,none⟩=some (Aa Ab s.a)∧W'.cell? ⟨U,1,none⟩=some (Aa Ab s.b)∧W'.cell? ⟨U,2,none⟩=some (Ad pA s.cr.length pc)∧W'.cell? ⟨U,3,none⟩=some (Aa Ac s.root.t)∧W'.cell? ⟨U,4,none⟩=some (Aa Ab s.root.x)∧W'.cell? ⟨U,5,none⟩=some (Aa Ab s.root.y)∧W'.cell? ⟨U,6,none⟩=some (Ad A s.l.length cc))∧W'.cell? ⟨X,0,none⟩=some (Aa Ab l)∧W'.cell? ⟨X,1,none⟩=some (Aa Ab r)∧W'.cell? ⟨X,2,none⟩=some (Aa Ab d)∧W'.cell? ⟨X,3,none⟩=some (Aa Ab u)):=Ae fun W' h=>by
  subst hSd;obtain⟨h1,h2⟩:=h;exact⟨⟨(Ch h1 _).trans a0,(Ch h1 _).trans a1,(Ch h1 _).trans a2,(Ch h1 _).trans a3,(Ch h1 _).trans a4,(Ch h1 _).trans a5,(Ch h1 _).trans a6⟩,(Ch h2 _).trans b0,(Ch h2 _).trans b1,(Ch h2 _).trans b2,(Ch h2 _).trans b3⟩
 have HSB:Hid (∀W' W'':Ag,S W'→Below w5.heap.size W' W''→S W''):=Ae fun W' W'' hs h=>by
  subst hSd;exact⟨(h.block U hUl).trans hs.1,(h.block X hXl).trans hs.2⟩
 have hS0:S w5.drew:=by subst hSd;exact⟨rfl,rfl⟩
 clear hSd a0 a1 a2 a3 a4 a5 a6 b0 b1 b2 b3 hUl hXl;have e4:=eq4_any l r d u;refine Al (S:=S) (by kernel_rfl) hS0 (fun hS=>?_);have hb:Below w5.heap.size w5 w5.drew:=(Below.refl _ _).drew;have H:=H5.drew;obtain⟨X0,hX0⟩:=ez w5.drew;rw[←hX0]at hb hS H⊢;clear hX0;clear hS0 H5;refine Cf 0 ?_;refine Cf 1 ?_;refine Cf 2 ?_;refine Cf 3 ?_;refine Cf 4 ?_;refine Cf 5 ?_;refine Cf 6 ?_;refine Cf 7 ?_;refine Cf 8 ?_;refine rdy 9 (fun K hK=>?_);go_simp;refine(HLB.out _ (hb5.trans (hb.mono hb5.size))).mono ?_;rintro ee X1 ⟨rfl,hbm⟩;obtain⟨H,hS1,hb⟩:=cl3 H hb hS HSB.out hbm;refine hK.out _ _ hS1 (fun hS=>?_);clear hK K hbm hS1;refine Cf 10 ?_;refine Cf 11 ?_;refine Cf 12 ?_;refine Cf 13 ?_;refine Cf 14 ?_;refine Cf 15 ?_;refine Cf 16 ?_;refine Cf 17 ?_;refine Cf 18 ?_;refine Cf 19 ?_;refine Ak (by kernel_rfl) ?_ _;have hb6:=hb5.trans (hb.mono hb5.size);clear hS HSB HSO hb hb5 e4;go_upto_region 6 with fail;obtain⟨⟨p0,p1,p2⟩,-⟩:=Ci (H.blk 1 _ _ _ rfl);obtain⟨ok,hok⟩:=ey (Qp tk tp)
 have hfr:Sf s.box ⟨tk,tp,tv⟩=if ok then (Hl ⟨l,r,d,u⟩ ⟨tk,tp,tv⟩,0)else (⟨0,0,0,false⟩,1):=by
  rw[←hok,←HBB.out];rfl
 have HFR:=Ae hfr;rw[hok]at HLF;unfold Qp at hok;have HOK:=Ae hok;clear hok hfr;go_cut [10]from 52 to 64 (fun s10 wx=>s10= .bool ok∧Hid (X1=wx))
 case first=>
  by_cases h1:(tk:Int)≤7
  ·by_cases h2:1≤tp
   ·by_cases h3:tp≤512
    ·go_wp2_with fail;go_meet;exact⟨by rw[←HOK.out];simp;omega,Ae rfl⟩
    ·go_wp2_with fail;go_meet;exact⟨by rw[←HOK.out];simp;omega,Ae rfl⟩
   ·go_wp2_with fail;go_meet;exact⟨by rw[←HOK.out];simp;omega,Ae rfl⟩
  ·go_wp2_with fail;go_meet;exact⟨by rw[←HOK.out];simp;omega,Ae rfl⟩
 case rest=>
 obtain⟨rfl,HW⟩:=hcut;obtain rfl:=HW.out;have hmf:=HMF.out _ hb6 ⟨tk,tp,tv⟩;obtain⟨⟨⟨fk,fc,fs,fo⟩,fe⟩,hfe⟩:∃z,Sf s.box ⟨tk,tp,tv⟩=z:=⟨_,rfl⟩;rw[hfe]at hmf HFR;dsimp only at hmf;have HM1:=Ae hmf;obtain⟨a0,a1,a2,a3,a4,a5,a6⟩:=De (H.blk 2 _ _ _ rfl);clear hmf hfe HW HOK;go_wp2_with fail;refine HM1.out.mono ?_;rintro ee w7 ⟨rfl,hb⟩;obtain⟨R,hR⟩:=ey w7.heap.size;have H7:=(H.call hb).new #[Aa Ac fk,Aa Ab fc,Aa Ac (fs:Int),.bool fo] 63 hR;have hb7:=(hb6.trans (hb.mono hb6.size)).trans (((Below.refl w7.heap.size w7).alloc (Aj _) (.cells #[Aa Ac fk,Aa Ab fc,Aa Ac (fs:Int),.bool fo] 63)).mono (hb6.trans (hb.mono hb6.size)).size);clear a0 a1 a2 a3 a4 a5 a6 p0 p1 p2 H hb hb6 HM1;go_upto_region 8 with fail
 try rw[hR]
 obtain⟨W7,hW7⟩:=ez (w7.alloc (.cells #[Aa Ac fk,Aa Ab fc,Aa Ac (fs:Int),.bool fo] 63));rw[←hW7]at H7 hb7⊢;clear hW7;clear hR;obtain⟨⟨p0,p1,p2⟩,-⟩:=Ci (H7.blk 1 _ _ _ rfl);obtain⟨⟨b0,b1,b2,b3⟩,-⟩:=Co (H7.blk 3 _ _ _ rfl);obtain⟨⟨c0,c1,c2,c3⟩,-⟩:=Co (H7.blk 4 _ _ _ rfl);have hPl:=H7.lt 1 rfl;have hXl:=H7.lt 3 rfl;have hRl:=H7.lt 4 rfl;obtain⟨S,hSd⟩:∃S:Ag→Prop,S=fun W'=>W'.heap[P]? =W7.heap[P]? ∧W'.heap[X]? =W7.heap[X]? ∧W'.heap[R]? =W7.heap[R]? :=⟨_,rfl⟩
 have HSO:Hid (∀W',S W'→(W'.cell? ⟨P,0,none⟩=some (Aa Ac tk)∧W'.cell? ⟨P,1,none⟩=some (Aa Ab tp)∧W'.cell? ⟨P,2,none⟩=some (.bool tv))∧(W'.cell? ⟨X,0,none⟩=some (Aa Ab l)∧W'.cell? ⟨X,1,none⟩=some (Aa Ab r)∧W'.cell? ⟨X,2,none⟩=some (Aa Ab d)∧W'.cell? ⟨X,3,none⟩=some (Aa Ab u))∧W'.cell? ⟨R,0,none⟩=some (Aa Ac fk)∧W'.cell? ⟨R,1,none⟩=some (Aa Ab fc)∧W'.cell? ⟨R,2,none⟩=some (Aa Ac (fs:Int))∧W'.cell? ⟨R,3,none⟩=some (.bool fo)):=Ae fun W' h=>by
  subst hSd;obtain⟨h1,h2,h3⟩:=h;exact⟨⟨(Ch h1 _).trans p0,(Ch h1 _).trans p1,(Ch h1 _).trans p2⟩,⟨(Ch h2 _).trans b0,(Ch h2 _).trans b1,(Ch h2 _).trans b2,(Ch h2 _).trans b3⟩,(Ch h3 _).trans c0,(Ch h3 _).trans c1,(Ch h3 _).trans c2,(Ch h3 _).trans c3⟩
 have HSB:Hid (∀W' W'':Ag,S W'→Below W7.heap.size W' W''→S W''):=Ae fun W' W'' hs h=>by
  subst hSd;exact⟨(h.block P hPl).trans hs.1,(h.block X hXl).trans hs.2.1,(h.block R hRl).trans hs.2.2⟩
 have hS0:S W7.drew:=by subst hSd;exact⟨rfl,rfl,rfl⟩
 obtain⟨bl,hbl⟩:∃z:List (Nat×Array Ah×TypeId),[(N,#[Aa Ac x,Aa Ac y,Ad pF n c],24),(P,#[Aa Ac tk,Aa Ab tp,.bool tv],56),(U,#[Aa Ab s.a,Aa Ab s.b,Ad pA s.cr.length pc,Aa Ac s.root.t,Aa Ab s.root.x,Aa Ab s.root.y,Ad A s.l.length cc],37)]=z:=⟨_,rfl⟩;have H8:Bx w bl W7:=by rw[←hbl];exact H7.upto 3
 have HBL:=Ae hbl;clear hSd p0 p1 p2 b0 b1 b2 b3 c0 c1 c2 c3 hPl hXl hRl H7 hbl;go_cut [95]from 71 to 94 (fun s95 wx=>s95= .bool false∧Hid (Bx w bl wx∧Below W3.heap.size W3 wx))
 case first=>
  refine Al (S:=S) (by kernel_rfl) hS0 (fun hS=>?_);have hb:Below W7.heap.size W7 W7.drew:=(Below.refl _ _).drew;have H:=H8.drew;obtain⟨X0,hX0⟩:=ez W7.drew;rw[←hX0]at hb hS H⊢;clear hX0;clear hS0 H8
  cases ok with
  |false=>
   have hfr:=HFR.out;rw[if_neg (by decide)]at hfr;injection hfr with hfr hfe;injection hfr with g1 g2 g3 g4;subst g1 g2 g3 g4 hfe;refine Cf 0 ?_;refine Cf 1 ?_;refine Cf 2 ?_;refine Cf 3 ?_;refine Cf 4 ?_;refine Cf 5 ?_;refine Cf 6 ?_;refine Cf 7 ?_;refine Cf 8 ?_;refine Cf 9 ?_;refine Cf 10 ?_;refine Cf 11 ?_;refine Cf 12 ?_;refine Cf 13 ?_;refine Cf 14 ?_;refine Cf 15 ?_;refine Cf 16 ?_;refine Cf 17 ?_;refine Cf 18 ?_;refine Cf 19 ?_;refine Cf 20 ?_;refine Cf 21 ?_;refine Cf 22 ?_;refine Cf 23 ?_;refine Cf 24 ?_;refine Ak (by kernel_rfl) ?_ _;have HR:=Ae (And.intro H (hb7.trans (hb.mono hb7.size)));clear hS HSB HSO H hb;go_wp2_with fail;go_meet;exact⟨rfl,HR⟩
  |true=>
   have hfr:=HFR.out;rw[if_pos rfl]at hfr;injection hfr with hfr hfe;subst hfe;have hlf:=HLF.out rfl;rw[←hfr]at hlf;have HL2:=Ae hlf;clear hfr hlf;refine Cf 0 ?_;refine Cf 1 ?_;refine Cf 2 ?_;refine Cf 3 ?_;refine Cf 4 ?_;refine Cf 5 ?_;refine Cf 6 ?_;refine Cf 7 ?_;refine Cf 8 ?_;refine Cf 9 ?_;refine Cf 10 ?_;refine Cf 11 ?_;refine Cf 12 ?_;refine Cf 13 ?_;refine Cf 14 ?_;refine Cf 15 ?_;refine Cf 16 ?_;refine Cf 17 ?_;refine Cf 18 ?_;refine Cf 19 ?_;refine rdy 20 (fun K hK=>?_);go_simp;refine(HL2.out _).mono ?_;rintro ee X1 ⟨rfl,hbm⟩;obtain⟨H,hS1,hb⟩:=cl3 H hb hS HSB.out hbm;refine hK.out _ _ hS1 (fun hS=>?_);clear hK K hbm hS1;refine Cf 21 ?_;refine Cf 22 ?_;refine Cf 23 ?_;refine Cf 24 ?_;refine Ak (by kernel_rfl) ?_ _;have HR:=Ae (And.intro H (hb7.trans (hb.mono hb7.size)));clear hS HSB HSO H hb;go_wp2_with fail;go_meet;exact⟨rfl,HR⟩
 case rest=>
 obtain⟨rfl,HR⟩:=hcut;obtain⟨W8,rfl⟩:=ez wc;obtain⟨H8,hb8⟩:=HR.out;clear hS0 HSB HSO HR hb7 HFR HLF HLB;have H9:Bx w [(N,#[Aa Ac x,Aa Ac y,Ad pF n c],24),(P,#[Aa Ac tk,Aa Ab tp,.bool tv],56),(U,#[Aa Ab s.a,Aa Ab s.b,Ad pA s.cr.length pc,Aa Ac s.root.t,Aa Ab s.root.x,Aa Ab s.root.y,Ad A s.l.length cc],37)] W8:=by rw[HBL.out];exact H8
 obtain⟨a0,a1,a2,a3,a4,a5,a6⟩:=De (H9.blk 2 _ _ _ rfl);go_wp2_with fail;refine(HFD.out _ hb8).mono ?_;rintro ee w9 ⟨FA,cA,rfl,-,hrd,hb⟩;obtain⟨ls,hls⟩:=ey (Ma s);rw[hls]at hrd HFS;rw[hls];obtain⟨mf,hmf⟩:=ey ls.length;have HML:=Ae hmf;rw[hmf]
 have hm9:mf≤100000:=by
  have h1:=hrd.1;have:=eS HGS.out.pat.sheet;rw[←hmf,←hls,qE,Dl foI 4 (fun _=>rfl)];omega
 have HI0:Hid (Bx w bl w9∧Below W3.heap.size W3 w9∧Rd w9 FA 4 ls.length (ls.flatMap fdI)):=Ae ⟨H8.call hb,hb8.trans (hb.mono hb8.size),hrd⟩;clear a0 a1 a2 a3 a4 a5 a6 H8 H9 hb hb8 hrd hls hmf HFD;go_wp2_with fail
 go_loopw [15] (fun s15 wr=>∃k:Nat,k≤mf∧s15= Aa Ab k∧Hid (Bx w bl wr∧Below W3.heap.size W3 wr∧Rd wr FA 4 ls.length (ls.flatMap fdI))) (fun s15 _=>mf-(intOf s15).toNat)
 case atStart=>exact⟨0,by omega,rfl,HI0⟩
 case round=>
  obtain⟨k,hk,rfl,HZ⟩:=hrel;clear HI0;obtain⟨H8,hb8,hrd⟩:=HZ.out;by_cases hlt:k<mf
  ·have q0:(k:Int)<(mf:Int):=by omega
   have hkl:k<ls.length:=by have:=HML.out;omega
   obtain⟨k0,h0,hkk,hok,h1,h2⟩:=HFS.out ls[k] (Au hkl);obtain⟨fb,fof,rfl,f0,f1,f2,f3⟩:=sP hrd k hkl;obtain⟨⟨gk,gc,gs,go⟩,hg⟩:=ey (ls[k]);rw[hg]at f0 f1 f2 f3 hkk hok h1 h2;dsimp only at f0 f1 f2 f3 hkk hok h1 h2;have hmo:=fun(w':Ag) (hb:Below W3.heap.size W3 w')=>HMO.out w' hb k0 h0 gc go (by rw[hkk];exact hok) h1 h2;have hok0:Qp k0 (awayT s.box k0 gc)=true:=by unfold Qp;simp;omega
   have hfr:Sf s.box ⟨k0,awayT s.box k0 gc,go⟩=(⟨gk,gc,gs,go⟩,0):=by
    unfold Sf;dsimp only;rw[if_pos hok0];unfold Hl awayT;dsimp only;rw[hkk];dsimp only
    congr 2
    split<;>omega
   have hmf:=fun(w':Ag) (hb:Below W3.heap.size W3 w')=>HMF.out w' hb ⟨k0,awayT s.box k0 gc,go⟩;rw[hfr]at hmf;rw[hkk]at hmo;obtain⟨p0,hp0⟩:=ey (awayT s.box k0 gc);rw[hp0]at hmo hmf;dsimp only at hmo hmf;have HMO2:=Ae hmo;have HMF2:=Ae hmf;have HLN:=Ae hg;clear hkk hok h1 h2 hg hok0 hfr hmo hmf hp0 HZ;have H9:Bx w [(N,#[Aa Ac x,Aa Ac y,Ad pF n c],24),(P,#[Aa Ac tk,Aa Ab tp,.bool tv],56),(U,#[Aa Ab s.a,Aa Ab s.b,Ad pA s.cr.length pc,Aa Ac s.root.t,Aa Ab s.root.x,Aa Ab s.root.y,Ad A s.l.length cc],37)] wr:=by rw[HBL.out];exact H8
   go_upto_region 16 with fail;obtain⟨a0,a1,a2,a3,a4,a5,a6⟩:=De (H9.blk 2 _ _ _ rfl);have hUl:=H9.lt 2 rfl
   have hfl:fb<wr.heap.size:=by
    obtain⟨b2,o2,e2,hb2,-⟩:=hrd.2 (by have:=hrd.1;rw[Dl fdI 4 (fun _=>rfl)]at this;omega);obtain⟨rfl,rfl⟩:fb=b2∧fof=o2:=by simpa using e2
    exact hb2
   obtain⟨S,hSd⟩:∃S:Ag→Prop,S=fun W'=>W'.heap[U]? =wr.heap[U]? ∧W'.heap[fb]? =wr.heap[fb]? :=⟨_,rfl⟩
   have HSO:Hid (∀W',S W'→(W'.cell? ⟨U,0,none⟩=some (Aa Ab s.a)∧W'.cell? ⟨U,1,none⟩=some (Aa Ab s.b)∧W'.cell? ⟨U,2,none⟩=some (Ad pA s.cr.length pc)∧W'.cell? ⟨U,3,none⟩=some (Aa Ac s.root.t)∧W'.cell? ⟨U,4,none⟩=some (Aa Ab s.root.x)∧W'.cell? ⟨U,5,none⟩=some (Aa Ab s.root.y)∧W'.cell? ⟨U,6,none⟩=some (Ad A s.l.length cc))∧W'.cell? ⟨fb,fof+k*4,none⟩=some (Aa Ac gk)∧W'.cell? ⟨fb,fof+k*4+1,none⟩=some (Aa Ab gc)∧W'.cell? ⟨fb,fof+k*4+2,none⟩=some (Aa Ac (gs:Int))∧W'.cell? ⟨fb,fof+k*4+3,none⟩=some (.bool go)):=Ae fun W' h=>by
    subst hSd;obtain⟨h1,h2⟩:=h;exact⟨⟨(Ch h1 _).trans a0,(Ch h1 _).trans a1,(Ch h1 _).trans a2,(Ch h1 _).trans a3,(Ch h1 _).trans a4,(Ch h1 _).trans a5,(Ch h1 _).trans a6⟩,(Ch h2 _).trans f0,(Ch h2 _).trans f1,(Ch h2 _).trans f2,(Ch h2 _).trans f3⟩
   have HSB:Hid (∀W' W'':Ag,S W'→Below wr.heap.size W' W''→S W''):=Ae fun W' W'' hs h=>by
    subst hSd;exact⟨(h.block U hUl).trans hs.1,(h.block fb hfl).trans hs.2⟩
   have HSU:Hid (∀(W':Ag) (Z j:Nat) (v:Ah),wr.heap.size≤Z→S W'→S (W'.setCell ⟨Z,j,none⟩ v)):=Ae fun W' Z j v hz hs=>by
    subst hSd;exact⟨(Below.heap_setCell W' ⟨Z,j,none⟩ v U (by show U≠Z;omega)).trans hs.1,(Below.heap_setCell W' ⟨Z,j,none⟩ v fb (by show fb≠Z;omega)).trans hs.2⟩
   have hS0:S wr.drew:=by subst hSd;exact⟨rfl,rfl⟩
   have HB8:=Ae hb8;have HRD:=Ae hrd;clear hSd a0 a1 a2 a3 a4 a5 a6 hUl f0 f1 f2 f3 H8 hb8 hrd;go_cut [16,17]from 109 to 117 (fun s16 s17 wx=>∃V:Nat,s16= .pointer (some ⟨V,0,none⟩)∧s17= Aa Ab 0∧Hid (Bx w [(N,#[Aa Ac x,Aa Ac y,Ad pF n c],24),(P,#[Aa Ac tk,Aa Ab tp,.bool tv],56),(U,#[Aa Ab s.a,Aa Ab s.b,Ad pA s.cr.length pc,Aa Ac s.root.t,Aa Ab s.root.x,Aa Ab s.root.y,Ad A s.l.length cc],37),(V,#[Aa Ac k0,Aa Ab p0,.bool go],56)] wx∧Below wr.heap.size wr wx))
   case first=>
    refine Al (S:=S) (by kernel_rfl) hS0 (fun hS=>?_);have hb:Below wr.heap.size wr wr.drew:=(Below.refl _ _).drew;have H:=H9.drew;obtain⟨X0,hX0⟩:=ez wr.drew;rw[←hX0]at hb hS H⊢;clear hX0;clear hS0 H9;refine Cf 0 ?_;refine Cf 1 ?_;refine Cf 2 ?_;refine Cf 3 ?_;refine Cf 4 ?_;refine rdy2 5 9 (fun K hK=>?_) (fun K hK=>?_)
    ·go_simp;refine(HMO2.out _ (HB8.out.trans (hb.mono HB8.out.size))).mono ?_;rintro ee X1 ⟨rfl,hbm⟩;obtain⟨H,hS1,hb⟩:=cl3 H hb hS HSB.out hbm;refine hK.out _ _ hS1 (fun hS=>?_);clear hK K hbm hS1;refine Cf 6 ?_;refine Cf 7 ?_;refine Cf 8 ?_;refine rdy 9 (fun K hK=>?_);obtain⟨V,hA,hUW,H,hal,hS1,hb⟩:=al3 H hb hS HSB.out #[Aa Ac 0,Aa Ab 0,.bool false] 56;go_simp;refine hK.out _ _ hS1 (fun hS=>?_);clear hK K hS1 hal
     try rw[hA]
     obtain⟨X2,hX2⟩:=ez (X1.alloc (.cells #[Aa Ac 0,Aa Ab 0,.bool false] 56));rw[←hX2]at H hb hS⊢;clear hX2;clear hA;obtain⟨⟨z0,z1,z2⟩,y0,y1,y2⟩:=Ci (H.blk 3 _ _ _ rfl);have hSU:=Ae (HSU.out _ V 2 (.bool go) hUW (HSU.out _ V 1 (Aa Ab p0) hUW (HSU.out _ V 0 (Aa Ac k0) hUW hS)));have HREL:=Ae (And.intro (((H.set 3 0 rfl (Aa Ac k0)).set 3 1 rfl (Aa Ab p0)).set 3 2 rfl (.bool go)) (((hb.setCell (p:=⟨V,0,none⟩) hUW (Aa Ac k0)).setCell (p:=⟨V,1,none⟩) hUW (Aa Ab p0)).setCell (p:=⟨V,2,none⟩) hUW (.bool go)));clear H;refine rdy 10 (fun K hK=>?_);go_simp;refine hK.out _ _ hSU.out (fun hS=>?_);clear hK K z0 z1 z2 y0 y1 y2;refine Cf 11 ?_;refine Ak (by kernel_rfl) ?_ _;go_wp2_with fail;go_meet;exact⟨V,rfl,rfl,HREL⟩
    ·obtain⟨V,hA,hUW,H,hal,hS1,hb⟩:=al3 H hb hS HSB.out #[Aa Ac 0,Aa Ab 0,.bool false] 56;go_simp;refine hK.out _ _ hS1 (fun hS=>?_);clear hK K hS1 hal
     try rw[hA]
     obtain⟨X1,hX1⟩:=ez (X0.alloc (.cells #[Aa Ac 0,Aa Ab 0,.bool false] 56));rw[←hX1]at H hb hS⊢;clear hX1;clear hA;refine rdy 5 (fun K hK=>?_);go_simp;refine(HMO2.out _ (HB8.out.trans (hb.mono HB8.out.size))).mono ?_;rintro ee X2 ⟨rfl,hbm⟩;obtain⟨H,hS1,hb⟩:=cl3 H hb hS HSB.out hbm;refine hK.out _ _ hS1 (fun hS=>?_);clear hK K hbm hS1;refine Cf 6 ?_;refine Cf 7 ?_;refine Cf 8 ?_;obtain⟨⟨z0,z1,z2⟩,y0,y1,y2⟩:=Ci (H.blk 3 _ _ _ rfl);have hSU:=Ae (HSU.out _ V 2 (.bool go) hUW (HSU.out _ V 1 (Aa Ab p0) hUW (HSU.out _ V 0 (Aa Ac k0) hUW hS)));have HREL:=Ae (And.intro (((H.set 3 0 rfl (Aa Ac k0)).set 3 1 rfl (Aa Ab p0)).set 3 2 rfl (.bool go)) (((hb.setCell (p:=⟨V,0,none⟩) hUW (Aa Ac k0)).setCell (p:=⟨V,1,none⟩) hUW (Aa Ab p0)).setCell (p:=⟨V,2,none⟩) hUW (.bool go)));clear H;refine rdy 10 (fun K hK=>?_);go_simp;refine hK.out _ _ hSU.out (fun hS=>?_);clear hK K z0 z1 z2 y0 y1 y2;refine Cf 11 ?_;refine Ak (by kernel_rfl) ?_ _;go_wp2_with fail;go_meet;exact⟨V,rfl,rfl,HREL⟩
   case rest=>
   obtain⟨V,rfl,rfl,HU⟩:=hcut;obtain⟨H10,hb10⟩:=HU.out;clear hS0 H9 HSO HSB HSU HU HMO2;obtain⟨a0,a1,a2,a3,a4,a5,a6⟩:=De (H10.blk 2 _ _ _ rfl);obtain⟨⟨p1,p2,p3⟩,-⟩:=Ci (H10.blk 3 _ _ _ rfl);go_wp2_with fail;refine(HMF2.out _ (HB8.out.trans (hb10.mono HB8.out.size))).mono ?_;rintro ee w11 ⟨rfl,hb⟩;obtain⟨R,hR⟩:=ey w11.heap.size;have hal:=(Below.refl w11.heap.size w11).alloc (Aj _) (.cells #[Aa Ac gk,Aa Ab gc,Aa Ac (gs:Int),.bool go] 63);have hb11:=(hb10.trans (hb.mono hb10.size)).trans (hal.mono (hb10.trans (hb.mono hb10.size)).size);have H11:=(H10.call hb).new #[Aa Ac gk,Aa Ab gc,Aa Ac (gs:Int),.bool go] 63 hR;have hrd2:=HRD.out.below hb11;clear a0 a1 a2 a3 a4 a5 a6 p1 p2 p3 H10 hb hb10 hal HMF2;go_upto_region 18 with fail
   try rw[hR]
   obtain⟨W9,hW9⟩:=ez (w11.alloc (.cells #[Aa Ac gk,Aa Ab gc,Aa Ac (gs:Int),.bool go] 63));rw[←hW9]at H11 hb11 hrd2⊢;clear hW9;clear hR;obtain⟨fb2,fof2,e2,g0,g1,g2,g3⟩:=sP hrd2 k hkl;obtain⟨rfl,rfl⟩:fb=fb2∧fof=fof2:=by simpa using e2
   rw[HLN.out]at g0 g1 g2 g3;dsimp only at g0 g1 g2 g3;obtain⟨⟨c0,c1,c2,c3⟩,-⟩:=Co (H11.blk 4 _ _ _ rfl);obtain⟨S,hSd⟩:∃S:Ag→Prop,S=fun W'=>(W'.cell? ⟨R,0,none⟩=some (Aa Ac gk)∧W'.cell? ⟨R,1,none⟩=some (Aa Ab gc)∧W'.cell? ⟨R,2,none⟩=some (Aa Ac (gs:Int))∧W'.cell? ⟨R,3,none⟩=some (.bool go))∧W'.cell? ⟨fb,fof+k*4,none⟩=some (Aa Ac gk)∧W'.cell? ⟨fb,fof+k*4+1,none⟩=some (Aa Ab gc)∧W'.cell? ⟨fb,fof+k*4+2,none⟩=some (Aa Ac (gs:Int))∧W'.cell? ⟨fb,fof+k*4+3,none⟩=some (.bool go):=⟨_,rfl⟩;have HSO:Hid (∀W',S W'→(W'.cell? ⟨R,0,none⟩=some (Aa Ac gk)∧W'.cell? ⟨R,1,none⟩=some (Aa Ab gc)∧W'.cell? ⟨R,2,none⟩=some (Aa Ac (gs:Int))∧W'.cell? ⟨R,3,none⟩=some (.bool go))∧W'.cell? ⟨fb,fof+k*4,none⟩=some (Aa Ac gk)∧W'.cell? ⟨fb,fof+k*4+1,none⟩=some (Aa Ab gc)∧W'.cell? ⟨fb,fof+k*4+2,none⟩=some (Aa Ac (gs:Int))∧W'.cell? ⟨fb,fof+k*4+3,none⟩=some (.bool go)):=Ae fun W' h=>by subst hSd;exact h
   have hS0:S W9.drew:=by subst hSd;exact⟨⟨c0,c1,c2,c3⟩,g0,g1,g2,g3⟩
   have HR2:=Ae (show Bx w bl W9.drew∧Below W3.heap.size W3 W9.drew∧Rd W9.drew (some ⟨fb,fof,none⟩) 4 ls.length (ls.flatMap fdI)from⟨by rw[←HBL.out];exact(H11.upto 3).drew,(HB8.out.trans (hb11.mono HB8.out.size)).drew,hrd2.below ((Below.refl _ _).drew)⟩);clear hSd g0 g1 g2 g3 c0 c1 c2 c3 H11 hb11 hrd2 e2;refine Al (S:=S) (by kernel_rfl) hS0 (fun hS=>?_);refine Cf 0 ?_;refine Cf 1 ?_;refine Cf 2 ?_;refine Cf 3 ?_;refine Cf 4 ?_;refine Cf 5 ?_;refine Cf 6 ?_;refine Cf 7 ?_;refine Cf 8 ?_;refine Cf 9 ?_;refine Cf 10 ?_;refine Cf 11 ?_;refine Cf 12 ?_;refine Cf 13 ?_;refine Ak (by kernel_rfl) ?_ _;clear hS hS0 HSO;go_wp2_with fail;exact⟨⟨k+1,by omega,by go_num,HR2⟩,by simp[intOf];omega⟩
  ·obtain⟨W9,rfl⟩:=ez wr;obtain rfl:k=mf:=by omega
   have q0:¬(k:Int)<(k:Int):=by omega
   have HB9:=Ae H8.below;clear H8 hb8 hrd HZ;go_wp2_with fail;refine(HLV.out _ HB9.out).mono ?_;rintro ee w11 ⟨rfl,hb⟩;have HF:=Ae (HB9.out.trans (hb.mono HB9.out.size));clear hb;go_wp2_with fail;go_ret;exact⟨rfl,HF.out⟩
end Go.Proofs.YtadnbldkegkjaaaGreatDoor
