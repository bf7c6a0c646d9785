import Derived.Test.YtadnbldkegkjaaaGreatDoorQMlk
import Derived.Test.YtadnbldkegkjaaaGreatDoorQCsd
import Derived.Test.YtadnbldkegkjaaaGreatDoorQMbs
import Derived.Test.YtadnbldkegkjaaaGreatDoorQMru
open Go renaming Calls→Ai,Value→Ah,World→Ag,bodyPost_ret→Af,cell_of_row→Bs
open Go.IntKind renaming i64→Ab,u8→Ac
open Go.IntWalk renaming wrap64_in→Bw
open Go.Lib renaming hid→Ae,wpList_append_run→Ap
open Go.Value renaming int→Aa,slice→Ad
open List renaming flatMap_append→Bf,getElem?_eq_getElem→Ar,getElem_mem→Au,length_map→Bk,length_take→Bj,mem_cons→Bh,take_of_length_le→Bc,take_succ_eq_append_getElem→Ax
open Nat renaming le_refl→Aj,le_trans→Bo
set_option maxHeartbeats 32000000
set_option maxRecDepth 100000
namespace Go.Proofs.YtadnbldkegkjaaaGreatDoor
open Go.RowKit
theorem Ab3:mhA.ok=true:=by kernel_rfl
theorem Am3:mhB.ok=true:=by kernel_rfl
theorem Am4:mhC.ok=true:=by kernel_rfl
theorem Am5:mhD.ok=true:=by kernel_rfl
section
variable {s:St} {K:Nat} {pA:Option Addr} {pc:Nat} {A:Option Addr} {cc:Nat} {w:Ag}
def dD (n er:Int) (w:Ag) (e:Ending) (w':Ag):Prop:=Below w.heap.size w w'∧e= .returned (.tuple #[.agg stZ.toArray,Aa Ab n,Aa Ab er])
def Al2 (w:Ag) (e:Ending) (w':Ag):Prop:=Below w.heap.size w w'∧∃t cs,e= .returned (.tuple #[.agg cs.toArray,Aa Ab 2,Aa Ab 0])∧Gs t∧Mq w' cs t∧t.box=⟨3,4,0,1⟩
def Al4 (w:Ag) (e:Ending) (w':Ag):Prop:=Below w.heap.size w w'∧∃g,e= .returned (.tuple #[Ad (some ⟨g,0,none⟩) 2 2,Aa Ab 0])∧w.heap.size≤g∧w'.heap[g]? =some (Obj.cells #[Aa Ab 5,Aa Ab 3] 3 (0,0))
def stV (s:St) (pA:Option Addr) (pc:Nat) (A:Option Addr) (cc:Nat):Ah:= .agg #[Aa Ab s.a,Aa Ab s.b,Ad pA s.cr.length pc,Aa Ac s.root.t,Aa Ab s.root.x,Aa Ab s.root.y,Ad A s.l.length cc]
theorem tA (he:Es 4 1=s) (hrd:Rd w (some ⟨K,0,none⟩) 3 2 (mhA.st.flatMap snC)) (hs:Gs s) (hA:AOk pA s.cr.length pc) (hpr:Rd w pA 3 s.cr.length (crs s.cr)) (hst:Cs w A s.l) (hQ:Qf w) (hT:Tn w):
  Ai Tryz.prog 8 #[.agg #[Aa Ab 8,Aa Ab 16,Aa Ab 1,Ad (some ⟨K,0,none⟩) 2 2],stV s pA pc A cc] w (Al2 w):=by
 refine(Qx mhA s Ab3 (some ⟨K,0,none⟩) 2 2 rfl pA pc A cc w hrd hs hA hpr hst hQ hT).mono ?_;obtain⟨h1,h2,-,h4⟩:=lkA;rw[he]at h1 h2 h4;obtain⟨R,hR⟩:=ey (Em mhA mhA.st s);rw[hR]at h1 h2 h4⊢;rintro e w' ⟨hb,⟨h,-⟩|⟨-,t,cs,hl,rfl,hgt,hin,-⟩⟩
 ·exact absurd h1 h
 ·rw[hl]at h4;exact⟨hb,t,cs,by rw[h2];rfl,hgt,hin,Option.some.inj h4⟩
theorem tW (he:Es 4 1=s) (hrd:Rd w (some ⟨K,0,none⟩) 3 2 (mhA.st.flatMap snC)) (hs:Gs s) (hA:AOk pA s.cr.length pc) (hpr:Rd w pA 3 s.cr.length (crs s.cr)) (hst:Cs w A s.l) (hQ:Qf w) (hT:Tn w):
  Ai Tryz.prog 9 #[.agg #[Aa Ab 8,Aa Ab 16,Aa Ab 1,Ad (some ⟨K,0,none⟩) 2 2],stV s pA pc A cc] w (Al4 w):=by
 refine(Rw mhA s Ab3 (some ⟨K,0,none⟩) 2 2 rfl pA pc A cc w hrd hs hA hpr hst hQ hT).mono ?_;obtain⟨h1,h2,h3,-⟩:=lkA;rw[he]at h1 h2 h3;obtain⟨R,hR⟩:=ey (Em mhA mhA.st s);rw[hR]at h1 h2 h3⊢;rintro e w' ⟨hb,⟨h,-⟩|⟨-,g,rfl,hg,hG⟩⟩
 ·exact absurd h1 h
 ·rw[h3]at hG;exact⟨hb,g,rfl,hg,hG⟩
theorem tX (he:Es 4 1=s) (hrd:Rd w (some ⟨K,0,none⟩) 3 2 (mhA.st.flatMap snC)) (hs:Gs s) (hA:AOk pA s.cr.length pc) (hpr:Rd w pA 3 s.cr.length (crs s.cr)) (hst:Cs w A s.l) (hQ:Qf w) (hT:Tn w):
  Ai Tryz.prog 10 #[.agg #[Aa Ab 8,Aa Ab 16,Aa Ab 1,Ad (some ⟨K,0,none⟩) 2 2],stV s pA pc A cc,Aa Ab 10] w (Cg (.tuple #[Aa Ab 53,Aa Ab 0]) w):=by
 have h:=cL mhA s 10 Ab3 (some ⟨K,0,none⟩) 2 2 rfl pA pc A cc w hrd hs hA hpr hst hQ hT;obtain⟨h1,h2,h3,-⟩:=lkA;rw[he]at h1 h2 h3;obtain⟨R,hR⟩:=ey (Em mhA mhA.st s);rw[hR]at h1 h2 h3 h
 have e:Xe R mhA.st 10=(53,0):=by
  unfold Xe;rw[if_neg (by rw[h1];decide),if_neg (by decide),h3];rfl
 rw[e]at h;exact h
theorem tB (he:Es 4 1=s) (hrd:Rd w (some ⟨K,0,none⟩) 3 2 (mhB.st.flatMap snC)) (hs:Gs s) (hA:AOk pA s.cr.length pc) (hpr:Rd w pA 3 s.cr.length (crs s.cr)) (hst:Cs w A s.l) (hQ:Qf w) (hT:Tn w):
  Ai Tryz.prog 8 #[.agg #[Aa Ab 1,Aa Ab 16,Aa Ab 1,Ad (some ⟨K,0,none⟩) 2 2],stV s pA pc A cc] w (dD 1 16 w):=by
 refine(Qx mhB s Am3 (some ⟨K,0,none⟩) 2 2 rfl pA pc A cc w hrd hs hA hpr hst hQ hT).mono ?_;obtain⟨h1,h2⟩:=lkB;rw[he]at h1 h2;obtain⟨R,hR⟩:=ey (Em mhB mhB.st s);rw[hR]at h1 h2⊢;rintro e w' ⟨hb,⟨-,rfl⟩|⟨h,-⟩⟩
 ·exact⟨hb,by rw[h1,h2];rfl⟩
 ·rw[h1]at h
  cases h
theorem tC (he:Es 4 1=s) (hrd:Rd w (some ⟨K,0,none⟩) 3 2 (mhC.st.flatMap snC)) (hs:Gs s) (hA:AOk pA s.cr.length pc) (hpr:Rd w pA 3 s.cr.length (crs s.cr)) (hst:Cs w A s.l) (hQ:Qf w) (hT:Tn w):
  Ai Tryz.prog 8 #[.agg #[Aa Ab 1,Aa Ab 3,Aa Ab 1,Ad (some ⟨K,0,none⟩) 2 2],stV s pA pc A cc] w (dD 0 3 w):=by
 refine(Qx mhC s Am4 (some ⟨K,0,none⟩) 2 2 rfl pA pc A cc w hrd hs hA hpr hst hQ hT).mono ?_;obtain⟨h1,h2⟩:=lkC;rw[he]at h1 h2;obtain⟨R,hR⟩:=ey (Em mhC mhC.st s);rw[hR]at h1 h2⊢;rintro e w' ⟨hb,⟨-,rfl⟩|⟨h,-⟩⟩
 ·exact⟨hb,by rw[h1,h2];rfl⟩
 ·rw[h1]at h
  cases h
theorem tD (he:Es 4 1=s) (hrd:Rd w (some ⟨K,0,none⟩) 3 1 (mhD.st.flatMap snC)) (hs:Gs s) (hA:AOk pA s.cr.length pc) (hpr:Rd w pA 3 s.cr.length (crs s.cr)) (hst:Cs w A s.l) (hQ:Qf w) (hT:Tn w):
  Ai Tryz.prog 8 #[.agg #[Aa Ab 8,Aa Ab 16,Aa Ab 1,Ad (some ⟨K,0,none⟩) 1 1],stV s pA pc A cc] w (dD 0 7 w):=by
 refine(Qx mhD s Am5 (some ⟨K,0,none⟩) 1 1 rfl pA pc A cc w hrd hs hA hpr hst hQ hT).mono ?_;obtain⟨h1,h2⟩:=lkD;rw[he]at h1 h2;obtain⟨R,hR⟩:=ey (Em mhD mhD.st s);rw[hR]at h1 h2⊢;rintro e w' ⟨hb,⟨-,rfl⟩|⟨h,-⟩⟩
 ·exact⟨hb,by rw[h1,h2];rfl⟩
 ·rw[h1]at h
  cases h
theorem kS (he:Es 1 1=s) (hs:Gs s) (hpr:Rd w pA 3 s.cr.length (crs s.cr)) (hst:Cs w A s.l) (hQ:Qf w) (hT:Tn w):
  Ai Tryz.prog 17 #[stV s pA pc A cc,.agg #[Aa Ac 4,Aa Ab 1,.bool true]] w (Cg (.tuple #[.agg #[Aa Ac 3,Aa Ab 1,Aa Ac 0,.bool true],Aa Ab 0]) w):=by
 have h:=lS s ⟨4,1,true⟩ pA pc A cc w hs hpr hst hQ hT;rw[←he]at h;rw[lkE]at h;rw[he]at h;exact h
end
theorem Do {w:Ag} {s:St} {pA A:Option Addr} {pc cc:Nat} (h:Mq w [Aa Ab s.a,Aa Ab s.b,Ad pA s.cr.length pc,Aa Ac s.root.t,Aa Ab s.root.x,Aa Ab s.root.y,Ad A s.l.length cc] s):AOk pA s.cr.length pc∧Rd w pA 3 s.cr.length (crs s.cr)∧Cs w A s.l:=by
 obtain⟨p,q,r,u,h1,h2,h3,h4⟩:=h.held;obtain⟨⟨rfl,rfl⟩,rfl,rfl⟩:(pA=p∧pc=q)∧A=r∧cc=u:=by simpa using h1
 exact⟨h2,h3,h4⟩
theorem kO (w:Ag):(Op.equalIn 10000 52 (.agg #[Aa Ab 3,Aa Ab 4,Aa Ab 0,Aa Ab 1]) (.agg #[Aa Ab 3,Aa Ab 4,Aa Ab 0,Aa Ab 1])).run Tryz.prog w= .ok true w:=by kernel_rfl
theorem kP (w:Ag):(Op.equalIn 10000 63 (.agg #[Aa Ac 3,Aa Ab 1,Aa Ac 0,.bool true]) (.agg #[Aa Ac 3,Aa Ab 1,Aa Ac 0,.bool true])).run Tryz.prog w= .ok true w:=by kernel_rfl
theorem Am0:Gs (Es 4 1):=(Qe (a:=3) (b:=0) (by omega) (by omega)).2.2
theorem Al9:Gs (Es 1 1):=(Qe (a:=0) (b:=0) (by omega) (by omega)).2.2
theorem lN (w:Ag) (hQ:Qf w) (hT:Tn w):Ai Tryz.prog 11 #[] w (Cg (.bool true) w):=by
 have HF4:=Ae (fun(w':Ag) (hb:Below w.heap.size w w')=>Tu 4 1 w' (by kernel_rfl) (by kernel_rfl) (hQ.below hb) (hT.below hb));have HF1:=Ae (fun(w':Ag) (hb:Below w.heap.size w w')=>Tu 1 1 w' (by kernel_rfl) (by kernel_rfl) (hQ.below hb) (hT.below hb));have HQT:=Ae (fun(w':Ag) (hb:Below w.heap.size w w')=>show Qf w'∧Tn w' from⟨hQ.below hb,hT.below hb⟩);have hgs:=Am0;obtain⟨s,he⟩:=ey (Es 4 1);rw[he]at HF4 hgs;have HE:=Ae he;have HGS:=Ae hgs;have hg1:=Al9;obtain⟨s1,he1⟩:=ey (Es 1 1);rw[he1]at HF1 hg1;have HE1:=Ae he1;have HG1:=Ae hg1;have H:=((Bx.start w).new #[Aa Ac 3,Aa Ab 2,.bool true,Aa Ac 3,Aa Ab 1,.bool false] 56 rfl).new #[Aa Ab 8,Aa Ab 16,Aa Ab 1,Ad (some ⟨w.heap.size,0,none⟩) 2 2] 41 (N:=w.heap.size+1) (by simp);clear hQ hT he hgs he1 hg1;go_enter Tryz.func11,Tryz.ntmps11;go_upto_region 2 with fail;obtain⟨N,hN⟩:=ez w.heap.size;rw[←hN]at H⊢;have HNN:=Ae hN;clear hN;obtain⟨M,hM⟩:=ey (N+1);rw[hM]at H⊢;clear hM;obtain⟨W1,hW1⟩:=ez ((w.alloc (.cells #[Aa Ac 3,Aa Ab 2,.bool true,Aa Ac 3,Aa Ab 1,.bool false] 56)).alloc (.cells #[Aa Ab 8,Aa Ab 16,Aa Ab 1,Ad (some ⟨N,0,none⟩) 2 2] 41));rw[←hW1]at H⊢;clear hW1;have hMW:M<W1.heap.size:=H.lt 1 rfl;go_wp2_with fail;refine(HF4.out _ H.below).mono ?_;rintro ee w2 ⟨cs,rfl,hkp,hb⟩;obtain⟨pA,pc,A,cc,rfl,-,-,-⟩:=hkp.st.held;obtain⟨D,hD⟩:=ey w2.heap.size;have H3:=(H.call hb).new #[Aa Ab s.a,Aa Ab s.b,Ad pA s.cr.length pc,Aa Ac s.root.t,Aa Ab s.root.x,Aa Ab s.root.y,Ad A s.l.length cc] 37 hD;have hk3:=hkp.go (Hi.of ((Below.refl _ _).alloc (Aj _) (.cells #[Aa Ab s.a,Aa Ab s.b,Ad pA s.cr.length pc,Aa Ac s.root.t,Aa Ab s.root.x,Aa Ab s.root.y,Ad A s.l.length cc] 37)));clear hb H hkp HF4;go_upto_region 3 with fail
 try rw[hD]
 obtain⟨W3,hW3⟩:=ez (w2.alloc (.cells #[Aa Ab s.a,Aa Ab s.b,Ad pA s.cr.length pc,Aa Ac s.root.t,Aa Ab s.root.x,Aa Ab s.root.y,Ad A s.l.length cc] 37));rw[←hW3]at H3 hk3⊢;clear hW3;clear hD;obtain⟨⟨m0,m1,m2,m3⟩,-⟩:=Co (H3.blk 1 _ _ _ rfl);obtain⟨a0,a1,a2,a3,a4,a5,a6⟩:=De (H3.blk 2 _ _ _ rfl);have HR:=Ae (tA (cc:=cc) HE.out (Gv (xs:=mhA.st.flatMap snC) (H3.blk 0 _ _ _ rfl) rfl) HGS.out (Do hk3.st).1 (Do hk3.st).2.1 (Do hk3.st).2.2 (HQT.out _ H3.below).1 (HQT.out _ H3.below).2);go_wp2_with fail;refine HR.out.mono ?_;rintro ee w4 ⟨hb,t,ct,rfl,hgt,hin,hbx⟩;obtain⟨pB,pb,B,cb,rfl,-,-,-⟩:=hin.held;obtain⟨E,hE⟩:=ey w4.heap.size;have H4:=(H3.call hb).new #[Aa Ab t.a,Aa Ab t.b,Ad pB t.cr.length pb,Aa Ac t.root.t,Aa Ab t.root.x,Aa Ab t.root.y,Ad B t.l.length cb] 37 hE;have hk4:=(hk3.go (Hi.of hb)).go (Hi.of ((Below.refl _ _).alloc (Aj _) (.cells #[Aa Ab t.a,Aa Ab t.b,Ad pB t.cr.length pb,Aa Ac t.root.t,Aa Ab t.root.x,Aa Ab t.root.y,Ad B t.l.length cb] 37)));have hin4:=hin.below ((Below.refl _ _).alloc (Aj _) (.cells #[Aa Ab t.a,Aa Ab t.b,Ad pB t.cr.length pb,Aa Ac t.root.t,Aa Ab t.root.x,Aa Ab t.root.y,Ad B t.l.length cb] 37));have HGT:=Ae hgt;have HBX:=Ae hbx;clear m0 m1 m2 m3 a0 a1 a2 a3 a4 a5 a6 hb H3 hk3 HR hin hgt hbx;go_upto_region 4 with fail
 try rw[hE]
 obtain⟨W4,hW4⟩:=ez (w4.alloc (.cells #[Aa Ab t.a,Aa Ab t.b,Ad pB t.cr.length pb,Aa Ac t.root.t,Aa Ab t.root.x,Aa Ab t.root.y,Ad B t.l.length cb] 37));rw[←hW4]at H4 hk4 hin4⊢;clear hW4;clear hE;obtain⟨⟨m0,m1,m2,m3⟩,-⟩:=Co (H4.blk 1 _ _ _ rfl);obtain⟨a0,a1,a2,a3,a4,a5,a6⟩:=De (H4.blk 2 _ _ _ rfl);have HR:=Ae (tW (cc:=cc) HE.out (Gv (xs:=mhA.st.flatMap snC) (H4.blk 0 _ _ _ rfl) rfl) HGS.out (Do hk4.st).1 (Do hk4.st).2.1 (Do hk4.st).2.2 (HQT.out _ H4.below).1 (HQT.out _ H4.below).2);go_wp2_with fail;refine HR.out.mono ?_;rintro ee w5 ⟨hb,g,rfl,hge,hG⟩;have H5:=H4.join hb hge hG;have hk5:=hk4.go (Hi.of hb);have hin5:=hin4.below hb;clear m0 m1 m2 m3 a0 a1 a2 a3 a4 a5 a6 hb H4 hk4 HR hin4 hge hG;obtain⟨⟨m0,m1,m2,m3⟩,-⟩:=Co (H5.blk 1 _ _ _ rfl);obtain⟨a0,a1,a2,a3,a4,a5,a6⟩:=De (H5.blk 2 _ _ _ rfl);have HR:=Ae (tX (cc:=cc) HE.out (Gv (xs:=mhA.st.flatMap snC) (H5.blk 0 _ _ _ rfl) rfl) HGS.out (Do hk5.st).1 (Do hk5.st).2.1 (Do hk5.st).2.2 (HQT.out _ H5.below).1 (HQT.out _ H5.below).2);go_wp2_with fail;refine HR.out.mono ?_;rintro ee w6 ⟨rfl,hb⟩;have H6:=H5.call hb;have hk6:=hk5.go (Hi.of hb);have hin6:=hin5.below hb;clear m0 m1 m2 m3 a0 a1 a2 a3 a4 a5 a6 hb H5 hk5 HR hin5;obtain⟨a0,a1,a2,a3,a4,a5,a6⟩:=De (H6.blk 3 _ _ _ rfl);have hbox:=vO t pB pb B cb w6 HGT.out (Do hin6).2.1 (Do hin6).2.2 (HQT.out _ H6.below).1 (HQT.out _ H6.below).2;rw[HBX.out]at hbox;unfold bbV at hbox;dsimp only at hbox;have HR:=Ae hbox;clear hbox;go_wp2_with fail;refine HR.out.mono ?_;rintro ee w7 ⟨rfl,hb⟩;obtain⟨Y,hY⟩:=ey w7.heap.size;have H8:=(H6.call hb).new #[Aa Ab 3,Aa Ab 4,Aa Ab 0,Aa Ab 1] 52 hY;have hk8:=(hk6.go (Hi.of hb)).go (Hi.of ((Below.refl _ _).alloc (Aj _) (.cells #[Aa Ab 3,Aa Ab 4,Aa Ab 0,Aa Ab 1] 52)));clear a0 a1 a2 a3 a4 a5 a6 hb H6 hk6 HR hin6 HGT HBX;go_upto_region 7 with fail
 try rw[hY]
 obtain⟨W8,hW8⟩:=ez (w7.alloc (.cells #[Aa Ab 3,Aa Ab 4,Aa Ab 0,Aa Ab 1] 52));rw[←hW8]at H8 hk8⊢;clear hW8;clear hY;have hq4:=kO;obtain⟨⟨g0,g1⟩,-⟩:=Cu (H8.blk 4 _ _ _ rfl);obtain⟨⟨b0,b1,b2,b3⟩,-⟩:=Co (H8.blk 5 _ _ _ rfl);go_upto_region 9 with fail;clear g0 g1 b0 b1 b2 b3 hq4;have H8:=H8.upto 3;obtain⟨⟨m0,m1,m2,m3⟩,z0,z1,z2,z3⟩:=Co (H8.blk 1 _ _ _ rfl);have H9:=H8.set 1 0 rfl (Aa Ab 1);have hk9:=hk8.go (Hi.set hMW W8 0 (Aa Ab 1));clear H8 hk8;go_upto_region 10 with fail;obtain⟨W9,hW9⟩:=ez (W8.setCell ⟨M,0,none⟩ (Aa Ab 1));rw[←hW9]at H9 hk9⊢;clear hW9;clear m0 m1 m2 m3 z0 z1 z2 z3;obtain⟨⟨m0,m1,m2,m3⟩,-⟩:=Co (H9.blk 1 _ _ _ rfl);obtain⟨a0,a1,a2,a3,a4,a5,a6⟩:=De (H9.blk 2 _ _ _ rfl);have HR:=Ae (tB (cc:=cc) HE.out (Gv (xs:=mhB.st.flatMap snC) (H9.blk 0 _ _ _ rfl) rfl) HGS.out (Do hk9.st).1 (Do hk9.st).2.1 (Do hk9.st).2.2 (HQT.out _ H9.below).1 (HQT.out _ H9.below).2);go_wp2_with fail;refine HR.out.mono ?_;rintro ee w10 ⟨hb,rfl⟩;unfold stZ;dsimp only;obtain⟨E2,hE⟩:=ey w10.heap.size;have H10:=(H9.call hb).new #[Aa Ab 0,Aa Ab 0,Ad none 0 0,Aa Ac 0,Aa Ab 0,Aa Ab 0,Ad none 0 0] 37 hE;have hk10:=(hk9.go (Hi.of hb)).go (Hi.of ((Below.refl _ _).alloc (Aj _) (.cells #[Aa Ab 0,Aa Ab 0,Ad none 0 0,Aa Ac 0,Aa Ab 0,Aa Ab 0,Ad none 0 0] 37)));clear m0 m1 m2 m3 a0 a1 a2 a3 a4 a5 a6 hb H9 hk9 HR;go_upto_region 11 with fail
 try rw[hE]
 obtain⟨W10,hW10⟩:=ez (w10.alloc (.cells #[Aa Ab 0,Aa Ab 0,Ad none 0 0,Aa Ac 0,Aa Ab 0,Aa Ab 0,Ad none 0 0] 37));rw[←hW10]at H10 hk10⊢;clear hW10;clear hE;have H10:=H10.upto 3;obtain⟨⟨m0,m1,m2,m3⟩,z0,z1,z2,z3⟩:=Co (H10.blk 1 _ _ _ rfl);have H11:=H10.set 1 1 rfl (Aa Ab 3);have hk11:=hk10.go (Hi.set hMW W10 1 (Aa Ab 3));clear H10 hk10;go_upto_region 12 with fail;obtain⟨W11,hW11⟩:=ez (W10.setCell ⟨M,1,none⟩ (Aa Ab 3));rw[←hW11]at H11 hk11⊢;clear hW11;clear m0 m1 m2 m3 z0 z1 z2 z3;obtain⟨⟨m0,m1,m2,m3⟩,-⟩:=Co (H11.blk 1 _ _ _ rfl);obtain⟨a0,a1,a2,a3,a4,a5,a6⟩:=De (H11.blk 2 _ _ _ rfl);have HR:=Ae (tC (cc:=cc) HE.out (Gv (xs:=mhC.st.flatMap snC) (H11.blk 0 _ _ _ rfl) rfl) HGS.out (Do hk11.st).1 (Do hk11.st).2.1 (Do hk11.st).2.2 (HQT.out _ H11.below).1 (HQT.out _ H11.below).2);go_wp2_with fail;refine HR.out.mono ?_;rintro ee w12 ⟨hb,rfl⟩;unfold stZ;dsimp only;obtain⟨E3,hE⟩:=ey w12.heap.size;have H12:=(H11.call hb).new #[Aa Ab 0,Aa Ab 0,Ad none 0 0,Aa Ac 0,Aa Ab 0,Aa Ab 0,Ad none 0 0] 37 hE;have hk12:=(hk11.go (Hi.of hb)).go (Hi.of ((Below.refl _ _).alloc (Aj _) (.cells #[Aa Ab 0,Aa Ab 0,Ad none 0 0,Aa Ac 0,Aa Ab 0,Aa Ab 0,Ad none 0 0] 37)));clear m0 m1 m2 m3 a0 a1 a2 a3 a4 a5 a6 hb H11 hk11 HR;go_upto_region 13 with fail
 try rw[hE]
 obtain⟨W12,hW12⟩:=ez (w12.alloc (.cells #[Aa Ab 0,Aa Ab 0,Ad none 0 0,Aa Ac 0,Aa Ab 0,Aa Ab 0,Ad none 0 0] 37));rw[←hW12]at H12 hk12⊢;clear hW12;clear hE;have H12:=H12.upto 3;obtain⟨K2,hK2⟩:=ey W12.heap.size;have H12:=H12.new #[Aa Ac 0,Aa Ab 1,.bool true] 56 hK2;obtain⟨⟨m0,m1,m2,m3⟩,z0,z1,z2,z3⟩:=Co (H12.blk 1 _ _ _ rfl);have H13:=((((H12).set 1 0 rfl (Aa Ab 8)).set 1 1 rfl (Aa Ab 16)).set 1 2 rfl (Aa Ab 1)).set 1 3 rfl (Ad (some ⟨K2,0,none⟩) 1 1);have hk13:=((((hk12.go (Hi.of ((Below.refl _ _).alloc (Aj _) (.cells #[Aa Ac 0,Aa Ab 1,.bool true] 56)))).go (Hi.set hMW _ 0 (Aa Ab 8))).go (Hi.set hMW _ 1 (Aa Ab 16))).go (Hi.set hMW _ 2 (Aa Ab 1))).go (Hi.set hMW _ 3 (Ad (some ⟨K2,0,none⟩) 1 1));clear H12 hk12;go_upto_region 14 with fail
 try rw[hK2]
 obtain⟨W13,hW13⟩:=ez (((((W12.alloc (.cells #[Aa Ac 0,Aa Ab 1,.bool true] 56)).setCell ⟨M,0,none⟩ (Aa Ab 8)).setCell ⟨M,1,none⟩ (Aa Ab 16)).setCell ⟨M,2,none⟩ (Aa Ab 1)).setCell ⟨M,3,none⟩ (Ad (some ⟨K2,0,none⟩) 1 1));rw[←hW13]at H13 hk13⊢;clear hW13;clear hK2 m0 m1 m2 m3 z0 z1 z2 z3;obtain⟨⟨m0,m1,m2,m3⟩,-⟩:=Co (H13.blk 1 _ _ _ rfl);obtain⟨a0,a1,a2,a3,a4,a5,a6⟩:=De (H13.blk 2 _ _ _ rfl);have HR:=Ae (tD (cc:=cc) HE.out (Gv (xs:=mhD.st.flatMap snC) (H13.blk 3 _ _ _ rfl) rfl) HGS.out (Do hk13.st).1 (Do hk13.st).2.1 (Do hk13.st).2.2 (HQT.out _ H13.below).1 (HQT.out _ H13.below).2);go_wp2_with fail;refine HR.out.mono ?_;rintro ee w14 ⟨hb,rfl⟩;unfold stZ;dsimp only;obtain⟨E4,hE⟩:=ey w14.heap.size;have H14:=(H13.call hb).new #[Aa Ab 0,Aa Ab 0,Ad none 0 0,Aa Ac 0,Aa Ab 0,Aa Ab 0,Ad none 0 0] 37 hE;have hk14:=(hk13.go (Hi.of hb)).go (Hi.of ((Below.refl _ _).alloc (Aj _) (.cells #[Aa Ab 0,Aa Ab 0,Ad none 0 0,Aa Ac 0,Aa Ab 0,Aa Ab 0,Ad none 0 0] 37)));clear m0 m1 m2 m3 a0 a1 a2 a3 a4 a5 a6 hb H13 hk13 HR;go_upto_region 15 with fail
 try rw[hE]
 obtain⟨W14,hW14⟩:=ez (w14.alloc (.cells #[Aa Ab 0,Aa Ab 0,Ad none 0 0,Aa Ac 0,Aa Ab 0,Aa Ab 0,Ad none 0 0] 37));rw[←hW14]at H14 hk14⊢;clear hW14;clear hE;have H14:=H14.upto 0;clear hk14;go_wp2_with fail;refine(HF1.out _ H14.below).mono ?_;rintro ee w15 ⟨cs1,rfl,hkp,hb⟩;obtain⟨pC,qC,C,cC,rfl,-,-,-⟩:=hkp.st.held;have H15:=H14.call hb;have HR:=Ae (kS (pc:=qC) (cc:=cC) HE1.out HG1.out (Do hkp.st).2.1 (Do hkp.st).2.2 (HQT.out _ H15.below).1 (HQT.out _ H15.below).2);clear hb H14 hkp HF1;go_wp2_with fail;refine HR.out.mono ?_;rintro ee w16 ⟨rfl,hb⟩;obtain⟨F,hF⟩:=ey w16.heap.size;have H16:=(H15.call hb).new #[Aa Ac 3,Aa Ab 1,Aa Ac 0,.bool true] 63 hF;clear hb H15 HR;go_upto_region 16 with fail
 try rw[hF]
 obtain⟨W16,hW16⟩:=ez (w16.alloc (.cells #[Aa Ac 3,Aa Ab 1,Aa Ac 0,.bool true] 63));rw[←hW16]at H16⊢;clear hW16;clear hF;have hqF:=kP;obtain⟨⟨f0,f1,f2,f3⟩,-⟩:=Co (H16.blk 0 _ _ _ rfl);have HF:=Ae H16.below;clear H16;go_wp2_with fail;go_ret;exact⟨rfl,HF.out⟩
def k3C (t:Nat×Nat×Nat):List Ah:=[Aa Ac t.1,Aa Ac t.2.1,Aa Ac t.2.2]
def snK (c:Nat) (t:Nat×Nat×Nat):Sn:=⟨t.1%8,(c:Int)+((t.2.1%6:Nat):Int),t.2.2%2==1⟩
def qV (x y z:Nat) (ks:List (Nat×Nat×Nat)):Mh:=⟨1+(x:Int),1+(y:Int),1+((z%3:Nat):Int),(ks.take 5).map (snK (1+z%3))⟩
def cY (h:Mh) (w:Ag) (e:Ending) (w':Ag):Prop:=∃A c,e= .returned (.agg #[Aa Ab h.a,Aa Ab h.b,Aa Ab h.c,Ad A h.st.length c])∧w'.ownsRow w.heap.size 56 3 (Ad A h.st.length c) h.st.length (h.st.flatMap snC)∧Below w.heap.size w w'
theorem Aa5:(Tryz.prog.info? 56).map (fun i=>(i.zero,i.size,i.bytes))=some (some (.agg #[Aa Ac 0,Aa Ab 0,.bool false]),3,24):=by kernel_rfl
theorem Ai1 {w:Ag} {A:Option Addr} {l:List (Nat×Nat×Nat)} {n:Nat} (h:Rd w A 3 n (l.flatMap k3C)) (i:Nat) (hi:i<l.length):
  ∃b o,A=some ⟨b,o,none⟩∧w.cell? ⟨b,o+i*3,none⟩=some (Aa Ac (l[i].1:Int))∧w.cell? ⟨b,o+i*3+1,none⟩=some (Aa Ac (l[i].2.1:Int))∧w.cell? ⟨b,o+i*3+2,none⟩=some (Aa Ac (l[i].2.2:Int)):=by
 have hl:=h.1;rw[Dl k3C 3 (fun _=>rfl)]at hl;obtain⟨b,o,e,-,hc⟩:=h.2 (by omega);have hat:∀f,f<3→(l.flatMap k3C)[i*3+f]? =(k3C l[i])[f]? :=fun f hf=>Dc k3C 3 (fun _=>rfl) _ i f hi hf;exact⟨b,o,e,hc (i*3+0) _ ((hat 0 (by omega)).trans rfl),hc (i*3+1) _ ((hat 1 (by omega)).trans rfl),hc (i*3+2) _ ((hat 2 (by omega)).trans rfl)⟩
def kfL (N M x y z q n c k:Nat) (pA A:Option Addr) (c1:Nat):List (Nat×Array Ah×TypeId):=
 [(N,#[Aa Ac x,Aa Ac y,Aa Ac z,Ad pA n c],27),(N+1,#[Aa Ab 0,Aa Ab 0,Aa Ab 0,Ad none 0 0],41),(M,#[Aa Ab (1+(x:Int)),Aa Ab (1+(y:Int)),Aa Ab (1+(q:Int)),Ad A k c1],41)]
def KfI (w:Ag) (N M x y z q n c:Nat) (pA:Option Addr) (ks:List (Nat×Nat×Nat)) (k:Nat) (A:Option Addr) (c1:Nat) (wr:Ag):Prop:=
 Bx w (kfL N M x y z q n c k pA A c1) wr∧wr.ownsRow (M+1) 56 3 (Ad A k c1) k (((ks.take k).map (snK (1+q))).flatMap snC)
theorem wQ (x y z:Nat) (hx:x≤255) (hy:y≤255) (ks:List (Nat×Nat×Nat)) (n:Nat) (hn:n=ks.length) (hnm:n≤maxLen) (pA:Option Addr) (c:Nat) (w:Ag) (hrd:Rd w pA 3 n (ks.flatMap k3C)):
  Ai Tryz.prog 7 #[.agg #[Aa Ac x,Aa Ac y,Aa Ac z,Ad pA n c]] w (cY (qV x y z ks) w):=by
 have tz:(z:Int).tmod 3=((z%3:Nat):Int):=rfl;unfold qV;obtain⟨q,hq⟩:=ey (z%3);have hq2:q≤2:=by omega
 rw[hq]at tz⊢;obtain⟨SL,hSL⟩:=ey ((ks.take 5).map (snK (1+q)));rw[hSL];have HSL:=Ae hSL;have HRD:=Ae (fun(w':Ag) (hb:Below w.heap.size w w')=>hrd.below hb);have HN:=Ae hn;unfold maxLen at hnm;have H:=((Bx.start w).new #[Aa Ac x,Aa Ac y,Aa Ac z,Ad pA n c] 27 rfl).new #[Aa Ab 0,Aa Ab 0,Aa Ab 0,Ad none 0 0] 41 (N:=w.heap.size+1) (by simp);clear hq hn hrd hSL;go_enter Tryz.func7,Tryz.ntmps7;go_upto_region 1 with fail;obtain⟨N,hN⟩:=ez w.heap.size;rw[←hN]at H⊢;have HNN:=Ae hN;clear hN;obtain⟨W1,hW1⟩:=ez ((w.alloc (.cells #[Aa Ac x,Aa Ac y,Aa Ac z,Ad pA n c] 27)).alloc (.cells #[Aa Ab 0,Aa Ab 0,Aa Ab 0,Ad none 0 0] 41));rw[←hW1]at H⊢;clear hW1;obtain⟨⟨a0,a1,a2,a3⟩,-⟩:=Co (H.blk 0 _ _ _ rfl);obtain⟨M,hM⟩:=ey W1.heap.size;have HNM:Hid (N+1<M):=Ae (by have:=H.lt 1 rfl;omega);have H2:=H.new #[Aa Ab (1+(x:Int)),Aa Ab (1+(y:Int)),Aa Ab (1+(q:Int)),Ad none 0 0] 41 hM;go_upto_region 2 with fail
 try rw[hM]
 obtain⟨W2,hW2⟩:=ez (W1.alloc (.cells #[Aa Ab (1+(x:Int)),Aa Ab (1+(y:Int)),Aa Ab (1+(q:Int)),Ad none 0 0] 41));rw[←hW2]at H2⊢;clear hW2;clear H a0 a1 a2 a3 hM;have HI0:Hid (KfI w N M x y z q n c pA ks 0 none 0 W2):=Ae ⟨H2,⟨rfl,.inl ⟨rfl,rfl⟩⟩⟩;clear H2;go_wp2_with fail
 go_loopw [4] (fun s4 wr=>∃k:Nat,k≤5∧k≤n∧s4= Aa Ab k∧Hid (∃A c1,KfI w N M x y z q n c pA ks k A c1 wr)) (fun s4 _=>5-(intOf s4).toNat)
 case atStart=>exact⟨0,by omega,by omega,rfl,Ae ⟨none,0,HI0.out⟩⟩
 case round=>
  obtain⟨k,hk5,hkn,rfl,HZ⟩:=hrel;clear HI0;obtain⟨A,c1,hI⟩:=HZ.out;have HI:=Ae hI;have hB:=hI.1;unfold kfL at hB;clear HZ hI;obtain⟨⟨a0,a1,a2,a3⟩,-⟩:=Co (hB.blk 0 _ _ _ rfl);by_cases hlt:k<n∧k<5
  ·have q0:(k:Int)<(n:Int):=by omega
   have q6:(k:Int)<5:=by omega
   have hkl:k<ks.length:=by have:=HN.out;omega
   obtain⟨kb,ko,hpA,d0,d1,d2⟩:=Ai1 (HRD.out _ hB.below) k hkl;have hts:ks.take (k+1)=ks.take k++[ks[k]]:=Ax hkl;obtain⟨⟨t0,t1,t2⟩,ht⟩:=ey (ks[k]);rw[ht]at d0 d1 d2 hts;dsimp only at d0 d1 d2;have HTS:=Ae hts;subst hpA;obtain⟨D,hD⟩:=ey wr.heap.size;have H5:=hB.new #[Aa Ac t0,Aa Ac t1,Aa Ac t2] 86 hD;have ho5:=HI.out.2.alloc (.cells #[Aa Ac t0,Aa Ac t1,Aa Ac t2] 86);clear hkl hts ht hB HI;go_upto_region 6 with fail
   try rw[hD]
   obtain⟨W5,hW5⟩:=ez (wr.alloc (.cells #[Aa Ac t0,Aa Ac t1,Aa Ac t2] 86));rw[←hW5]at H5 ho5⊢;clear hW5;clear d0 d1 d2 a0 a1 a2 a3 hD;have e0:(t0:Int).tmod 8=((t0%8:Nat):Int):=rfl;have e1:(t1:Int).tmod 6=((t1%6:Nat):Int):=rfl;have e2:(t2:Int).tmod 2=((t2%2:Nat):Int):=rfl
   have hsn:snC (snK (1+q) (t0,t1,t2))=[Aa Ac (t0%8:Nat),Aa Ab (1+(q:Int)+((t1%6:Nat):Int)),.bool (t2%2==1)]:=by
    simp[snC,snK]
   obtain⟨r0,hr0⟩:=ey (t0%8);obtain⟨r1,hr1⟩:=ey (t1%6);obtain⟨r2,hr2⟩:=ey (t2%2);have b0:r0≤7:=by omega
   have b1:r1≤5:=by omega
   have eob:((r2:Int)==1)=(r2==1):=by
    obtain rfl|rfl:r2=0∨r2=1:=by omega
    all_goals rfl
   rw[hr0]at e0 hsn;rw[hr1]at e1 hsn;rw[hr2]at e2 hsn;obtain⟨ob,hob⟩:=ey ((r2==1));rw[hob]at eob hsn;clear hr0 hr1 hr2 hob;have HSN:=Ae hsn;obtain⟨⟨m0,m1,m2,m3⟩,-⟩:=Co (H5.blk 2 _ _ _ rfl);obtain⟨⟨g0,g1,g2⟩,-⟩:=Ci (H5.blk 3 _ _ _ rfl);have hMs:M+1≤W5.heap.size:=H5.lt 2 rfl;have hwM:w.heap.size≤M+1:=Nat.le_succ_of_le (H5.lo 2 _ _ _ rfl);obtain⟨A',c',w6,hrun,ho6,-,hg6,-,-⟩:=Pa (sl:=39) Tryz.underlying39 Aa5 rfl (by decide) (by decide) W5 (M+1) k (Ad A k c1) _ ho5 hMs (by omega) [Aa Ac r0,Aa Ab (1+(q:Int)+(r1:Int)),.bool ob] rfl (by simp[Value.oneCell'])
   have hB6:=(H5.upto 3).grown hg6 (fun u hu=>by
    rcases Bh.1 hu with rfl|hu
    ·exact Ip ho5 (H5.blk 0 _ _ _ rfl) (by decide)
    ·rcases Bh.1 hu with rfl|hu
     ·exact Ip ho5 (H5.blk 1 _ _ _ rfl) (by decide)
     ·obtain rfl:=List.mem_singleton.1 hu;exact Ip ho5 (H5.blk 2 _ _ _ rfl) (by decide)) (fun g hg=>Bo hwM (ho5.lt g hg).1)
   have hMl:M<M+1:=Nat.lt_succ_self _;obtain⟨⟨n0,n1,n2,n3⟩,-,-,-,z3⟩:=Co (hB6.blk 2 _ _ _ rfl);have HRUN:=Ae hrun
   have HNW:Hid (∃A c1,KfI w N M x y z q n c (some ⟨kb,ko,none⟩) ks (k+1) A c1 (w6.setCell ⟨M,3,none⟩ (Ad A' (k+1) c'))):=Ae ⟨A',c',hB6.set 2 3 rfl (Ad A' (k+1) c'),by
    rw[HTS.out,List.map_append,Bf];have h:=Cn ho6 hMl 3 (Ad A' (k+1) c');rw[←HSN.out]at h;simpa using h⟩
   clear hsn hrun ho6 hg6 hB6 ho5 H5 hMs hwM;go_wp2_with (at_builtin;refine Ap _ rfl _ _ _ _ rfl _ _ rfl rfl _ _ HRUN.out ?_);clear m0 m1 m2 m3 g0 g1 g2;go_wp2_with fail;exact⟨⟨k+1,by omega,by omega,by go_num,HNW⟩,by simp[intOf];omega⟩
  ·obtain⟨W3,rfl⟩:=ez wr
   have htk:ks.take k=ks.take 5:=by
    by_cases h5:k=5
    ·rw[h5]
    ·rw[Bc (by have:=HN.out;omega),Bc (by have:=HN.out;omega)]
   have ho:=HI.out.2;rw[htk,HSL.out]at ho;obtain⟨⟨m0,m1,m2,m3⟩,-⟩:=Co (hB.blk 2 _ _ _ rfl);obtain⟨⟨u0,u1,u2,u3⟩,z0,z1,z2,z3⟩:=Co (hB.blk 1 _ _ _ rfl);have hNM:=HNM.out;have hlt2:N+1<M+1:=by omega
   have hne:N+1≠M:=by omega
   have hwM:w.heap.size≤M+1:=Nat.le_succ_of_le (hB.lo 2 _ _ _ rfl);have HB9:=Ae ((((hB.set 1 0 rfl (Aa Ab (1+(x:Int)))).set 1 1 rfl (Aa Ab (1+(y:Int)))).set 1 2 rfl (Aa Ab (1+(q:Int)))).set 1 3 rfl (Ad A k c1));have ho9:=Dr (Cn (Cn (Cn (Cn ho hlt2 0 (Aa Ab (1+(x:Int)))) hlt2 1 (Aa Ab (1+(y:Int)))) hlt2 2 (Aa Ab (1+(q:Int)))) hlt2 3 (Ad A k c1)) hwM
   have hlk:SL.length=k:=by
    rw[←HSL.out,Bk,←htk,Bj];have:=HN.out;omega
   have HF:Hid (cY ⟨1+(x:Int),1+(y:Int),1+(q:Int),SL⟩ w (.returned (.agg #[Aa Ab (1+(x:Int)),Aa Ab (1+(y:Int)),Aa Ab (1+(q:Int)),Ad A k c1])) ((((W3.setCell ⟨N+1,0,none⟩ (Aa Ab (1+(x:Int)))).setCell ⟨N+1,1,none⟩ (Aa Ab (1+(y:Int)))).setCell ⟨N+1,2,none⟩ (Aa Ab (1+(q:Int)))).setCell ⟨N+1,3,none⟩ (Ad A k c1))):=Ae ⟨A,c1,by dsimp only;rw[hlk],by dsimp only;rw[hlk];exact ho9,HB9.out.below⟩;by_cases hk:k<n
   ·have q0:(k:Int)<(n:Int):=by omega
    have q6:¬(k:Int)<5:=by omega
    clear hB HI hlt htk ho ho9 hlk hwM hNM hlt2;go_wp2_with fail;exact Af (Dg rfl rfl (HB9.out.range 1 rfl) Tryz.underlying41 rfl (by kernel_rfl)) rfl HF.out
   ·have q0:¬(k:Int)<(n:Int):=by omega
    clear hB HI hlt htk ho ho9 hlk hwM hNM hlt2;go_wp2_with fail;exact Af (Dg rfl rfl (HB9.out.range 1 rfl) Tryz.underlying41 rfl (by kernel_rfl)) rfl HF.out
def LwS (us:List Nat) (w:Ag) (cs:List Ah) (s:St):Prop:=∃Q,StQ 0 Q w cs s∧∀u∈us,¬Q u
theorem LwS.of {us:List Nat} {b:Nat} {w:Ag} {cs:List Ah} {s:St} (h:La b w cs s) (hu:∀u∈us,u<b):LwS us w cs s:=
 ⟨_,StQ.of h (Nat.zero_le _),fun u hm hq=>by have:=hu u hm;omega⟩
theorem LwS.below {us:List Nat} {w w':Ag} {cs:List Ah} {s:St} (h:LwS us w cs s) (hb:Below w.heap.size w w'):LwS us w' cs s:=by
 obtain⟨Q,h1,h2⟩:=h;exact⟨Q,h1.below hb,h2⟩
theorem LwS.more {us:List Nat} {w:Ag} {cs:List Ah} {s:St} (h:LwS us w cs s) {u:Nat} (hu:w.heap.size≤u):LwS (u::us) w cs s:=by
 obtain⟨Q,h1,h2⟩:=h;refine⟨Q,h1,fun v hv hq=>?_⟩;rcases Bh.1 hv with rfl|hv
 ·have:=h1.lt _ hq;omega
 ·exact h2 v hv hq
theorem LwS.sub {us vs:List Nat} {w:Ag} {cs:List Ah} {s:St} (h:LwS us w cs s) (hs:∀v∈vs,v∈us):LwS vs w cs s:=by
 obtain⟨Q,h1,h2⟩:=h;exact⟨Q,h1,fun v hv=>h2 v (hs v hv)⟩
theorem LwS.put {us:List Nat} {w:Ag} {cs:List Ah} {s:St} (h:LwS us w cs s) {u:Nat} (hu:u∈us) (v0 v1 v2 v3 v4 v5 v6:Ah):LwS us (put7 w u v0 v1 v2 v3 v4 v5 v6) cs s:=by
 obtain⟨Q,h1,h2⟩:=h;exact⟨Q,h1.go (by rw[Jz];exact Aj _) fun k hk=>Dz (fun e=>by subst e;exact h2 _ hu hk) ..,h2⟩
theorem LwS.set {us:List Nat} {w:Ag} {cs:List Ah} {s:St} (h:LwS us w cs s) {u:Nat} (hu:u∈us) (j:Nat) (v:Ah):LwS us (w.setCell ⟨u,j,none⟩ v) cs s:=by
 obtain⟨Q,h1,h2⟩:=h;exact⟨Q,h1.go (by simp) fun k hk=>Below.heap_setCell w ⟨u,j,none⟩ v k (fun e=>by have e2:k=u:=e;subst e2;exact h2 _ hu hk),h2⟩
theorem LwS.st {us:List Nat} {w:Ag} {cs:List Ah} {s:St} (h:LwS us w cs s):Mq w cs s:=by
 obtain⟨Q,h1,-⟩:=h;exact h1.st w (Aj _) fun _ _=>rfl
theorem Qu {w:Ag} {M e sz n g:Nat} {v:Ah} {xs:List Ah} {cs:Array Ah} {t:TypeId} (h:w.ownsRow M e sz v n xs) (hg:w.heap[g]? =some (Obj.cells cs t (0,0))) (hne:t≠e) (j:Nat) (u:Ah):(w.setCell ⟨g,j,none⟩ u).ownsRow M e sz v n xs:=
 ⟨h.1,h.2.imp id fun⟨g',cap,cur,r1,r2,r3,r⟩=>⟨g',cap,cur,r1,r2,(Below.heap_setCell w ⟨g,j,none⟩ u g' (fun e2=>by
  have e3:g'=g:=e2;subst e3;rw[hg]at r3;injection r3 with r3;injection r3 with _ r4 _;exact hne r4)).trans r3,r⟩⟩
theorem Lt {w:Ag} {M e sz n g:Nat} {v:Ah} {xs:List Ah} {cs:Array Ah} {t:TypeId} (h:w.ownsRow M e sz v n xs) (hg:w.heap[g]? =some (Obj.cells cs t (0,0))) (hne:t≠e) (v0 v1 v2 v3 v4 v5 v6:Ah):(put7 w g v0 v1 v2 v3 v4 v5 v6).ownsRow M e sz v n xs:=
 ⟨h.1,h.2.imp id fun⟨g',cap,cur,r1,r2,r3,r⟩=>⟨g',cap,cur,r1,r2,(Dz (fun e2=>by
  subst e2;rw[hg]at r3;injection r3 with r3;injection r3 with _ r4 _;exact hne r4) ..).trans r3,r⟩⟩
theorem Aa7 (x y z:Nat) (hx:x≤255) (hy:y≤255) (ks:List (Nat×Nat×Nat)):(qV x y z ks).ok=true:=by
 rw[Mh.ok_iff];unfold qV;refine⟨?_,⟨?_,?_,?_,?_,?_,?_⟩,fun t ht=>?_⟩
 ·rw[Bk,Bj];omega
 any_goals dsimp only
 any_goals omega
 obtain⟨u,-,rfl⟩:=List.mem_map.1 ht;unfold snK;dsimp only;omega
theorem Wc (m:Mh) (l:List Sn) (s:St):(Em m l s).1[0]? =some s:=by
 cases l with
 |nil=>rfl
 |cons t r=>
  cases hd:(Hd m s t).2 with
  |none=>rw[Ju hd];rfl
  |some s'=>rw[Jv hd];rfl
theorem Ae8 {m:Mh} {s s':St} {t:Sn} (h:(Hd m s t).2=some s'):s.do (Hl s.box t)=(0,some s'):=by
 unfold Hd at h
 split at h
 ·cases h
 ·split at h
  ·cases h
  ·have h1:=(Qd h).2.1;obtain⟨p,q⟩:=ey (s.do (Hl s.box t));rw[q]at h h1⊢;obtain⟨a,b⟩:=p;dsimp only at h h1;rw[h,h1]
theorem Wa {m:Mh}:∀{l:List Sn} {s:St},Gs s→(Em m l s).2=0→∀(k:Nat) (hk:k<l.length),∃a b,(Em m l s).1[k]? =some a∧(Em m l s).1[k+1]? =some b∧Gs a∧Gs b∧a.do (Hl a.box l[k])=(0,some b)
 |[],_,_,_,k,hk=>absurd hk (Nat.not_lt_zero _)
 |t::r,s,hg,h,k,hk=>by
  cases hd:(Hd m s t).2 with
  |none=>
   rw[Ju hd]at h;exact absurd h (gQ hd)
  |some s'=>
   have hg':=(gR hg hd).1;rw[Jv hd]at h⊢;dsimp only at h⊢
   cases k with
   |zero=>exact⟨s,s',rfl,by rw[List.getElem?_cons_succ];exact Wc m r s',hg,hg',Ae8 hd⟩
   |succ k=>
    obtain⟨a,b,h1,h2,h3⟩:=Wa hg' h k (by simpa using hk);exact⟨a,b,by rw[List.getElem?_cons_succ];exact h1,by rw[List.getElem?_cons_succ];exact h2,h3⟩
theorem qX (l r d u p:Int) (o:Bool) (w:Ag) (h: -20000<d∧d<20000) (hp:1≤p∧p≤512):
  Ai Tryz.prog 14 #[.agg #[Aa Ab l,Aa Ab r,Aa Ab d,Aa Ab u],.agg #[Aa Ac 0,Aa Ab p,.bool o]] w (Cg (.agg #[Aa Ac 2,Aa Ab (d+p),Aa Ac 0,.bool o]) w):=by
 have H:=(((Bx.start w).new #[Aa Ab l,Aa Ab r,Aa Ab d,Aa Ab u] 52 rfl).new #[Aa Ac 0,Aa Ab p,.bool o] 56 (N:=w.heap.size+1) (by simp)).new #[Aa Ac 0,Aa Ab 0,Aa Ac 0,.bool false] 63 (N:=w.heap.size+1+1) (by simp);have e1:wrap64 (d+p)=d+p:=Bw _ (by omega);clear h hp;go_enter Tryz.func14,Tryz.ntmps14;go_upto_region 1 with fail;obtain⟨N,hN⟩:=ez w.heap.size;rw[←hN]at H⊢;have HNN:=Ae hN;clear hN;obtain⟨P,hP⟩:=ey (N+1);obtain⟨R,hR⟩:=ey (P+1);rw[hP,hR]at H⊢;clear hP hR;obtain⟨W1,hW1⟩:=ez (((w.alloc (.cells #[Aa Ab l,Aa Ab r,Aa Ab d,Aa Ab u] 52)).alloc (.cells #[Aa Ac 0,Aa Ab p,.bool o] 56)).alloc (.cells #[Aa Ac 0,Aa Ab 0,Aa Ac 0,.bool false] 63));rw[←hW1]at H⊢;clear hW1;obtain⟨⟨b0,b1,b2,b3⟩,-⟩:=Co (H.blk 0 _ _ _ rfl)
 go_quiet (fail)
 have H2:=H.drewN nq;obtain⟨W2,hW2⟩:=ez (W1.drewN nq);rw[←hW2]at H2⊢;clear hW2;clear H b0 b1 b2 b3;obtain⟨⟨c0,c1,c2⟩,-⟩:=Ci (H2.blk 1 _ _ _ rfl);obtain⟨F,hF⟩:=ey W2.heap.size;have H3:=H2.new #[Aa Ac 0,Aa Ab 0,Aa Ac 0,.bool o] 63 hF;clear H2;go_upto_region 3 with fail
 try rw[hF]
 obtain⟨W3,hW3⟩:=ez (W2.alloc (.cells #[Aa Ac 0,Aa Ab 0,Aa Ac 0,.bool o] 63));rw[←hW3]at H3⊢;clear hW3;clear hF c0 c1 c2;obtain⟨⟨c0,c1,c2⟩,-⟩:=Ci (H3.blk 1 _ _ _ rfl);obtain⟨⟨f0,f1,f2,f3⟩,x0,x1,x2,x3⟩:=Co (H3.blk 3 _ _ _ rfl);obtain⟨⟨g0,g1,g2,g3⟩,z0,z1,z2,z3⟩:=Co (H3.blk 2 _ _ _ rfl);have n1:R≠F:=H3.ne 2 3 (by decide) rfl rfl;have n2:P≠F:=H3.ne 1 3 (by decide) rfl rfl;have H4:=(H3.set 3 0 rfl (Aa Ac 2)).set 3 1 rfl (Aa Ab (d+p));have H9:=Ae ((((H4.set 2 0 rfl (Aa Ac 2)).set 2 1 rfl (Aa Ab (d+p))).set 2 2 rfl (Aa Ac 0)).set 2 3 rfl (.bool o));clear H3 H4;go_wp2_with fail;exact Af (Dg rfl rfl (H9.out.range 2 rfl) Tryz.underlying63 rfl (by kernel_rfl)) rfl ⟨rfl,H9.out.below⟩
theorem qY (l r d u p:Int) (o:Bool) (w:Ag) (h: -20000<r∧r<20000) (hp:1≤p∧p≤512):
  Ai Tryz.prog 14 #[.agg #[Aa Ab l,Aa Ab r,Aa Ab d,Aa Ab u],.agg #[Aa Ac 1,Aa Ab p,.bool o]] w (Cg (.agg #[Aa Ac 1,Aa Ab (r-p),Aa Ac 1,.bool o]) w):=by
 have H:=(((Bx.start w).new #[Aa Ab l,Aa Ab r,Aa Ab d,Aa Ab u] 52 rfl).new #[Aa Ac 1,Aa Ab p,.bool o] 56 (N:=w.heap.size+1) (by simp)).new #[Aa Ac 0,Aa Ab 0,Aa Ac 0,.bool false] 63 (N:=w.heap.size+1+1) (by simp);have e1:wrap64 (r-p)=r-p:=Bw _ (by omega);clear h hp;go_enter Tryz.func14,Tryz.ntmps14;go_upto_region 1 with fail;obtain⟨N,hN⟩:=ez w.heap.size;rw[←hN]at H⊢;have HNN:=Ae hN;clear hN;obtain⟨P,hP⟩:=ey (N+1);obtain⟨R,hR⟩:=ey (P+1);rw[hP,hR]at H⊢;clear hP hR;obtain⟨W1,hW1⟩:=ez (((w.alloc (.cells #[Aa Ab l,Aa Ab r,Aa Ab d,Aa Ab u] 52)).alloc (.cells #[Aa Ac 1,Aa Ab p,.bool o] 56)).alloc (.cells #[Aa Ac 0,Aa Ab 0,Aa Ac 0,.bool false] 63));rw[←hW1]at H⊢;clear hW1;obtain⟨⟨b0,b1,b2,b3⟩,-⟩:=Co (H.blk 0 _ _ _ rfl)
 go_quiet (fail)
 have H2:=H.drewN nq;obtain⟨W2,hW2⟩:=ez (W1.drewN nq);rw[←hW2]at H2⊢;clear hW2;clear H b0 b1 b2 b3;obtain⟨⟨c0,c1,c2⟩,-⟩:=Ci (H2.blk 1 _ _ _ rfl);obtain⟨F,hF⟩:=ey W2.heap.size;have H3:=H2.new #[Aa Ac 0,Aa Ab 0,Aa Ac 0,.bool o] 63 hF;clear H2;go_upto_region 3 with fail
 try rw[hF]
 obtain⟨W3,hW3⟩:=ez (W2.alloc (.cells #[Aa Ac 0,Aa Ab 0,Aa Ac 0,.bool o] 63));rw[←hW3]at H3⊢;clear hW3;clear hF c0 c1 c2;obtain⟨⟨c0,c1,c2⟩,-⟩:=Ci (H3.blk 1 _ _ _ rfl);obtain⟨⟨f0,f1,f2,f3⟩,x0,x1,x2,x3⟩:=Co (H3.blk 3 _ _ _ rfl);obtain⟨⟨g0,g1,g2,g3⟩,z0,z1,z2,z3⟩:=Co (H3.blk 2 _ _ _ rfl);have n1:R≠F:=H3.ne 2 3 (by decide) rfl rfl;have n2:P≠F:=H3.ne 1 3 (by decide) rfl rfl;have H4:=(H3.set 3 0 rfl (Aa Ac 1)).set 3 1 rfl (Aa Ab (r-p));have H4:=H4.set 3 2 rfl (Aa Ac 1);have H9:=Ae ((((H4.set 2 0 rfl (Aa Ac 1)).set 2 1 rfl (Aa Ab (r-p))).set 2 2 rfl (Aa Ac 1)).set 2 3 rfl (.bool o));clear H3 H4;go_wp2_with fail;exact Af (Dg rfl rfl (H9.out.range 2 rfl) Tryz.underlying63 rfl (by kernel_rfl)) rfl ⟨rfl,H9.out.below⟩
theorem qZ (l r d u p:Int) (o:Bool) (w:Ag) (h: -20000<u∧u<20000) (hp:1≤p∧p≤512):
  Ai Tryz.prog 14 #[.agg #[Aa Ab l,Aa Ab r,Aa Ab d,Aa Ab u],.agg #[Aa Ac 2,Aa Ab p,.bool o]] w (Cg (.agg #[Aa Ac 2,Aa Ab (u-p),Aa Ac 1,.bool o]) w):=by
 have H:=(((Bx.start w).new #[Aa Ab l,Aa Ab r,Aa Ab d,Aa Ab u] 52 rfl).new #[Aa Ac 2,Aa Ab p,.bool o] 56 (N:=w.heap.size+1) (by simp)).new #[Aa Ac 0,Aa Ab 0,Aa Ac 0,.bool false] 63 (N:=w.heap.size+1+1) (by simp);have e1:wrap64 (u-p)=u-p:=Bw _ (by omega);clear h hp;go_enter Tryz.func14,Tryz.ntmps14;go_upto_region 1 with fail;obtain⟨N,hN⟩:=ez w.heap.size;rw[←hN]at H⊢;have HNN:=Ae hN;clear hN;obtain⟨P,hP⟩:=ey (N+1);obtain⟨R,hR⟩:=ey (P+1);rw[hP,hR]at H⊢;clear hP hR;obtain⟨W1,hW1⟩:=ez (((w.alloc (.cells #[Aa Ab l,Aa Ab r,Aa Ab d,Aa Ab u] 52)).alloc (.cells #[Aa Ac 2,Aa Ab p,.bool o] 56)).alloc (.cells #[Aa Ac 0,Aa Ab 0,Aa Ac 0,.bool false] 63));rw[←hW1]at H⊢;clear hW1;obtain⟨⟨b0,b1,b2,b3⟩,-⟩:=Co (H.blk 0 _ _ _ rfl)
 go_quiet (fail)
 have H2:=H.drewN nq;obtain⟨W2,hW2⟩:=ez (W1.drewN nq);rw[←hW2]at H2⊢;clear hW2;clear H b0 b1 b2 b3;obtain⟨⟨c0,c1,c2⟩,-⟩:=Ci (H2.blk 1 _ _ _ rfl);obtain⟨F,hF⟩:=ey W2.heap.size;have H3:=H2.new #[Aa Ac 0,Aa Ab 0,Aa Ac 0,.bool o] 63 hF;clear H2;go_upto_region 3 with fail
 try rw[hF]
 obtain⟨W3,hW3⟩:=ez (W2.alloc (.cells #[Aa Ac 0,Aa Ab 0,Aa Ac 0,.bool o] 63));rw[←hW3]at H3⊢;clear hW3;clear hF c0 c1 c2;obtain⟨⟨c0,c1,c2⟩,-⟩:=Ci (H3.blk 1 _ _ _ rfl);obtain⟨⟨f0,f1,f2,f3⟩,x0,x1,x2,x3⟩:=Co (H3.blk 3 _ _ _ rfl);obtain⟨⟨g0,g1,g2,g3⟩,z0,z1,z2,z3⟩:=Co (H3.blk 2 _ _ _ rfl);have n1:R≠F:=H3.ne 2 3 (by decide) rfl rfl;have n2:P≠F:=H3.ne 1 3 (by decide) rfl rfl;have H4:=(H3.set 3 0 rfl (Aa Ac 2)).set 3 1 rfl (Aa Ab (u-p));have H4:=H4.set 3 2 rfl (Aa Ac 1);have H9:=Ae ((((H4.set 2 0 rfl (Aa Ac 2)).set 2 1 rfl (Aa Ab (u-p))).set 2 2 rfl (Aa Ac 1)).set 2 3 rfl (.bool o));clear H3 H4;go_wp2_with fail;exact Af (Dg rfl rfl (H9.out.range 2 rfl) Tryz.underlying63 rfl (by kernel_rfl)) rfl ⟨rfl,H9.out.below⟩
theorem rA (l r d u p:Int) (o:Bool) (w:Ag) (h: -20000<l∧l<20000) (hp:1≤p∧p≤512):
  Ai Tryz.prog 14 #[.agg #[Aa Ab l,Aa Ab r,Aa Ab d,Aa Ab u],.agg #[Aa Ac 3,Aa Ab p,.bool o]] w (Cg (.agg #[Aa Ac 1,Aa Ab (l+p),Aa Ac 0,.bool o]) w):=by
 have H:=(((Bx.start w).new #[Aa Ab l,Aa Ab r,Aa Ab d,Aa Ab u] 52 rfl).new #[Aa Ac 3,Aa Ab p,.bool o] 56 (N:=w.heap.size+1) (by simp)).new #[Aa Ac 0,Aa Ab 0,Aa Ac 0,.bool false] 63 (N:=w.heap.size+1+1) (by simp);have e1:wrap64 (l+p)=l+p:=Bw _ (by omega);clear h hp;go_enter Tryz.func14,Tryz.ntmps14;go_upto_region 1 with fail;obtain⟨N,hN⟩:=ez w.heap.size;rw[←hN]at H⊢;have HNN:=Ae hN;clear hN;obtain⟨P,hP⟩:=ey (N+1);obtain⟨R,hR⟩:=ey (P+1);rw[hP,hR]at H⊢;clear hP hR;obtain⟨W1,hW1⟩:=ez (((w.alloc (.cells #[Aa Ab l,Aa Ab r,Aa Ab d,Aa Ab u] 52)).alloc (.cells #[Aa Ac 3,Aa Ab p,.bool o] 56)).alloc (.cells #[Aa Ac 0,Aa Ab 0,Aa Ac 0,.bool false] 63));rw[←hW1]at H⊢;clear hW1;obtain⟨⟨b0,b1,b2,b3⟩,-⟩:=Co (H.blk 0 _ _ _ rfl)
 go_quiet (fail)
 have H2:=H.drewN nq;obtain⟨W2,hW2⟩:=ez (W1.drewN nq);rw[←hW2]at H2⊢;clear hW2;clear H b0 b1 b2 b3;obtain⟨⟨c0,c1,c2⟩,-⟩:=Ci (H2.blk 1 _ _ _ rfl);obtain⟨F,hF⟩:=ey W2.heap.size;have H3:=H2.new #[Aa Ac 0,Aa Ab 0,Aa Ac 0,.bool o] 63 hF;clear H2;go_upto_region 3 with fail
 try rw[hF]
 obtain⟨W3,hW3⟩:=ez (W2.alloc (.cells #[Aa Ac 0,Aa Ab 0,Aa Ac 0,.bool o] 63));rw[←hW3]at H3⊢;clear hW3;clear hF c0 c1 c2;obtain⟨⟨c0,c1,c2⟩,-⟩:=Ci (H3.blk 1 _ _ _ rfl);obtain⟨⟨f0,f1,f2,f3⟩,x0,x1,x2,x3⟩:=Co (H3.blk 3 _ _ _ rfl);obtain⟨⟨g0,g1,g2,g3⟩,z0,z1,z2,z3⟩:=Co (H3.blk 2 _ _ _ rfl);have n1:R≠F:=H3.ne 2 3 (by decide) rfl rfl;have n2:P≠F:=H3.ne 1 3 (by decide) rfl rfl;have H4:=(H3.set 3 0 rfl (Aa Ac 1)).set 3 1 rfl (Aa Ab (l+p));have H9:=Ae ((((H4.set 2 0 rfl (Aa Ac 1)).set 2 1 rfl (Aa Ab (l+p))).set 2 2 rfl (Aa Ac 0)).set 2 3 rfl (.bool o));clear H3 H4;go_wp2_with fail;exact Af (Dg rfl rfl (H9.out.range 2 rfl) Tryz.underlying63 rfl (by kernel_rfl)) rfl ⟨rfl,H9.out.below⟩
theorem rB (l r d u p:Int) (o:Bool) (w:Ag) (h: -20000<l+d∧l+d<20000) (hp:1≤p∧p≤512):
  Ai Tryz.prog 14 #[.agg #[Aa Ab l,Aa Ab r,Aa Ab d,Aa Ab u],.agg #[Aa Ac 4,Aa Ab p,.bool o]] w (Cg (.agg #[Aa Ac 3,Aa Ab (l+d+p),Aa Ac 0,.bool o]) w):=by
 have H:=(((Bx.start w).new #[Aa Ab l,Aa Ab r,Aa Ab d,Aa Ab u] 52 rfl).new #[Aa Ac 4,Aa Ab p,.bool o] 56 (N:=w.heap.size+1) (by simp)).new #[Aa Ac 0,Aa Ab 0,Aa Ac 0,.bool false] 63 (N:=w.heap.size+1+1) (by simp);have e1:wrap64 (l+d+p)=l+d+p:=Bw _ (by omega);have e2:wrap64 (l+d)=l+d:=Bw _ (by omega);clear h hp;go_enter Tryz.func14,Tryz.ntmps14;go_upto_region 1 with fail;obtain⟨N,hN⟩:=ez w.heap.size;rw[←hN]at H⊢;have HNN:=Ae hN;clear hN;obtain⟨P,hP⟩:=ey (N+1);obtain⟨R,hR⟩:=ey (P+1);rw[hP,hR]at H⊢;clear hP hR;obtain⟨W1,hW1⟩:=ez (((w.alloc (.cells #[Aa Ab l,Aa Ab r,Aa Ab d,Aa Ab u] 52)).alloc (.cells #[Aa Ac 4,Aa Ab p,.bool o] 56)).alloc (.cells #[Aa Ac 0,Aa Ab 0,Aa Ac 0,.bool false] 63));rw[←hW1]at H⊢;clear hW1;obtain⟨⟨b0,b1,b2,b3⟩,-⟩:=Co (H.blk 0 _ _ _ rfl)
 go_quiet (fail)
 have H2:=H.drewN nq;obtain⟨W2,hW2⟩:=ez (W1.drewN nq);rw[←hW2]at H2⊢;clear hW2;clear H b0 b1 b2 b3;obtain⟨⟨c0,c1,c2⟩,-⟩:=Ci (H2.blk 1 _ _ _ rfl);obtain⟨F,hF⟩:=ey W2.heap.size;have H3:=H2.new #[Aa Ac 0,Aa Ab 0,Aa Ac 0,.bool o] 63 hF;clear H2;go_upto_region 3 with fail
 try rw[hF]
 obtain⟨W3,hW3⟩:=ez (W2.alloc (.cells #[Aa Ac 0,Aa Ab 0,Aa Ac 0,.bool o] 63));rw[←hW3]at H3⊢;clear hW3;clear hF c0 c1 c2;obtain⟨⟨c0,c1,c2⟩,-⟩:=Ci (H3.blk 1 _ _ _ rfl);obtain⟨⟨f0,f1,f2,f3⟩,x0,x1,x2,x3⟩:=Co (H3.blk 3 _ _ _ rfl);obtain⟨⟨g0,g1,g2,g3⟩,z0,z1,z2,z3⟩:=Co (H3.blk 2 _ _ _ rfl);have n1:R≠F:=H3.ne 2 3 (by decide) rfl rfl;have n2:P≠F:=H3.ne 1 3 (by decide) rfl rfl;have H4:=(H3.set 3 0 rfl (Aa Ac 3)).set 3 1 rfl (Aa Ab (l+d+p));have H9:=Ae ((((H4.set 2 0 rfl (Aa Ac 3)).set 2 1 rfl (Aa Ab (l+d+p))).set 2 2 rfl (Aa Ac 0)).set 2 3 rfl (.bool o));clear H3 H4;go_wp2_with fail;exact Af (Dg rfl rfl (H9.out.range 2 rfl) Tryz.underlying63 rfl (by kernel_rfl)) rfl ⟨rfl,H9.out.below⟩
theorem rC (l r d u p:Int) (o:Bool) (w:Ag) (h: -20000<d-r∧d-r<20000) (hp:1≤p∧p≤512):
  Ai Tryz.prog 14 #[.agg #[Aa Ab l,Aa Ab r,Aa Ab d,Aa Ab u],.agg #[Aa Ac 5,Aa Ab p,.bool o]] w (Cg (.agg #[Aa Ac 4,Aa Ab (d-r+p),Aa Ac 0,.bool o]) w):=by
 have H:=(((Bx.start w).new #[Aa Ab l,Aa Ab r,Aa Ab d,Aa Ab u] 52 rfl).new #[Aa Ac 5,Aa Ab p,.bool o] 56 (N:=w.heap.size+1) (by simp)).new #[Aa Ac 0,Aa Ab 0,Aa Ac 0,.bool false] 63 (N:=w.heap.size+1+1) (by simp);have e1:wrap64 (d-r+p)=d-r+p:=Bw _ (by omega);have e2:wrap64 (d-r)=d-r:=Bw _ (by omega);clear h hp;go_enter Tryz.func14,Tryz.ntmps14;go_upto_region 1 with fail;obtain⟨N,hN⟩:=ez w.heap.size;rw[←hN]at H⊢;have HNN:=Ae hN;clear hN;obtain⟨P,hP⟩:=ey (N+1);obtain⟨R,hR⟩:=ey (P+1);rw[hP,hR]at H⊢;clear hP hR;obtain⟨W1,hW1⟩:=ez (((w.alloc (.cells #[Aa Ab l,Aa Ab r,Aa Ab d,Aa Ab u] 52)).alloc (.cells #[Aa Ac 5,Aa Ab p,.bool o] 56)).alloc (.cells #[Aa Ac 0,Aa Ab 0,Aa Ac 0,.bool false] 63));rw[←hW1]at H⊢;clear hW1;obtain⟨⟨b0,b1,b2,b3⟩,-⟩:=Co (H.blk 0 _ _ _ rfl)
 go_quiet (fail)
 have H2:=H.drewN nq;obtain⟨W2,hW2⟩:=ez (W1.drewN nq);rw[←hW2]at H2⊢;clear hW2;clear H b0 b1 b2 b3;obtain⟨⟨c0,c1,c2⟩,-⟩:=Ci (H2.blk 1 _ _ _ rfl);obtain⟨F,hF⟩:=ey W2.heap.size;have H3:=H2.new #[Aa Ac 0,Aa Ab 0,Aa Ac 0,.bool o] 63 hF;clear H2;go_upto_region 3 with fail
 try rw[hF]
 obtain⟨W3,hW3⟩:=ez (W2.alloc (.cells #[Aa Ac 0,Aa Ab 0,Aa Ac 0,.bool o] 63));rw[←hW3]at H3⊢;clear hW3;clear hF c0 c1 c2;obtain⟨⟨c0,c1,c2⟩,-⟩:=Ci (H3.blk 1 _ _ _ rfl);obtain⟨⟨f0,f1,f2,f3⟩,x0,x1,x2,x3⟩:=Co (H3.blk 3 _ _ _ rfl);obtain⟨⟨g0,g1,g2,g3⟩,z0,z1,z2,z3⟩:=Co (H3.blk 2 _ _ _ rfl);have n1:R≠F:=H3.ne 2 3 (by decide) rfl rfl;have n2:P≠F:=H3.ne 1 3 (by decide) rfl rfl;have H4:=(H3.set 3 0 rfl (Aa Ac 4)).set 3 1 rfl (Aa Ab (d-r+p));have H9:=Ae ((((H4.set 2 0 rfl (Aa Ac 4)).set 2 1 rfl (Aa Ab (d-r+p))).set 2 2 rfl (Aa Ac 0)).set 2 3 rfl (.bool o));clear H3 H4;go_wp2_with fail;exact Af (Dg rfl rfl (H9.out.range 2 rfl) Tryz.underlying63 rfl (by kernel_rfl)) rfl ⟨rfl,H9.out.below⟩
theorem rD (l r d u p:Int) (o:Bool) (w:Ag) (h: -20000<r+u∧r+u<20000) (hp:1≤p∧p≤512):
  Ai Tryz.prog 14 #[.agg #[Aa Ab l,Aa Ab r,Aa Ab d,Aa Ab u],.agg #[Aa Ac 6,Aa Ab p,.bool o]] w (Cg (.agg #[Aa Ac 3,Aa Ab (r+u-p),Aa Ac 1,.bool o]) w):=by
 have H:=(((Bx.start w).new #[Aa Ab l,Aa Ab r,Aa Ab d,Aa Ab u] 52 rfl).new #[Aa Ac 6,Aa Ab p,.bool o] 56 (N:=w.heap.size+1) (by simp)).new #[Aa Ac 0,Aa Ab 0,Aa Ac 0,.bool false] 63 (N:=w.heap.size+1+1) (by simp);have e1:wrap64 (r+u-p)=r+u-p:=Bw _ (by omega);have e2:wrap64 (r+u)=r+u:=Bw _ (by omega);clear h hp;go_enter Tryz.func14,Tryz.ntmps14;go_upto_region 1 with fail;obtain⟨N,hN⟩:=ez w.heap.size;rw[←hN]at H⊢;have HNN:=Ae hN;clear hN;obtain⟨P,hP⟩:=ey (N+1);obtain⟨R,hR⟩:=ey (P+1);rw[hP,hR]at H⊢;clear hP hR;obtain⟨W1,hW1⟩:=ez (((w.alloc (.cells #[Aa Ab l,Aa Ab r,Aa Ab d,Aa Ab u] 52)).alloc (.cells #[Aa Ac 6,Aa Ab p,.bool o] 56)).alloc (.cells #[Aa Ac 0,Aa Ab 0,Aa Ac 0,.bool false] 63));rw[←hW1]at H⊢;clear hW1;obtain⟨⟨b0,b1,b2,b3⟩,-⟩:=Co (H.blk 0 _ _ _ rfl)
 go_quiet (fail)
 have H2:=H.drewN nq;obtain⟨W2,hW2⟩:=ez (W1.drewN nq);rw[←hW2]at H2⊢;clear hW2;clear H b0 b1 b2 b3;obtain⟨⟨c0,c1,c2⟩,-⟩:=Ci (H2.blk 1 _ _ _ rfl);obtain⟨F,hF⟩:=ey W2.heap.size;have H3:=H2.new #[Aa Ac 0,Aa Ab 0,Aa Ac 0,.bool o] 63 hF;clear H2;go_upto_region 3 with fail
 try rw[hF]
 obtain⟨W3,hW3⟩:=ez (W2.alloc (.cells #[Aa Ac 0,Aa Ab 0,Aa Ac 0,.bool o] 63));rw[←hW3]at H3⊢;clear hW3;clear hF c0 c1 c2;obtain⟨⟨c0,c1,c2⟩,-⟩:=Ci (H3.blk 1 _ _ _ rfl);obtain⟨⟨f0,f1,f2,f3⟩,x0,x1,x2,x3⟩:=Co (H3.blk 3 _ _ _ rfl);obtain⟨⟨g0,g1,g2,g3⟩,z0,z1,z2,z3⟩:=Co (H3.blk 2 _ _ _ rfl);have n1:R≠F:=H3.ne 2 3 (by decide) rfl rfl;have n2:P≠F:=H3.ne 1 3 (by decide) rfl rfl;have H4:=(H3.set 3 0 rfl (Aa Ac 3)).set 3 1 rfl (Aa Ab (r+u-p));have H4:=H4.set 3 2 rfl (Aa Ac 1);have H9:=Ae ((((H4.set 2 0 rfl (Aa Ac 3)).set 2 1 rfl (Aa Ab (r+u-p))).set 2 2 rfl (Aa Ac 1)).set 2 3 rfl (.bool o));clear H3 H4;go_wp2_with fail;exact Af (Dg rfl rfl (H9.out.range 2 rfl) Tryz.underlying63 rfl (by kernel_rfl)) rfl ⟨rfl,H9.out.below⟩
theorem rE (l r d u p:Int) (o:Bool) (w:Ag) (h: -20000<u-l∧u-l<20000) (hp:1≤p∧p≤512):
  Ai Tryz.prog 14 #[.agg #[Aa Ab l,Aa Ab r,Aa Ab d,Aa Ab u],.agg #[Aa Ac 7,Aa Ab p,.bool o]] w (Cg (.agg #[Aa Ac 4,Aa Ab (u-l-p),Aa Ac 1,.bool o]) w):=by
 have H:=(((Bx.start w).new #[Aa Ab l,Aa Ab r,Aa Ab d,Aa Ab u] 52 rfl).new #[Aa Ac 7,Aa Ab p,.bool o] 56 (N:=w.heap.size+1) (by simp)).new #[Aa Ac 0,Aa Ab 0,Aa Ac 0,.bool false] 63 (N:=w.heap.size+1+1) (by simp);have e1:wrap64 (u-l-p)=u-l-p:=Bw _ (by omega);have e2:wrap64 (u-l)=u-l:=Bw _ (by omega);clear h hp;go_enter Tryz.func14,Tryz.ntmps14;go_upto_region 1 with fail;obtain⟨N,hN⟩:=ez w.heap.size;rw[←hN]at H⊢;have HNN:=Ae hN;clear hN;obtain⟨P,hP⟩:=ey (N+1);obtain⟨R,hR⟩:=ey (P+1);rw[hP,hR]at H⊢;clear hP hR;obtain⟨W1,hW1⟩:=ez (((w.alloc (.cells #[Aa Ab l,Aa Ab r,Aa Ab d,Aa Ab u] 52)).alloc (.cells #[Aa Ac 7,Aa Ab p,.bool o] 56)).alloc (.cells #[Aa Ac 0,Aa Ab 0,Aa Ac 0,.bool false] 63));rw[←hW1]at H⊢;clear hW1;obtain⟨⟨b0,b1,b2,b3⟩,-⟩:=Co (H.blk 0 _ _ _ rfl)
 go_quiet (fail)
 have H2:=H.drewN nq;obtain⟨W2,hW2⟩:=ez (W1.drewN nq);rw[←hW2]at H2⊢;clear hW2;clear H b0 b1 b2 b3;obtain⟨⟨c0,c1,c2⟩,-⟩:=Ci (H2.blk 1 _ _ _ rfl);obtain⟨F,hF⟩:=ey W2.heap.size;have H3:=H2.new #[Aa Ac 0,Aa Ab 0,Aa Ac 0,.bool o] 63 hF;clear H2;go_upto_region 3 with fail
 try rw[hF]
 obtain⟨W3,hW3⟩:=ez (W2.alloc (.cells #[Aa Ac 0,Aa Ab 0,Aa Ac 0,.bool o] 63));rw[←hW3]at H3⊢;clear hW3;clear hF c0 c1 c2;obtain⟨⟨c0,c1,c2⟩,-⟩:=Ci (H3.blk 1 _ _ _ rfl);obtain⟨⟨f0,f1,f2,f3⟩,x0,x1,x2,x3⟩:=Co (H3.blk 3 _ _ _ rfl);obtain⟨⟨g0,g1,g2,g3⟩,z0,z1,z2,z3⟩:=Co (H3.blk 2 _ _ _ rfl);have n1:R≠F:=H3.ne 2 3 (by decide) rfl rfl;have n2:P≠F:=H3.ne 1 3 (by decide) rfl rfl;have H4:=(H3.set 3 0 rfl (Aa Ac 4)).set 3 1 rfl (Aa Ab (u-l-p));have H4:=H4.set 3 2 rfl (Aa Ac 1);have H9:=Ae ((((H4.set 2 0 rfl (Aa Ac 4)).set 2 1 rfl (Aa Ab (u-l-p))).set 2 2 rfl (Aa Ac 1)).set 2 3 rfl (.bool o));clear H3 H4;go_wp2_with fail;exact Af (Dg rfl rfl (H9.out.range 2 rfl) Tryz.underlying63 rfl (by kernel_rfl)) rfl ⟨rfl,H9.out.below⟩
theorem aH (b:Bb) (t:Sn) (hb:b.bd 5000) (hk:t.k≤7) (hp:1≤t.p∧t.p≤512) (w:Ag):
  Ai Tryz.prog 14 #[.agg (bbV b),.agg #[Aa Ac t.k,Aa Ab t.p,.bool t.o]] w (Cg (.agg #[Aa Ac (Hl b t).k,Aa Ab (Hl b t).c,Aa Ac ((Hl b t).side:Int),.bool (Hl b t).over]) w):=by
 obtain⟨l,r,d,u⟩:=b;obtain⟨k,p,o⟩:=t;unfold Bb.bd at hb;dsimp only at hb hk hp
 match k,hk with
 |0,_=>exact qX l r d u p o w (by omega) hp
 |1,_=>exact qY l r d u p o w (by omega) hp
 |2,_=>exact qZ l r d u p o w (by omega) hp
 |3,_=>exact rA l r d u p o w (by omega) hp
 |4,_=>exact rB l r d u p o w (by omega) hp
 |5,_=>exact rC l r d u p o w (by omega) hp
 |6,_=>exact rD l r d u p o w (by omega) hp
 |7,_=>exact rE l r d u p o w (by omega) hp
def lbL (cs:Array Ah) (N R B:Nat) (b:Bb):List (Nat×Array Ah×TypeId):=[(N,cs,37),(R,#[Aa Ab 0,Aa Ab 0,Aa Ab 0,Aa Ab 0],52),(B,bbV b,52)]
theorem eO (s:St) (pA:Option Addr) (pc:Nat) (A:Option Addr) (cc:Nat) (w:Ag) (hs:Gs s) (h:Cs w A s.l):
  Ai Tryz.prog 12 #[.agg #[Aa Ab s.a,Aa Ab s.b,Ad pA s.cr.length pc,Aa Ac s.root.t,Aa Ab s.root.x,Aa Ab s.root.y,Ad A s.l.length cc]] w (Cg (.agg (bbV s.box)) w):=by
 have HST:=Ae (fun(w':Ag) (hb:Below w.heap.size w w') (k:Nat) (hk:k<s.l.length)=>(h.below hb).get k hk)
 have hok:∀c∈s.l.map (·.c),c.ok=true:=fun c hc=>by
  obtain⟨x,hx,rfl⟩:=List.mem_map.1 hc;exact(hs.at x hx).1
 have hlen:=hs.len;unfold St.box;obtain⟨cs,hcs⟩:=ey (#[Value.int .i64 s.a,Aa Ab s.b,Ad pA s.cr.length pc,Aa Ac s.root.t,Aa Ab s.root.x,Aa Ab s.root.y,Ad A s.l.length cc]);have HCS:=Ae hcs;rw[hcs];obtain⟨L,hL⟩:=ey (s.l.map (·.c));rw[hL]at hok⊢;have HLA:=Ae (show∀k (hk:k<s.l.length),L[k]? =some s.l[k].c from fun k hk=>by rw[←hL];simp[hk]);have hLl:L.length≤1024:=by rw[←hL,Bk];exact hlen
 obtain⟨n,hn⟩:=ey L.length;rw[hn]at hLl;have HN:=Ae hn;have HSN0:=Ae (show s.l.length=n by rw[←hn,←hL,Bk]);have HOK:=Ae hok;have HBD:=Ae (fun(k:Nat)=>Nq (l:=L.take k) fun c hc=>hok c (List.mem_of_mem_take hc));have HSN:=Ae (fun(k:Nat) (hk:k<L.length)=>Wg L k hk);have HBT:=Ae (show Lb (L.take n)=Lb L by rw[←hn,List.take_length]);obtain⟨BX,hBX⟩:=ey (Lb L);rw[hBX]at HBT⊢;have H:=(((Bx.start w).new cs 37 rfl).new #[Aa Ab 0,Aa Ab 0,Aa Ab 0,Aa Ab 0] 52 (N:=w.heap.size+1) (by simp)).new #[Aa Ab 0,Aa Ab 0,Aa Ab 0,Aa Ab 0] 52 (N:=w.heap.size+1+1) (by simp);have hrng:=fun(W:Ag) (g:Nat) (hg:W.heap[g]? =some (Obj.cells cs 37 (0,0)))=>show(∀j:Nat,W.cell? ⟨g,j,none⟩=cs[j]?)from fun j=>Bs W g j cs _ (0,0) hg;have HRG:=Ae hrng;have hsn0:=HSN0.out;rw[hsn0]at hcs;clear hs h hok hlen hL hn hBX hrng hsn0;subst hcs;go_enter Tryz.func12,Tryz.ntmps12;go_upto_region 2 with fail;obtain⟨N,hN⟩:=ez w.heap.size;rw[←hN]at H⊢;have HNN:=Ae hN;clear hN;obtain⟨R,hR⟩:=ey (N+1);obtain⟨B,hB⟩:=ey (R+1);rw[hR,hB]at H⊢;clear hR hB;obtain⟨W3,hW3⟩:=ez (((w.alloc (.cells #[Aa Ab s.a,Aa Ab s.b,Ad pA s.cr.length pc,Aa Ac s.root.t,Aa Ab s.root.x,Aa Ab s.root.y,Ad A n cc] 37)).alloc (.cells #[Aa Ab 0,Aa Ab 0,Aa Ab 0,Aa Ab 0] 52)).alloc (.cells #[Aa Ab 0,Aa Ab 0,Aa Ab 0,Aa Ab 0] 52));rw[←hW3]at H⊢;clear hW3;have HI0:Hid (Bx w (lbL #[Aa Ab s.a,Aa Ab s.b,Ad pA s.cr.length pc,Aa Ac s.root.t,Aa Ab s.root.x,Aa Ab s.root.y,Ad A n cc] N R B (Lb (L.take 0))) W3):=Ae H;clear H;go_wp2_with fail
 go_loopw [4] (fun s4 wr=>∃k:Nat,k≤n∧s4= Aa Ab k∧Hid (Bx w (lbL #[Aa Ab s.a,Aa Ab s.b,Ad pA s.cr.length pc,Aa Ac s.root.t,Aa Ab s.root.x,Aa Ab s.root.y,Ad A n cc] N R B (Lb (L.take k))) wr)) (fun s4 _=>n-(intOf s4).toNat)
 case atStart=>exact⟨0,by omega,rfl,HI0⟩
 case round=>
  obtain⟨k,hk,rfl,HZ⟩:=hrel;clear HI0;have hB:=HZ.out;unfold lbL bbV at hB;by_cases hlt:k<n
  ·have q0:(k:Int)<(n:Int):=by omega
   have hkl:k<L.length:=by have:=HN.out;omega
   have hks:k<s.l.length:=by have:=HSN0.out;omega
   obtain⟨b9,o9,A9,c9,hA2,-,⟨d0,d1,d2,-⟩,-⟩:=HST.out wr hB.below k hks;have hla:=HLA.out k hks;rw[Ar hkl]at hla;injection hla with hla;rw[←hla]at d0 d1 d2;have hcok:=Er.1 (HOK.out L[k] (Au hkl));have hsn:=HSN.out k hkl;have hbd:=HBD.out k;obtain⟨⟨x0,x1,x2⟩,hx⟩:=ey (L[k]);rw[hx]at d0 d1 d2 hcok hsn;dsimp only at d0 d1 d2 hcok;obtain⟨bb,hbb⟩:=ey (Lb (L.take k));rw[hbb]at hB hbd hsn;obtain⟨b0,b1,b2,b3⟩:=bb;unfold Bb.bd at hbd;dsimp only at hB hbd;have e1:wrap64 (x0+1)=x0+1:=Bw _ (by omega);have e2:wrap64 (x1+1)=x1+1:=Bw _ (by omega);obtain⟨X,hX⟩:=ey wr.heap.size;have H5:=hB.new #[Aa Ab x0,Aa Ab x1,Aa Ac x2] 94 hX;obtain⟨-,-,-,-,-,-,a6⟩:=De (hB.blk 0 _ _ _ rfl);subst hA2;have HSN2:=Ae hsn;have HMN:=fun(x y:Int) (ts:Array TypeId) (t:TypeId) (W:Ag)=>jD Tryz.prog ts t x y W;have HMX:=fun(x y:Int) (ts:Array TypeId) (t:TypeId) (W:Ag)=>Nu Tryz.prog ts t x y W;clear hx hcok hsn hbb hbd hB HZ hla hks;go_upto_region 6 with fail
   try rw[hX]
   obtain⟨W5,hW5⟩:=ez (wr.alloc (.cells #[Aa Ab x0,Aa Ab x1,Aa Ac x2] 94));rw[←hW5]at H5⊢;clear hW5;clear d0 d1 d2 hX a6;obtain⟨⟨c0,c1,c2⟩,-⟩:=Ci (H5.blk 3 _ _ _ rfl);obtain⟨⟨g0,g1,g2,g3⟩,z0,z1,z2,z3⟩:=Co (H5.blk 2 _ _ _ rfl);have hne:B≠X:=H5.ne 2 3 (by decide) rfl rfl;by_cases hk0:k=0
   ·subst hk0;rw[if_pos rfl]at HSN2;have H6:=(((H5.set 2 0 rfl (Aa Ab x0)).set 2 1 rfl (Aa Ab (x0+1))).set 2 2 rfl (Aa Ab x1)).set 2 3 rfl (Aa Ab (x1+1));clear H5;go_upto_region 8 with fail;obtain⟨W6,hW6⟩:=ez ((((W5.setCell ⟨B,0,none⟩ (Aa Ab x0)).setCell ⟨B,1,none⟩ (Aa Ab (x0+1))).setCell ⟨B,2,none⟩ (Aa Ab x1)).setCell ⟨B,3,none⟩ (Aa Ab (x1+1)));rw[←hW6]at H6⊢;clear hW6;clear c0 c1 c2 g0 g1 g2 g3 z0 z1 z2 z3;obtain⟨⟨c0,c1,c2⟩,-⟩:=Ci (H6.blk 3 _ _ _ rfl);obtain⟨⟨g0,g1,g2,g3⟩,z0,z1,z2,z3⟩:=Co (H6.blk 2 _ _ _ rfl);have H7:=(((H6.set 2 0 rfl (Aa Ab x0)).set 2 1 rfl (Aa Ab (x0+1))).set 2 2 rfl (Aa Ab x1)).set 2 3 rfl (Aa Ab (x1+1));have HF:Hid (Bx w (lbL #[Aa Ab s.a,Aa Ab s.b,Ad pA s.cr.length pc,Aa Ac s.root.t,Aa Ab s.root.x,Aa Ab s.root.y,Ad (some ⟨b9,o9,none⟩) n cc] N R B (Lb (L.take (0+1)))) ((((W6.setCell ⟨B,0,none⟩ (Aa Ab x0)).setCell ⟨B,1,none⟩ (Aa Ab (x0+1))).setCell ⟨B,2,none⟩ (Aa Ab x1)).setCell ⟨B,3,none⟩ (Aa Ab (x1+1)))):=Ae (by rw[HSN2.out,Zf];exact H7.upto 3);clear H6 H7;go_wp2_with fail;exact⟨⟨0+1,by omega,by go_num,HF⟩,by simp[intOf];omega⟩
   ·have q1:((k:Int)==0)=false:=by simpa using hk0
    rw[if_neg hk0]at HSN2;have H7:=(((H5.set 2 0 rfl (Aa Ab (min b0 x0))).set 2 1 rfl (Aa Ab (max b1 (x0+1)))).set 2 2 rfl (Aa Ab (min b2 x1))).set 2 3 rfl (Aa Ab (max b3 (x1+1)));have HF:Hid (Bx w (lbL #[Aa Ab s.a,Aa Ab s.b,Ad pA s.cr.length pc,Aa Ac s.root.t,Aa Ab s.root.x,Aa Ab s.root.y,Ad (some ⟨b9,o9,none⟩) n cc] N R B (Lb (L.take (k+1)))) ((((W5.setCell ⟨B,0,none⟩ (Aa Ab (min b0 x0))).setCell ⟨B,1,none⟩ (Aa Ab (max b1 (x0+1)))).setCell ⟨B,2,none⟩ (Aa Ab (min b2 x1))).setCell ⟨B,3,none⟩ (Aa Ab (max b3 (x1+1))))):=Ae (by rw[HSN2.out];exact H7.upto 3);clear H5 H7;go_wp2_with fail;exact⟨⟨k+1,by omega,by go_num,HF⟩,by simp[intOf];omega⟩
  ·obtain⟨W1,rfl⟩:=ez wr;obtain rfl:k=n:=by omega
   have q0:¬(k:Int)<(k:Int):=by omega
   rw[HBT.out]at hB;obtain⟨-,-,-,-,-,-,a6⟩:=De (hB.blk 0 _ _ _ rfl);obtain⟨⟨g0,g1,g2,g3⟩,-⟩:=Co (hB.blk 2 _ _ _ rfl);obtain⟨⟨u0,u1,u2,u3⟩,z0,z1,z2,z3⟩:=Co (hB.blk 1 _ _ _ rfl);have H9:=Ae ((((hB.set 1 0 rfl (Aa Ab BX.l)).set 1 1 rfl (Aa Ab BX.r)).set 1 2 rfl (Aa Ab BX.d)).set 1 3 rfl (Aa Ab BX.u));clear hB HZ;go_wp2_with fail;exact Af (Dg rfl rfl (H9.out.range 1 rfl) Tryz.underlying52 rfl (by kernel_rfl)) rfl ⟨rfl,H9.out.below⟩
end Go.Proofs.YtadnbldkegkjaaaGreatDoor
