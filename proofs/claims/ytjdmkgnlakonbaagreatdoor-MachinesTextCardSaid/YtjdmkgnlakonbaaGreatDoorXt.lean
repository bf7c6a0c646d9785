/- Calls that are known by their contracts, handed to the executor: the scalar functions of sheets, cells, moves and lines. -/
import Derived.Test.YtjdmkgnlakonbaaGreatDoorXr
import Derived.Test.YtjdmkgnlakonbaaGreatDoorMov4
import Derived.Test.YtjdmkgnlakonbaaGreatDoorMvd
import Derived.Test.YtjdmkgnlakonbaaGreatDoorSln
import Derived.Test.YtjdmkgnlakonbaaGreatDoorSid
import Derived.Test.YtjdmkgnlakonbaaGreatDoorCl
import Derived.Shelf.Abstract
namespace Go.Proofs.YtjdmkgnlakonbaaGreatDoor
open Ex Go.RowKit Go.Shelf

theorem concL {ρ : Rho} : ∀ {vs : List AV} {ws xs : List Value}, mapO conc vs = some ws → VRL ρ vs xs → xs = ws
  | [], ws, xs, h, hv => by simp only [mapO_nil, Option.some.injEq] at h; simp only [VRL] at hv; rw [hv, h]
  | v :: vs, ws, xs, h, hv => by
    obtain ⟨z, zs, h1, h2, h3⟩ := mapO_cons h
    simp only [VRL] at hv
    obtain ⟨y, ys', e, h4, h5⟩ := hv
    rw [h3, e, conc_ok h1 h4, concL h2 h5]
theorem WR.of_below {ρ : Rho} {S : St} {w w' : World} (h : WR ρ S w) (hb : Below w.heap.size w w') : WR ρ S w' :=
  ⟨h.inj, h.dom, h.lim, fun i b n hi => Nat.lt_of_lt_of_le (h.low i b n hi) hb.size, fun i B hi => by
    obtain ⟨b, n, h1, h2⟩ := h.blk i B hi
    exact ⟨b, n, h1, by rw [hb.block b (h.low i b n h1)]; exact h2⟩⟩
theorem Fr.of_below {K : Nat} {ρ : Rho} {S : St} {w w' : World} (hb : Below w.heap.size w w') : Fr K S ρ w w' := ⟨hb.os, hb.tape, hb.output, hb.size, fun b h _ => hb.block b h⟩

abbrev Hdl := List AV → Option AV
/-- What a known call promises: values without addresses go in and come out. -/
def HOk (W : World) (g : FuncId) (h : Hdl) : Prop :=
  ∀ vs v, h vs = some v → ∃ ws x, mapO conc vs = some ws ∧ (∀ σ, VR σ v x) ∧ ∀ w, Below W.heap.size W w → Calls Tryz.prog g ws.toArray w (RetBelow x w)
noncomputable def tabOf (l : List (FuncId × Hdl)) : Tr Hdl := List.rec .e (fun p _ ih => ih.to p.1 p.2) l
theorem tabOf_mem {g : FuncId} {h : Hdl} : ∀ {l : List (FuncId × Hdl)}, (∀ p ∈ l, p.1 < 1048575) → (tabOf l).at g = some h → (g, h) ∈ l
  | [], _, ht => by
    have ht : (Tr.e : Tr Hdl).at g = some h := ht
    rw [Tr.at_e] at ht; cases ht
  | p :: l, hl, ht => by
    have ht : ((tabOf l).to p.1 p.2).at g = some h := ht
    rw [Tr.at_to _ _ _ _ (hl p (by simp))] at ht
    by_cases e : g = p.1
    · rw [if_pos e] at ht; injection ht with ht; subst ht; subst e; simp
    · rw [if_neg e] at ht
      exact List.mem_cons_of_mem _ (tabOf_mem (fun q hq => hl q (List.mem_cons_of_mem _ hq)) ht)
noncomputable def xtOf (tab : Tr Hdl) : FuncId → List AV → St → CRes := fun g vs S => match tab.at g with
  | none => .no []
  | some h => match h vs with
    | none => .no []
    | some v => .ok v S
structure Hd (W : World) (p : FuncId × Hdl) : Prop where
  lt : p.1 < 1048575
  enters : ∀ (args : Array Value) (w : World), (callFunc p.1 args).run Tryz.prog w = .ok (.enter p.1 args) w
  ok : HOk W p.1 p.2
theorem xtOf_ok {W : World} {K : Nat} {l : List (FuncId × Hdl)} (hl : ∀ p ∈ l, Hd W p) : CallOk (Kept.zz W K) Tryz.prog (xtOf (tabOf l)) := by
  intro g vs S v S' h ρ xs w hxs hw hK hz
  unfold xtOf at h
  split at h
  · cases h
  · rename_i hd hg
    split at h
    · cases h
    · rename_i u hu
      injection h with e1 e2; subst e1; subst e2
      have hp := hl _ (tabOf_mem (fun p hp => (hl p hp).lt) hg)
      obtain ⟨ws, x, h1, h2, h3⟩ := hp.ok vs u hu
      have e := concL h1 hxs
      subst e
      have hz : Zz W K S ρ w := hz
      refine .inl ⟨Nat.lt_trans hp.lt (by decide), hp.enters _, (h3 w hz.below).mono ?_⟩
      rintro e w' ⟨rfl, hb⟩
      exact ⟨x, ρ, rfl, h2 ρ, WR.of_below hw hb, Up.refl _ _ _ _, Fr.of_below hb⟩

/-- The same calls, for regions that draw their order: a value, and memory as it was. -/
noncomputable def scOf (ext : FuncId → List AV → Option AV) (tab : Tr Hdl) : FuncId → List AV → Option AV := fun g vs => match ext g vs with
  | some v => some v
  | none => match tab.at g with
    | none => none
    | some h => h vs
theorem scOf_ok {W : World} {K : Nat} {ext : FuncId → List AV → Option AV} (he : ExtOk Tryz.prog ext) {l : List (FuncId × Hdl)} (hl : ∀ p ∈ l, Hd W p) : Ext2Ok (Kept.zz W K) Tryz.prog (scOf ext (tabOf l)) := by
  intro g vs v h
  unfold scOf at h
  split at h
  · rename_i u hu
    injection h with h; subst h
    exact ⟨(he g vs u hu).1, fun ρ xs w _ hx _ => .inl ((he g vs u hu).2 ρ xs w hx)⟩
  · split at h
    · cases h
    · rename_i hd hg
      have hp := hl _ (tabOf_mem (fun p hp => (hl p hp).lt) hg)
      obtain ⟨ws, x, h1, h2, h3⟩ := hp.ok vs v h
      refine ⟨Nat.lt_trans hp.lt (by decide), fun ρ xs w S hx hz => .inr ⟨hp.enters _, ?_⟩⟩
      have e := concL h1 hx
      subst e
      have hz : Zz W K S ρ w := hz
      refine (h3 w hz.below).mono ?_
      rintro e w' ⟨rfl, hb⟩
      exact ⟨x, rfl, h2 ρ, hb⟩

theorem bA_vr (b : Bool) (σ : Rho) : VR σ (.bool b) (.bool b) := by simp only [VR]
theorem tup2_vr {σ : Rho} {a b : AV} {x y : Value} (h : VR σ a x) (k : VR σ b y) : VR σ (.tup [a, b]) (.tuple #[x, y]) := by
  simp only [VR, VRL]; exact ⟨[x, y], rfl, x, [y], rfl, h, y, [], rfl, k, rfl⟩
theorem agg2_vr {σ : Rho} {a b : AV} {x y : Value} (h : VR σ a x) (k : VR σ b y) : VR σ (.agg [a, b]) (.agg #[x, y]) := by
  simp only [VR, VRL]; exact ⟨[x, y], rfl, x, [y], rfl, h, y, [], rfl, k, rfl⟩
theorem agg3_vr {σ : Rho} {a b c : AV} {x y z : Value} (h : VR σ a x) (k : VR σ b y) (l : VR σ c z) : VR σ (.agg [a, b, c]) (.agg #[x, y, z]) := by
  simp only [VR, VRL]; exact ⟨[x, y, z], rfl, x, [y, z], rfl, h, y, [z], rfl, k, z, [], rfl, l, rfl⟩

noncomputable def f1 (a : Int) (k : Int → Option AV) : Option AV := fInt a k
noncomputable def f2 (a b : Int) (k : Int → Int → Option AV) : Option AV := fInt a fun a => fInt b fun b => k a b
noncomputable def f3 (a b c : Int) (k : Int → Int → Int → Option AV) : Option AV := fInt a fun a => fInt b fun b => fInt c fun c => k a b c
theorem f1_eq (a : Int) (k : Int → Option AV) : f1 a k = k a := fInt_eq _ _
theorem f2_eq (a b : Int) (k : Int → Int → Option AV) : f2 a b k = k a b := by unfold f2; simp only [fInt_eq]
theorem f3_eq (a b c : Int) (k : Int → Int → Int → Option AV) : f3 a b c k = k a b c := by unfold f3; simp only [fInt_eq]
noncomputable def iO (n : Int) : Option AV := f1 n fun n => some (.int .i64 n)
theorem iO_eq (n : Int) : iO n = some (.int .i64 n) := f1_eq _ _
theorem iV (n : Int) (σ : Rho) : VR σ (.int .i64 n) (.int .i64 n) := by simp only [VR]
theorem uV (n : Int) (σ : Rho) : VR σ (.int .u8 n) (.int .u8 n) := by simp only [VR]
noncomputable def intO (r : Int × Int) : Option AV := f2 r.1 r.2 fun x y => some (.tup [.int .i64 x, .int .i64 y])
theorem intO_eq (r : Int × Int) : intO r = some (.tup [.int .i64 r.1, .int .i64 r.2]) := f2_eq _ _ _
theorem intO_vr (r : Int × Int) (σ : Rho) : VR σ (.tup [.int .i64 r.1, .int .i64 r.2]) (intV r) := tup2_vr (iV _ _) (iV _ _)
noncomputable def unitO (r : Int × Int × Int) : Option AV := f3 r.1 r.2.1 r.2.2 fun x y z => some (.tup [.agg [.int .i64 x, .int .u8 y], .int .i64 z])
theorem unitO_eq (r : Int × Int × Int) : unitO r = some (.tup [.agg [.int .i64 r.1, .int .u8 r.2.1], .int .i64 r.2.2]) := f3_eq _ _ _ _
theorem unitO_vr (r : Int × Int × Int) (σ : Rho) : VR σ (.tup [.agg [.int .i64 r.1, .int .u8 r.2.1], .int .i64 r.2.2]) (unitV r) := tup2_vr (agg2_vr (iV _ _) (uV _ _)) (iV _ _)
noncomputable def lnO (r : (Int × Int) × Int) : Option AV := f3 r.1.1 r.1.2 r.2 fun x y z => some (.tup [.agg [.int .u8 x, .int .i64 y], .int .i64 z])
theorem lnO_eq (r : (Int × Int) × Int) : lnO r = some (.tup [.agg [.int .u8 r.1.1, .int .i64 r.1.2], .int .i64 r.2]) := f3_eq _ _ _ _
theorem lnO_vr (r : (Int × Int) × Int) (σ : Rho) : VR σ (.tup [.agg [.int .u8 r.1.1, .int .i64 r.1.2], .int .i64 r.2]) (lnR r) := tup2_vr (agg2_vr (uV _ _) (iV _ _)) (iV _ _)
noncomputable def cellO (r : Int × Int × Int × Int) : Option AV := f2 r.1 r.2.1 fun x y => f2 r.2.2.1 r.2.2.2 fun q e => some (.tup [.agg [.int .i64 x, .int .i64 y, .int .u8 q], .int .i64 e])
theorem cellO_eq (r : Int × Int × Int × Int) : cellO r = some (.tup [.agg [.int .i64 r.1, .int .i64 r.2.1, .int .u8 r.2.2.1], .int .i64 r.2.2.2]) := by unfold cellO; simp only [f2_eq]
theorem cellO_vr (r : Int × Int × Int × Int) (σ : Rho) : VR σ (.tup [.agg [.int .i64 r.1, .int .i64 r.2.1, .int .u8 r.2.2.1], .int .i64 r.2.2.2]) (cellV r) := tup2_vr (agg3_vr (iV _ _) (iV _ _) (uV _ _)) (iV _ _)
noncomputable def clO (r : Cl × Int) : Option AV := f2 r.1.x r.1.y fun x y => f2 r.1.q r.2 fun q e => some (.tup [.agg [.int .i64 x, .int .i64 y, .int .u8 q], .int .i64 e])
theorem clO_eq (r : Cl × Int) : clO r = some (.tup [.agg [.int .i64 r.1.x, .int .i64 r.1.y, .int .u8 r.1.q], .int .i64 r.2]) := by unfold clO; simp only [f2_eq]
theorem clO_vr (r : Cl × Int) (σ : Rho) : VR σ (.tup [.agg [.int .i64 r.1.x, .int .i64 r.1.y, .int .u8 r.1.q], .int .i64 r.2]) (clR r) := tup2_vr (agg3_vr (iV _ _) (iV _ _) (uV _ _)) (iV _ _)
noncomputable def mvO (r : Mv × Int) : Option AV := f2 r.1.t r.1.x fun t x => f2 r.1.y r.2 fun y e => some (.tup [.agg [.int .u8 t, .int .i64 x, .int .i64 y], .int .i64 e])
theorem mvO_eq (r : Mv × Int) : mvO r = some (.tup [.agg [.int .u8 r.1.t, .int .i64 r.1.x, .int .i64 r.1.y], .int .i64 r.2]) := by unfold mvO; simp only [f2_eq]
theorem mvO_vr (r : Mv × Int) (σ : Rho) : VR σ (.tup [.agg [.int .u8 r.1.t, .int .i64 r.1.x, .int .i64 r.1.y], .int .i64 r.2]) (mvR r) := tup2_vr (agg3_vr (uV _ _) (iV _ _) (iV _ _)) (iV _ _)
noncomputable def hSheetCheck : Hdl
  | [.agg [.int .i64 a, .int .i64 b]] => f2 a b fun a b => iO (ec (okS a b) 1)
  | _ => none
theorem hSheetCheck_ok {W : World} : HOk W 54 hSheetCheck := by
  intro vs v h
  unfold hSheetCheck at h
  split at h
  · rename_i a b
    repeat (first | rw [f1_eq] at h | rw [f2_eq] at h | rw [f3_eq] at h | rw [fNat_eq] at h)
    rw [iO_eq] at h
    injection h with h; subst h
    exact ⟨_, _, rfl, iV _, fun w _ => sheetCheck_any a b w⟩
  · cases h
noncomputable def hCount : Hdl
  | [.agg [.int .i64 a, .int .i64 b]] => f2 a b fun a b => match okS a b with
    | true => iO (countN a b)
    | false => none
  | _ => none
theorem hCount_ok {W : World} : HOk W 123 hCount := by
  intro vs v h
  unfold hCount at h
  split at h
  · rename_i a b
    repeat (first | rw [f1_eq] at h | rw [f2_eq] at h | rw [f3_eq] at h | rw [fNat_eq] at h)
    split at h
    · rename_i hc
      rw [iO_eq] at h
      injection h with h; subst h
      exact ⟨_, _, rfl, iV _, fun w _ => count_any a b w hc⟩
    · cases h
  · cases h
noncomputable def hCell : Hdl
  | [.agg [.int .i64 a, .int .i64 b], .int .i64 i] => f3 a b i fun a b i => match okS a b with
    | true => cellO (cellI a b i)
    | false => none
  | _ => none
theorem hCell_ok {W : World} : HOk W 97 hCell := by
  intro vs v h
  unfold hCell at h
  split at h
  · rename_i a b i
    repeat (first | rw [f1_eq] at h | rw [f2_eq] at h | rw [f3_eq] at h | rw [fNat_eq] at h)
    split at h
    · rename_i hc
      rw [cellO_eq] at h
      injection h with h; subst h
      exact ⟨_, _, rfl, cellO_vr _, fun w _ => sheetCell_any a b i w hc⟩
    · cases h
  · cases h
noncomputable def hNb : Hdl
  | [.agg [.int .i64 a, .int .i64 b], .int .i64 i, .int .u8 (.ofNat e)] => f3 a b i fun a b i => fNat e fun e => match okS a b with
    | true => intO (nbI a b i e)
    | false => none
  | _ => none
theorem hNb_ok {W : World} (hQ : Qf W) : HOk W 136 hNb := by
  intro vs v h
  unfold hNb at h
  split at h
  · rename_i a b i e
    repeat (first | rw [f1_eq] at h | rw [f2_eq] at h | rw [f3_eq] at h | rw [fNat_eq] at h)
    split at h
    · rename_i hc
      rw [intO_eq] at h
      injection h with h; subst h
      exact ⟨_, _, rfl, intO_vr _, fun w hb => sheetNeighbour_any a b i e w hc (Int.natCast_nonneg e) (hQ.below hb).qt⟩
    · cases h
  · cases h
noncomputable def hName : Hdl
  | [.agg [.int .i64 a, .int .i64 b], .int .i64 i, .int .u8 (.ofNat e)] => f3 a b i fun a b i => fNat e fun e => match okS a b with
    | true => unitO (nameI a b i e)
    | false => none
  | _ => none
theorem hName_ok {W : World} (hQ : Qf W) : HOk W 149 hName := by
  intro vs v h
  unfold hName at h
  split at h
  · rename_i a b i e
    repeat (first | rw [f1_eq] at h | rw [f2_eq] at h | rw [f3_eq] at h | rw [fNat_eq] at h)
    split at h
    · rename_i hc
      rw [unitO_eq] at h
      injection h with h; subst h
      exact ⟨_, _, rfl, unitO_vr _, fun w hb => name_any a b i e w hc (Int.natCast_nonneg e) (hQ.below hb).qt⟩
    · cases h
  · cases h
noncomputable def hSheetLine : Hdl
  | [.agg [.int .i64 a, .int .i64 b], .agg [.int .i64 (.ofNat c), .int .u8 (.ofNat e)]] => f2 a b fun a b => fNat c fun c => fNat e fun e => match okS a b && (Nat.ble e 2 && decide (nameI a b c e = ((c : Int), (e : Int), (0 : Int)))) with
    | true => lnO (lineE (cellN a c) e)
    | false => none
  | _ => none
theorem hSheetLine_ok {W : World} (hQ : Qf W) : HOk W 155 hSheetLine := by
  intro vs v h
  unfold hSheetLine at h
  split at h
  · rename_i a b c e
    repeat (first | rw [f1_eq] at h | rw [f2_eq] at h | rw [f3_eq] at h | rw [fNat_eq] at h)
    split at h
    · rename_i hc
      simp only [Bool.and_eq_true, decide_eq_true_eq] at hc
      rw [lnO_eq] at h
      injection h with h; subst h
      exact ⟨_, _, rfl, lnO_vr _, fun w hb => sheetLine_ok a b c e w hc.1 (Nat.le_of_ble_eq_true hc.2.1) hc.2.2 (hQ.below hb)⟩
    · cases h
  · cases h
noncomputable def hCellCheck : Hdl
  | [.agg [.int .i64 x, .int .i64 y, .int .u8 q]] => f3 x y q fun x y q => iO (ec (okC x y q) 1)
  | _ => none
theorem hCellCheck_ok {W : World} : HOk W 162 hCellCheck := by
  intro vs v h
  unfold hCellCheck at h
  split at h
  · rename_i x y q
    repeat (first | rw [f1_eq] at h | rw [f2_eq] at h | rw [f3_eq] at h | rw [fNat_eq] at h)
    rw [iO_eq] at h
    injection h with h; subst h
    exact ⟨_, _, rfl, iV _, fun w _ => cellCheck_any x y q w⟩
  · cases h
noncomputable def hCompare : Hdl
  | [.agg [.int .i64 x, .int .i64 y, .int .u8 (.ofNat q)], .agg [.int .i64 x', .int .i64 y', .int .u8 (.ofNat q')]] => f2 x y fun x y => f2 x' y' fun x' y' => fNat q fun q => fNat q' fun q' => match Nat.ble q 255 && Nat.ble q' 255 with
    | true => iO (cmpC ⟨x, y, q⟩ ⟨x', y', q'⟩)
    | false => none
  | _ => none
theorem hCompare_ok {W : World} : HOk W 60 hCompare := by
  intro vs v h
  unfold hCompare at h
  split at h
  · rename_i x y q x' y' q'
    repeat (first | rw [f1_eq] at h | rw [f2_eq] at h | rw [f3_eq] at h | rw [fNat_eq] at h)
    split at h
    · rename_i hc
      simp only [Bool.and_eq_true] at hc
      rw [iO_eq] at h
      injection h with h; subst h
      exact ⟨_, _, rfl, iV _, fun w _ => compare_any ⟨x, y, q⟩ ⟨x', y', q'⟩ w (Nat.le_of_ble_eq_true hc.1) (Nat.le_of_ble_eq_true hc.2)⟩
    · cases h
  · cases h
noncomputable def hSide : Hdl
  | [.agg [.int .u8 k, .int .i64 c], .agg [.int .i64 x, .int .i64 y, .int .u8 (.ofNat q)]] => f2 k c fun k c => f2 x y fun x y => fNat q fun q => match okL k c && okC x y q with
    | true => intO ((sideC k c ⟨x, y, q⟩ : Int), 0)
    | false => none
  | _ => none
theorem hSide_ok {W : World} (hQ : Qf W) : HOk W 174 hSide := by
  intro vs v h
  unfold hSide at h
  split at h
  · rename_i k c x y q
    repeat (first | rw [f1_eq] at h | rw [f2_eq] at h | rw [f3_eq] at h | rw [fNat_eq] at h)
    split at h
    · rename_i hc
      simp only [Bool.and_eq_true] at hc
      rw [intO_eq] at h
      injection h with h; subst h
      exact ⟨_, _, rfl, intO_vr _, fun w hb => cellSide_ok k c ⟨x, y, q⟩ w hc.1 hc.2 (hQ.below hb)⟩
    · cases h
  · cases h
noncomputable def hCellNb : Hdl
  | [.agg [.int .i64 x, .int .i64 y, .int .u8 (.ofNat q)], .int .u8 (.ofNat e)] => f2 x y fun x y => fNat q fun q => fNat e fun e => cellO (nbr x y q e)
  | _ => none
theorem hCellNb_ok {W : World} (hQ : Qf W) : HOk W 193 hCellNb := by
  intro vs v h
  unfold hCellNb at h
  split at h
  · rename_i x y q e
    repeat (first | rw [f1_eq] at h | rw [f2_eq] at h | rw [f3_eq] at h | rw [fNat_eq] at h)
    rw [cellO_eq] at h
    injection h with h; subst h
    exact ⟨_, _, rfl, cellO_vr _, fun w hb => neighbour_any x y q e w (Int.natCast_nonneg q) (Int.natCast_nonneg e) (hQ.below hb).qt⟩
  · cases h
noncomputable def hCellLine : Hdl
  | [.agg [.int .i64 x, .int .i64 y, .int .u8 (.ofNat q)], .int .u8 (.ofNat e)] => f2 x y fun x y => fNat q fun q => fNat e fun e => match okC x y q && Nat.ble e 2 with
    | true => lnO (lineE ⟨x, y, q⟩ e)
    | false => none
  | _ => none
theorem hCellLine_ok {W : World} (hQ : Qf W) : HOk W 214 hCellLine := by
  intro vs v h
  unfold hCellLine at h
  split at h
  · rename_i x y q e
    repeat (first | rw [f1_eq] at h | rw [f2_eq] at h | rw [f3_eq] at h | rw [fNat_eq] at h)
    split at h
    · rename_i hc
      simp only [Bool.and_eq_true] at hc
      rw [lnO_eq] at h
      injection h with h; subst h
      exact ⟨_, _, rfl, lnO_vr _, fun w hb => cellLine_ok ⟨x, y, q⟩ e w hc.1 (Nat.le_of_ble_eq_true hc.2) (hQ.below hb)⟩
    · cases h
  · cases h
noncomputable def hCellMove : Hdl
  | [.agg [.int .u8 (.ofNat t), .int .i64 a, .int .i64 b], .agg [.int .i64 x, .int .i64 y, .int .u8 (.ofNat q)]] => f2 a b fun a b => f2 x y fun x y => fNat t fun t => fNat q fun q => match okM t a b && okC x y q with
    | true => clO (moveC ⟨t, a, b⟩ ⟨x, y, q⟩)
    | false => none
  | _ => none
theorem hCellMove_ok {W : World} (hQ : Qf W) (hT : Tn W) : HOk W 99 hCellMove := by
  intro vs v h
  unfold hCellMove at h
  split at h
  · rename_i t a b x y q
    repeat (first | rw [f1_eq] at h | rw [f2_eq] at h | rw [f3_eq] at h | rw [fNat_eq] at h)
    split at h
    · rename_i hc
      simp only [Bool.and_eq_true] at hc
      rw [clO_eq] at h
      injection h with h; subst h
      exact ⟨_, _, rfl, clO_vr _, fun w hb => cellMove_ok movedOk ⟨t, a, b⟩ ⟨x, y, q⟩ w hc.1 hc.2 (hQ.below hb) (hT.below hb)⟩
    · cases h
  · cases h
noncomputable def hMoveCheck : Hdl
  | [.agg [.int .u8 (.ofNat t), .int .i64 a, .int .i64 b]] => f2 a b fun a b => fNat t fun t => match Nat.ble t 255 with
    | true => iO (ec (okM t a b) 1)
    | false => none
  | _ => none
theorem hMoveCheck_ok {W : World} : HOk W 95 hMoveCheck := by
  intro vs v h
  unfold hMoveCheck at h
  split at h
  · rename_i t a b
    repeat (first | rw [f1_eq] at h | rw [f2_eq] at h | rw [f3_eq] at h | rw [fNat_eq] at h)
    split at h
    · rename_i hc
      rw [iO_eq] at h
      injection h with h; subst h
      exact ⟨_, _, rfl, iV _, fun w _ => moveCheck_any t a b w ⟨Int.natCast_nonneg t, Int.ofNat_le.2 (Nat.le_of_ble_eq_true hc)⟩⟩
    · cases h
  · cases h
noncomputable def hMoveOf : Hdl
  | [.agg [.int .u8 (.ofNat k), .int .i64 c]] => f1 c fun c => fNat k fun k => mvO (moveL ((k : Int), c))
  | _ => none
theorem hMoveOf_ok {W : World} : HOk W 109 hMoveOf := by
  intro vs v h
  unfold hMoveOf at h
  split at h
  · rename_i k c
    repeat (first | rw [f1_eq] at h | rw [f2_eq] at h | rw [f3_eq] at h | rw [fNat_eq] at h)
    rw [mvO_eq] at h
    injection h with h; subst h
    exact ⟨_, _, rfl, mvO_vr _, fun w _ => moveOf_any k c w (Int.natCast_nonneg k)⟩
  · cases h
noncomputable def hThen : Hdl
  | [.agg [.int .u8 (.ofNat t), .int .i64 a, .int .i64 b], .agg [.int .u8 (.ofNat t'), .int .i64 a', .int .i64 b']] => f2 a b fun a b => f2 a' b' fun a' b' => fNat t fun t => fNat t' fun t' => match Nat.ble t 255 && Nat.ble t' 255 with
    | true => mvO (thenG ⟨t, a, b⟩ ⟨t', a', b'⟩)
    | false => none
  | _ => none
theorem hThen_ok {W : World} (hT : Tn W) : HOk W 98 hThen := by
  intro vs v h
  unfold hThen at h
  split at h
  · rename_i t a b t' a' b'
    repeat (first | rw [f1_eq] at h | rw [f2_eq] at h | rw [f3_eq] at h | rw [fNat_eq] at h)
    split at h
    · rename_i hc
      simp only [Bool.and_eq_true] at hc
      rw [mvO_eq] at h
      injection h with h; subst h
      exact ⟨_, _, rfl, mvO_vr _, fun w hb => thenG_any ⟨t, a, b⟩ ⟨t', a', b'⟩ w (Nat.le_of_ble_eq_true hc.1) (Nat.le_of_ble_eq_true hc.2) (hT.below hb)⟩
    · cases h
  · cases h
noncomputable def hFlips : Hdl
  | [.agg [.int .u8 (.ofNat t), .int .i64 a, .int .i64 b]] => f2 a b fun a b => fNat t fun t => match Nat.ble t 255 with
    | true => (match flipsM ⟨t, a, b⟩ with | true => some (.bool true) | false => some (.bool false))
    | false => none
  | _ => none
theorem hFlips_ok {W : World} : HOk W 130 hFlips := by
  intro vs v h
  unfold hFlips at h
  split at h
  · rename_i t a b
    repeat (first | rw [f1_eq] at h | rw [f2_eq] at h | rw [f3_eq] at h | rw [fNat_eq] at h)
    split at h
    · rename_i hc
      have h : some (AV.bool (flipsM ⟨t, a, b⟩)) = some v := by rw [← h]; cases flipsM ⟨t, a, b⟩ <;> rfl
      injection h with h; subst h
      exact ⟨_, _, rfl, bA_vr _, fun w _ => flips_any ⟨t, a, b⟩ w (Nat.le_of_ble_eq_true hc)⟩
    · cases h
  · cases h
noncomputable def hLineCheck : Hdl
  | [.agg [.int .u8 k, .int .i64 c]] => f2 k c fun k c => iO (ec (okL k c) 1)
  | _ => none
theorem hLineCheck_ok {W : World} : HOk W 173 hLineCheck := by
  intro vs v h
  unfold hLineCheck at h
  split at h
  · rename_i k c
    repeat (first | rw [f1_eq] at h | rw [f2_eq] at h | rw [f3_eq] at h | rw [fNat_eq] at h)
    rw [iO_eq] at h
    injection h with h; subst h
    exact ⟨_, _, rfl, iV _, fun w _ => lineCheck_any k c w⟩
  · cases h
noncomputable def hCmp : Hdl
  | [.int .i64 a, .int .i64 b] => f2 a b fun a b => iO (cmpI a b)
  | _ => none
theorem hCmp_ok {W : World} : HOk W 135 hCmp := by
  intro vs v h
  unfold hCmp at h
  split at h
  · rename_i a b
    repeat (first | rw [f1_eq] at h | rw [f2_eq] at h | rw [f3_eq] at h | rw [fNat_eq] at h)
    rw [iO_eq] at h
    injection h with h; subst h
    exact ⟨_, _, rfl, iV _, fun w _ => cmpInt_any a b w⟩
  · cases h

noncomputable def scalL : List (FuncId × Hdl) := [(54, hSheetCheck), (123, hCount), (97, hCell), (136, hNb), (149, hName), (155, hSheetLine),
  (162, hCellCheck), (60, hCompare), (174, hSide), (193, hCellNb), (214, hCellLine), (99, hCellMove),
  (95, hMoveCheck), (109, hMoveOf), (98, hThen), (130, hFlips), (173, hLineCheck), (135, hCmp)]
theorem scal_ok {W : World} (hQ : Qf W) (hT : Tn W) : ∀ p ∈ scalL, Hd W p := by
  intro p hp
  unfold scalL at hp
  simp only [List.mem_cons, List.not_mem_nil, or_false] at hp
  rcases hp with rfl | rfl | rfl | rfl | rfl | rfl | rfl | rfl | rfl | rfl | rfl | rfl | rfl | rfl | rfl | rfl | rfl | rfl
  · exact ⟨by decide, enters_of Tryz.func54 (by kernel_rfl) rfl, hSheetCheck_ok⟩
  · exact ⟨by decide, enters_of Tryz.func123 (by kernel_rfl) rfl, hCount_ok⟩
  · exact ⟨by decide, enters_of Tryz.func97 (by kernel_rfl) rfl, hCell_ok⟩
  · exact ⟨by decide, enters_of Tryz.func136 (by kernel_rfl) rfl, hNb_ok hQ⟩
  · exact ⟨by decide, enters_of Tryz.func149 (by kernel_rfl) rfl, hName_ok hQ⟩
  · exact ⟨by decide, enters_of Tryz.func155 (by kernel_rfl) rfl, hSheetLine_ok hQ⟩
  · exact ⟨by decide, enters_of Tryz.func162 (by kernel_rfl) rfl, hCellCheck_ok⟩
  · exact ⟨by decide, enters_of Tryz.func60 (by kernel_rfl) rfl, hCompare_ok⟩
  · exact ⟨by decide, enters_of Tryz.func174 (by kernel_rfl) rfl, hSide_ok hQ⟩
  · exact ⟨by decide, enters_of Tryz.func193 (by kernel_rfl) rfl, hCellNb_ok hQ⟩
  · exact ⟨by decide, enters_of Tryz.func214 (by kernel_rfl) rfl, hCellLine_ok hQ⟩
  · exact ⟨by decide, enters_of Tryz.func99 (by kernel_rfl) rfl, hCellMove_ok hQ hT⟩
  · exact ⟨by decide, enters_of Tryz.func95 (by kernel_rfl) rfl, hMoveCheck_ok⟩
  · exact ⟨by decide, enters_of Tryz.func109 (by kernel_rfl) rfl, hMoveOf_ok⟩
  · exact ⟨by decide, enters_of Tryz.func98 (by kernel_rfl) rfl, hThen_ok hT⟩
  · exact ⟨by decide, enters_of Tryz.func130 (by kernel_rfl) rfl, hFlips_ok⟩
  · exact ⟨by decide, enters_of Tryz.func173 (by kernel_rfl) rfl, hLineCheck_ok⟩
  · exact ⟨by decide, enters_of Tryz.func135 (by kernel_rfl) rfl, hCmp_ok⟩
end Go.Proofs.YtjdmkgnlakonbaaGreatDoor
