/- strconv.Itoa's table; the library's strconv.Itoa, strings.Split, strconv.Atoi and slices.Index at strings, laid at this program, in the form that machines.Parse asks. The conditions on the world (Mx): the table of powers of ten lies as the text lays it; the variables MaxLen, ErrSyntax and ErrRange hold values of their kind. -/
import Derived.Test.YtjdmkgnlakonbaaGreatDoorBx
import Derived.Test.YtjdmkgnlakonbaaGreatDoorMtx
import Derived.Ground.NamesProg
import Derived.Shelf.Lay
import Derived.Shelf.LaysM
import Derived.Shelf.LaysC
import Derived.Shelf.Strconv.Itoa3
import Derived.Shelf.Strconv.AtoiAll
import Derived.Shelf.Strings.Split
import Derived.Shelf.Slices.Turned
namespace Go.Proofs
open Go.Shelf Go.RowKit
shelf_lay LaysM.n171 Nm 171 at Tryz as Tryz.laysItoa
shelf_lay LaysC.n172 Nm 172 at Tryz as Tryz.laysAtoi
shelf_lay Lays.n146 Nm 146 at Tryz as Tryz.laysSplit
shelf_lay Lays.n109 Nm 109 at Tryz as Tryz.laysIndexS
end Go.Proofs
namespace Go.Proofs.YtjdmkgnlakonbaaGreatDoor
open Go.RowKit Go.Lib

/-- The table of powers of ten lies as the text lays it. -/
def Pw (w : World) : Prop := Lib.TabIs Tryz.prog w "internal/strconv.uint64pow10" .u64 Lib.pow10Tab
theorem pwName : Tryz.prog.globalNamed "internal/strconv.uint64pow10" = some 0 := by kernel_rfl
theorem Pw.below {w w' : World} (h : Pw w) (hb : Below w.heap.size w w') : Pw w' := by
  unfold Pw Lib.TabIs World.var? at h ⊢
  rw [pwName] at h ⊢
  simp only [Option.bind_some] at h ⊢
  have hlt : 0 < w.heap.size := by
    rcases Nat.lt_or_ge 0 w.heap.size with h' | h'
    · exact h'
    · rw [Array.getElem?_eq_none h'] at h; cases h
  rw [hb.block _ hlt]
  exact h
theorem grow_below (w : World) (k : Nat) (os : Array Obj) : Below w.heap.size w (Go.Sort.grow (w.drewN k) os) := by
  have h : ∀ (os : List Obj) (a b : World), Below a.heap.size a b → Below a.heap.size a (Go.Sort.grow b os.toArray) := by
    intro os
    induction os with
    | nil => intro a b h; rw [show ([] : List Obj).toArray = #[] from rfl, Go.Sort.grow_empty]; exact h
    | cons o r ih =>
      intro a b h
      have e : Go.Sort.grow b (o :: r).toArray = Go.Sort.grow (b.alloc o) r.toArray := by
        rw [Go.Sort.alloc_eq_grow, Go.Sort.grow_grow]; simp
      rw [e]
      exact ih a _ (h.alloc h.size o)
  exact h os.toList w _ (below_drewN (Below.refl _ _) k)

/-- In the midst of a region that draws its order: more may be asked of the world from here on. -/
theorem wpAnyH_strong {P : Program} {md : Region.Mode} {ops : Array Oper} {Q : Exit → Act → World → Prop} {S S' : World → Prop} (h : ∀ w, S' w → S w) :
    ∀ (fuel : Nat) (listed : Array Bool) (a : Act) (w : World), wpAnyH P md ops Q S' fuel listed a w → wpAnyH P md ops Q S fuel listed a w
  | 0, _, _, _, H => H
  | fuel + 1, _, _, _, H => ⟨H.1, fun i hi => wpOp_mono (fun _ _ h' => ⟨h _ h'.1, wpAnyH_strong h fuel _ _ _ h'.2⟩) (H.2 i hi)⟩

def isErr (v : Value) : Prop := v = .nilIface ∨ ∃ te pe, v = .iface te pe
/-- What the library's calls ask of the world. -/
structure Mx (w : World) : Prop where
  pw : Pw w
  ml : ∃ m, w.cell? ⟨3, 0, none⟩ = some (.int .i64 m)
  es : ∃ v, w.cell? ⟨1, 0, none⟩ = some v ∧ isErr v
  er : ∃ v, w.cell? ⟨2, 0, none⟩ = some v ∧ isErr v
theorem Mx.below {w w' : World} (h : Mx w) (hb : Below w.heap.size w w') : Mx w' :=
  ⟨h.pw.below hb, h.ml.imp fun _ e => below_cell hb e, h.es.imp fun _ e => ⟨below_cell hb e.1, e.2⟩, h.er.imp fun _ e => ⟨below_cell hb e.1, e.2⟩⟩
theorem itoa_any (a : Int) (h0 : 1 ≤ a) (h1 : a ≤ 512) (w : World) (hM : Mx w) : Calls Tryz.prog 5 #[.int .i64 a] w (RetBelow (.string (bsOf (itoa a))) w) := by
  refine (Any.strconv_Itoa Tryz.laysItoa a (by omega) (by omega) w hM.pw).mono ?_
  rintro e w' ⟨rfl, k, os, rfl⟩
  exact ⟨rfl, grow_below w k os⟩
theorem split_any (s : ByteArray) (hs : s.size ≤ 40) (w : World) (hM : Mx w) : Calls Tryz.prog 15 #[.string s, .string spB] w fun e w' => e = .returned (.slice (some ⟨w.heap.size, 0, none⟩) (countB s spB + 1) (countB s spB + 1)) ∧ w' = w.alloc (.cells ((splitB spB 0 (countB s spB) s).map Value.string).toArray 9) := by
  obtain ⟨m, hm⟩ := hM.ml
  exact Any.strings_Split Tryz.laysSplit (by kernel_rfl) s spB m w (by omega) hm (by decide)
/-- An int and an error that nobody looks at; the int is the number where the text spells one. -/
def AtoiRet (s : ByteArray) (w : World) (e : Ending) (w' : World) : Prop := ∃ v x, e = .returned (.tuple #[.int .i64 v, x]) ∧ Below w.heap.size w w' ∧ (∀ a, atoiAll s.data.toList = .ok a → v = a)
theorem atoi_any (s : ByteArray) (hs : s.size ≤ 1000) (w : World) (hM : Mx w) : Calls Tryz.prog 18 #[.string s] w (AtoiRet s w) := by
  cases ha : atoiAll s.data.toList with
  | ok v =>
    refine (Any.strconv_Atoi_ok Tryz.laysAtoi s (by omega) v ha w).mono ?_
    rintro e w' ⟨rfl, hw⟩
    refine ⟨v, _, rfl, ?_, fun a h => ?_⟩
    · rcases hw with rfl | ⟨t, rfl⟩
      · exact Below.refl _ _
      · exact Lib.bytesWorld_below w _ t
    · rw [ha] at h; injection h
  | «syntax» =>
    obtain ⟨v, hv, hev⟩ := hM.es
    refine (Any.strconv_Atoi_syntax Tryz.laysAtoi s (by omega) ha v w hv hev).mono ?_
    rintro e w' ⟨N, rfl, _, _, hb⟩
    exact ⟨_, _, rfl, hb, fun a h => by rw [ha] at h; cases h⟩
  | range =>
    obtain ⟨v, hv, hev⟩ := hM.er
    refine (Any.strconv_Atoi_range Tryz.laysAtoi s (by omega) ha v w hv hev).mono ?_
    rintro e w' ⟨N, rfl, _, _, hb⟩
    exact ⟨_, _, rfl, hb, fun a h => by rw [ha] at h; cases h⟩
end Go.Proofs.YtjdmkgnlakonbaaGreatDoor
