/- Rows of kinds in memory; contracts of maps.grid and of the search for a kind that is none. -/
import Derived.Test.YtcgbdkjelbgcfaaGreatDoorG
import Derived.Test.YtcgbdkjelbgcfaaGreatDoorRows
namespace Go.Proofs.YtcgbdkjelbgcfaaGreatDoor
open Go.RowKit

/-- A row of kinds: where it lies, and what it holds. -/
structure Row where
  A : Option Addr
  c : Nat
  ks : List Int
def Row.head (r : Row) : Value := .slice r.A r.ks.length r.c
def kds (l : List Int) : List Value := l.map (Value.int .u8)
theorem kds_len (l : List Int) : (kds l).length = l.length := by simp [kds]
structure RowOk (w : World) (r : Row) : Prop where
  rd : Rd w r.A 1 r.ks.length (kds r.ks)
  nil : r.A = none → r.ks.length = 0
  kind : ∀ k ∈ r.ks, 0 ≤ k ∧ k ≤ 255
theorem RowOk.below {w w' : World} {r : Row} (h : RowOk w r) (hb : Below w.heap.size w w') : RowOk w' r := ⟨h.rd.below hb, h.nil, h.kind⟩
/-- Rows of kinds: a slice of slices. -/
structure RowsOk (w : World) (A : Option Addr) (rs : List Row) : Prop where
  rd : Rd w A 1 rs.length (rs.map Row.head)
  nil : A = none → rs.length = 0
  row : ∀ r ∈ rs, RowOk w r
theorem RowsOk.below {w w' : World} {A : Option Addr} {rs : List Row} (h : RowsOk w A rs) (hb : Below w.heap.size w w') : RowsOk w' A rs := ⟨h.rd.below hb, h.nil, fun r hr => (h.row r hr).below hb⟩
theorem RowsOk.at' {w : World} {A : Option Addr} {rs : List Row} (h : RowsOk w A rs) (i : Nat) (hi : i < rs.length) : ∃ b o, A = some ⟨b, o, none⟩ ∧ b < w.heap.size ∧ w.cell? ⟨b, o + i, none⟩ = some (.slice rs[i].A rs[i].ks.length rs[i].c) := by
  obtain ⟨b, o, e, hb, hc⟩ := h.rd.2 (by omega)
  exact ⟨b, o, e, hb, hc i _ (by simp [Row.head, hi])⟩
theorem RowOk.at' {w : World} {r : Row} (h : RowOk w r) (i : Nat) (hi : i < r.ks.length) : ∃ b o, r.A = some ⟨b, o, none⟩ ∧ b < w.heap.size ∧ w.cell? ⟨b, o + i, none⟩ = some (.int .u8 r.ks[i]) := by
  obtain ⟨b, o, e, hb, hc⟩ := h.rd.2 (by omega)
  exact ⟨b, o, e, hb, hc i _ (by simp [kds, hi])⟩

/-- -1 if none is so (b = false), else a place. -/
def IdxB (b : Bool) (w : World) (e : Ending) (w' : World) : Prop := ((b = false ∧ e = .returned (.int .i64 (-1))) ∨ (b = true ∧ ∃ k : Nat, e = .returned (.int .i64 k))) ∧ w = w'
def bigK (k : Int) : Bool := decide (2 < k)
set_option maxHeartbeats 400000 in
theorem bigK_any (k : Int) (w : World) : Calls Tryz.prog 29 #[.int .u8 k] w fun e w' => e = .returned (.bool (bigK k)) ∧ w = w' := by
  obtain ⟨R, hR⟩ : ∃ R, bigK k = R := ⟨_, rfl⟩
  rw [hR]
  have HR := Lib.hid hR
  clear hR
  go_enter Tryz.func29, Tryz.ntmps29
  go_wp2_with fail
  go_ret
  exact ⟨by rw [← HR.out]; rfl, rfl⟩

set_option maxHeartbeats 1000000 in
theorem anyBig_any (r : Row) (w : World) (h : RowOk w r) (hl : r.ks.length ≤ 1000000) :
    Calls Tryz.prog 28 #[.slice r.A r.ks.length r.c, .func (.func 29) #[] #[]] w fun e w' => e = .returned (.bool (r.ks.any bigK)) ∧ w = w' := by
  have hix : Calls Tryz.prog 50 #[.slice r.A r.ks.length r.c, .func (.func 29) #[] #[]] w (IdxB (r.ks.any bigK) w) := by
    go_enter Tryz.func50, Tryz.ntmps50
    go_wp2_with fail
    go_loop [5, 8] (fun _ i => ∃ k : Nat, k ≤ r.ks.length ∧ i = .int .i64 k ∧ Hid ((r.ks.take k).any bigK = false)) (fun _ i => r.ks.length - (intOf i).toNat)
    case atStart => exact ⟨0, by omega, rfl, Lib.hid rfl⟩
    case round =>
      obtain ⟨k, hk, rfl, HK⟩ := hrel
      by_cases hlt : k < r.ks.length
      · obtain ⟨b, o, hA, hbl, c0⟩ := h.at' k hlt
        obtain ⟨x, hx⟩ : ∃ x, r.ks[k] = x := ⟨_, rfl⟩
        rw [hx] at c0
        have HX := Lib.hid hx
        rw [hA]
        clear hx
        go_wp2_with fail
        refine (bigK_any x _).mono ?_
        rintro e w2 ⟨rfl, rfl⟩
        cases hb : bigK x
        · have HB := Lib.hid hb
          clear hb
          go_wp2_with fail
          refine ⟨⟨k + 1, by omega, by go_num, Lib.hid ?_⟩, by simp [intOf]; omega⟩
          rw [List.take_succ_eq_append_getElem hlt, HX.out, List.any_append, HK.out]
          simp [HB.out]
        · have HB := Lib.hid hb
          clear hb
          go_wp2_with fail
          go_ret
          refine ⟨.inr ⟨?_, k, rfl⟩, rfl⟩
          rw [List.any_eq_true]
          exact ⟨x, by rw [← HX.out]; exact List.getElem_mem _, HB.out⟩
      · obtain rfl : k = r.ks.length := by omega
        go_wp2_with fail
        go_ret
        refine ⟨.inl ⟨?_, rfl⟩, rfl⟩
        have := HK.out
        rwa [List.take_length] at this
  have HIX := Lib.hid hix
  clear hix h
  go_enter Tryz.func28, Tryz.ntmps28
  go_wp2_with fail
  refine HIX.out.mono ?_
  rintro e w2 ⟨⟨hok, rfl⟩ | ⟨hok, k, rfl⟩, rfl⟩
  · have HK := Lib.hid hok
    clear hok
    go_wp2_with fail
    go_ret
    exact ⟨by rw [HK.out]; rfl, rfl⟩
  · have HK := Lib.hid hok
    clear hok
    have hk0 : (0 : Int) ≤ (k : Int) := by omega
    go_wp2_with fail
    go_ret
    exact ⟨by rw [HK.out]; rfl, rfl⟩

/-- So many rows of so many kinds. -/
def gridOk (rs : List Row) (h c : Int) : Bool := ((rs.length : Int) == h) && rs.all fun r => ((r.ks.length : Int) == c)

set_option maxHeartbeats 1000000 in
theorem otherLen_any (r : Row) (c : Int) (g : Nat) (w : World) (hc : w.cell? ⟨g, 0, none⟩ = some (.int .i64 c)) :
    Calls Tryz.prog 48 #[.slice r.A r.ks.length r.c, .pointer (some ⟨g, 0, none⟩)] w fun e w' => e = .returned (.bool ((r.ks.length : Int) != c)) ∧ w = w' := by
  obtain ⟨R, hR⟩ : ∃ R, ((r.ks.length : Int) != c) = R := ⟨_, rfl⟩
  rw [hR]
  have HR := Lib.hid hR
  clear hR
  go_enter Tryz.func48, Tryz.ntmps48
  go_wp2_with fail
  go_ret
  exact ⟨by rw [← HR.out]; rfl, rfl⟩

set_option maxHeartbeats 1000000 in
theorem anyOther_any (A : Option Addr) (rs : List Row) (cc : Nat) (c : Int) (g : Nat) (w : World) (h : RowsOk w A rs) (hl : rs.length ≤ 1000000) (hc : w.cell? ⟨g, 0, none⟩ = some (.int .i64 c)) :
    Calls Tryz.prog 47 #[.slice A rs.length cc, .func (.func 48) #[] #[.pointer (some ⟨g, 0, none⟩)]] w fun e w' => e = .returned (.bool (!rs.all fun r => ((r.ks.length : Int) == c))) ∧ w = w' := by
  have hix : Calls Tryz.prog 60 #[.slice A rs.length cc, .func (.func 48) #[] #[.pointer (some ⟨g, 0, none⟩)]] w (IdxB (!rs.all fun r => ((r.ks.length : Int) == c)) w) := by
    go_enter Tryz.func60, Tryz.ntmps60
    go_wp2_with fail
    go_loop [5, 8] (fun _ i => ∃ k : Nat, k ≤ rs.length ∧ i = .int .i64 k ∧ Hid (((rs.take k).all fun r => ((r.ks.length : Int) == c)) = true)) (fun _ i => rs.length - (intOf i).toNat)
    case atStart => exact ⟨0, by omega, rfl, Lib.hid rfl⟩
    case round =>
      obtain ⟨k, hk, rfl, HK⟩ := hrel
      by_cases hlt : k < rs.length
      · obtain ⟨b, o, rfl, hbl, c0⟩ := h.at' k hlt
        obtain ⟨x, hx⟩ : ∃ x, rs[k] = x := ⟨_, rfl⟩
        rw [hx] at c0
        have HX := Lib.hid hx
        clear hx
        go_wp2_with fail
        refine (otherLen_any x c g _ hc).mono ?_
        rintro e w2 ⟨rfl, rfl⟩
        cases hb : ((x.ks.length : Int) != c)
        · have HB := Lib.hid hb
          clear hb
          go_wp2_with fail
          refine ⟨⟨k + 1, by omega, by go_num, Lib.hid ?_⟩, by simp [intOf]; omega⟩
          rw [List.take_succ_eq_append_getElem hlt, HX.out, List.all_append, HK.out]
          have := HB.out
          simp at this ⊢
          exact this
        · have HB := Lib.hid hb
          clear hb
          go_wp2_with fail
          go_ret
          refine ⟨.inr ⟨?_, k, rfl⟩, rfl⟩
          rw [Bool.not_eq_true', List.all_eq_false]
          refine ⟨x, by rw [← HX.out]; exact List.getElem_mem _, ?_⟩
          have := HB.out
          simp at this ⊢
          exact this
      · obtain rfl : k = rs.length := by omega
        go_wp2_with fail
        go_ret
        refine ⟨.inl ⟨?_, rfl⟩, rfl⟩
        have := HK.out
        rw [List.take_length] at this
        rw [this]
        rfl
  have HIX := Lib.hid hix
  clear hix h
  go_enter Tryz.func47, Tryz.ntmps47
  go_wp2_with fail
  refine HIX.out.mono ?_
  rintro e w2 ⟨⟨hok, rfl⟩ | ⟨hok, k, rfl⟩, rfl⟩
  · have HK := Lib.hid hok
    clear hok
    go_wp2_with fail
    go_ret
    exact ⟨by rw [HK.out]; rfl, rfl⟩
  · have HK := Lib.hid hok
    clear hok
    have hk0 : (0 : Int) ≤ (k : Int) := by omega
    go_wp2_with fail
    go_ret
    exact ⟨by rw [HK.out]; rfl, rfl⟩

set_option maxHeartbeats 1000000 in
theorem grid_any (A : Option Addr) (rs : List Row) (cc : Nat) (hh c : Int) (w : World) (h : RowsOk w A rs) (hl : rs.length ≤ 1000000) :
    Calls Tryz.prog 26 #[.slice A rs.length cc, .int .i64 hh, .int .i64 c] w (RetBelow (.bool (gridOk rs hh c)) w) := by
  have hb1 : Below w.heap.size w (w.alloc (.cells #[.int .i64 c] 3)) := (Below.refl _ _).alloc (Nat.le_refl _) _
  have hcell : (w.alloc (.cells #[.int .i64 c] 3)).cell? ⟨w.heap.size, 0, none⟩ = some (.int .i64 c) := one_cell (heap_alloc_new w _)
  have ha := anyOther_any A rs cc c w.heap.size (w.alloc (.cells #[.int .i64 c] 3)) (h.below hb1) hl hcell
  have HA := Lib.hid ha
  obtain ⟨R, hR⟩ : ∃ R, gridOk rs hh c = R := ⟨_, rfl⟩
  rw [hR]
  have HR := Lib.hid hR
  clear ha hcell hR h
  cases hlh : ((rs.length : Int) == hh)
  · have HL := Lib.hid hlh
    go_enter Tryz.func26, Tryz.ntmps26
    go_wp2_with fail
    go_ret
    exact ⟨by rw [← HR.out]; unfold gridOk; rw [HL.out]; rfl, hb1⟩
  · have HL := Lib.hid hlh
    go_enter Tryz.func26, Tryz.ntmps26
    go_wp2_with fail
    refine HA.out.mono ?_
    rintro e w2 ⟨rfl, rfl⟩
    cases hx : (rs.all fun r => ((r.ks.length : Int) == c))
    · have HX := Lib.hid hx
      clear hx
      go_wp2_with fail
      go_ret
      exact ⟨by rw [← HR.out]; unfold gridOk; rw [HL.out, HX.out]; rfl, hb1⟩
    · have HX := Lib.hid hx
      clear hx
      go_wp2_with fail
      go_ret
      exact ⟨by rw [← HR.out]; unfold gridOk; rw [HL.out, HX.out]; rfl, hb1⟩
end Go.Proofs.YtcgbdkjelbgcfaaGreatDoor
