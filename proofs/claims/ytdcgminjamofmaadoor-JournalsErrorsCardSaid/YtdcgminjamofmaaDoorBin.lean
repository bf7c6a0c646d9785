/- Contract of slices.BinarySearchFunc at jobs. -/
import Derived.Test.YtdcgminjamofmaaDoorJob
import Derived.Test.YtdcgminjamofmaaDoorClip
namespace Go.Proofs.YtdcgminjamofmaaDoor
open Go.RowKit

def jobsC (l : List JobS) : List Value := l.flatMap JobS.cells
theorem job_len (j : JobS) : j.cells.length = 6 := rfl
theorem jobsC_len (l : List JobS) : (jobsC l).length = l.length * 6 := flat_len _ 6 job_len l
theorem rd_job {w : World} {A : Option Addr} {l : List JobS} (h : Rd w A 6 l.length (jobsC l)) (i : Nat) (hi : i < l.length) :
    ∃ b o, A = some ⟨b, o, none⟩ ∧ b < w.heap.size ∧ w.cell? ⟨b, o + i * 6, none⟩ = some (.int .i64 l[i].job) ∧ w.cell? ⟨b, o + i * 6 + 1, none⟩ = some (.int .i64 l[i].copies) ∧
      w.cell? ⟨b, o + i * 6 + 2, none⟩ = some (.int .i64 l[i].printed) ∧ w.cell? ⟨b, o + i * 6 + 3, none⟩ = some (.int .i64 l[i].folded) ∧
      w.cell? ⟨b, o + i * 6 + 4, none⟩ = some (.int .i64 l[i].cut) ∧ w.cell? ⟨b, o + i * 6 + 5, none⟩ = some (.bool l[i].deliv) := by
  obtain ⟨b, o, e, hb, hc⟩ := h.2 (by omega)
  refine ⟨b, o, e, hb, ?_, ?_, ?_, ?_, ?_, ?_⟩
  · exact hc (i * 6 + 0) _ ((flat_at _ 6 job_len l i 0 hi (by omega)).trans rfl)
  · exact hc (i * 6 + 1) _ ((flat_at _ 6 job_len l i 1 hi (by omega)).trans rfl)
  · exact hc (i * 6 + 2) _ ((flat_at _ 6 job_len l i 2 hi (by omega)).trans rfl)
  · exact hc (i * 6 + 3) _ ((flat_at _ 6 job_len l i 3 hi (by omega)).trans rfl)
  · exact hc (i * 6 + 4) _ ((flat_at _ 6 job_len l i 4 hi (by omega)).trans rfl)
  · exact hc (i * 6 + 5) _ ((flat_at _ 6 job_len l i 5 hi (by omega)).trans rfl)

set_option maxHeartbeats 400000 in
theorem lam_any (J C P F U n : Int) (D : Bool) (w : World) :
    Calls Tryd.prog 41 #[.agg #[.int .i64 J, .int .i64 C, .int .i64 P, .int .i64 F, .int .i64 U, .bool D], .int .i64 n] w (RetBelow (.int .i64 (cmpI J n)) w) := by
  go_enter Tryd.func41, Tryd.ntmps41
  go_wp2_with fail
  refine (cmp_any _ _ _).mono ?_
  rintro e w' ⟨rfl, rfl⟩
  go_wp2_with fail
  go_ret
  exact ⟨rfl, by repeat' (first | exact Below.refl _ _ | refine Below.alloc ?_ (by simp) _)⟩

/-- How many jobs, from the first on, have a smaller number. -/
def insPos (l : List JobS) (n : Int) : Nat := (l.takeWhile (fun j => decide (j.job < n))).length
/-- Whether the job at that place has this number. -/
def foundAt (l : List JobS) (n : Int) (i : Nat) : Bool := match l[i]? with
  | some j => decide (j.job = n)
  | none => false
theorem insPos_eq (l : List JobS) (n : Int) (i : Nat) (hi : i ≤ l.length) (h1 : ∀ k (hk : k < l.length), k < i → l[k].job < n) (h2 : ∀ k (hk : k < l.length), i ≤ k → n ≤ l[k].job) : i = insPos l n := by
  unfold insPos
  induction l generalizing i with
  | nil => simpa using hi
  | cons a r ih =>
    cases i with
    | zero =>
      have h0 : n ≤ a.job := h2 0 (by simp) (Nat.le_refl _)
      rw [List.takeWhile_cons_of_neg (by simpa using h0)]
      rfl
    | succ i =>
      have ha : a.job < n := h1 0 (by simp) (by omega)
      rw [List.takeWhile_cons_of_pos (by simpa using ha), List.length_cons]
      rw [← ih i (by simpa using hi) (fun k hk hki => h1 (k + 1) (by simpa using hk) (by omega)) (fun k hk hki => h2 (k + 1) (by simpa using hk) (by omega))]

set_option maxHeartbeats 1000000 in
theorem bin_any (A : Option Addr) (l : List JobS) (n c : Nat) (t : Int) (w : World) (hn : n = l.length) (h : Rd w A 6 n (jobsC l)) (hl : n ≤ 1000000000000)
    (hs : ∀ i k (hi : i < l.length) (hk : k < l.length), i < k → l[i].job < l[k].job) :
    Calls Tryd.prog 40 #[.slice A n c, .int .i64 t, .func (.func 41) #[] #[]] w
      (RetBelow (.tuple #[.int .i64 (insPos l t), .bool (foundAt l t (insPos l t))]) w) := by
  subst hn
  have HS := Lib.hid hs
  clear hs
  go_enter Tryd.func40, Tryd.ntmps40
  go_wp2
  go_loopw [9, 10] (fun x y wr => ∃ i j : Nat, i ≤ j ∧ j ≤ l.length ∧ x = .int .i64 i ∧ y = .int .i64 j ∧ Below w.heap.size w wr ∧ Hid (∀ k (hk : k < l.length), k < i → l[k].job < t) ∧ Hid (∀ k (hk : k < l.length), j ≤ k → t ≤ l[k].job)) (fun x y _ => (intOf y).toNat - (intOf x).toNat)
  case atStart => exact ⟨0, l.length, by omega, by omega, rfl, rfl, Below.refl _ _, fun k hk hk' => by omega, fun k hk hk' => by omega⟩
  case round =>
    obtain ⟨i, j, hij, hjl, rfl, rfl, hbel, H1, H2⟩ := hrel
    have hh := h.below hbel
    by_cases hlt : i < j
    · obtain ⟨b, o, rfl, hbl, c0, c1, c2, c3, c4, c5⟩ := rd_job hh ((i + j) / 2) (by omega)
      obtain ⟨r, hr⟩ : ∃ r, l[(i + j) / 2]'(by omega) = r := ⟨_, rfl⟩
      rw [hr] at c0 c1 c2 c3 c4 c5
      have HR := Lib.hid hr
      clear hr
      go_wp2_with fail
      refine (lam_any _ _ _ _ _ _ _ _).mono ?_
      rintro e w2 ⟨rfl, hb2⟩
      have hbel2 : Below w.heap.size w w2 := hbel.trans (hb2.mono hbel.size)
      clear c0 c1 c2 c3 c4 c5 hh h
      by_cases hJ : r.job < t
      · rw [cmpI_lt hJ]
        have HJ := Lib.hid hJ
        clear hJ
        go_wp2
        go_roundw
        case rel =>
          refine ⟨(i + j) / 2 + 1, j, by omega, by omega, by go_num, rfl, hbel2, ?_, H2⟩
          intro k hk hki
          have hm := HS.out k ((i + j) / 2) hk (by omega)
          rcases Nat.lt_or_ge k ((i + j) / 2) with h' | h'
          · have := hm h'
            rw [HR.out] at this
            have := HJ.out
            omega
          · obtain rfl : k = (i + j) / 2 := by omega
            rw [HR.out]
            exact HJ.out
        case measure => simp [intOf]; omega
      · have hc : cmpI r.job t = 0 ∨ cmpI r.job t = 1 := by
          unfold cmpI; rw [if_neg hJ]; split <;> simp
        have HJ := Lib.hid hJ
        clear hJ
        have hc0 : decide (cmpI r.job t < 0) = false := by rcases hc with hc | hc <;> rw [hc] <;> rfl
        clear hc
        go_wp2
        go_roundw
        case rel =>
          refine ⟨i, (i + j) / 2, by omega, by omega, rfl, by go_num, hbel2, H1, ?_⟩
          intro k hk hki
          have hm := HS.out ((i + j) / 2) k (by omega) hk
          have h0 := HJ.out
          rcases Nat.lt_or_ge ((i + j) / 2) k with h' | h'
          · have := hm h'
            rw [HR.out] at this
            omega
          · obtain rfl : k = (i + j) / 2 := by omega
            rw [HR.out]
            omega
        case measure => simp [intOf]; omega
    · obtain rfl : i = j := by omega
      have hp := insPos_eq l t i hjl H1.out H2.out
      have HP := Lib.hid hp
      clear hp
      by_cases hi : i < l.length
      · obtain ⟨b, o, rfl, hbl, c0, c1, c2, c3, c4, c5⟩ := rd_job hh i hi
        obtain ⟨r, hr⟩ : ∃ r, l[i] = r := ⟨_, rfl⟩
        rw [hr] at c0 c1 c2 c3 c4 c5
        have HR := Lib.hid hr
        have hge : t ≤ r.job := by rw [← hr]; exact H2.out i hi (Nat.le_refl _)
        clear hr
        go_wp2_with fail
        refine (lam_any _ _ _ _ _ _ _ _).mono ?_
        rintro e w2 ⟨rfl, hb2⟩
        have hbel2 : Below w.heap.size w w2 := hbel.trans (hb2.mono hbel.size)
        clear c0 c1 c2 c3 c4 c5 hh h
        by_cases e : r.job = t
        · have hfo : foundAt l t i = true := by
            unfold foundAt
            rw [List.getElem?_eq_getElem hi, HR.out]
            simp [e]
          rw [cmpI_eq (by omega) (by omega)]
          have HF := Lib.hid hfo
          clear hfo e
          go_wp2
          go_ret2
          refine ⟨?_, hbel2⟩
          rw [← HP.out, HF.out]
          rfl
        · have hfo : foundAt l t i = false := by
            unfold foundAt
            rw [List.getElem?_eq_getElem hi, HR.out]
            simp [e]
          rw [cmpI_gt (by omega)]
          have HF := Lib.hid hfo
          clear hfo e
          go_wp2
          go_ret2
          refine ⟨?_, hbel2⟩
          rw [← HP.out, HF.out]
          rfl
      · go_wp2
        go_ret2
        refine ⟨?_, hbel⟩
        rw [← HP.out]
        unfold foundAt
        rw [List.getElem?_eq_none (by omega)]
        rfl
end Go.Proofs.YtdcgminjamofmaaDoor
