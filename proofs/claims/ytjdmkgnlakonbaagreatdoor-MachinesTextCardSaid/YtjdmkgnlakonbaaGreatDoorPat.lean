/- Contracts of package patterns: unit, order, isKind, the search for a crease, Check of a valid pattern. -/
import Derived.Test.YtjdmkgnlakonbaaGreatDoorShe2
import Derived.Deep.RegionHeld3
namespace Go.Proofs.YtjdmkgnlakonbaaGreatDoor
open Go.RowKit

structure Cr where
  c : Int
  e : Int
  k : Int
def Cr.cells (r : Cr) : List Value := [.int .i64 r.c, .int .u8 r.e, .int .u8 r.k]
def crs (l : List Cr) : List Value := l.flatMap Cr.cells
theorem cr_len (r : Cr) : r.cells.length = 3 := rfl
theorem crs_len (l : List Cr) : (crs l).length = l.length * 3 := flat_len _ 3 cr_len l
theorem crs_one (l : List Cr) : ∀ u ∈ crs l, u.oneCell' = true := by
  intro u hu
  obtain ⟨r, _, hr⟩ := List.mem_flatMap.1 hu
  simp only [Cr.cells, List.mem_cons, List.not_mem_nil, or_false] at hr
  rcases hr with h | h | h <;> subst h <;> rfl
theorem rd_cr {w : World} {A : Option Addr} {l : List Cr} (h : Rd w A 3 l.length (crs l)) (i : Nat) (hi : i < l.length) :
    ∃ b o, A = some ⟨b, o, none⟩ ∧ b < w.heap.size ∧ w.cell? ⟨b, o + i * 3, none⟩ = some (.int .i64 l[i].c) ∧ w.cell? ⟨b, o + i * 3 + 1, none⟩ = some (.int .u8 l[i].e) ∧ w.cell? ⟨b, o + i * 3 + 2, none⟩ = some (.int .u8 l[i].k) := by
  obtain ⟨b, o, e, hb, hc⟩ := h.2 (by omega)
  refine ⟨b, o, e, hb, ?_, ?_, ?_⟩
  · exact hc (i * 3 + 0) _ ((flat_at _ 3 cr_len l i 0 hi (by omega)).trans rfl)
  · exact hc (i * 3 + 1) _ ((flat_at _ 3 cr_len l i 1 hi (by omega)).trans rfl)
  · exact hc (i * 3 + 2) _ ((flat_at _ 3 cr_len l i 2 hi (by omega)).trans rfl)

def ordU (c e c' e' : Int) : Int := if c = c' then e - e' else c - c'
/-- The numbers of a crease are in their ranges. -/
def Cr.fit (r : Cr) : Prop := (0 ≤ r.c ∧ r.c ≤ 1024) ∧ (0 ≤ r.e ∧ r.e ≤ 255) ∧ (0 ≤ r.k ∧ r.k ≤ 255)

set_option maxHeartbeats 1000000 in
theorem unit_any (c e k : Int) (w : World) :
    Calls Tryz.prog 150 #[.agg #[.int .i64 c, .int .u8 e, .int .u8 k]] w (RetBelow (.agg #[.int .i64 c, .int .u8 e]) w) := by
  go_enter Tryz.func150, Tryz.ntmps150
  go_wp2_with fail
  refine bodyPost_ret (v := .agg #[.int .i64 c, .int .u8 e]) (by simp [results, Tryz.results150, go_sem]) rfl ⟨rfl, ?_⟩
  repeat' (first | exact Below.refl _ _ | refine Below.drew ?_ | refine Below.setCell ?_ (by simp) _ | refine Below.alloc ?_ (by simp) _)

set_option maxHeartbeats 1000000 in
theorem order_any (c e c' e' : Int) (w : World) (hc : 0 ≤ c ∧ c ≤ 1024) (hc' : 0 ≤ c' ∧ c' ≤ 1024) (he : 0 ≤ e ∧ e ≤ 255) (he' : 0 ≤ e' ∧ e' ≤ 255) :
    Calls Tryz.prog 151 #[.agg #[.int .i64 c, .int .u8 e], .agg #[.int .i64 c', .int .u8 e']] w (RetBelow (.int .i64 (ordU c e c' e')) w) := by
  obtain ⟨h1, h2⟩ := hc
  obtain ⟨h3, h4⟩ := hc'
  obtain ⟨h5, h6⟩ := he
  obtain ⟨h7, h8⟩ := he'
  obtain ⟨R, hR⟩ : ∃ R, ordU c e c' e' = R := ⟨_, rfl⟩
  rw [hR]
  have HR := Lib.hid hR
  clear hR
  by_cases hcc : c = c'
  · have hb : (c != c') = false := by simpa using hcc
    have HCC := Lib.hid hcc
    clear hcc
    have k1 : IntKind.i64.wrap e = e := IntWalk.i64_in _ (by omega)
    have k2 : IntKind.i64.wrap e' = e' := IntWalk.i64_in _ (by omega)
    go_enter Tryz.func151, Tryz.ntmps151
    go_wp2_with fail
    go_ret
    exact ⟨ret_int (by rw [← HR.out]; unfold ordU; rw [if_pos HCC.out]), ((Below.refl _ _).alloc (Nat.le_refl _) _).alloc (by simp) _⟩
  · have hb : (c != c') = true := by simpa using hcc
    have HCC := Lib.hid hcc
    clear hcc
    go_enter Tryz.func151, Tryz.ntmps151
    go_wp2_with fail
    go_ret
    exact ⟨ret_int (by rw [← HR.out]; unfold ordU; rw [if_neg HCC.out]), ((Below.refl _ _).alloc (Nat.le_refl _) _).alloc (by simp) _⟩

def isK (k : Int) : Bool := decide (1 ≤ k) && decide (k ≤ 3)
set_option maxHeartbeats 400000 in
theorem isKind_any (k : Int) (w : World) : Calls Tryz.prog 148 #[.int .u8 k] w fun e w' => e = .returned (.bool (isK k)) ∧ w = w' := by
  obtain ⟨R, hR⟩ : ∃ R, isK k = R := ⟨_, rfl⟩
  rw [hR]
  have HR := Lib.hid hR
  clear hR
  go_enter Tryz.func148, Tryz.ntmps148
  go_wp2_with fail
  all_goals go_ret
  · exact ⟨ret_bool (by rw [← HR.out]; unfold isK; rw [decide_eq_true (show 1 ≤ k by omega), Bool.true_and]), rfl⟩
  · exact ⟨ret_bool (by rw [← HR.out]; unfold isK; rw [decide_eq_false (show ¬ 1 ≤ k by omega), Bool.false_and]), rfl⟩

set_option maxHeartbeats 1000000 in
theorem badKind_any (r : Cr) (w : World) : Calls Tryz.prog 147 #[.agg #[.int .i64 r.c, .int .u8 r.e, .int .u8 r.k]] w (RetBelow (.bool (!isK r.k)) w) := by
  obtain ⟨R, hR⟩ : ∃ R, isK r.k = R := ⟨_, rfl⟩
  rw [hR]
  have HR := Lib.hid hR
  clear hR
  go_enter Tryz.func147, Tryz.ntmps147
  go_wp2_with fail
  refine (isKind_any r.k _).mono ?_
  rintro e w2 ⟨rfl, rfl⟩
  rw [HR.out]
  cases R
  · go_wp2_with fail
    go_ret
    exact ⟨rfl, (Below.refl _ _).alloc (Nat.le_refl _) _⟩
  · go_wp2_with fail
    go_ret
    exact ⟨rfl, (Below.refl _ _).alloc (Nat.le_refl _) _⟩

set_option maxHeartbeats 1000000 in
theorem kindsOk_any (A : Option Addr) (l : List Cr) (n c : Nat) (w : World) (hn : n = l.length) (h : Rd w A 3 n (crs l)) (hk : ∀ r ∈ l, isK r.k = true) (hl : n ≤ 1000000) :
    Calls Tryz.prog 146 #[.slice A n c, .func (.func 147) #[] #[]] w (RetBelow (.bool false) w) := by
  have hix : Calls Tryz.prog 212 #[.slice A n c, .func (.func 147) #[] #[]] w (RetBelow (.int .i64 (-1)) w) := by
    subst hn
    go_enter Tryz.func212, Tryz.ntmps212
    go_wp2_with fail
    go_loopw [5, 8] (fun _ i wr => ∃ k : Nat, k ≤ l.length ∧ i = .int .i64 k ∧ Below w.heap.size w wr) (fun _ i _ => l.length - (intOf i).toNat)
    case atStart => exact ⟨0, by omega, rfl, Below.refl _ _⟩
    case round =>
      obtain ⟨k, hk', rfl, hbr⟩ := hrel
      by_cases hlt : k < l.length
      · obtain ⟨b, o, rfl, hbl, c0, c1, c2⟩ := rd_cr (h.below hbr) k hlt
        have hkk := hk l[k] (List.getElem_mem _)
        obtain ⟨r, hr⟩ : ∃ r, l[k] = r := ⟨_, rfl⟩
        rw [hr] at c0 c1 c2 hkk
        have HKK := Lib.hid hkk
        clear hr hkk
        go_wp2_with fail
        refine (badKind_any r _).mono ?_
        rintro e w2 ⟨rfl, hb2⟩
        rw [HKK.out]
        have hb2' : Below w.heap.size w w2 := hbr.trans (hb2.mono hbr.size)
        go_wp2_with fail
        go_roundw
        case rel => exact ⟨k + 1, by omega, by go_num, hb2'⟩
        case measure => simp [intOf]; omega
      · go_wp2_with fail
        go_ret
        exact ⟨rfl, hbr⟩
  have HIX := Lib.hid hix
  clear hix hn h hk
  go_enter Tryz.func146, Tryz.ntmps146
  go_wp2_with fail
  refine HIX.out.mono ?_
  rintro e w2 ⟨rfl, hb2⟩
  go_wp2_with fail
  go_ret
  exact ⟨rfl, hb2⟩
end Go.Proofs.YtjdmkgnlakonbaaGreatDoor
