/- Contracts of slices.stableCmpFunc, SortStableFunc and IsSortedFunc at records. -/
import Derived.Test.YtdcgminjamofmaaDoorSym2
import Derived.Test.YtdcgminjamofmaaDoorStb2
namespace Go.Proofs.YtdcgminjamofmaaDoor
open Go.RowKit

set_option maxHeartbeats 1000000 in
theorem insertion_zero (A : Option Addr) (c : Nat) (f : Value) (w : World) :
    Calls Tryd.prog 56 #[.slice A 0 c, .int .i64 0, .int .i64 0, f] w fun e w' => e = .returned (.tuple #[]) ∧ w = w' := by
  go_enter Tryd.func56, Tryd.ntmps56
  go_wp2_with fail
  refine wp_loop_rounds 1 ?_
  rw [rounds_succ]
  go_wp2_with fail
  go_end0
  exact ⟨rfl, rfl⟩

set_option maxHeartbeats 1000000 in
theorem stable_zero (A : Option Addr) (c : Nat) (f : Value) (w : World) :
    Calls Tryd.prog 39 #[.slice A 0 c, f] w fun e w' => e = .returned (.tuple #[]) ∧ w = w' := by
  have h0 : Calls Tryd.prog 50 #[.slice A 0 c, .int .i64 0, f] w fun e w' => e = .returned (.tuple #[]) ∧ w = w' := by
    go_enter Tryd.func50, Tryd.ntmps50
    go_wp2_with fail
    refine wp_loop_rounds 1 ?_
    rw [rounds_succ]
    go_wp2_with fail
    refine (insertion_zero A c f w).mono ?_
    rintro e w2 ⟨rfl, rfl⟩
    go_wp2_with fail
    refine wp_loop_rounds 1 ?_
    rw [rounds_succ]
    go_wp2_with fail
    go_end0
    exact ⟨rfl, rfl⟩
  have H0 := Lib.hid h0
  clear h0
  go_enter Tryd.func39, Tryd.ntmps39
  go_wp2_with fail
  refine H0.out.mono ?_
  rintro e w2 ⟨rfl, rfl⟩
  go_wp2_with fail
  go_end0
  exact ⟨rfl, rfl⟩

set_option maxHeartbeats 4000000 in
set_option maxRecDepth 100000 in
theorem stableCmp_any (base g n cap cc : Nat) (D : List Rec) (w : World) (hn : n = D.length) (hl : n ≤ 100000000)
    (hown : w.ownsRow base 37 4 (.slice (some ⟨g, 0, none⟩) n cap) n (recs D)) :
    Calls Tryd.prog 50 #[.slice (some ⟨g, 0, none⟩) n cc, .int .i64 n, .func (.func 38) #[] #[]] w (SortRet base g n cap (srt Rec.t D) w) := by
  have HN := Lib.hid hn
  have HO := Lib.hid hown
  clear hn hown
  go_enter Tryd.func50, Tryd.ntmps50
  go_wp2_with fail
  go_loopw [7, 8] (fun s7 s8 wr => ∃ (a b : Nat) (D' : List Rec), b = a + 20 ∧ a ≤ n ∧ s7 = .int .i64 a ∧ s8 = .int .i64 b ∧ St1 Rec.t a D D' ∧ wr.ownsRow base 37 4 (.slice (some ⟨g, 0, none⟩) n cap) n (recs D') ∧ w.grownBy wr (some g)) (fun _ s8 _ => n + 20 - (intOf s8).toNat)
  case atStart => exact ⟨0, 20, D, by omega, by omega, rfl, rfl, st1_start D, HO.out, grown_refl _ _⟩
  case round =>
    obtain ⟨a, b, D', hb, han, rfl, rfl, hst, hown, hgr⟩ := hrel
    have HST := Lib.hid hst
    have HO1 := Lib.hid hown
    have HB := Lib.hid hb
    clear hst hown
    by_cases hlt : b ≤ n
    · obtain ⟨P, X, S, hD', hP, hX, hS, hst'⟩ := st1_step HST.out (by rw [← HN.out]; omega)
      have hown := HO1.out
      rw [hD'] at hown
      have hins := insertion_any base g n cap cc P X S a b wr hP.symm (by omega) (by rw [HN.out]; omega) (by omega) hown
      have HINS := Lib.hid hins
      have HST' := Lib.hid hst'
      have hlt' : (b : Int) ≤ (n : Int) := by omega
      clear hins hst' hown hD' hP hX hS hb HO1
      go_wp2_with fail
      refine HINS.out.mono ?_
      rintro e w2 ⟨rfl, hown2, hg2⟩
      have HO2 := Lib.hid hown2
      have HG2 := Lib.hid (grown_tr hgr hg2)
      clear hown2 hgr hg2
      go_wp2_with fail
      go_roundw
      case rel =>
        refine ⟨b, b + 20, P ++ srt Rec.t X ++ S, rfl, by omega, rfl, by go_num, ?_, HO2.out, HG2.out⟩
        rw [HB.out]
        exact HST'.out
      case measure => simp [intOf]; omega
    · obtain ⟨P, X, hD', hP, hX, hst'⟩ := st1_end HST.out (by rw [← HN.out]; omega)
      have hown := HO1.out
      rw [hD'] at hown
      have hins := insertion_any base g n cap cc P X [] a n wr hP.symm (by rw [HN.out]; omega) (by rw [HN.out]; simp; omega) (by omega) hown
      have HINS := Lib.hid hins
      have HST' := Lib.hid hst'
      have hlt' : ¬ (b : Int) ≤ (n : Int) := by omega
      clear hins hst' hown hD' hP hX hb HO1
      go_wp2_with fail
      refine HINS.out.mono ?_
      rintro e w2 ⟨rfl, hown2, hg2⟩
      have HO2 := Lib.hid hown2
      have HG2 := Lib.hid (grown_tr hgr hg2)
      clear hown2 hgr hg2 HB
      go_wp2_with fail
      obtain ⟨wo, rfl⟩ : ∃ wo : World, wo = wr := ⟨_, rfl⟩
      go_loopw [6, 7, 8, 9] (fun s6 _ _ _ wr => ∃ (bs : Nat) (D' : List Rec), 0 < bs ∧ (bs ≤ 20 ∨ bs < 2 * n) ∧ s6 = .int .i64 bs ∧ St2 Rec.t bs D D' ∧ wr.ownsRow base 37 4 (.slice (some ⟨g, 0, none⟩) n cap) n (recs D') ∧ w.grownBy wr (some g)) (fun s6 _ _ _ _ => 2 * n + 20 - (intOf s6).toNat)
      case atStart => exact ⟨20, _, by omega, by omega, rfl, HST'.out, HO2.out, HG2.out⟩
      case round =>
        obtain ⟨bs, D1, hbs, hbn, rfl, hst2, hown3, hgr3⟩ := hrel
        have HST2 := Lib.hid hst2
        have HO3 := Lib.hid hown3
        clear hst2 hown3
        by_cases hlt2 : bs < n
        · have hlt2' : (bs : Int) < (n : Int) := by omega
          go_wp2_with fail
          obtain ⟨wp, rfl⟩ : ∃ wp : World, wp = wr := ⟨_, rfl⟩
          go_loopw [7, 8] (fun s7 s8 wr => ∃ (a b : Nat) (D' : List Rec), b = a + 2 * bs ∧ a ≤ n ∧ s7 = .int .i64 a ∧ s8 = .int .i64 b ∧ St3 Rec.t bs a D D' ∧ wr.ownsRow base 37 4 (.slice (some ⟨g, 0, none⟩) n cap) n (recs D') ∧ w.grownBy wr (some g)) (fun _ s8 _ => 2 * n + n - (intOf s8).toNat)
          case atStart => exact ⟨0, 2 * bs, D1, by omega, by omega, rfl, by go_num, st3_start HST2.out, HO3.out, hgr3⟩
          case round =>
            obtain ⟨a, b, D2, hb, han, rfl, rfl, hst3, hown4, hgr4⟩ := hrel
            have HST3 := Lib.hid hst3
            have HO4 := Lib.hid hown4
            have HB := Lib.hid hb
            clear hst3 hown4
            by_cases hlt3 : b ≤ n
            · obtain ⟨P, A, B, S, hD', hP, hA, hB, hS, hAa, hBa, hst'⟩ := st3_step hbs HST3.out (by rw [← HN.out]; omega)
              have hown := HO4.out
              rw [hD'] at hown
              obtain ⟨m, hm⟩ : ∃ m, m = a + bs := ⟨_, rfl⟩
              have hsym := sym_any base g n cap cc (by omega) (A.length + B.length) P A B S a m b wr (Nat.le_refl _) (by omega) (by omega) hP.symm (by omega) (by omega) (by rw [HN.out]; omega) hAa hBa hown
              have HSYM := Lib.hid hsym
              have HST' := Lib.hid hst'
              have hlt3' : (b : Int) ≤ (n : Int) := by omega
              have e1 : (a : Int) + (bs : Int) = (m : Int) := by omega
              clear hsym hst' hown hD' hP hA hB hS hAa hBa hb hm HO4
              go_wp2_with fail
              refine HSYM.out.mono ?_
              rintro e w2 ⟨rfl, hown2, hg2⟩
              have HO5 := Lib.hid hown2
              have HG5 := Lib.hid (grown_tr hgr4 hg2)
              clear hown2 hgr4 hg2 e1
              as_aux_lemma =>
                go_wp2_with fail
                go_roundw
                case rel =>
                  refine ⟨b, b + 2 * bs, _, rfl, by omega, rfl, by go_num, ?_, HO5.out, HG5.out⟩
                  rw [HB.out]
                  exact HST'.out
                case measure => simp [intOf]; omega
            · have hlt3' : ¬ (b : Int) ≤ (n : Int) := by omega
              obtain ⟨m, hm⟩ : ∃ m, m = a + bs := ⟨_, rfl⟩
              have e1 : (a : Int) + (bs : Int) = (m : Int) := by omega
              by_cases hmn : m < n
              · obtain ⟨P, A, B, hD', hP, hA, hB, hAa, hBa, hst'⟩ := st3_last hbs HST3.out (by rw [← HN.out]; omega) (by rw [← HN.out]; omega)
                have hown := HO4.out
                rw [hD'] at hown
                have hsym := sym_any base g n cap cc (by omega) (A.length + B.length) P A B [] a m n wr (Nat.le_refl _) (by omega) (by have := HN.out; omega) hP.symm (by omega) (by rw [HN.out]; omega) (by rw [HN.out]; simp; omega) hAa hBa hown
                have HSYM := Lib.hid hsym
                have HST' := Lib.hid hst'
                have hmn' : (m : Int) < (n : Int) := by omega
                clear hsym hst' hown hD' hP hA hB hAa hBa hb hm HO4
                go_wp2_with fail
                refine HSYM.out.mono ?_
                rintro e w2 ⟨rfl, hown2, hg2⟩
                have HO5 := Lib.hid hown2
                have HG5 := Lib.hid (grown_tr hgr4 hg2)
                clear hown2 hgr4 hg2 e1
                as_aux_lemma =>
                  go_wp2_with fail
                  go_roundw
                  case rel => exact ⟨2 * bs, _, by omega, by omega, by go_num, HST'.out, HO5.out, HG5.out⟩
                  case measure => simp [intOf]; omega
              · have hst' := st3_end HST3.out (by rw [← HN.out]; omega)
                have HST' := Lib.hid hst'
                have hmn' : ¬ (m : Int) < (n : Int) := by omega
                clear hst' hm hb
                as_aux_lemma =>
                  go_wp2_with fail
                  go_roundw
                  case rel => exact ⟨2 * bs, _, by omega, by omega, by go_num, HST'.out, HO4.out, hgr4⟩
                  case measure => simp [intOf]; omega
        · have hlt2' : ¬ (bs : Int) < (n : Int) := by omega
          have hfin := st2_end HST2.out (by rw [← HN.out]; omega)
          have hown := HO3.out
          rw [hfin] at hown
          have HO5 := Lib.hid hown
          clear hown hfin
          go_wp2_with fail
          go_end0
          exact ⟨rfl, HO5.out, hgr3⟩
end Go.Proofs.YtdcgminjamofmaaDoor
