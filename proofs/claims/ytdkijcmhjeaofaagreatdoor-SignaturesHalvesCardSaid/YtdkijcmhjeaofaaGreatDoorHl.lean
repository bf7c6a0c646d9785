/- The law SignaturesHalves of crimplaw36: for every sheet and every list it returns true, where lives does. -/
import Derived.Test.YtdkijcmhjeaofaaGreatDoorHv
namespace Go.Proofs.YtdkijcmhjeaofaaGreatDoor
open Go.RowKit Ex

theorem oddp_half (x : Nat) (h : x ≤ 256) (h1 : 1 ≤ x) (h2 : x % 2 = 0) : oddp (x / 2) = oddp x := by
  have hall : ∀ y : Fin 257, 1 ≤ y.val → y.val % 2 = 0 → oddp (y.val / 2) = oddp y.val := by decide +kernel
  exact hall ⟨x, by omega⟩ h1 h2
theorem oddp_odd (x : Nat) (h2 : ¬ x % 2 = 0) : oddp x = x := by
  unfold oddp oddF
  rw [if_neg h2]

def LawRet6 (w : World) (e : Ending) (w' : World) : Prop := e = .returned (.bool true) ∧ Below w.heap.size w w'
def Lives6 (w : World) : Prop := ∀ w', Below w.heap.size w w' → Calls Tryz.prog 10 #[] w' (LawRet6 w')

set_option maxRecDepth 100000 in
set_option maxHeartbeats 4000000 in
theorem law6_any (a b : Int) (A : Option Addr) (ov : List Bool) (n cc : Nat) (w : World) (HLV : Lives6 w) (hn : n = ov.length) (h : Rd w A 1 n (boolsV ov)) (hm : n ≤ maxLen) :
    Calls Tryz.prog 4 #[.agg #[.int .i64 a, .int .i64 b], .slice A n cc] w (LawRet6 w) := by
  unfold maxLen at hm
  have HH := Lib.hid h
  have HN := Lib.hid hn
  have HLV := Lib.hid HLV
  have H := (Bx.start w).new #[.int .i64 a, .int .i64 b] 40 rfl
  clear h hn
  go_enter Tryz.func4, Tryz.ntmps4
  go_upto_region 1 with fail
  obtain ⟨W, hW⟩ : ∃ W, W = w.alloc (.cells #[.int .i64 a, .int .i64 b] 40) := ⟨_, rfl⟩
  rw [← hW] at H ⊢
  obtain ⟨N, hN⟩ : ∃ N, N = w.heap.size := ⟨_, rfl⟩
  rw [← hN] at H ⊢
  have HNN := Lib.hid hN
  clear hW hN
  by_cases h10 : n > 10
  · have s1 : (n : Int) > 10 := by omega
    go_wp2_with fail
    refine (HLV.out _ H.below).mono ?_
    rintro e w9 ⟨rfl, hb9⟩
    go_wp2_with fail
    go_ret
    exact ⟨rfl, (H.call hb9).below⟩
  · have s1 : ¬ (n : Int) > 10 := by omega
    obtain ⟨⟨a0, a1⟩, _⟩ := blk2 (H.blk 0 _ _ _ rfl)
    go_wp2_with fail
    refine (halves_any a b A ov n cc _ HN.out (HH.out.below H.below) (by omega)).mono ?_
    rintro e w2 ⟨hb, hret⟩
    have H2 := H.call hb
    clear a0 a1 hb H
    cases hs : okS a b with
    | false =>
      rw [hs] at hret
      obtain rfl : e = _ := by simpa using hret
      clear hret
      obtain ⟨⟨a0, a1⟩, _⟩ := blk2 (H2.blk 0 _ _ _ rfl)
      go_wp2_with fail
      refine (sheetCheck_any a b _).mono ?_
      rintro e w3 ⟨rfl, hb⟩
      rw [hs, ec_f]
      have H3 := H2.call hb
      clear a0 a1 hb H2 hs
      go_wp2_with fail
      refine (HLV.out _ H3.below).mono ?_
      rintro e w9 ⟨rfl, hb9⟩
      go_wp2_with fail
      go_ret
      exact ⟨rfl, (H3.call hb9).below⟩
    | true =>
      rw [hs, Bool.true_and] at hret
      obtain ⟨p, rfl⟩ : ∃ p : Nat, a = p := ⟨a.toNat, by have := okS_iff.1 hs; omega⟩
      obtain ⟨q, rfl⟩ : ∃ q : Nat, b = q := ⟨b.toNat, by have := okS_iff.1 hs; omega⟩
      have hb1 := okS_iff.1 hs
      simp only [Int.toNat_natCast] at hret
      have hpq : p * q ≤ 256 := by have := hb1.2.2.2.2; exact_mod_cast this
      have hp1 : 1 ≤ p := by omega
      have hq1 : 1 ≤ q := by omega
      have hp2 : p ≤ 256 := by omega
      have hq2 : q ≤ 256 := by omega
      obtain ⟨X, hX⟩ : ∃ X, oddp p = X := ⟨_, rfl⟩
      obtain ⟨Y, hY⟩ : ∃ Y, oddp q = Y := ⟨_, rfl⟩
      unfold powB at hret
      rw [hX, hY] at hret
      have HX := Lib.hid hX
      have HY := Lib.hid hY
      have HPQ := Lib.hid hpq
      clear hb1 hX hY hpq
      obtain ⟨⟨a0, a1⟩, _⟩ := blk2 (H2.blk 0 _ _ _ rfl)
      obtain ⟨T, hT⟩ : ∃ T, hvT p q ov = T := ⟨_, rfl⟩
      rw [hT] at hret
      have HTT := Lib.hid hT
      clear hT
      obtain ⟨R, hR⟩ : ∃ R, (X == 1 && Y == 1) = R := ⟨_, rfl⟩
      rw [hR] at hret
      obtain ⟨B, m, er, rfl, hBm⟩ : ∃ B m er, e = .returned (.tuple #[.slice B m m, .int .i64 er]) ∧ ((R = true ∧ er = 0 ∧ m = T.length ∧ Rd w2 B 4 m (fdV T)) ∨ (R = false ∧ er = 1 ∧ m = 0)) := by
        cases R with
        | true => simp only [if_true] at hret
                  obtain ⟨B, he, hr⟩ := hret
                  exact ⟨B, _, 0, he, .inl ⟨rfl, rfl, rfl, hr⟩⟩
        | false => simp only [Bool.false_eq_true, if_false] at hret
                   exact ⟨none, 0, 1, hret, .inr ⟨rfl, rfl, rfl⟩⟩
      have HBM := Lib.hid hBm
      have HR := Lib.hid hR
      clear hret hBm hR
      go_wp2_with fail
      refine (sheetCheck_any p q _).mono ?_
      rintro e w3 ⟨rfl, hb⟩
      rw [hs, ec_t]
      clear hs
      have H3 := H2.call hb
      have HBM : Hid ((R = true ∧ er = 0 ∧ m = T.length ∧ Rd w3 B 4 m (fdV T)) ∨ (R = false ∧ er = 1 ∧ m = 0)) := Lib.hid (HBM.out.imp (fun h => ⟨h.1, h.2.1, h.2.2.1, h.2.2.2.below hb⟩) id)
      clear a0 a1 hb H2
      obtain ⟨⟨a0, a1⟩, _⟩ := blk2 (H3.blk 0 _ _ _ rfl)
      go_wp2_with fail
      go_quiet (fail)
      obtain ⟨wd, hwd⟩ : ∃ z, z = w3.drewN nq := ⟨_, rfl⟩
      have H4 := H3.drewN nq
      rw [← hwd] at H4 ⊢
      have HBM : Hid ((R = true ∧ er = 0 ∧ m = T.length ∧ Rd wd B 4 m (fdV T)) ∨ (R = false ∧ er = 1 ∧ m = 0)) := Lib.hid (HBM.out.imp (fun h => ⟨h.1, h.2.1, h.2.2.1, by rw [hwd]; exact h.2.2.2.below (below_drewN (Below.refl _ _) nq)⟩) id)
      clear hwd a0 a1 H3
      go_wp2_with fail
      go_loopw [8] (fun s8 wr => ∃ x : Nat, s8 = .int .i64 x ∧ 1 ≤ x ∧ x ≤ 256 ∧ Hid (oddp x = X) ∧ wd = wr) (fun s8 _ => (intOf s8).toNat)
      case atStart => exact ⟨p, rfl, hp1, hp2, HX, rfl⟩
      case round =>
        obtain ⟨x, rfl, hx1, hx2, HXX, rfl⟩ := hrel
        by_cases he : x % 2 = 0
        · have t1 : (x : Int).tmod 2 = 0 := by rw [Int.tmod_eq_emod_of_nonneg (by omega)]; omega
          have t2 : (x : Int).tdiv 2 = (x : Int) / 2 := Int.tdiv_eq_ediv_of_nonneg (by omega)
          have HXN : Hid (oddp (x / 2) = X) := Lib.hid (by rw [oddp_half x hx2 hx1 he, HXX.out])
          go_wp2_with fail
          go_roundw
          case rel => exact ⟨x / 2, by go_num, by omega, by omega, HXN, trivial⟩
          case measure => simp [intOf]; omega
        · have t1 : (x : Int).tmod 2 = 1 := by rw [Int.tmod_eq_emod_of_nonneg (by omega)]; omega
          have HXX : Hid (x = X) := Lib.hid (by rw [← HXX.out, oddp_odd x he])
          go_wp2_with fail
          go_loopw [9] (fun s9 wr => ∃ y : Nat, s9 = .int .i64 y ∧ 1 ≤ y ∧ y ≤ 256 ∧ Hid (oddp y = Y) ∧ wd = wr) (fun s9 _ => (intOf s9).toNat)
          case atStart => exact ⟨q, rfl, hq1, hq2, HY, rfl⟩
          case round =>
            obtain ⟨y, rfl, hy1, hy2, HYY, rfl⟩ := hrel
            by_cases he' : y % 2 = 0
            · have t3 : (y : Int).tmod 2 = 0 := by rw [Int.tmod_eq_emod_of_nonneg (by omega)]; omega
              have t4 : (y : Int).tdiv 2 = (y : Int) / 2 := Int.tdiv_eq_ediv_of_nonneg (by omega)
              have HYN : Hid (oddp (y / 2) = Y) := Lib.hid (by rw [oddp_half y hy2 hy1 he', HYY.out])
              go_wp2_with fail
              go_roundw
              case rel => exact ⟨y / 2, by go_num, by omega, by omega, HYN, trivial⟩
              case measure => simp [intOf]; omega
            · have t3 : (y : Int).tmod 2 = 1 := by rw [Int.tmod_eq_emod_of_nonneg (by omega)]; omega
              have HYY : Hid (y = Y) := Lib.hid (by rw [← HYY.out, oddp_odd y he'])
              clear t1 he he'
              cases R with
              | false =>
                have hbad : ¬ (x = 1 ∧ y = 1) := by
                  intro h
                  have := HR.out
                  rw [← HXX.out, ← HYY.out, h.1, h.2] at this
                  exact absurd this (by decide)
                obtain ⟨rfl, rfl⟩ : er = 1 ∧ m = 0 := by
                  rcases HBM.out with h | h
                  · exact absurd h.1 (by decide)
                  · exact h.2
                by_cases hx : x = 1
                · have s2 : (x : Int) = 1 := by omega
                  have s3 : ¬ (y : Int) = 1 := by omega
                  go_wp2_with fail
                  refine (HLV.out _ H4.below).mono ?_
                  rintro e w9 ⟨rfl, hb9⟩
                  go_wp2_with fail
                  go_ret
                  exact ⟨rfl, (H4.call hb9).below⟩
                · have s2 : ¬ (x : Int) = 1 := by omega
                  go_wp2_with fail
                  refine (HLV.out _ H4.below).mono ?_
                  rintro e w9 ⟨rfl, hb9⟩
                  go_wp2_with fail
                  go_ret
                  exact ⟨rfl, (H4.call hb9).below⟩
              | true =>
                obtain ⟨hx', hy'⟩ : x = 1 ∧ y = 1 := by
                  have := HR.out
                  rw [← HXX.out, ← HYY.out] at this
                  simpa using this
                subst hx' hy'
                obtain ⟨rfl, rfl, hrd⟩ : er = 0 ∧ m = T.length ∧ Rd wd B 4 m (fdV T) := by
                  rcases HBM.out with h | h
                  · exact h.2
                  · exact absurd h.1 (by decide)
                have HRD := Lib.hid hrd
                clear hrd HBM HR HXX HYY HX HY
                obtain ⟨⟨a0, a1⟩, _⟩ := blk2 (H4.blk 0 _ _ _ rfl)
                go_upto_region 16 with fail
                go_quiet (fail)
                obtain ⟨we, hwe⟩ : ∃ z, z = wd.drewN nq := ⟨_, rfl⟩
                have H5 := (H4.drewN nq).below
                rw [← hwe] at H5 ⊢
                have HRD : Hid (Rd we B 4 T.length (fdV T)) := Lib.hid (by rw [hwe]; exact HRD.out.below (below_drewN (Below.refl _ _) nq))
                have HB5 := Lib.hid H5
                clear hwe a0 a1 H4 H5
                go_wp2_with fail
                go_loopw [10, 11, 12] (fun s10 s11 s12 wr => ∃ (i x y : Nat) (L : List Fd), s12 = .int .i64 i ∧ s10 = .int .i64 x ∧ s11 = .int .i64 y ∧ i ≤ 9 ∧ 1 ≤ x ∧ 1 ≤ y ∧ Hid (x * y * 2 ^ i ≤ 256) ∧ Hid (i = L.length) ∧ Hid (T = L ++ hvF ov (10 - i) x y i) ∧ Below we.heap.size we wr) (fun _ _ s12 _ => T.length - (intOf s12).toNat)
                case atStart => exact ⟨0, p, q, [], rfl, rfl, rfl, by omega, hp1, hq1, Lib.hid (by simpa using HPQ.out), Lib.hid rfl, Lib.hid (by rw [← HTT.out]; rfl), Below.refl _ _⟩
                case round =>
                  obtain ⟨i, x, y, L, rfl, rfl, rfl, hi9, hx1, hy1, HXY, HIL, HTL, hbr⟩ := hrel
                  have hTL := HTL.out
                  rw [show 10 - i = (9 - i) + 1 by omega] at hTL
                  unfold hvF at hTL
                  have hz256 : x * y ≤ 256 := Nat.le_trans (Nat.le_mul_of_pos_right _ (Nat.two_pow_pos i)) HXY.out
                  have hx256 : x ≤ 256 := by
                    have : x * 1 ≤ x * y := Nat.mul_le_mul_left _ hy1
                    omega
                  have hy256 : y ≤ 256 := by
                    have : 1 * y ≤ x * y := Nat.mul_le_mul_right _ hx1
                    omega
                  obtain ⟨M, hM⟩ : ∃ M, T.length = M := ⟨_, rfl⟩
                  by_cases hgt : x * y > 1
                  · rw [if_pos hgt] at hTL
                    have hi8 : i ≤ 8 := by
                      rcases Nat.lt_or_ge i 9 with h | h
                      · omega
                      · exfalso
                        have h9 : i = 9 := by omega
                        subst h9
                        have h1 := HXY.out
                        have : 2 * 2 ^ 9 ≤ x * y * 2 ^ 9 := Nat.mul_le_mul_right _ hgt
                        omega
                    obtain ⟨o, ho⟩ : ∃ o, ov.getD i false = o := ⟨_, rfl⟩
                    rw [ho] at hTL
                    have hil : i < T.length := by
                      rw [hTL, List.length_append, ← HIL.out]
                      split <;> simp
                    have s5 : (i : Int) < (M : Int) := by omega
                    rw [hM]
                    obtain ⟨b0, o0, rfl, hb0, hcell⟩ := (HRD.out.below hbr).2 (by omega)
                    by_cases hin : i < n
                    · have s7 : (i : Int) < (n : Int) := by omega
                      obtain ⟨bb, oo, rfl, hbb, hov⟩ := HH.out.2 (by omega)
                      have f00 := hov i (.bool o) (by
                        have hlen := HN.out
                        unfold boolsV
                        rw [List.getElem?_map, List.getElem?_eq_getElem (by omega)]
                        have : ov[i]'(by omega) = o := by rw [← ho]; simp [List.getD, show i < ov.length by omega]
                        rw [this]; rfl)
                      clear hov ho
                      by_cases hge : x ≥ y
                      · rw [if_pos hge] at hTL
                        have s6 : ¬ (y : Int) > (x : Int) := by omega
                        have hF : T[i]? = some (⟨1, x / 2, o⟩ : Fd) := by
                          rw [hTL, List.getElem?_append_right (by rw [← HIL.out]; exact Nat.le_refl _), show i - L.length = 0 by rw [← HIL.out]; omega]
                          rfl
                        have hFc : ∀ f u, f < 4 → (Fd.cells (⟨1, x / 2, o⟩ : Fd))[f]? = some u → (fdV T)[i * 4 + f]? = some u := by
                          intro f u hf hu
                          unfold fdV
                          rw [flat_at Fd.cells 4 (fun _ => rfl) T i f hil hf, show T[i] = (⟨1, x / 2, o⟩ : Fd) from Option.some.inj ((List.getElem?_eq_getElem hil).symm.trans hF)]
                          exact hu
                        have c0 := hcell (i * 4) _ (hFc 0 _ (by omega) rfl)
                        have c1 := hcell (i * 4 + 1) _ (hFc 1 _ (by omega) rfl)
                        have c2 := hcell (i * 4 + 2) _ (hFc 2 _ (by omega) rfl)
                        have c3 := hcell (i * 4 + 3) _ (hFc 3 _ (by omega) rfl)
                        rw [← Nat.add_assoc] at c1 c2 c3
                        have HTN : Hid (T = (L ++ [(⟨1, x / 2, o⟩ : Fd)]) ++ hvF ov (10 - (i + 1)) (x / 2) (y) (i + 1)) := Lib.hid (by
                          rw [hTL, List.append_assoc, show 10 - (i + 1) = 9 - i by omega]; rfl)
                        have HIN : Hid (i + 1 = (L ++ [(⟨1, x / 2, o⟩ : Fd)]).length) := Lib.hid (by rw [List.length_append, ← HIL.out]; rfl)
                        have HMI : Hid (i < T.length) := Lib.hid hil
                        have HXN : Hid (x / 2 * y * 2 ^ (i + 1) ≤ 256) := Lib.hid (by
                          refine Nat.le_trans ?_ HXY.out
                          rw [Nat.pow_succ, show x / 2 * y * (2 ^ i * 2) = x / 2 * 2 * y * 2 ^ i by rw [Nat.mul_comm (2 ^ i) 2, ← Nat.mul_assoc, Nat.mul_assoc (x / 2) y 2, Nat.mul_comm y 2, ← Nat.mul_assoc]]
                          exact Nat.mul_le_mul_right _ (Nat.mul_le_mul_right _ (by omega)))
                        have hv2 : x ≥ 2 := by
                          rcases Nat.lt_or_ge x 2 with h | h
                          · exfalso
                            have h1 : x = 1 := by omega
                            have h2 : y = 1 := by omega
                            rw [h1, h2] at hgt
                            omega
                          · exact h
                        have HMM := Lib.hid hM
                        have HBR := Lib.hid hbr
                        obtain ⟨P, hP⟩ : ∃ P, P = wr.heap.size := ⟨_, rfl⟩
                        obtain ⟨V8, hV8⟩ : ∃ V8, V8 = wr.alloc (.cells #[.int .u8 1, .int .i64 ((x : Int) / 2)] 48) := ⟨_, rfl⟩
                        have H8 := (Bx.start wr).new #[.int .u8 1, .int .i64 ((x : Int) / 2)] 48 rfl
                        rw [← hP, ← hV8] at H8
                        have t2 : (x : Int).tdiv 2 = (x : Int) / 2 := Int.tdiv_eq_ediv_of_nonneg (by omega)
                        have t3 : (y : Int).tdiv 2 = (y : Int) / 2 := Int.tdiv_eq_ediv_of_nonneg (by omega)
                        have HP := Lib.hid hP
                        have HV8 := Lib.hid hV8
                        have HC := Lib.hid (And.intro c0 (And.intro c1 (And.intro c2 c3)))
                        clear hF hFc hcell hTL hil hP hV8 c0 c1 c2 c3 hgt hz256 hM hbr HTL
                        go_upto_region 22 with fail
                        rw [← HP.out, ← HV8.out]
                        go_upto_region 26 with fail
                        obtain ⟨⟨e0, e1⟩, _⟩ := blk2 (H8.blk 0 _ _ _ rfl)
                        have d0 := below_cell H8.below HC.out.1
                        have d1 := below_cell H8.below HC.out.2.1
                        have d2 := below_cell H8.below HC.out.2.2.1
                        have d3 := below_cell H8.below HC.out.2.2.2
                        have HB8 := Lib.hid (HBR.out.trans (H8.below.mono HBR.out.size))
                        have f0 := below_cell HB8.out (below_cell HB5.out f00)
                        clear H8
                        go_quiet (fail)
                        go_wp2_with fail
                        go_roundw
                        case rel => exact ⟨i + 1, x / 2, y, _, by go_num, by go_num, by go_num, by omega, by omega, by omega, HXN, HIN, HTN, by first | exact HB8.out | exact below_drewN HB8.out _⟩
                        case measure =>
                          have h1 := HMI.out
                          have h2 := HMM.out
                          simp [intOf]
                          omega
                      · rw [if_neg hge] at hTL
                        have s6 : (y : Int) > (x : Int) := by omega
                        have hF : T[i]? = some (⟨2, y / 2, o⟩ : Fd) := by
                          rw [hTL, List.getElem?_append_right (by rw [← HIL.out]; exact Nat.le_refl _), show i - L.length = 0 by rw [← HIL.out]; omega]
                          rfl
                        have hFc : ∀ f u, f < 4 → (Fd.cells (⟨2, y / 2, o⟩ : Fd))[f]? = some u → (fdV T)[i * 4 + f]? = some u := by
                          intro f u hf hu
                          unfold fdV
                          rw [flat_at Fd.cells 4 (fun _ => rfl) T i f hil hf, show T[i] = (⟨2, y / 2, o⟩ : Fd) from Option.some.inj ((List.getElem?_eq_getElem hil).symm.trans hF)]
                          exact hu
                        have c0 := hcell (i * 4) _ (hFc 0 _ (by omega) rfl)
                        have c1 := hcell (i * 4 + 1) _ (hFc 1 _ (by omega) rfl)
                        have c2 := hcell (i * 4 + 2) _ (hFc 2 _ (by omega) rfl)
                        have c3 := hcell (i * 4 + 3) _ (hFc 3 _ (by omega) rfl)
                        rw [← Nat.add_assoc] at c1 c2 c3
                        have HTN : Hid (T = (L ++ [(⟨2, y / 2, o⟩ : Fd)]) ++ hvF ov (10 - (i + 1)) (x) (y / 2) (i + 1)) := Lib.hid (by
                          rw [hTL, List.append_assoc, show 10 - (i + 1) = 9 - i by omega]; rfl)
                        have HIN : Hid (i + 1 = (L ++ [(⟨2, y / 2, o⟩ : Fd)]).length) := Lib.hid (by rw [List.length_append, ← HIL.out]; rfl)
                        have HMI : Hid (i < T.length) := Lib.hid hil
                        have HXN : Hid (x * (y / 2) * 2 ^ (i + 1) ≤ 256) := Lib.hid (by
                          refine Nat.le_trans ?_ HXY.out
                          rw [Nat.pow_succ, show x * (y / 2) * (2 ^ i * 2) = x * (y / 2 * 2) * 2 ^ i by rw [Nat.mul_comm (2 ^ i) 2, ← Nat.mul_assoc, Nat.mul_assoc x (y / 2) 2]]
                          exact Nat.mul_le_mul_right _ (Nat.mul_le_mul_left _ (by omega)))
                        have hv2 : y ≥ 2 := by omega
                        have HMM := Lib.hid hM
                        have HBR := Lib.hid hbr
                        obtain ⟨P, hP⟩ : ∃ P, P = wr.heap.size := ⟨_, rfl⟩
                        obtain ⟨V8, hV8⟩ : ∃ V8, V8 = wr.alloc (.cells #[.int .u8 1, .int .i64 ((x : Int) / 2)] 48) := ⟨_, rfl⟩
                        have H8 := (Bx.start wr).new #[.int .u8 1, .int .i64 ((x : Int) / 2)] 48 rfl
                        rw [← hP, ← hV8] at H8
                        have t2 : (x : Int).tdiv 2 = (x : Int) / 2 := Int.tdiv_eq_ediv_of_nonneg (by omega)
                        have t3 : (y : Int).tdiv 2 = (y : Int) / 2 := Int.tdiv_eq_ediv_of_nonneg (by omega)
                        have HP := Lib.hid hP
                        have HV8 := Lib.hid hV8
                        have HC := Lib.hid (And.intro c0 (And.intro c1 (And.intro c2 c3)))
                        clear hF hFc hcell hTL hil hP hV8 c0 c1 c2 c3 hgt hz256 hM hbr HTL
                        go_upto_region 22 with fail
                        rw [← HP.out, ← HV8.out]
                        obtain ⟨⟨e0, e1⟩, ze0, ze1⟩ := blk2 (H8.blk 0 _ _ _ rfl)
                        obtain ⟨V9, hV9⟩ : ∃ V9, V9 = (V8.setCell ⟨P, 0, none⟩ (.int .u8 2)).setCell ⟨P, 1, none⟩ (.int .i64 ((y : Int) / 2)) := ⟨_, rfl⟩
                        have H9 := (H8.set 0 0 rfl (.int .u8 2)).set 0 1 rfl (.int .i64 ((y : Int) / 2))
                        rw [← hV9] at H9
                        have HV9 := Lib.hid hV9
                        clear hV9 H8
                        go_upto_region 26 with fail
                        rw [← HV9.out]
                        clear e0 e1 ze0 ze1
                        have H8 := H9
                        clear H9
                        obtain ⟨⟨e0, e1⟩, _⟩ := blk2 (H8.blk 0 _ _ _ rfl)
                        have d0 := below_cell H8.below HC.out.1
                        have d1 := below_cell H8.below HC.out.2.1
                        have d2 := below_cell H8.below HC.out.2.2.1
                        have d3 := below_cell H8.below HC.out.2.2.2
                        have HB8 := Lib.hid (HBR.out.trans (H8.below.mono HBR.out.size))
                        have f0 := below_cell HB8.out (below_cell HB5.out f00)
                        clear H8
                        go_quiet (fail)
                        go_wp2_with fail
                        go_roundw
                        case rel => exact ⟨i + 1, x, y / 2, _, by go_num, by go_num, by go_num, by omega, by omega, by omega, HXN, HIN, HTN, by first | exact HB8.out | exact below_drewN HB8.out _⟩
                        case measure =>
                          have h1 := HMI.out
                          have h2 := HMM.out
                          simp [intOf]
                          omega
                    · have s7 : ¬ (i : Int) < (n : Int) := by omega
                      obtain rfl : o = false := by
                        have hlen := HN.out
                        rw [← ho]; simp [List.getD, show ov[i]? = none from List.getElem?_eq_none (by omega)]
                      clear ho
                      by_cases hge : x ≥ y
                      · rw [if_pos hge] at hTL
                        have s6 : ¬ (y : Int) > (x : Int) := by omega
                        have hF : T[i]? = some (⟨1, x / 2, false⟩ : Fd) := by
                          rw [hTL, List.getElem?_append_right (by rw [← HIL.out]; exact Nat.le_refl _), show i - L.length = 0 by rw [← HIL.out]; omega]
                          rfl
                        have hFc : ∀ f u, f < 4 → (Fd.cells (⟨1, x / 2, false⟩ : Fd))[f]? = some u → (fdV T)[i * 4 + f]? = some u := by
                          intro f u hf hu
                          unfold fdV
                          rw [flat_at Fd.cells 4 (fun _ => rfl) T i f hil hf, show T[i] = (⟨1, x / 2, false⟩ : Fd) from Option.some.inj ((List.getElem?_eq_getElem hil).symm.trans hF)]
                          exact hu
                        have c0 := hcell (i * 4) _ (hFc 0 _ (by omega) rfl)
                        have c1 := hcell (i * 4 + 1) _ (hFc 1 _ (by omega) rfl)
                        have c2 := hcell (i * 4 + 2) _ (hFc 2 _ (by omega) rfl)
                        have c3 := hcell (i * 4 + 3) _ (hFc 3 _ (by omega) rfl)
                        rw [← Nat.add_assoc] at c1 c2 c3
                        have HTN : Hid (T = (L ++ [(⟨1, x / 2, false⟩ : Fd)]) ++ hvF ov (10 - (i + 1)) (x / 2) (y) (i + 1)) := Lib.hid (by
                          rw [hTL, List.append_assoc, show 10 - (i + 1) = 9 - i by omega]; rfl)
                        have HIN : Hid (i + 1 = (L ++ [(⟨1, x / 2, false⟩ : Fd)]).length) := Lib.hid (by rw [List.length_append, ← HIL.out]; rfl)
                        have HMI : Hid (i < T.length) := Lib.hid hil
                        have HXN : Hid (x / 2 * y * 2 ^ (i + 1) ≤ 256) := Lib.hid (by
                          refine Nat.le_trans ?_ HXY.out
                          rw [Nat.pow_succ, show x / 2 * y * (2 ^ i * 2) = x / 2 * 2 * y * 2 ^ i by rw [Nat.mul_comm (2 ^ i) 2, ← Nat.mul_assoc, Nat.mul_assoc (x / 2) y 2, Nat.mul_comm y 2, ← Nat.mul_assoc]]
                          exact Nat.mul_le_mul_right _ (Nat.mul_le_mul_right _ (by omega)))
                        have hv2 : x ≥ 2 := by
                          rcases Nat.lt_or_ge x 2 with h | h
                          · exfalso
                            have h1 : x = 1 := by omega
                            have h2 : y = 1 := by omega
                            rw [h1, h2] at hgt
                            omega
                          · exact h
                        have HMM := Lib.hid hM
                        have HBR := Lib.hid hbr
                        obtain ⟨P, hP⟩ : ∃ P, P = wr.heap.size := ⟨_, rfl⟩
                        obtain ⟨V8, hV8⟩ : ∃ V8, V8 = wr.alloc (.cells #[.int .u8 1, .int .i64 ((x : Int) / 2)] 48) := ⟨_, rfl⟩
                        have H8 := (Bx.start wr).new #[.int .u8 1, .int .i64 ((x : Int) / 2)] 48 rfl
                        rw [← hP, ← hV8] at H8
                        have t2 : (x : Int).tdiv 2 = (x : Int) / 2 := Int.tdiv_eq_ediv_of_nonneg (by omega)
                        have t3 : (y : Int).tdiv 2 = (y : Int) / 2 := Int.tdiv_eq_ediv_of_nonneg (by omega)
                        have HP := Lib.hid hP
                        have HV8 := Lib.hid hV8
                        have HC := Lib.hid (And.intro c0 (And.intro c1 (And.intro c2 c3)))
                        clear hF hFc hcell hTL hil hP hV8 c0 c1 c2 c3 hgt hz256 hM hbr HTL
                        go_upto_region 22 with fail
                        rw [← HP.out, ← HV8.out]
                        go_upto_region 26 with fail
                        obtain ⟨⟨e0, e1⟩, _⟩ := blk2 (H8.blk 0 _ _ _ rfl)
                        have d0 := below_cell H8.below HC.out.1
                        have d1 := below_cell H8.below HC.out.2.1
                        have d2 := below_cell H8.below HC.out.2.2.1
                        have d3 := below_cell H8.below HC.out.2.2.2
                        have HB8 := Lib.hid (HBR.out.trans (H8.below.mono HBR.out.size))
                        clear H8
                        go_quiet (fail)
                        go_wp2_with fail
                        go_roundw
                        case rel => exact ⟨i + 1, x / 2, y, _, by go_num, by go_num, by go_num, by omega, by omega, by omega, HXN, HIN, HTN, by first | exact HB8.out | exact below_drewN HB8.out _⟩
                        case measure =>
                          have h1 := HMI.out
                          have h2 := HMM.out
                          simp [intOf]
                          omega
                      · rw [if_neg hge] at hTL
                        have s6 : (y : Int) > (x : Int) := by omega
                        have hF : T[i]? = some (⟨2, y / 2, false⟩ : Fd) := by
                          rw [hTL, List.getElem?_append_right (by rw [← HIL.out]; exact Nat.le_refl _), show i - L.length = 0 by rw [← HIL.out]; omega]
                          rfl
                        have hFc : ∀ f u, f < 4 → (Fd.cells (⟨2, y / 2, false⟩ : Fd))[f]? = some u → (fdV T)[i * 4 + f]? = some u := by
                          intro f u hf hu
                          unfold fdV
                          rw [flat_at Fd.cells 4 (fun _ => rfl) T i f hil hf, show T[i] = (⟨2, y / 2, false⟩ : Fd) from Option.some.inj ((List.getElem?_eq_getElem hil).symm.trans hF)]
                          exact hu
                        have c0 := hcell (i * 4) _ (hFc 0 _ (by omega) rfl)
                        have c1 := hcell (i * 4 + 1) _ (hFc 1 _ (by omega) rfl)
                        have c2 := hcell (i * 4 + 2) _ (hFc 2 _ (by omega) rfl)
                        have c3 := hcell (i * 4 + 3) _ (hFc 3 _ (by omega) rfl)
                        rw [← Nat.add_assoc] at c1 c2 c3
                        have HTN : Hid (T = (L ++ [(⟨2, y / 2, false⟩ : Fd)]) ++ hvF ov (10 - (i + 1)) (x) (y / 2) (i + 1)) := Lib.hid (by
                          rw [hTL, List.append_assoc, show 10 - (i + 1) = 9 - i by omega]; rfl)
                        have HIN : Hid (i + 1 = (L ++ [(⟨2, y / 2, false⟩ : Fd)]).length) := Lib.hid (by rw [List.length_append, ← HIL.out]; rfl)
                        have HMI : Hid (i < T.length) := Lib.hid hil
                        have HXN : Hid (x * (y / 2) * 2 ^ (i + 1) ≤ 256) := Lib.hid (by
                          refine Nat.le_trans ?_ HXY.out
                          rw [Nat.pow_succ, show x * (y / 2) * (2 ^ i * 2) = x * (y / 2 * 2) * 2 ^ i by rw [Nat.mul_comm (2 ^ i) 2, ← Nat.mul_assoc, Nat.mul_assoc x (y / 2) 2]]
                          exact Nat.mul_le_mul_right _ (Nat.mul_le_mul_left _ (by omega)))
                        have hv2 : y ≥ 2 := by omega
                        have HMM := Lib.hid hM
                        have HBR := Lib.hid hbr
                        obtain ⟨P, hP⟩ : ∃ P, P = wr.heap.size := ⟨_, rfl⟩
                        obtain ⟨V8, hV8⟩ : ∃ V8, V8 = wr.alloc (.cells #[.int .u8 1, .int .i64 ((x : Int) / 2)] 48) := ⟨_, rfl⟩
                        have H8 := (Bx.start wr).new #[.int .u8 1, .int .i64 ((x : Int) / 2)] 48 rfl
                        rw [← hP, ← hV8] at H8
                        have t2 : (x : Int).tdiv 2 = (x : Int) / 2 := Int.tdiv_eq_ediv_of_nonneg (by omega)
                        have t3 : (y : Int).tdiv 2 = (y : Int) / 2 := Int.tdiv_eq_ediv_of_nonneg (by omega)
                        have HP := Lib.hid hP
                        have HV8 := Lib.hid hV8
                        have HC := Lib.hid (And.intro c0 (And.intro c1 (And.intro c2 c3)))
                        clear hF hFc hcell hTL hil hP hV8 c0 c1 c2 c3 hgt hz256 hM hbr HTL
                        go_upto_region 22 with fail
                        rw [← HP.out, ← HV8.out]
                        obtain ⟨⟨e0, e1⟩, ze0, ze1⟩ := blk2 (H8.blk 0 _ _ _ rfl)
                        obtain ⟨V9, hV9⟩ : ∃ V9, V9 = (V8.setCell ⟨P, 0, none⟩ (.int .u8 2)).setCell ⟨P, 1, none⟩ (.int .i64 ((y : Int) / 2)) := ⟨_, rfl⟩
                        have H9 := (H8.set 0 0 rfl (.int .u8 2)).set 0 1 rfl (.int .i64 ((y : Int) / 2))
                        rw [← hV9] at H9
                        have HV9 := Lib.hid hV9
                        clear hV9 H8
                        go_upto_region 26 with fail
                        rw [← HV9.out]
                        clear e0 e1 ze0 ze1
                        have H8 := H9
                        clear H9
                        obtain ⟨⟨e0, e1⟩, _⟩ := blk2 (H8.blk 0 _ _ _ rfl)
                        have d0 := below_cell H8.below HC.out.1
                        have d1 := below_cell H8.below HC.out.2.1
                        have d2 := below_cell H8.below HC.out.2.2.1
                        have d3 := below_cell H8.below HC.out.2.2.2
                        have HB8 := Lib.hid (HBR.out.trans (H8.below.mono HBR.out.size))
                        clear H8
                        go_quiet (fail)
                        go_wp2_with fail
                        go_roundw
                        case rel => exact ⟨i + 1, x, y / 2, _, by go_num, by go_num, by go_num, by omega, by omega, by omega, HXN, HIN, HTN, by first | exact HB8.out | exact below_drewN HB8.out _⟩
                        case measure =>
                          have h1 := HMI.out
                          have h2 := HMM.out
                          simp [intOf]
                          omega
                  · rw [if_neg hgt, List.append_nil] at hTL
                    have hMi : M = i := by rw [← hM, hTL, ← HIL.out]
                    have hx' : x = 1 := by
                      have : x * 1 ≤ x * y := Nat.mul_le_mul_left _ hy1
                      omega
                    have hy' : y = 1 := by
                      have : 1 * y ≤ x * y := Nat.mul_le_mul_right _ hx1
                      omega
                    subst hx' hy'
                    have s5 : ¬ (i : Int) < (M : Int) := by omega
                    have HM := Lib.hid hM
                    clear hTL hMi hgt hz256
                    rw [hM]
                    clear hM
                    go_wp2_with fail
                    have hbw : Below w.heap.size w wr := HB5.out.trans (hbr.mono HB5.out.size)
                    refine (HLV.out _ hbw).mono ?_
                    rintro e w9 ⟨rfl, hb9⟩
                    go_wp2_with fail
                    go_ret
                    exact ⟨rfl, hbw.trans (hb9.mono hbw.size)⟩
end Go.Proofs.YtdkijcmhjeaofaaGreatDoor
