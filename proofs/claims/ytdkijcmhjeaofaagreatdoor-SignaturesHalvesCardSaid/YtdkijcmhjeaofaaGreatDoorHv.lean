/- The contract of signatures.Halves. -/
import Derived.Test.YtdkijcmhjeaofaaGreatDoorKb
namespace Go.Proofs.YtdkijcmhjeaofaaGreatDoor
open Go.RowKit Ex

/-- What is left of a number when it is halved as long as it is even. -/
def oddF : Nat → Nat → Nat
  | 0, v => v
  | f + 1, v => if v % 2 = 0 then oddF f (v / 2) else v
def oddp (v : Nat) : Nat := oddF 10 v
def powB (v : Nat) : Bool := oddp v == 1
noncomputable def powRuns : Bool := (List.range 257).all fun n => match run0 20 37 [.int .i64 (.ofNat n)] with
  | .ok (.bool b) _ => b == (powB n || n == 0)
  | _ => false
set_option maxRecDepth 100000 in
theorem powRuns_true : powRuns = true := by kernel_rfl
theorem power_any (n : Nat) (h : n ≤ 256) (h1 : 1 ≤ n) (w : World) : Calls Tryz.prog 37 #[.int .i64 n] w (RetBelow (.bool (powB n)) w) := by
  have h0 := powRuns_true
  unfold powRuns at h0
  rw [List.all_eq_true] at h0
  have h0 := h0 n (List.mem_range.2 (by omega))
  split at h0
  · rename_i b S hr
    have hb : b = (powB n || n == 0) := by simpa using h0
    have hn : (n == 0) = false := by simp; omega
    rw [hn, Bool.or_false] at hb
    have hc := run0_ok hr (xs := [.int .i64 n]) (fun ρ => by simp only [VRL, VR]; exact ⟨_, _, rfl, rfl, rfl⟩) w
    refine hc.mono ?_
    rintro e w' ⟨⟨ρ, x, rfl, hx⟩, hb'⟩
    simp only [VR] at hx
    subst hx
    rw [hb]
    exact ⟨rfl, hb'⟩
  · cases h0

structure Fd where
  k : Nat
  c : Nat
  o : Bool
def Fd.cells (f : Fd) : List Value := [.int .u8 f.k, .int .i64 f.c, .int .u8 1, .bool f.o]
def fdV (l : List Fd) : List Value := l.flatMap Fd.cells
theorem fdV_len (l : List Fd) : (fdV l).length = l.length * 4 := flat_len _ 4 (fun _ => rfl) l
/-- The folds of a sheet in halves, from the fold i on. -/
def hvF (ov : List Bool) : Nat → Nat → Nat → Nat → List Fd
  | 0, _, _, _ => []
  | f + 1, p, q, i => if p * q > 1 then (if p ≥ q then ⟨1, p / 2, ov.getD i false⟩ :: hvF ov f (p / 2) q (i + 1) else ⟨2, q / 2, ov.getD i false⟩ :: hvF ov f p (q / 2) (i + 1)) else []
def hvT (a b : Nat) (ov : List Bool) : List Fd := hvF ov 10 a b 0

theorem fold_info : (Tryz.prog.info? 50).map (fun i => (i.zero, i.size, i.bytes)) = some (some (.agg #[.int .u8 0, .int .i64 0, .int .u8 0, .bool false]), 4, 24) := by kernel_rfl
set_option maxHeartbeats 400000 in
theorem clip_folds (A : Option Addr) (n c : Nat) (w : World) (h : n ≤ c) (_hm : c ≤ maxLen) :
    Calls Tryz.prog 38 #[.slice A n c] w fun e w' => e = .returned (.slice A n n) ∧ w = w' := by
  unfold maxLen at _hm
  go_enter Tryz.func38, Tryz.ntmps38
  go_wp2
  go_ret
  exact ⟨rfl, rfl⟩

/-- What Halves returns: the folds, or nothing and the error 1. -/
def HvRet (a b : Int) (ov : List Bool) (w : World) (e : Ending) (w' : World) : Prop := Below w.heap.size w w' ∧
  if okS a b && powB a.toNat && powB b.toNat then
    ∃ A, e = .returned (.tuple #[.slice A (hvT a.toNat b.toNat ov).length (hvT a.toNat b.toNat ov).length, .int .i64 0]) ∧ Rd w' A 4 (hvT a.toNat b.toNat ov).length (fdV (hvT a.toNat b.toNat ov))
  else e = .returned (.tuple #[.slice none 0 0, .int .i64 1])

set_option maxRecDepth 100000 in
set_option maxHeartbeats 4000000 in
theorem halves_any (a b : Int) (A : Option Addr) (ov : List Bool) (n cc : Nat) (w : World) (hn : n = ov.length) (h : Rd w A 1 n (boolsV ov)) (hl : n ≤ 1000) :
    Calls Tryz.prog 11 #[.agg #[.int .i64 a, .int .i64 b], .slice A n cc] w (HvRet a b ov w) := by
  obtain ⟨R, hR⟩ : ∃ R, (okS a b && powB a.toNat && powB b.toNat) = R := ⟨_, rfl⟩
  have HH := Lib.hid h
  have HN := Lib.hid hn
  have H := (Bx.start w).new #[.int .i64 a, .int .i64 b] 40 rfl
  clear h hn
  unfold HvRet
  rw [hR]
  go_enter Tryz.func11, Tryz.ntmps11
  go_upto_region 1 with fail
  obtain ⟨W, hW⟩ : ∃ W, W = w.alloc (.cells #[.int .i64 a, .int .i64 b] 40) := ⟨_, rfl⟩
  rw [← hW] at H ⊢
  obtain ⟨N, hN⟩ : ∃ N, N = w.heap.size := ⟨_, rfl⟩
  rw [← hN] at H ⊢
  have HNN := Lib.hid hN
  clear hW hN
  obtain ⟨⟨a0, a1⟩, _⟩ := blk2 (H.blk 0 _ _ _ rfl)
  go_wp2_with fail
  refine (sheetCheck_any a b _).mono ?_
  rintro e w2 ⟨rfl, hb⟩
  have H2 := H.call hb
  clear a0 a1 hb H
  cases hs : okS a b with
  | false =>
    rw [hs] at hR
    have hR : R = false := by simpa using hR.symm
    subst hR
    go_wp2_with fail
    refine bodyPost_ret (v := .tuple #[.slice none 0 0, .int .i64 1]) (by simp [results, Tryz.results11, go_sem]; try rfl) rfl ?_
    exact ⟨H2.below, rfl⟩
  | true =>
    rw [hs] at hR
    obtain ⟨p, rfl⟩ : ∃ p : Nat, a = p := ⟨a.toNat, by have := okS_iff.1 hs; omega⟩
    obtain ⟨q, rfl⟩ : ∃ q : Nat, b = q := ⟨b.toNat, by have := okS_iff.1 hs; omega⟩
    have hb1 := okS_iff.1 hs
    simp only [Int.toNat_natCast, Bool.true_and] at hR ⊢
    obtain ⟨⟨a0, a1⟩, _⟩ := blk2 (H2.blk 0 _ _ _ rfl)
    have hpq : p * q ≤ 256 := by have := hb1.2.2.2.2; exact_mod_cast this
    have hp1 : 1 ≤ p := by omega
    have hq1 : 1 ≤ q := by omega
    have HPW := Lib.hid fun w => power_any p (by omega) hp1 w
    have HPH := Lib.hid fun w => power_any q (by omega) hq1 w
    obtain ⟨bp, hbp⟩ : ∃ z, powB p = z := ⟨_, rfl⟩
    obtain ⟨bq, hbq⟩ : ∃ z, powB q = z := ⟨_, rfl⟩
    rw [hbp] at HPW hR
    rw [hbq] at HPH hR
    clear hs hb1 hbp hbq
    go_wp2_with fail
    refine (HPW.out _).mono ?_
    rintro e w3 ⟨rfl, hb3⟩
    have H3 := H2.call hb3
    clear a0 a1 H2 hb3
    cases bp with
    | false =>
      have hR : R = false := by simpa using hR.symm
      subst hR
      go_wp2_with fail
      refine bodyPost_ret (v := .tuple #[.slice none 0 0, .int .i64 1]) (by simp [results, Tryz.results11, go_sem]; try rfl) rfl ?_
      exact ⟨H3.below, rfl⟩
    | true =>
      obtain ⟨⟨a0, a1⟩, _⟩ := blk2 (H3.blk 0 _ _ _ rfl)
      go_wp2_with fail
      refine (HPH.out _).mono ?_
      rintro e w4 ⟨rfl, hb4⟩
      have H4 := H3.call hb4
      clear a0 a1 H3 hb4
      cases bq with
      | false =>
        have hR : R = false := by simpa using hR.symm
        subst hR
        go_wp2_with fail
        refine bodyPost_ret (v := .tuple #[.slice none 0 0, .int .i64 1]) (by simp [results, Tryz.results11, go_sem]; try rfl) rfl ?_
        exact ⟨H4.below, rfl⟩
      | true =>
        have hR : R = true := by simpa using hR.symm
        subst hR
        obtain ⟨⟨a0, a1⟩, _⟩ := blk2 (H4.blk 0 _ _ _ rfl)
        go_wp2_with fail
        go_quiet (fail)
        obtain ⟨wd, hwd⟩ : ∃ z, z = w4.drewN nq := ⟨_, rfl⟩
        have HB := (H4.drewN nq).below
        rw [← hwd] at HB ⊢
        clear hwd a0 a1 H4 HPW HPH hR
        obtain ⟨i0, hi0, hz0, hz1, hz2⟩ := info_parts fold_info
        have HI0 := Lib.hid hi0
        have HZ0 := Lib.hid hz0
        have HZ1 := Lib.hid hz1
        have HZ2 := Lib.hid hz2
        clear hi0 hz0 hz1 hz2
        obtain ⟨T, hT⟩ : ∃ T, hvT p q ov = T := ⟨_, rfl⟩
        have HT := Lib.hid hT
        unfold hvT at hT
        go_wp2_with fail
        go_loopw [7, 8, 9] (fun s7 s8 s9 wr => ∃ (i x y : Nat) (L : List Fd), s8 = .int .i64 x ∧ s9 = .int .i64 y ∧ i ≤ 9 ∧ 1 ≤ x ∧ 1 ≤ y ∧ x * y * 2 ^ i ≤ 256 ∧ i = L.length ∧ Hid (T = L ++ hvF ov (10 - i) x y i) ∧ ∃ B c, s7 = .slice B i c ∧ i ≤ c ∧ c ≤ maxLen ∧ wr.ownsRow w.heap.size 50 4 (.slice B i c) i (fdV L) ∧ Below w.heap.size w wr) (fun _ s8 s9 _ => (intOf s8).toNat * (intOf s9).toNat)
        case atStart => exact ⟨0, p, q, [], rfl, rfl, by omega, hp1, hq1, by simpa using hpq, rfl, Lib.hid (by rw [← hT]; rfl), none, 0, rfl, by omega, by unfold maxLen; omega, ⟨by simp [fdV], .inl ⟨rfl, rfl⟩⟩, HB⟩
        case round =>
          obtain ⟨i, x, y, L, rfl, rfl, hi9, hx1, hy1, hxy, hiL, HL, B, c, rfl, hic, hcm, hown, hbr⟩ := hrel
          clear hp1 hq1 hpq hT HB
          obtain ⟨z, hz⟩ : ∃ z : Nat, x * y = z := ⟨_, rfl⟩
          have hz256 : z ≤ 256 := hz ▸ Nat.le_trans (Nat.le_mul_of_pos_right _ (Nat.two_pow_pos i)) hxy
          have q0 : (x : Int) * (y : Int) = (z : Int) := by exact_mod_cast hz
          have hx256 : x ≤ 256 := by have : x * 1 ≤ x * y := Nat.mul_le_mul_left _ hy1
                                     omega
          have hy256 : y ≤ 256 := by have : 1 * y ≤ x * y := Nat.mul_le_mul_right _ hx1
                                     omega
          have HXY := Lib.hid hxy
          have HZ := Lib.hid hz
          have hHL := HL.out
          by_cases hgt : z > 1
          · have q1 : (z : Int) > 1 := by omega
            have hi8 : i ≤ 8 := by
              rcases Nat.lt_or_ge i 9 with h | h
              · omega
              · exfalso
                have h9 : i = 9 := by omega
                subst h9
                have : 2 * 2 ^ 9 ≤ x * y * 2 ^ 9 := Nat.mul_le_mul_right _ (by omega)
                omega
            rw [show 10 - i = (9 - i) + 1 by omega] at hHL
            unfold hvF at hHL
            rw [hz, if_pos hgt] at hHL
            obtain ⟨o, ho⟩ : ∃ o, ov.getD i false = o := ⟨_, rfl⟩
            rw [ho] at hHL
            have HIL := Lib.hid hiL
            have HO := Lib.hid hown
            have HHL := Lib.hid hHL
            have hrd := HH.out.below hbr
            have hlen := HN.out
            have HBR := Lib.hid hbr
            clear hown hHL HL hxy hz hiL
            by_cases hin : i < n
            · have q2 : (i : Int) < (n : Int) := by omega
              obtain ⟨bb, oo, rfl, hbb, hcell⟩ := hrd.2 (by omega)
              have d0 := hcell i (.bool o) (by
                unfold boolsV
                rw [List.getElem?_map, List.getElem?_eq_getElem (by omega)]
                have : ov[i]'(by omega) = o := by rw [← ho]; simp [List.getD, show i < ov.length by omega]
                rw [this]; rfl)
              clear hrd hcell ho hlen
              go_upto_region 10 with fail
              obtain ⟨P, hP⟩ : ∃ P, P = wr.heap.size := ⟨_, rfl⟩
              obtain ⟨W5, hW5⟩ : ∃ W5, W5 = wr.alloc (.cells #[.int .u8 0, .int .i64 0, .int .u8 1, .bool o] 50) := ⟨_, rfl⟩
              have H5 := (Bx.start wr).new #[.int .u8 0, .int .i64 0, .int .u8 1, .bool o] 50 rfl
              rw [← hP, ← hW5] at H5 ⊢
              have HP := Lib.hid hP
              clear hP hW5
              obtain ⟨⟨e0, e1, e2, e3⟩, ze0, ze1, ze2, ze3⟩ := blk4 (H5.blk 0 _ _ _ rfl)
              by_cases hge : x ≥ y
              · have t1 : (x : Int) ≥ (y : Int) := by omega
                have t2 : (x : Int).tdiv 2 = (x : Int) / 2 := Int.tdiv_eq_ediv_of_nonneg (by omega)
                rw [if_pos hge] at HHL
                have hv2 : x ≥ 2 := by
                  rcases Nat.lt_or_ge x 2 with h | h
                  · have h1 : x = 1 := by omega
                    have h2 : y = 1 := by omega
                    have := HZ.out
                    rw [h1, h2] at this
                    omega
                  · exact h
                have hlt : x / 2 * y < x * y := Nat.mul_lt_mul_of_pos_right (by omega) hy1
                have HXN : Hid (x / 2 * y * 2 ^ (i + 1) ≤ 256) := Lib.hid (by
                  refine Nat.le_trans ?_ HXY.out
                  rw [Nat.pow_succ, show x / 2 * y * (2 ^ i * 2) = x / 2 * 2 * y * 2 ^ i by rw [Nat.mul_comm (2 ^ i) 2, ← Nat.mul_assoc, Nat.mul_assoc (x / 2) y 2, Nat.mul_comm y 2, ← Nat.mul_assoc]]
                  exact Nat.mul_le_mul_right _ (Nat.mul_le_mul_right _ (by omega)))
                have HLN : Hid (T = (L ++ [(⟨1, x / 2, o⟩ : Fd)]) ++ hvF ov (10 - (i + 1)) (x / 2) (y) (i + 1)) := Lib.hid (by
                  rw [HHL.out, List.append_assoc, show 10 - (i + 1) = 9 - i by omega]; rfl)
                have HFV : Hid (fdV L ++ [.int .u8 1, .int .i64 ((x : Int) / 2), .int .u8 1, .bool o] = fdV (L ++ [(⟨1, x / 2, o⟩ : Fd)])) := Lib.hid (by simp [fdV, Fd.cells])
                have HIN : Hid (i + 1 = (L ++ [(⟨1, x / 2, o⟩ : Fd)]).length) := Lib.hid (by rw [List.length_append, ← HIL.out]; rfl)
                obtain ⟨W6, hW6⟩ : ∃ W6, W6 = (W5.setCell ⟨P, 0, none⟩ (.int .u8 1)).setCell ⟨P, 1, none⟩ (.int .i64 ((x : Int) / 2)) := ⟨_, rfl⟩
                have H6 := (H5.set 0 0 rfl (.int .u8 1)).set 0 1 rfl (.int .i64 ((x : Int) / 2))
                rw [← hW6] at H6
                have hO6 := own_keep HO.out (Nat.le_refl _) H6.below
                have hbw : Below w.heap.size w W6 := HBR.out.trans (H6.below.mono HBR.out.size)
                obtain ⟨v', w7, hr, hown', hg⟩ := run_append_rdK (P := Tryz.prog) (W6.alloc (.cells #[.int .u8 1, .int .i64 ((x : Int) / 2), .int .u8 1, .bool o] 50)) w.heap.size 42 42 50 i0 _ 4 24 Tryz.underlying42 HI0.out HZ0.out HZ1.out HZ2.out rfl (by omega) (.slice B i c) i (fdV L) (hO6.alloc _) (some ⟨W6.heap.size, 0, none⟩) 1 1 [.int .u8 1, .int .i64 ((x : Int) / 2), .int .u8 1, .bool o] (by simp [Value.oneCell']) (rd_new _ 1 4 rfl rfl) (by simp) (by omega) (by omega) (by have := hbw.size; simp; omega)
                have hb7 : Below w.heap.size w w7 := (hbw.alloc hbw.size _).grown hg (by have := hbw.size; simp; omega) (fun q hq => (hO6.lt q hq).1)
                obtain ⟨A', q', rfl, hnq', hqm'⟩ := own_form hown'
                obtain ⟨⟨e0, e1, e2, e3⟩, _⟩ := blk4 (H6.blk 0 _ _ _ rfl)
                have HR := Lib.hid hr
                rw [HFV.out] at hown'
                have HO' := Lib.hid hown'
                have HB7 := Lib.hid hb7
                have HW6 := Lib.hid hW6
                have HLT := Lib.hid hlt
                clear hr hown' hg hb7 hbw hO6 H6 H5 hlt hW6
                go_upto_region 15 with fail
                rw [← HW6.out]
                clear ze0 ze1 ze2 ze3
                as_aux_lemma =>
                  go_wp2_with (at_builtin; refine Lib.wpList_append_run _ rfl _ _ _ _ rfl _ _ rfl rfl _ _ HR.out ?_)
                  go_wp2_with fail
                  go_roundw
                  case rel => exact ⟨i + 1, x / 2, y, _, by go_num, by go_num, by omega, by omega, by omega, HXN.out, HIN.out, HLN, A', q', rfl, hnq', hqm', HO'.out, HB7.out⟩
                  case measure =>
                    have := HLT.out
                    simp [intOf]
                    exact_mod_cast this
              · have t1 : ¬ (x : Int) ≥ (y : Int) := by omega
                have t2 : (y : Int).tdiv 2 = (y : Int) / 2 := Int.tdiv_eq_ediv_of_nonneg (by omega)
                rw [if_neg hge] at HHL
                have hv2 : y ≥ 2 := by omega
                have hlt : x * (y / 2) < x * y := Nat.mul_lt_mul_of_pos_left (by omega) hx1
                have HXN : Hid (x * (y / 2) * 2 ^ (i + 1) ≤ 256) := Lib.hid (by
                  refine Nat.le_trans ?_ HXY.out
                  rw [Nat.pow_succ, show x * (y / 2) * (2 ^ i * 2) = x * (y / 2 * 2) * 2 ^ i by rw [Nat.mul_comm (2 ^ i) 2, ← Nat.mul_assoc, Nat.mul_assoc x (y / 2) 2]]
                  exact Nat.mul_le_mul_right _ (Nat.mul_le_mul_left _ (by omega)))
                have HLN : Hid (T = (L ++ [(⟨2, y / 2, o⟩ : Fd)]) ++ hvF ov (10 - (i + 1)) (x) (y / 2) (i + 1)) := Lib.hid (by
                  rw [HHL.out, List.append_assoc, show 10 - (i + 1) = 9 - i by omega]; rfl)
                have HFV : Hid (fdV L ++ [.int .u8 2, .int .i64 ((y : Int) / 2), .int .u8 1, .bool o] = fdV (L ++ [(⟨2, y / 2, o⟩ : Fd)])) := Lib.hid (by simp [fdV, Fd.cells])
                have HIN : Hid (i + 1 = (L ++ [(⟨2, y / 2, o⟩ : Fd)]).length) := Lib.hid (by rw [List.length_append, ← HIL.out]; rfl)
                obtain ⟨W6, hW6⟩ : ∃ W6, W6 = (W5.setCell ⟨P, 0, none⟩ (.int .u8 2)).setCell ⟨P, 1, none⟩ (.int .i64 ((y : Int) / 2)) := ⟨_, rfl⟩
                have H6 := (H5.set 0 0 rfl (.int .u8 2)).set 0 1 rfl (.int .i64 ((y : Int) / 2))
                rw [← hW6] at H6
                have hO6 := own_keep HO.out (Nat.le_refl _) H6.below
                have hbw : Below w.heap.size w W6 := HBR.out.trans (H6.below.mono HBR.out.size)
                obtain ⟨v', w7, hr, hown', hg⟩ := run_append_rdK (P := Tryz.prog) (W6.alloc (.cells #[.int .u8 2, .int .i64 ((y : Int) / 2), .int .u8 1, .bool o] 50)) w.heap.size 42 42 50 i0 _ 4 24 Tryz.underlying42 HI0.out HZ0.out HZ1.out HZ2.out rfl (by omega) (.slice B i c) i (fdV L) (hO6.alloc _) (some ⟨W6.heap.size, 0, none⟩) 1 1 [.int .u8 2, .int .i64 ((y : Int) / 2), .int .u8 1, .bool o] (by simp [Value.oneCell']) (rd_new _ 1 4 rfl rfl) (by simp) (by omega) (by omega) (by have := hbw.size; simp; omega)
                have hb7 : Below w.heap.size w w7 := (hbw.alloc hbw.size _).grown hg (by have := hbw.size; simp; omega) (fun q hq => (hO6.lt q hq).1)
                obtain ⟨A', q', rfl, hnq', hqm'⟩ := own_form hown'
                obtain ⟨⟨e0, e1, e2, e3⟩, _⟩ := blk4 (H6.blk 0 _ _ _ rfl)
                have HR := Lib.hid hr
                rw [HFV.out] at hown'
                have HO' := Lib.hid hown'
                have HB7 := Lib.hid hb7
                have HW6 := Lib.hid hW6
                have HLT := Lib.hid hlt
                clear hr hown' hg hb7 hbw hO6 H6 H5 hlt hW6
                go_upto_region 15 with fail
                rw [← HW6.out]
                clear ze0 ze1 ze2 ze3
                as_aux_lemma =>
                  go_wp2_with (at_builtin; refine Lib.wpList_append_run _ rfl _ _ _ _ rfl _ _ rfl rfl _ _ HR.out ?_)
                  go_wp2_with fail
                  go_roundw
                  case rel => exact ⟨i + 1, x, y / 2, _, by go_num, by go_num, by omega, by omega, by omega, HXN.out, HIN.out, HLN, A', q', rfl, hnq', hqm', HO'.out, HB7.out⟩
                  case measure =>
                    have := HLT.out
                    simp [intOf]
                    exact_mod_cast this
            · have q2 : ¬ (i : Int) < (n : Int) := by omega
              obtain rfl : o = false := by rw [← ho]; simp [List.getD, show ov[i]? = none from List.getElem?_eq_none (by omega)]
              clear hrd ho hlen
              go_upto_region 10 with fail
              obtain ⟨P, hP⟩ : ∃ P, P = wr.heap.size := ⟨_, rfl⟩
              obtain ⟨W5, hW5⟩ : ∃ W5, W5 = wr.alloc (.cells #[.int .u8 0, .int .i64 0, .int .u8 1, .bool false] 50) := ⟨_, rfl⟩
              have H5 := (Bx.start wr).new #[.int .u8 0, .int .i64 0, .int .u8 1, .bool false] 50 rfl
              rw [← hP, ← hW5] at H5 ⊢
              have HP := Lib.hid hP
              clear hP hW5
              obtain ⟨⟨e0, e1, e2, e3⟩, ze0, ze1, ze2, ze3⟩ := blk4 (H5.blk 0 _ _ _ rfl)
              by_cases hge : x ≥ y
              · have t1 : (x : Int) ≥ (y : Int) := by omega
                have t2 : (x : Int).tdiv 2 = (x : Int) / 2 := Int.tdiv_eq_ediv_of_nonneg (by omega)
                rw [if_pos hge] at HHL
                have hv2 : x ≥ 2 := by
                  rcases Nat.lt_or_ge x 2 with h | h
                  · have h1 : x = 1 := by omega
                    have h2 : y = 1 := by omega
                    have := HZ.out
                    rw [h1, h2] at this
                    omega
                  · exact h
                have hlt : x / 2 * y < x * y := Nat.mul_lt_mul_of_pos_right (by omega) hy1
                have HXN : Hid (x / 2 * y * 2 ^ (i + 1) ≤ 256) := Lib.hid (by
                  refine Nat.le_trans ?_ HXY.out
                  rw [Nat.pow_succ, show x / 2 * y * (2 ^ i * 2) = x / 2 * 2 * y * 2 ^ i by rw [Nat.mul_comm (2 ^ i) 2, ← Nat.mul_assoc, Nat.mul_assoc (x / 2) y 2, Nat.mul_comm y 2, ← Nat.mul_assoc]]
                  exact Nat.mul_le_mul_right _ (Nat.mul_le_mul_right _ (by omega)))
                have HLN : Hid (T = (L ++ [(⟨1, x / 2, false⟩ : Fd)]) ++ hvF ov (10 - (i + 1)) (x / 2) (y) (i + 1)) := Lib.hid (by
                  rw [HHL.out, List.append_assoc, show 10 - (i + 1) = 9 - i by omega]; rfl)
                have HFV : Hid (fdV L ++ [.int .u8 1, .int .i64 ((x : Int) / 2), .int .u8 1, .bool false] = fdV (L ++ [(⟨1, x / 2, false⟩ : Fd)])) := Lib.hid (by simp [fdV, Fd.cells])
                have HIN : Hid (i + 1 = (L ++ [(⟨1, x / 2, false⟩ : Fd)]).length) := Lib.hid (by rw [List.length_append, ← HIL.out]; rfl)
                obtain ⟨W6, hW6⟩ : ∃ W6, W6 = (W5.setCell ⟨P, 0, none⟩ (.int .u8 1)).setCell ⟨P, 1, none⟩ (.int .i64 ((x : Int) / 2)) := ⟨_, rfl⟩
                have H6 := (H5.set 0 0 rfl (.int .u8 1)).set 0 1 rfl (.int .i64 ((x : Int) / 2))
                rw [← hW6] at H6
                have hO6 := own_keep HO.out (Nat.le_refl _) H6.below
                have hbw : Below w.heap.size w W6 := HBR.out.trans (H6.below.mono HBR.out.size)
                obtain ⟨v', w7, hr, hown', hg⟩ := run_append_rdK (P := Tryz.prog) (W6.alloc (.cells #[.int .u8 1, .int .i64 ((x : Int) / 2), .int .u8 1, .bool false] 50)) w.heap.size 42 42 50 i0 _ 4 24 Tryz.underlying42 HI0.out HZ0.out HZ1.out HZ2.out rfl (by omega) (.slice B i c) i (fdV L) (hO6.alloc _) (some ⟨W6.heap.size, 0, none⟩) 1 1 [.int .u8 1, .int .i64 ((x : Int) / 2), .int .u8 1, .bool false] (by simp [Value.oneCell']) (rd_new _ 1 4 rfl rfl) (by simp) (by omega) (by omega) (by have := hbw.size; simp; omega)
                have hb7 : Below w.heap.size w w7 := (hbw.alloc hbw.size _).grown hg (by have := hbw.size; simp; omega) (fun q hq => (hO6.lt q hq).1)
                obtain ⟨A', q', rfl, hnq', hqm'⟩ := own_form hown'
                obtain ⟨⟨e0, e1, e2, e3⟩, _⟩ := blk4 (H6.blk 0 _ _ _ rfl)
                have HR := Lib.hid hr
                rw [HFV.out] at hown'
                have HO' := Lib.hid hown'
                have HB7 := Lib.hid hb7
                have HW6 := Lib.hid hW6
                have HLT := Lib.hid hlt
                clear hr hown' hg hb7 hbw hO6 H6 H5 hlt hW6
                go_upto_region 15 with fail
                rw [← HW6.out]
                clear ze0 ze1 ze2 ze3
                as_aux_lemma =>
                  go_wp2_with (at_builtin; refine Lib.wpList_append_run _ rfl _ _ _ _ rfl _ _ rfl rfl _ _ HR.out ?_)
                  go_wp2_with fail
                  go_roundw
                  case rel => exact ⟨i + 1, x / 2, y, _, by go_num, by go_num, by omega, by omega, by omega, HXN.out, HIN.out, HLN, A', q', rfl, hnq', hqm', HO'.out, HB7.out⟩
                  case measure =>
                    have := HLT.out
                    simp [intOf]
                    exact_mod_cast this
              · have t1 : ¬ (x : Int) ≥ (y : Int) := by omega
                have t2 : (y : Int).tdiv 2 = (y : Int) / 2 := Int.tdiv_eq_ediv_of_nonneg (by omega)
                rw [if_neg hge] at HHL
                have hv2 : y ≥ 2 := by omega
                have hlt : x * (y / 2) < x * y := Nat.mul_lt_mul_of_pos_left (by omega) hx1
                have HXN : Hid (x * (y / 2) * 2 ^ (i + 1) ≤ 256) := Lib.hid (by
                  refine Nat.le_trans ?_ HXY.out
                  rw [Nat.pow_succ, show x * (y / 2) * (2 ^ i * 2) = x * (y / 2 * 2) * 2 ^ i by rw [Nat.mul_comm (2 ^ i) 2, ← Nat.mul_assoc, Nat.mul_assoc x (y / 2) 2]]
                  exact Nat.mul_le_mul_right _ (Nat.mul_le_mul_left _ (by omega)))
                have HLN : Hid (T = (L ++ [(⟨2, y / 2, false⟩ : Fd)]) ++ hvF ov (10 - (i + 1)) (x) (y / 2) (i + 1)) := Lib.hid (by
                  rw [HHL.out, List.append_assoc, show 10 - (i + 1) = 9 - i by omega]; rfl)
                have HFV : Hid (fdV L ++ [.int .u8 2, .int .i64 ((y : Int) / 2), .int .u8 1, .bool false] = fdV (L ++ [(⟨2, y / 2, false⟩ : Fd)])) := Lib.hid (by simp [fdV, Fd.cells])
                have HIN : Hid (i + 1 = (L ++ [(⟨2, y / 2, false⟩ : Fd)]).length) := Lib.hid (by rw [List.length_append, ← HIL.out]; rfl)
                obtain ⟨W6, hW6⟩ : ∃ W6, W6 = (W5.setCell ⟨P, 0, none⟩ (.int .u8 2)).setCell ⟨P, 1, none⟩ (.int .i64 ((y : Int) / 2)) := ⟨_, rfl⟩
                have H6 := (H5.set 0 0 rfl (.int .u8 2)).set 0 1 rfl (.int .i64 ((y : Int) / 2))
                rw [← hW6] at H6
                have hO6 := own_keep HO.out (Nat.le_refl _) H6.below
                have hbw : Below w.heap.size w W6 := HBR.out.trans (H6.below.mono HBR.out.size)
                obtain ⟨v', w7, hr, hown', hg⟩ := run_append_rdK (P := Tryz.prog) (W6.alloc (.cells #[.int .u8 2, .int .i64 ((y : Int) / 2), .int .u8 1, .bool false] 50)) w.heap.size 42 42 50 i0 _ 4 24 Tryz.underlying42 HI0.out HZ0.out HZ1.out HZ2.out rfl (by omega) (.slice B i c) i (fdV L) (hO6.alloc _) (some ⟨W6.heap.size, 0, none⟩) 1 1 [.int .u8 2, .int .i64 ((y : Int) / 2), .int .u8 1, .bool false] (by simp [Value.oneCell']) (rd_new _ 1 4 rfl rfl) (by simp) (by omega) (by omega) (by have := hbw.size; simp; omega)
                have hb7 : Below w.heap.size w w7 := (hbw.alloc hbw.size _).grown hg (by have := hbw.size; simp; omega) (fun q hq => (hO6.lt q hq).1)
                obtain ⟨A', q', rfl, hnq', hqm'⟩ := own_form hown'
                obtain ⟨⟨e0, e1, e2, e3⟩, _⟩ := blk4 (H6.blk 0 _ _ _ rfl)
                have HR := Lib.hid hr
                rw [HFV.out] at hown'
                have HO' := Lib.hid hown'
                have HB7 := Lib.hid hb7
                have HW6 := Lib.hid hW6
                have HLT := Lib.hid hlt
                clear hr hown' hg hb7 hbw hO6 H6 H5 hlt hW6
                go_upto_region 15 with fail
                rw [← HW6.out]
                clear ze0 ze1 ze2 ze3
                as_aux_lemma =>
                  go_wp2_with (at_builtin; refine Lib.wpList_append_run _ rfl _ _ _ _ rfl _ _ rfl rfl _ _ HR.out ?_)
                  go_wp2_with fail
                  go_roundw
                  case rel => exact ⟨i + 1, x, y / 2, _, by go_num, by go_num, by omega, by omega, by omega, HXN.out, HIN.out, HLN, A', q', rfl, hnq', hqm', HO'.out, HB7.out⟩
                  case measure =>
                    have := HLT.out
                    simp [intOf]
                    exact_mod_cast this
          · have q1 : ¬ (z : Int) > 1 := by omega
            have HL0 : Hid (T = L) := Lib.hid (by
              rw [hHL, show 10 - i = (9 - i) + 1 by omega]
              unfold hvF
              rw [hz, if_neg hgt, List.append_nil])
            have HIL := Lib.hid hiL
            clear hxy hz hiL hHL HL
            go_wp2_with fail
            refine (clip_folds B i c wr hic hcm).mono ?_
            rintro e w9 ⟨rfl, rfl⟩
            have hrd := Rd.of_own hown
            go_wp2_with fail
            refine bodyPost_ret (v := .tuple #[.slice B i i, .int .i64 0]) (by simp [results, Tryz.results11, go_sem]; try rfl) rfl ⟨hbr, B, ?_, ?_⟩
            · have : hvT p q ov = L := by rw [← HL0.out, ← HT.out]
              rw [this, ← HIL.out]
            · have : hvT p q ov = L := by rw [← HL0.out, ← HT.out]
              rw [this, ← HIL.out]
              exact hrd
end Go.Proofs.YtdkijcmhjeaofaaGreatDoor
