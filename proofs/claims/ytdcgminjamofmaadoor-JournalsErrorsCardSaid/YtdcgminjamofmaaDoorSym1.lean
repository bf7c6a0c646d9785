/- Contract of slices.symMergeCmpFunc at records, where one of the two parts has one record. -/
import Derived.Test.YtdcgminjamofmaaDoorIsrt
namespace Go.Proofs.YtdcgminjamofmaaDoor
open Go.RowKit

theorem insD_at' (P S1 : List Rec) (y x : Rec) (S2 R : List Rec) {p q : Nat} (hp : p = P.length + S1.length) (hq : q = P.length + S1.length + 1) :
    (insD P S1 x (y :: S2) R)[p]? = some x ∧ (insD P S1 x (y :: S2) R)[q]? = some y ∧ ((insD P S1 x (y :: S2) R).set p y).set q x = insD P (S1 ++ [y]) x S2 R := by
  have e1 : insD P S1 x (y :: S2) R = (P ++ S1) ++ x :: ([] ++ y :: (S2 ++ R)) := by simp [insD]
  have e2 : insD P (S1 ++ [y]) x S2 R = (P ++ S1) ++ y :: ([] ++ x :: (S2 ++ R)) := by simp [insD]
  rw [e1, e2]
  exact swap_mid (P ++ S1) [] (S2 ++ R) x y (by simp; omega) (by simp; omega)
theorem get_mid {P B S : List Rec} {i k : Nat} (hi : i < B.length) (hk : k = P.length + i) : (P ++ B ++ S)[k]? = some B[i] := by
  subst hk
  rw [List.append_assoc, List.getElem?_append_right (by omega), Nat.add_sub_cancel_left, List.getElem?_append_left hi, List.getElem?_eq_getElem hi]
theorem insD_get {P S1 : List Rec} {x : Rec} {S2 R : List Rec} {i k : Nat} (hi : i < S2.length) (hk : k = P.length + S1.length + 1 + i) : (insD P S1 x S2 R)[k]? = some S2[i] := by
  have e : insD P S1 x S2 R = (P ++ S1 ++ [x]) ++ S2 ++ R := by simp [insD]
  rw [e]
  exact get_mid hi (by simp; omega)
theorem insD_getL {P S1 : List Rec} {x : Rec} {S2 R : List Rec} {i k : Nat} (hi : i < S1.length) (hk : k = P.length + i) : (insD P S1 x S2 R)[k]? = some S1[i] := by
  have e : insD P S1 x S2 R = P ++ S1 ++ (x :: S2 ++ R) := by simp [insD]
  rw [e]
  exact get_mid hi hk
theorem insD_x {P S1 : List Rec} {x : Rec} {S2 R : List Rec} {k : Nat} (hk : k = P.length + S1.length) : (insD P S1 x S2 R)[k]? = some x := by
  have e : insD P S1 x S2 R = (P ++ S1) ++ [x] ++ (S2 ++ R) := by simp [insD]
  rw [e]
  exact get_mid (B := [x]) (i := 0) (by simp) (by simp; omega)

set_option maxHeartbeats 4000000 in
set_option maxRecDepth 100000 in
theorem sym_front (base g n cap cc : Nat) (P B S : List Rec) (x : Rec) (a m b : Nat) (w : World) (ha : a = P.length) (hm : m = P.length + 1) (hb : b = P.length + 1 + B.length) (hn : n = P.length + 1 + B.length + S.length) (hl : n ≤ 1000000000) (hB : AscT Rec.t B)
    (hown : w.ownsRow base 37 4 (.slice (some ⟨g, 0, none⟩) n cap) n (recs (insD P [] x B S))) :
    Calls Tryd.prog 57 #[.slice (some ⟨g, 0, none⟩) n cc, .int .i64 a, .int .i64 m, .int .i64 b, .func (.func 38) #[] #[]] w (SortRet base g n cap (P ++ mrg Rec.t [x] B ++ S) w) := by
  obtain ⟨D', hD'⟩ : ∃ D', D' = P ++ mrg Rec.t [x] B ++ S := ⟨_, rfl⟩
  rw [← hD']
  have HD := Lib.hid hD'
  have HA := Lib.hid ha
  have HM := Lib.hid hm
  have HB := Lib.hid hb
  have HN := Lib.hid hn
  have HO := Lib.hid hown
  have HBA := Lib.hid hB
  have hab : a < m := by omega
  have hmb : m ≤ b := by omega
  have hbn : b ≤ n := by omega
  have e1 : (m : Int) - (a : Int) = 1 := by omega
  have e1b : ((m : Int) - (a : Int) == 1) = true := by simpa using e1
  clear ha hm hb hn hown hB e1 hD'
  go_enter Tryd.func57, Tryd.ntmps57
  go_wp2_with fail
  go_loopw [10, 11, 12] (fun s10 s11 _ wr => ∃ i j : Nat, m ≤ i ∧ i ≤ j ∧ j ≤ b ∧ s10 = .int .i64 i ∧ s11 = .int .i64 j ∧ Hid (∀ q y, q + m < i → B[q]? = some y → y.t < x.t) ∧ Hid (∀ q y, j ≤ q + m → B[q]? = some y → x.t ≤ y.t) ∧ wr.ownsRow base 37 4 (.slice (some ⟨g, 0, none⟩) n cap) n (recs (insD P [] x B S)) ∧ w.grownBy wr (some g)) (fun s10 s11 _ _ => (intOf s11).toNat - (intOf s10).toNat)
  case atStart =>
    refine ⟨m, b, by omega, by omega, by omega, rfl, rfl, Lib.hid (fun q y h => by omega), Lib.hid (fun q y h hy => ?_), HO.out, grown_refl _ _⟩
    have := (List.getElem?_eq_some_iff.1 hy).1
    have := HB.out
    have := HM.out
    omega
  case round =>
    obtain ⟨i, j, hmi, hij, hjb, rfl, rfl, H1, H2, hown, hgr⟩ := hrel
    have hDl : n = (insD P [] x B S).length := by rw [insD_len]; have := HN.out; simp; omega
    by_cases hlt : i < j
    · obtain ⟨h, hh⟩ : ∃ h, h = (i + j) / 2 := ⟨_, rfl⟩
      have hhq : h - m < B.length := by have := HB.out; have := HM.out; omega
      have gh := insD_get (P := P) (S1 := []) (x := x) (R := S) (k := h) hhq (by have := HM.out; simp; omega)
      have ga := insD_x (P := P) (S1 := []) (x := x) (S2 := B) (R := S) (k := a) (by have := HA.out; simp; omega)
      obtain ⟨y, hy⟩ : ∃ y, B[h - m] = y := ⟨_, rfl⟩
      rw [hy] at gh
      obtain ⟨⟨c0, c1, c2, c3⟩, _⟩ := own_rec hown hDl gh
      obtain ⟨⟨d0, d1, d2, d3⟩, _⟩ := own_rec hown hDl ga
      have HO1 := Lib.hid hown
      have HY := Lib.hid hy
      have HH := Lib.hid hh
      have HDL := Lib.hid hDl
      have q1 : (i : Int) < (j : Int) := by omega
      have q2 : ((i : Int) + (j : Int)) / 2 = (h : Int) := by omega
      have q3 : (h : Int) < (n : Int) := by omega
      have q4 : (a : Int) < (n : Int) := by omega
      have q5 : i ≤ h := by omega
      have q6 : h < j := by omega
      clear hown hy hh gh ga hDl
      go_wp2_with fail
      go_still_tail 9, (by kernel_rfl)
      change wpList _ _ _ _ _ wr.drew
      go_wp2_with fail
      refine (early_any y x _).mono ?_
      rintro e w2 ⟨rfl, hb2⟩
      have hown2 := own_keep HO1.out.drew (Nat.le_refl _) hb2
      have hg2 : w.grownBy w2 (some g) := grown_below (grown_drew hgr) hb2
      clear c0 c1 c2 c3 d0 d1 d2 d3 hb2 hgr q2
      by_cases hxy : y.t < x.t
      · rw [cmpI_lt hxy]
        have HXY := Lib.hid hxy
        have HO2 := Lib.hid hown2
        clear hxy hown2
        go_wp2_with fail
        go_roundw
        case rel =>
          refine ⟨h + 1, j, by omega, by omega, by omega, by go_num, rfl, Lib.hid (fun q u hq hu => ?_), H2, HO2.out, hg2⟩
          obtain ⟨hql, rfl⟩ := List.getElem?_eq_some_iff.1 hu
          have h3 := asc_get HBA.out (i := q) (j := h - m) hql hhq (by omega)
          rw [HY.out] at h3
          have := HXY.out
          omega
        case measure => simp [intOf]; omega
      · have hc : cmpI y.t x.t = 0 ∨ cmpI y.t x.t = 1 := by unfold cmpI; rw [if_neg hxy]; split <;> simp
        have hc0 : decide (cmpI y.t x.t < 0) = false := by rcases hc with hc | hc <;> rw [hc] <;> rfl
        have HXY := Lib.hid hxy
        have HO2 := Lib.hid hown2
        clear hxy hc hown2
        go_wp2_with fail
        go_roundw
        case rel =>
          refine ⟨i, h, by omega, by omega, by omega, rfl, rfl, H1, Lib.hid (fun q u hq hu => ?_), HO2.out, hg2⟩
          obtain ⟨hql, rfl⟩ := List.getElem?_eq_some_iff.1 hu
          have h3 := asc_get HBA.out (i := h - m) (j := q) hhq hql (by omega)
          rw [HY.out] at h3
          have := HXY.out
          omega
        case measure => simp [intOf]; omega
    · obtain rfl : i = j := by omega
      have hfin : D' = insD P (B.take (i - m)) x (B.drop (i - m)) S := by
        have e := mrg_front (t := Rec.t) (S1 := B.take (i - m)) (S2 := B.drop (i - m)) (x := x) (fun u hu => by
          obtain ⟨q, hq, rfl⟩ := List.mem_iff_getElem.1 hu
          rw [List.length_take] at hq
          rw [List.getElem_take]
          exact H1.out q _ (by omega) (List.getElem?_eq_getElem (by omega))) (fun u hu => by
          obtain ⟨q, hq, rfl⟩ := List.mem_iff_getElem.1 hu
          rw [List.length_drop] at hq
          rw [List.getElem_drop]
          exact H2.out (i - m + q) _ (by omega) (List.getElem?_eq_getElem (by omega)))
        rw [List.take_append_drop] at e
        rw [HD.out, e]
        rfl
      have HF := Lib.hid hfin
      have HO1 := Lib.hid hown
      have hib : i - m ≤ B.length := by have := HB.out; have := HM.out; omega
      clear hfin hown hDl H1 H2
      go_wp2_with fail
      obtain ⟨wo, rfl⟩ : ∃ wo : World, wo = wr := ⟨_, rfl⟩
      go_loopw [13] (fun s13 wr => ∃ k q : Nat, k = a + q ∧ q ≤ i - m ∧ s13 = .int .i64 k ∧ wr.ownsRow base 37 4 (.slice (some ⟨g, 0, none⟩) n cap) n (recs (insD P (B.take q) x (B.drop q) S)) ∧ w.grownBy wr (some g)) (fun s13 _ => i - (intOf s13).toNat)
      case atStart => exact ⟨a, 0, by omega, by omega, rfl, by simpa using HO1.out, hgr⟩
      case round =>
        obtain ⟨k, q, hk, hq, rfl, hown, hgr2⟩ := hrel
        have HK := Lib.hid hk
        by_cases hlt2 : q < i - m
        · obtain ⟨r, hr⟩ : ∃ r, r = k + 1 := ⟨_, rfl⟩
          have hqB : q < B.length := by omega
          obtain ⟨y, hy⟩ : ∃ y, B[q] = y := ⟨_, rfl⟩
          rw [List.drop_eq_getElem_cons hqB, hy] at hown
          have hlq : (B.take q).length = q := by rw [List.length_take]; omega
          obtain ⟨g1, g2, g3⟩ := insD_at' P (B.take q) y x (B.drop (q + 1)) S (p := k) (q := r) (by rw [hlq]; have := HA.out; omega) (by rw [hlq]; have := HA.out; omega)
          have hDl : n = (insD P (B.take q) x (y :: B.drop (q + 1)) S).length := by rw [insD_len, hlq]; have := HN.out; simp; omega
          obtain ⟨⟨c0, c1, c2, c3⟩, z0, z1, z2, z3⟩ := own_rec hown hDl g1
          obtain ⟨⟨d0, d1, d2, d3⟩, y0, y1, y2, y3⟩ := own_rec hown hDl g2
          have hsw := swap_own2 (a := x) (b := y) (i := k) (j := r) hown (by rw [← hDl]; omega) (by rw [← hDl]; omega)
          have et : B.take q ++ [y] = B.take (q + 1) := by rw [List.take_succ_eq_append_getElem hqB, hy]
          rw [g3, et] at hsw
          have HSW := Lib.hid hsw
          have e2 : IntKind.i64.wrap ((k : Int) + 1) = (r : Int) := by rw [IntWalk.i64_in _ (by omega)]; omega
          have e3 : (k : Int) < (n : Int) := by omega
          have e4 : (r : Int) < (n : Int) := by omega
          have e5 : (0 : Int) ≤ (k : Int) := by omega
          have e6 : (0 : Int) ≤ (r : Int) := by omega
          have e7 : (k : Int) < (i : Int) - 1 := by omega
          have hkr : ¬ k = r := by omega
          have hrk : ¬ r = k := by omega
          have HR := Lib.hid hr
          clear hsw hown g1 g2 g3 hDl hlq et hy hr hk
          go_wp2_with fail
          go_region
          obtain ⟨h1, h2⟩ := HSW.out
          clear HSW c0 c1 c2 c3 d0 d1 d2 d3 z0 z1 z2 z3 y0 y1 y2 y3
          obtain ⟨W3, hW3⟩ : ∃ W3, W3 = (((((((((wr.setCell ⟨g, k * 4, none⟩ (.int .i64 y.t)).setCell ⟨g, k * 4 + 1, none⟩ (.int .u8 y.k)).setCell ⟨g, k * 4 + 2, none⟩ (.int .i64 y.j)).setCell ⟨g, k * 4 + 3, none⟩ (.int .i64 y.v)).setCell ⟨g, r * 4, none⟩ (.int .i64 x.t)).setCell ⟨g, r * 4 + 1, none⟩ (.int .u8 x.k)).setCell ⟨g, r * 4 + 2, none⟩ (.int .i64 x.j)).setCell ⟨g, r * 4 + 3, none⟩ (.int .i64 x.v)).drew) := ⟨_, rfl⟩
          rw [← hW3] at h1 h2 ⊢
          have H1 := Lib.hid h1
          have H2 := Lib.hid (grown_tr hgr2 h2)
          clear hW3 h1 h2 hgr2
          go_wp2_with fail
          go_roundw
          case rel => exact ⟨r, q + 1, by have := HR.out; have := HK.out; omega, by omega, rfl, H1.out, H2.out⟩
          case measure => have := HR.out; simp [intOf]; omega
        · obtain rfl : q = i - m := by omega
          have e7 : ¬ (k : Int) < (i : Int) - 1 := by have := HA.out; have := HM.out; omega
          have hown' := hown
          rw [← HF.out] at hown'
          have HO2 := Lib.hid hown'
          clear hown hown' hk
          go_wp2_with fail
          go_end0
          exact ⟨rfl, HO2.out, hgr2⟩

set_option maxHeartbeats 4000000 in
set_option maxRecDepth 100000 in
theorem sym_back (base g n cap cc : Nat) (P B S : List Rec) (x : Rec) (a m b : Nat) (w : World) (ha : a = P.length) (hm : m = P.length + B.length) (hb : b = P.length + B.length + 1) (hn : n = P.length + B.length + 1 + S.length) (hB2 : 2 ≤ B.length) (hl : n ≤ 1000000000) (hB : AscT Rec.t B)
    (hown : w.ownsRow base 37 4 (.slice (some ⟨g, 0, none⟩) n cap) n (recs (insD P B x [] S))) :
    Calls Tryd.prog 57 #[.slice (some ⟨g, 0, none⟩) n cc, .int .i64 a, .int .i64 m, .int .i64 b, .func (.func 38) #[] #[]] w (SortRet base g n cap (P ++ mrg Rec.t B [x] ++ S) w) := by
  obtain ⟨D', hD'⟩ : ∃ D', D' = P ++ mrg Rec.t B [x] ++ S := ⟨_, rfl⟩
  rw [← hD']
  have HD := Lib.hid hD'
  have HA := Lib.hid ha
  have HM := Lib.hid hm
  have HB := Lib.hid hb
  have HN := Lib.hid hn
  have HO := Lib.hid hown
  have HBA := Lib.hid hB
  have hab : a < m := by omega
  have hmb : m ≤ b := by omega
  have hbn : b ≤ n := by omega
  have e1b : ((m : Int) - (a : Int) == 1) = false := by simp; omega
  have e2b : ((b : Int) - (m : Int) == 1) = true := by simp; omega
  clear ha hm hb hn hown hB hD'
  go_enter Tryd.func57, Tryd.ntmps57
  go_wp2_with fail
  go_loopw [14, 15, 16] (fun s10 s11 _ wr => ∃ i j : Nat, a ≤ i ∧ i ≤ j ∧ j ≤ m ∧ s10 = .int .i64 i ∧ s11 = .int .i64 j ∧ Hid (∀ q y, q + a < i → B[q]? = some y → y.t ≤ x.t) ∧ Hid (∀ q y, j ≤ q + a → B[q]? = some y → x.t < y.t) ∧ wr.ownsRow base 37 4 (.slice (some ⟨g, 0, none⟩) n cap) n (recs (insD P B x [] S)) ∧ w.grownBy wr (some g)) (fun s10 s11 _ _ => (intOf s11).toNat - (intOf s10).toNat)
  case atStart =>
    refine ⟨a, m, by omega, by omega, by omega, rfl, rfl, Lib.hid (fun q y h => by omega), Lib.hid (fun q y h hy => ?_), HO.out, grown_refl _ _⟩
    have := (List.getElem?_eq_some_iff.1 hy).1
    have := HA.out
    have := HM.out
    omega
  case round =>
    obtain ⟨i, j, hmi, hij, hjb, rfl, rfl, H1, H2, hown, hgr⟩ := hrel
    have hDl : n = (insD P B x [] S).length := by rw [insD_len]; have := HN.out; simp; omega
    by_cases hlt : i < j
    · obtain ⟨h, hh⟩ : ∃ h, h = (i + j) / 2 := ⟨_, rfl⟩
      have hhq : h - a < B.length := by have := HA.out; have := HM.out; omega
      have gh := insD_getL (P := P) (x := x) (S2 := []) (R := S) (k := h) hhq (by have := HA.out; omega)
      have ga := insD_x (P := P) (S1 := B) (x := x) (S2 := []) (R := S) (k := m) (by have := HM.out; omega)
      obtain ⟨y, hy⟩ : ∃ y, B[h - a] = y := ⟨_, rfl⟩
      rw [hy] at gh
      obtain ⟨⟨c0, c1, c2, c3⟩, _⟩ := own_rec hown hDl gh
      obtain ⟨⟨d0, d1, d2, d3⟩, _⟩ := own_rec hown hDl ga
      have HO1 := Lib.hid hown
      have HY := Lib.hid hy
      have HH := Lib.hid hh
      have HDL := Lib.hid hDl
      have q1 : (i : Int) < (j : Int) := by omega
      have q2 : ((i : Int) + (j : Int)) / 2 = (h : Int) := by omega
      have q3 : (h : Int) < (n : Int) := by omega
      have q4 : (m : Int) < (n : Int) := by have := HM.out; have := HN.out; omega
      have q5 : i ≤ h := by omega
      have q6 : h < j := by omega
      clear hown hy hh gh ga hDl
      go_wp2_with fail
      go_still_tail 9, (by kernel_rfl)
      change wpList _ _ _ _ _ wr.drew
      go_wp2_with fail
      refine (early_any x y _).mono ?_
      rintro e w2 ⟨rfl, hb2⟩
      have hown2 := own_keep HO1.out.drew (Nat.le_refl _) hb2
      have hg2 : w.grownBy w2 (some g) := grown_below (grown_drew hgr) hb2
      clear c0 c1 c2 c3 d0 d1 d2 d3 hb2 hgr q2
      by_cases hxy : x.t < y.t
      · rw [cmpI_lt hxy]
        have HXY := Lib.hid hxy
        have HO2 := Lib.hid hown2
        clear hxy hown2
        go_wp2_with fail
        go_roundw
        case rel =>
          refine ⟨i, h, by omega, by omega, by omega, rfl, rfl, H1, Lib.hid (fun q u hq hu => ?_), HO2.out, hg2⟩
          obtain ⟨hql, rfl⟩ := List.getElem?_eq_some_iff.1 hu
          have h3 := asc_get HBA.out (i := h - a) (j := q) hhq hql (by omega)
          rw [HY.out] at h3
          have := HXY.out
          omega
        case measure => simp [intOf]; omega
      · have hc : cmpI x.t y.t = 0 ∨ cmpI x.t y.t = 1 := by unfold cmpI; rw [if_neg hxy]; split <;> simp
        have hc0 : decide (cmpI x.t y.t < 0) = false := by rcases hc with hc | hc <;> rw [hc] <;> rfl
        have HXY := Lib.hid hxy
        have HO2 := Lib.hid hown2
        clear hxy hc hown2
        go_wp2_with fail
        go_roundw
        case rel =>
          refine ⟨h + 1, j, by omega, by omega, by omega, by go_num, rfl, Lib.hid (fun q u hq hu => ?_), H2, HO2.out, hg2⟩
          obtain ⟨hql, rfl⟩ := List.getElem?_eq_some_iff.1 hu
          have h3 := asc_get HBA.out (i := q) (j := h - a) hql hhq (by omega)
          rw [HY.out] at h3
          have := HXY.out
          omega
        case measure => simp [intOf]; omega
    · obtain rfl : i = j := by omega
      have hfin : D' = insD P (B.take (i - a)) x (B.drop (i - a)) S := by
        have e := mrg_back (t := Rec.t) (S1 := B.take (i - a)) (S2 := B.drop (i - a)) (x := x) (fun u hu => by
          obtain ⟨q, hq, rfl⟩ := List.mem_iff_getElem.1 hu
          rw [List.length_take] at hq
          rw [List.getElem_take]
          exact H1.out q _ (by omega) (List.getElem?_eq_getElem (by omega))) (fun u hu => by
          obtain ⟨q, hq, rfl⟩ := List.mem_iff_getElem.1 hu
          rw [List.length_drop] at hq
          rw [List.getElem_drop]
          exact H2.out (i - a + q) _ (by omega) (List.getElem?_eq_getElem (by omega)))
        rw [List.take_append_drop] at e
        rw [HD.out, e]
        rfl
      have HF := Lib.hid hfin
      have HO1 := Lib.hid hown
      have hib : i - a ≤ B.length := by have := HA.out; have := HM.out; omega
      clear hfin hown hDl H1 H2
      go_wp2_with fail
      obtain ⟨wo, rfl⟩ : ∃ wo : World, wo = wr := ⟨_, rfl⟩
      go_loopw [17] (fun s13 wr => ∃ k q : Nat, k = a + q ∧ i - a ≤ q ∧ q ≤ B.length ∧ s13 = .int .i64 k ∧ wr.ownsRow base 37 4 (.slice (some ⟨g, 0, none⟩) n cap) n (recs (insD P (B.take q) x (B.drop q) S)) ∧ w.grownBy wr (some g)) (fun s13 _ => (intOf s13).toNat)
      case atStart => exact ⟨m, B.length, by have := HA.out; have := HM.out; omega, by omega, by omega, rfl, by simpa using HO1.out, hgr⟩
      case round =>
        obtain ⟨k, q, hk, hq, hqB, rfl, hown, hgr2⟩ := hrel
        have HK := Lib.hid hk
        by_cases hlt2 : i - a < q
        · obtain ⟨r, hr⟩ : ∃ r, r = k - 1 := ⟨_, rfl⟩
          have hqB' : q - 1 < B.length := by omega
          obtain ⟨y, hy⟩ : ∃ y, B[q - 1] = y := ⟨_, rfl⟩
          have et : B.take q = B.take (q - 1) ++ [y] := by
            have := List.take_succ_eq_append_getElem hqB'
            rw [hy, Nat.sub_add_cancel (by omega)] at this
            exact this
          have ed : y :: B.drop q = B.drop (q - 1) := by
            have := List.drop_eq_getElem_cons hqB'
            rw [hy, Nat.sub_add_cancel (by omega)] at this
            exact this.symm
          rw [et] at hown
          have hlq : (B.take (q - 1)).length = q - 1 := by rw [List.length_take]; omega
          obtain ⟨g1, g2, g3⟩ := insD_at P (B.take (q - 1)) y x (B.drop q) S (p := k) (q := r) (by rw [hlq]; have := HA.out; omega) (by rw [hlq]; have := HA.out; omega)
          have hDl : n = (insD P (B.take (q - 1) ++ [y]) x (B.drop q) S).length := by rw [insD_len, List.length_append, hlq]; have := HN.out; simp; omega
          obtain ⟨⟨c0, c1, c2, c3⟩, z0, z1, z2, z3⟩ := own_rec hown hDl g1
          obtain ⟨⟨d0, d1, d2, d3⟩, y0, y1, y2, y3⟩ := own_rec hown hDl g2
          have hkn : k < n := by have := HA.out; have := HN.out; omega
          have hsw := swap_own2 (a := x) (b := y) (i := k) (j := r) hown (by rw [← hDl]; omega) (by rw [← hDl]; omega)
          rw [g3, ed] at hsw
          have HSW := Lib.hid hsw
          have e2 : IntKind.i64.wrap ((k : Int) - 1) = (r : Int) := by rw [IntWalk.i64_in _ (by omega)]; omega
          have e3 : (k : Int) < (n : Int) := by omega
          have e4 : (r : Int) < (n : Int) := by omega
          have e5 : (0 : Int) ≤ (k : Int) := by omega
          have e6 : (0 : Int) ≤ (r : Int) := by omega
          have e7 : (i : Int) < (k : Int) := by omega
          have hkr : ¬ k = r := by omega
          have hrk : ¬ r = k := by omega
          have HR := Lib.hid hr
          clear hsw hown g1 g2 g3 hDl hlq et ed hy hr hk
          go_wp2_with fail
          go_region
          obtain ⟨h1, h2⟩ := HSW.out
          clear HSW c0 c1 c2 c3 d0 d1 d2 d3 z0 z1 z2 z3 y0 y1 y2 y3
          obtain ⟨W3, hW3⟩ : ∃ W3, W3 = (((((((((wr.setCell ⟨g, k * 4, none⟩ (.int .i64 y.t)).setCell ⟨g, k * 4 + 1, none⟩ (.int .u8 y.k)).setCell ⟨g, k * 4 + 2, none⟩ (.int .i64 y.j)).setCell ⟨g, k * 4 + 3, none⟩ (.int .i64 y.v)).setCell ⟨g, r * 4, none⟩ (.int .i64 x.t)).setCell ⟨g, r * 4 + 1, none⟩ (.int .u8 x.k)).setCell ⟨g, r * 4 + 2, none⟩ (.int .i64 x.j)).setCell ⟨g, r * 4 + 3, none⟩ (.int .i64 x.v)).drew) := ⟨_, rfl⟩
          rw [← hW3] at h1 h2 ⊢
          have H1 := Lib.hid h1
          have H2 := Lib.hid (grown_tr hgr2 h2)
          clear hW3 h1 h2 hgr2
          go_wp2_with fail
          go_roundw
          case rel => exact ⟨r, q - 1, by have := HR.out; have := HK.out; omega, by omega, by omega, rfl, H1.out, H2.out⟩
          case measure => have := HR.out; simp [intOf]; omega
        · obtain rfl : q = i - a := by omega
          have e7 : ¬ (i : Int) < (k : Int) := by omega
          have hown' := hown
          rw [← HF.out] at hown'
          have HO2 := Lib.hid hown'
          clear hown hown' hk
          go_wp2_with fail
          go_end0
          exact ⟨rfl, HO2.out, hgr2⟩
end Go.Proofs.YtdcgminjamofmaaDoor
