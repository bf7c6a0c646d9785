/- Contracts of slices.swapRangeCmpFunc and rotateCmpFunc at records. -/
import Derived.Test.YtdcgminjamofmaaDoorMg1
import Derived.BigRegion
namespace Go.Proofs.YtdcgminjamofmaaDoor
open Go.RowKit

/-- Two records of a row, exchanged. -/
theorem swap_own2 {w : World} {base g cap i j n : Nat} {L : List Rec} {a b : Rec} (hown : w.ownsRow base 37 4 (.slice (some ⟨g, 0, none⟩) n cap) n (recs L)) (hi : i < L.length) (hj : j < L.length) :
    (((((((((w.setCell ⟨g, i * 4, none⟩ (.int .i64 b.t)).setCell ⟨g, i * 4 + 1, none⟩ (.int .u8 b.k)).setCell ⟨g, i * 4 + 2, none⟩ (.int .i64 b.j)).setCell ⟨g, i * 4 + 3, none⟩ (.int .i64 b.v)).setCell ⟨g, j * 4, none⟩ (.int .i64 a.t)).setCell ⟨g, j * 4 + 1, none⟩ (.int .u8 a.k)).setCell ⟨g, j * 4 + 2, none⟩ (.int .i64 a.j)).setCell ⟨g, j * 4 + 3, none⟩ (.int .i64 a.v)).drew).ownsRow base 37 4 (.slice (some ⟨g, 0, none⟩) n cap) n (recs ((L.set i b).set j a)) ∧
    w.grownBy (((((((((w.setCell ⟨g, i * 4, none⟩ (.int .i64 b.t)).setCell ⟨g, i * 4 + 1, none⟩ (.int .u8 b.k)).setCell ⟨g, i * 4 + 2, none⟩ (.int .i64 b.j)).setCell ⟨g, i * 4 + 3, none⟩ (.int .i64 b.v)).setCell ⟨g, j * 4, none⟩ (.int .i64 a.t)).setCell ⟨g, j * 4 + 1, none⟩ (.int .u8 a.k)).setCell ⟨g, j * 4 + 2, none⟩ (.int .i64 a.j)).setCell ⟨g, j * 4 + 3, none⟩ (.int .i64 a.v)).drew) (some g) := by
  have h1 := stored_tr hown (grown_refl w (some g)) (i * 4) (.int .i64 b.t)
  have h2 := stored_tr h1.1 h1.2 (i * 4 + 1) (.int .u8 b.k)
  have h3 := stored_tr h2.1 h2.2 (i * 4 + 2) (.int .i64 b.j)
  have h4 := stored_tr h3.1 h3.2 (i * 4 + 3) (.int .i64 b.v)
  have h5 := stored_tr h4.1 h4.2 (j * 4) (.int .i64 a.t)
  have h6 := stored_tr h5.1 h5.2 (j * 4 + 1) (.int .u8 a.k)
  have h7 := stored_tr h6.1 h6.2 (j * 4 + 2) (.int .i64 a.j)
  have h8 := stored_tr h7.1 h7.2 (j * 4 + 3) (.int .i64 a.v)
  clear h1 h2 h3 h4 h5 h6 h7
  rw [rec_set4 L i hi b, rec_set4 (L.set i b) j (by simpa using hj) a] at h8
  exact ⟨h8.1.drew, grown_drew h8.2⟩

theorem swap_mid {α : Type} (U V Z : List α) (x y : α) {i j : Nat} (hi : i = U.length) (hj : j = U.length + 1 + V.length) :
    (U ++ x :: (V ++ y :: Z))[i]? = some x ∧ (U ++ x :: (V ++ y :: Z))[j]? = some y ∧ ((U ++ x :: (V ++ y :: Z)).set i y).set j x = U ++ y :: (V ++ x :: Z) := by
  subst hi hj
  refine ⟨?_, ?_, ?_⟩
  · rw [List.getElem?_append_right (Nat.le_refl _), Nat.sub_self]; rfl
  · rw [List.getElem?_append_right (by omega), show U.length + 1 + V.length - U.length = V.length + 1 by omega, List.getElem?_cons_succ, List.getElem?_append_right (Nat.le_refl _), Nat.sub_self]; rfl
  · rw [List.set_append_right _ _ (Nat.le_refl _), Nat.sub_self, List.set_cons_zero, List.set_append_right _ _ (by omega), show U.length + 1 + V.length - U.length = V.length + 1 by omega, List.set_cons_succ, List.set_append_right _ _ (Nat.le_refl _), Nat.sub_self, List.set_cons_zero]

/-- The function returns nothing; the row at g holds D; nothing else that was there has changed. -/
def SortRet (base g n cap : Nat) (D : List Rec) (w : World) (e : Ending) (w' : World) : Prop :=
  e = .returned (.tuple #[]) ∧ w'.ownsRow base 37 4 (.slice (some ⟨g, 0, none⟩) n cap) n (recs D) ∧ w.grownBy w' (some g)

/-- The cells of a record of an owned row. -/
theorem own_rec {w : World} {base g n cap : Nat} {L : List Rec} (hown : w.ownsRow base 37 4 (.slice (some ⟨g, 0, none⟩) n cap) n (recs L)) (hn : n = L.length) {i : Nat} {r : Rec} (hi : L[i]? = some r) :
    (w.cell? ⟨g, i * 4, none⟩ = some (.int .i64 r.t) ∧ w.cell? ⟨g, i * 4 + 1, none⟩ = some (.int .u8 r.k) ∧ w.cell? ⟨g, i * 4 + 2, none⟩ = some (.int .i64 r.j) ∧ w.cell? ⟨g, i * 4 + 3, none⟩ = some (.int .i64 r.v)) ∧
    (w.frozen? ⟨g, i * 4, none⟩ = false ∧ w.frozen? ⟨g, i * 4 + 1, none⟩ = false ∧ w.frozen? ⟨g, i * 4 + 2, none⟩ = false ∧ w.frozen? ⟨g, i * 4 + 3, none⟩ = false) := by
  subst hn
  obtain ⟨hil, rfl⟩ := List.getElem?_eq_some_iff.1 hi
  obtain ⟨b, o, e, _, c0, c1, c2, c3⟩ := rd_rec (Rd.of_own hown) i hil
  obtain ⟨rfl, rfl⟩ : g = b ∧ 0 = o := by simpa using e
  simp only [Nat.zero_add] at c0 c1 c2 c3
  exact ⟨⟨c0, c1, c2, c3⟩, own_free hown _, own_free hown _, own_free hown _, own_free hown _⟩

def swapD (P X M Y S : List Rec) (i : Nat) : List Rec := P ++ (Y.take i ++ X.drop i) ++ M ++ (X.take i ++ Y.drop i) ++ S
theorem swapD_len (P X M Y S : List Rec) (i : Nat) (h : X.length = Y.length) : (swapD P X M Y S i).length = P.length + X.length + M.length + Y.length + S.length := by
  unfold swapD
  simp
  omega
theorem swapD_zero (P X M Y S : List Rec) : swapD P X M Y S 0 = P ++ X ++ M ++ Y ++ S := by simp [swapD]
theorem swapD_end (P X M Y S : List Rec) (h : X.length = Y.length) : swapD P X M Y S X.length = P ++ Y ++ M ++ X ++ S := by
  unfold swapD
  rw [List.take_of_length_le (by omega), List.drop_of_length_le (Nat.le_refl _), List.take_of_length_le (Nat.le_refl _), List.drop_of_length_le (by omega)]
  simp
theorem swapD_step (P X M Y S : List Rec) (i : Nat) (h : X.length = Y.length) (hi : i < X.length) {p q : Nat} (hp : p = P.length + i) (hq : q = P.length + X.length + M.length + i) :
    ∃ x y, (swapD P X M Y S i)[p]? = some x ∧ (swapD P X M Y S i)[q]? = some y ∧ ((swapD P X M Y S i).set p y).set q x = swapD P X M Y S (i + 1) := by
  have e1 : swapD P X M Y S i = (P ++ Y.take i) ++ X[i] :: ((X.drop (i + 1) ++ M ++ X.take i) ++ Y[i] :: (Y.drop (i + 1) ++ S)) := by
    unfold swapD
    rw [List.drop_eq_getElem_cons hi, List.drop_eq_getElem_cons (show i < Y.length by omega)]
    simp only [List.append_assoc, List.cons_append]
  have e2 : swapD P X M Y S (i + 1) = (P ++ Y.take i) ++ Y[i] :: ((X.drop (i + 1) ++ M ++ X.take i) ++ X[i] :: (Y.drop (i + 1) ++ S)) := by
    unfold swapD
    rw [List.take_succ_eq_append_getElem hi, List.take_succ_eq_append_getElem (show i < Y.length by omega)]
    simp only [List.append_assoc, List.cons_append, List.nil_append]
  refine ⟨X[i], Y[i], ?_⟩
  rw [e1, e2]
  refine swap_mid _ _ _ _ _ ?_ ?_
  · simp; omega
  · simp; omega

set_option maxHeartbeats 2000000 in
set_option maxRecDepth 100000 in
theorem swapRange_any (base g n cap cc : Nat) (P X M Y S : List Rec) (a b k : Nat) (f : Value) (w : World) (hxy : X.length = Y.length) (ha : a = P.length) (hb : b = P.length + X.length + M.length) (hk : k = X.length) (hn : n = P.length + X.length + M.length + Y.length + S.length) (hl : n ≤ 1000000000)
    (hown : w.ownsRow base 37 4 (.slice (some ⟨g, 0, none⟩) n cap) n (recs (P ++ X ++ M ++ Y ++ S))) :
    Calls Tryd.prog 61 #[.slice (some ⟨g, 0, none⟩) n cc, .int .i64 a, .int .i64 b, .int .i64 k, f] w (SortRet base g n cap (P ++ Y ++ M ++ X ++ S) w) := by
  have HXY := Lib.hid hxy
  have HA := Lib.hid ha
  have HB := Lib.hid hb
  have HK := Lib.hid hk
  have HN := Lib.hid hn
  have HO := Lib.hid hown
  have hak : a + k ≤ n := by omega
  have hbk : b + k ≤ n := by omega
  clear hxy ha hb hk hn hown
  go_enter Tryd.func61, Tryd.ntmps61
  go_wp2_with fail
  go_loopw [10] (fun s wr => ∃ i : Nat, i ≤ k ∧ s = .int .i64 i ∧ wr.ownsRow base 37 4 (.slice (some ⟨g, 0, none⟩) n cap) n (recs (swapD P X M Y S i)) ∧ w.grownBy wr (some g)) (fun s _ => k - (intOf s).toNat)
  case atStart => exact ⟨0, by omega, rfl, by rw [swapD_zero]; exact HO.out, grown_refl _ _⟩
  case round =>
    obtain ⟨i, hik, rfl, hown, hgr⟩ := hrel
    by_cases hlt : i < k
    · obtain ⟨p, hp⟩ : ∃ p, p = a + i := ⟨_, rfl⟩
      obtain ⟨q, hq⟩ : ∃ q, q = b + i := ⟨_, rfl⟩
      obtain ⟨x, y, hx, hy, hst⟩ := swapD_step P X M Y S i HXY.out (by have := HK.out; omega) (p := p) (q := q) (by have := HA.out; omega) (by have := HB.out; omega)
      have hlenD := swapD_len P X M Y S i HXY.out
      have hnD : n = (swapD P X M Y S i).length := by rw [hlenD]; exact HN.out
      obtain ⟨⟨c0, c1, c2, c3⟩, z0, z1, z2, z3⟩ := own_rec hown hnD hx
      obtain ⟨⟨d0, d1, d2, d3⟩, y0, y1, y2, y3⟩ := own_rec hown hnD hy
      have hpl : p < n := by omega
      have hql : q < n := by omega
      have hsw := swap_own2 (a := x) (b := y) (i := p) (j := q) hown (by rw [← hnD]; exact hpl) (by rw [← hnD]; exact hql)
      rw [hst] at hsw
      have HSW := Lib.hid hsw
      have e1 : IntKind.i64.wrap ((a : Int) + (i : Int)) = (p : Int) := by rw [IntWalk.i64_in _ (by omega)]; omega
      have e2 : IntKind.i64.wrap ((b : Int) + (i : Int)) = (q : Int) := by rw [IntWalk.i64_in _ (by omega)]; omega
      have e3 : (p : Int) < (n : Int) := by omega
      have e4 : (q : Int) < (n : Int) := by omega
      have e5 : (0 : Int) ≤ (p : Int) := by omega
      have e6 : (0 : Int) ≤ (q : Int) := by omega
      have hil : (i : Int) < (k : Int) := by omega
      have hpq : ¬ p = q := by have := HA.out; have := HB.out; have := HK.out; omega
      have hqp : ¬ q = p := fun h => hpq h.symm
      clear hp hq hx hy hst hlenD hnD hsw hown
      go_wp2_with fail
      go_region
      obtain ⟨h1, h2⟩ := HSW.out
      clear HSW c0 c1 c2 c3 d0 d1 d2 d3 z0 z1 z2 z3 y0 y1 y2 y3 e1 e2 e3 e4 e5 e6
      obtain ⟨W3, hW3⟩ : ∃ W3, W3 = (((((((((wr.setCell ⟨g, p * 4, none⟩ (.int .i64 y.t)).setCell ⟨g, p * 4 + 1, none⟩ (.int .u8 y.k)).setCell ⟨g, p * 4 + 2, none⟩ (.int .i64 y.j)).setCell ⟨g, p * 4 + 3, none⟩ (.int .i64 y.v)).setCell ⟨g, q * 4, none⟩ (.int .i64 x.t)).setCell ⟨g, q * 4 + 1, none⟩ (.int .u8 x.k)).setCell ⟨g, q * 4 + 2, none⟩ (.int .i64 x.j)).setCell ⟨g, q * 4 + 3, none⟩ (.int .i64 x.v)).drew) := ⟨_, rfl⟩
      rw [← hW3] at h1 h2 ⊢
      have H1 := Lib.hid h1
      have H2 := Lib.hid (grown_tr hgr h2)
      clear hW3 h1 h2 hgr
      go_wp2_with fail
      go_roundw
      case rel => exact ⟨i + 1, by omega, by go_num, H1.out, H2.out⟩
      case measure => simp [intOf]; omega
    · obtain rfl : i = k := by omega
      have hown' := hown
      rw [HK.out, swapD_end _ _ _ _ _ HXY.out] at hown'
      have HO' := Lib.hid hown'
      clear hown hown'
      go_wp2_with fail
      go_end0
      exact ⟨rfl, HO'.out, hgr⟩

/-- Where the rotation stands: rows X and Y of lengths i and j are still to be exchanged, between P and S. -/
def RotAt (base g n cap m : Nat) (D : List Rec) (w0 : World) (i j : Nat) (w : World) : Prop :=
  ∃ P X Y S : List Rec, P.length + i = m ∧ X.length = i ∧ Y.length = j ∧ 0 < i ∧ 0 < j ∧ P ++ Y ++ X ++ S = D ∧ n = P.length + X.length + Y.length + S.length ∧ w.ownsRow base 37 4 (.slice (some ⟨g, 0, none⟩) n cap) n (recs (P ++ X ++ Y ++ S)) ∧ w0.grownBy w (some g)

set_option maxHeartbeats 2000000 in
set_option maxRecDepth 100000 in
theorem rotate_any (base g n cap cc : Nat) (P X Y S : List Rec) (a m b : Nat) (f : Value) (w : World) (ha : a = P.length) (hm : m = P.length + X.length) (hb : b = P.length + X.length + Y.length) (hn : n = P.length + X.length + Y.length + S.length) (hX : 0 < X.length) (hY : 0 < Y.length) (hl : n ≤ 1000000000)
    (hown : w.ownsRow base 37 4 (.slice (some ⟨g, 0, none⟩) n cap) n (recs (P ++ X ++ Y ++ S))) :
    Calls Tryd.prog 59 #[.slice (some ⟨g, 0, none⟩) n cc, .int .i64 a, .int .i64 m, .int .i64 b, f] w (SortRet base g n cap (P ++ Y ++ X ++ S) w) := by
  have hstart : RotAt base g n cap m (P ++ Y ++ X ++ S) w (m - a) (b - m) w := ⟨P, X, Y, S, by omega, by omega, by omega, by omega, by omega, rfl, hn, hown, grown_refl _ _⟩
  obtain ⟨D, hD⟩ : ∃ D, D = P ++ Y ++ X ++ S := ⟨_, rfl⟩
  rw [← hD] at hstart ⊢
  have HS := Lib.hid hstart
  have h1 : a ≤ m := by omega
  have h2 : m ≤ b := by omega
  have h3 : b ≤ n := by omega
  clear hown hstart hD ha hm hb hn hX hY P X Y S
  go_enter Tryd.func59, Tryd.ntmps59
  go_wp2_with fail
  go_loopw [10, 11] (fun s t wr => ∃ i j : Nat, s = .int .i64 i ∧ t = .int .i64 j ∧ RotAt base g n cap m D w i j wr) (fun s t _ => (intOf s).toNat + (intOf t).toNat)
  case atStart => exact ⟨m - a, b - m, by go_num, by go_num, HS.out⟩
  case round =>
    obtain ⟨i, j, rfl, rfl, P, X, Y, S, hPi, hXi, hYj, hi, hj, hDD, hnn, hown, hgr⟩ := hrel
    have HO := Lib.hid hown
    have HDD := Lib.hid hDD
    have HN := Lib.hid hnn
    have HXi := Lib.hid hXi
    have HYj := Lib.hid hYj
    have HPi := Lib.hid hPi
    have q1 : i ≤ m := by omega
    have q2 : m + j ≤ n := by omega
    clear hown hDD hnn hXi hYj hPi HS
    by_cases hij : i = j
    · obtain rfl := hij
      have hs := swapRange_any base g n cap cc P X [] Y S (m - i) m i f wr (by rw [HXi.out, HYj.out]) (by have := HPi.out; omega) (by have := HPi.out; have := HXi.out; simp; omega) HXi.out.symm (by have := HN.out; simp; omega) hl (by simpa using HO.out)
      rw [show ((m - i : Nat) : Int) = (m : Int) - (i : Int) by omega] at hs
      simp only [List.append_nil] at hs
      rw [HDD.out] at hs
      have HSW := Lib.hid hs
      have e0 : ((i : Int) != (i : Int)) = false := by simp
      clear hs
      go_wp2_with fail
      refine HSW.out.mono ?_
      rintro e w2 ⟨rfl, hown2, hg2⟩
      have H2 := Lib.hid hown2
      clear hown2
      go_wp2_with fail
      go_end0
      exact ⟨rfl, H2.out, grown_tr hgr hg2⟩
    · have e0 : ((i : Int) != (j : Int)) = true := by simp; omega
      by_cases hgt : j < i
      · have hX : X.take j ++ X.drop j = X := List.take_append_drop _ _
        have hl1 : (X.take j).length = j := by rw [List.length_take, HXi.out]; omega
        have hl2 : (X.drop j).length = i - j := by rw [List.length_drop, HXi.out]
        have hs := swapRange_any base g n cap cc P (X.take j) (X.drop j) Y S (m - i) m j f wr (by rw [hl1, HYj.out]) (by have := HPi.out; omega) (by have := HPi.out; omega) hl1.symm (by have := HN.out; have := HXi.out; omega) hl (by rw [List.append_assoc P, hX]; exact HO.out)
        rw [show ((m - i : Nat) : Int) = (m : Int) - (i : Int) by omega] at hs
        have HSW := Lib.hid hs
        have HX := Lib.hid hX
        have HL1 := Lib.hid hl1
        have HL2 := Lib.hid hl2
        have hgt' : (j : Int) < (i : Int) := by omega
        clear hs hX hl1 hl2
        go_wp2_with fail
        refine HSW.out.mono ?_
        rintro e w2 ⟨rfl, hown2, hg2⟩
        have H2 := Lib.hid hown2
        have HG2 := Lib.hid (grown_tr hgr hg2)
        clear hown2 hgr hg2
        go_wp2_with fail
        go_roundw
        case rel =>
          refine ⟨i - j, j, by go_num, rfl, P ++ Y, X.drop j, X.take j, S, ?_, HL2.out, HL1.out, by omega, hj, ?_, ?_, H2.out, HG2.out⟩
          · have := HPi.out; have := HYj.out; simp; omega
          · rw [List.append_assoc (P ++ Y), HX.out]; exact HDD.out
          · have := HN.out; have := HXi.out; have := HL1.out; have := HL2.out; simp only [List.length_append]; omega
        case measure => simp [intOf]; omega
      · have hY : Y.take (j - i) ++ Y.drop (j - i) = Y := List.take_append_drop _ _
        have hl1 : (Y.take (j - i)).length = j - i := by rw [List.length_take, HYj.out]; omega
        have hl2 : (Y.drop (j - i)).length = i := by rw [List.length_drop, HYj.out]; omega
        have hs := swapRange_any base g n cap cc P X (Y.take (j - i)) (Y.drop (j - i)) S (m - i) (m + j - i) i f wr (by rw [hl2, HXi.out]) (by have := HPi.out; omega) (by have := HPi.out; have := HXi.out; omega) HXi.out.symm (by have := HN.out; have := HYj.out; omega) hl (by rw [List.append_assoc (P ++ X), hY]; exact HO.out)
        rw [show ((m - i : Nat) : Int) = (m : Int) - (i : Int) by omega, show ((m + j - i : Nat) : Int) = (m : Int) + (j : Int) - (i : Int) by omega] at hs
        have HSW := Lib.hid hs
        have HY := Lib.hid hY
        have HL1 := Lib.hid hl1
        have HL2 := Lib.hid hl2
        have hgt' : ¬ (j : Int) < (i : Int) := by omega
        clear hs hY hl1 hl2
        go_wp2_with fail
        refine HSW.out.mono ?_
        rintro e w2 ⟨rfl, hown2, hg2⟩
        have H2 := Lib.hid hown2
        have HG2 := Lib.hid (grown_tr hgr hg2)
        clear hown2 hgr hg2
        go_wp2_with fail
        go_roundw
        case rel =>
          refine ⟨i, j - i, rfl, by go_num, P, Y.drop (j - i), Y.take (j - i), X ++ S, HPi.out, HL2.out, HL1.out, hi, by omega, ?_, ?_, ?_, HG2.out⟩
          · rw [← List.append_assoc, List.append_assoc P, HY.out]; exact HDD.out
          · have := HN.out; have := HYj.out; have := HL1.out; have := HL2.out; simp only [List.length_append]; omega
          · rw [← List.append_assoc]; exact H2.out
        case measure => simp [intOf]; omega
end Go.Proofs.YtdcgminjamofmaaDoor
