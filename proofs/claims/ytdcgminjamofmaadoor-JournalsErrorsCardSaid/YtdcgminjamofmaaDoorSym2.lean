/- Contract of slices.symMergeCmpFunc at records: the stable merge of two neighbouring parts. -/
import Derived.Test.YtdcgminjamofmaaDoorSym1
import Derived.Deep.DeepCutAuto
import Derived.Deep.CutBlock
namespace Go.Proofs.YtdcgminjamofmaaDoor
open Go.RowKit

def SymSaid (base g n cap cc c : Nat) : Prop :=
  ∀ (P A B S : List Rec) (a m b : Nat) (w : World), A.length + B.length ≤ c → 0 < A.length → 0 < B.length → a = P.length → m = P.length + A.length → b = P.length + A.length + B.length → n = P.length + A.length + B.length + S.length → AscT Rec.t A → AscT Rec.t B →
    w.ownsRow base 37 4 (.slice (some ⟨g, 0, none⟩) n cap) n (recs (P ++ A ++ B ++ S)) →
    Calls Tryd.prog 57 #[.slice (some ⟨g, 0, none⟩) n cc, .int .i64 a, .int .i64 m, .int .i64 b, .func (.func 38) #[] #[]] w (SortRet base g n cap (P ++ mrg Rec.t A B ++ S) w)

/-- Where the search of symMerge stands. -/
def SymAt (A B : List Rec) (a mid lo hi s r : Nat) : Prop :=
  (s = lo ∨ ∃ x y, A[s - 1 - a]? = some x ∧ B[mid - s]? = some y ∧ x.t ≤ y.t) ∧ (r = hi ∨ ∃ x y, A[r - a]? = some x ∧ B[mid - 1 - r]? = some y ∧ y.t < x.t)

set_option maxHeartbeats 4000000 in
set_option maxRecDepth 100000 in
theorem sym_rec (base g n cap cc c : Nat) (hl : n ≤ 1000000000) (IH : SymSaid base g n cap cc c) (P A B S : List Rec) (a m b : Nat) (w : World) (hc : A.length + B.length ≤ c + 1) (hA2 : 2 ≤ A.length) (hB2 : 2 ≤ B.length) (ha : a = P.length) (hm : m = P.length + A.length) (hb : b = P.length + A.length + B.length) (hn : n = P.length + A.length + B.length + S.length) (hA : AscT Rec.t A) (hB : AscT Rec.t B)
    (hown : w.ownsRow base 37 4 (.slice (some ⟨g, 0, none⟩) n cap) n (recs (P ++ A ++ B ++ S))) :
    Calls Tryd.prog 57 #[.slice (some ⟨g, 0, none⟩) n cc, .int .i64 a, .int .i64 m, .int .i64 b, .func (.func 38) #[] #[]] w (SortRet base g n cap (P ++ mrg Rec.t A B ++ S) w) := by
  obtain ⟨D', hD'⟩ : ∃ D', D' = P ++ mrg Rec.t A B ++ S := ⟨_, rfl⟩
  rw [← hD']
  have HD := Lib.hid hD'
  have HA := Lib.hid ha
  have HM := Lib.hid hm
  have HB := Lib.hid hb
  have HN := Lib.hid hn
  have HO := Lib.hid hown
  have HAA := Lib.hid hA
  have HBA := Lib.hid hB
  have hab : a + 2 ≤ m := by omega
  have hmb : m + 2 ≤ b := by omega
  have hbn : b ≤ n := by omega
  obtain ⟨mid, hmid⟩ : ∃ mid, mid = (a + b) / 2 := ⟨_, rfl⟩
  have e1b : ((m : Int) - (a : Int) == 1) = false := by simp; omega
  have e2b : ((b : Int) - (m : Int) == 1) = false := by simp; omega
  have e3b : ((a : Int) + (b : Int)) / 2 = (mid : Int) := by omega
  have HMID := Lib.hid hmid
  have hm1 : a + 2 ≤ mid := by omega
  have hm2 : mid + 2 ≤ b := by omega
  have hm3 : 2 * mid ≤ a + b := by omega
  have hm4 : a + b ≤ 2 * mid + 1 := by omega
  have HC := Lib.hid hc
  clear ha hm hb hn hown hA hB hD' hmid hc
  go_enter Tryd.func57, Tryd.ntmps57
  go_upto_if 140 with fail
  go_cut [20, 21] from 138 to 146 (fun s20 s21 wx => ∃ lo hi : Nat, s20 = .int .i64 lo ∧ s21 = .int .i64 hi ∧ a ≤ lo ∧ lo ≤ hi ∧ hi ≤ m ∧ hi ≤ mid ∧ mid + m ≤ lo + b ∧ (lo = a ∨ lo + b = mid + m) ∧ (hi = m ∨ hi = mid) ∧ w = wx)
  case first =>
    by_cases hgt : mid < m
    · have hgt' : (mid : Int) < (m : Int) := by omega
      go_wp2_with fail
      go_meet
      exact ⟨mid + m - b, mid, by go_num, rfl, by omega, by omega, by omega, by omega, by omega, by omega, by omega, rfl⟩
    · have hgt' : ¬ (mid : Int) < (m : Int) := by omega
      go_wp2_with fail
      go_meet
      exact ⟨a, m, rfl, rfl, by omega, by omega, by omega, by omega, by omega, by omega, by omega, rfl⟩
  case rest =>
    obtain ⟨lo, hi, rfl, rfl, l1, l2, l3, l4, l5, l6, l7, rfl⟩ := hcut
    have L6 := Lib.hid l6
    have L7 := Lib.hid l7
    clear l6 l7
    go_wp2_with fail
    go_loopw [20, 21, 23] (fun s20 s21 _ wr => ∃ s r : Nat, lo ≤ s ∧ s ≤ r ∧ r ≤ hi ∧ s20 = .int .i64 s ∧ s21 = .int .i64 r ∧ SymAt A B a mid lo hi s r ∧ wr.ownsRow base 37 4 (.slice (some ⟨g, 0, none⟩) n cap) n (recs (P ++ A ++ B ++ S)) ∧ w.grownBy wr (some g)) (fun s20 s21 _ _ => (intOf s21).toNat - (intOf s20).toNat)
    case atStart => exact ⟨lo, hi, by omega, by omega, by omega, rfl, rfl, ⟨.inl rfl, .inl rfl⟩, HO.out, grown_refl _ _⟩
    case round =>
      obtain ⟨s, r, r1, r2, r3, rfl, rfl, hsym, hown, hgr⟩ := hrel
      have HSYM := Lib.hid hsym
      have HO1 := Lib.hid hown
      clear hsym hown
      by_cases hlt : s < r
      · obtain ⟨h, hh⟩ : ∃ h, h = (s + r) / 2 := ⟨_, rfl⟩
        obtain ⟨p, hp⟩ : ∃ p, p = mid + m - 1 - h := ⟨_, rfl⟩
        have i1 : h - a < A.length := by have := HM.out; have := HA.out; omega
        have i2 : mid - 1 - h < B.length := by have := HM.out; have := HB.out; omega
        obtain ⟨x, hx⟩ : ∃ x, A[h - a] = x := ⟨_, rfl⟩
        obtain ⟨y, hy⟩ : ∃ y, B[mid - 1 - h] = y := ⟨_, rfl⟩
        have gx : (P ++ A ++ B ++ S)[h]? = some x := by
          rw [List.append_assoc, ← hx]
          exact get_mid i1 (by have := HA.out; omega)
        have gy : (P ++ A ++ B ++ S)[p]? = some y := by
          rw [← hy]
          exact get_mid i2 (by have := HM.out; simp; omega)
        have hDl : n = (P ++ A ++ B ++ S).length := by have := HN.out; simp; omega
        obtain ⟨⟨c0, c1, c2, c3⟩, _⟩ := own_rec HO1.out hDl gx
        obtain ⟨⟨d0, d1, d2, d3⟩, _⟩ := own_rec HO1.out hDl gy
        have HX := Lib.hid hx
        have HY := Lib.hid hy
        have HH := Lib.hid hh
        have q1 : (s : Int) < (r : Int) := by omega
        have q2 : ((s : Int) + (r : Int)) / 2 = (h : Int) := by omega
        have q3 : (h : Int) < (n : Int) := by omega
        have q4 : (p : Int) < (n : Int) := by omega
        have q7 : IntKind.i64.wrap (p : Int) = (p : Int) := IntWalk.i64_in _ (by omega)
        have q8 : (mid : Int) + (m : Int) - 1 - (h : Int) = (p : Int) := by omega
        have q5 : s ≤ h := by omega
        have q6 : h < r := by omega
        clear hx hy hh hp gx gy hDl
        go_wp2_with fail
        go_still_tail 11, (by kernel_rfl)
        change wpList _ _ _ _ _ wr.drew
        go_wp2_with fail
        refine (early_any y x _).mono ?_
        rintro e w2 ⟨rfl, hb2⟩
        have hown2 := own_keep HO1.out.drew (Nat.le_refl _) hb2
        have hg2 : w.grownBy w2 (some g) := grown_below (grown_drew hgr) hb2
        have HO2 := Lib.hid hown2
        clear c0 c1 c2 c3 d0 d1 d2 d3 hb2 hgr q2 q7 q8 hown2
        by_cases hxy : y.t < x.t
        · rw [cmpI_lt hxy]
          have HXY := Lib.hid hxy
          clear hxy
          as_aux_lemma =>
            go_wp2_with fail
            go_roundw
            case rel =>
              refine ⟨s, h, by omega, by omega, by omega, rfl, rfl, ⟨HSYM.out.1, .inr ⟨x, y, ?_, ?_, HXY.out⟩⟩, HO2.out, hg2⟩
              · rw [List.getElem?_eq_getElem i1, HX.out]
              · rw [List.getElem?_eq_getElem i2, HY.out]
            case measure => simp [intOf]; omega
        · have hc : cmpI y.t x.t = 0 ∨ cmpI y.t x.t = 1 := by unfold cmpI; rw [if_neg hxy]; split <;> simp
          have hc0 : decide (cmpI y.t x.t < 0) = false := by rcases hc with hc | hc <;> rw [hc] <;> rfl
          have HXY := Lib.hid hxy
          clear hxy hc
          as_aux_lemma =>
            go_wp2_with fail
            go_roundw
            case rel =>
              refine ⟨h + 1, r, by omega, by omega, by omega, by go_num, rfl, ⟨.inr ⟨x, y, ?_, ?_, by have := HXY.out; omega⟩, HSYM.out.2⟩, HO2.out, hg2⟩
              · rw [show h + 1 - 1 - a = h - a by omega, List.getElem?_eq_getElem i1, HX.out]
              · rw [show mid - (h + 1) = mid - 1 - h by omega, List.getElem?_eq_getElem i2, HY.out]
            case measure => simp [intOf]; omega
      · obtain rfl : s = r := by omega
        obtain ⟨en, hen⟩ : ∃ en, en = mid + m - s := ⟨_, rfl⟩
        have hpA : s - a ≤ A.length := by have := HM.out; have := HA.out; omega
        have hqB : mid - s ≤ B.length := by have := HM.out; have := HB.out; omega
        have hspl := mrg_sym (t := Rec.t) (p := s - a) (q := mid - s) HAA.out HBA.out hpA hqB (by
          rcases HSYM.out.1 with h | ⟨x, y, h1, h2, h3⟩
          · rcases L6.out with h' | h'
            · exact .inl (by omega)
            · exact .inr (.inl (by have := HM.out; have := HB.out; omega))
          · exact .inr (.inr ⟨x, y, by rw [show s - a - 1 = s - 1 - a by omega]; exact h1, h2, h3⟩)) (by
          rcases HSYM.out.2 with h | ⟨x, y, h1, h2, h3⟩
          · rcases L7.out with h' | h'
            · exact .inl (by have := HM.out; have := HA.out; omega)
            · exact .inr (.inl (by omega))
          · exact .inr (.inr ⟨x, y, h1, by rw [show mid - s - 1 = mid - 1 - s by omega]; exact h2, h3⟩))
        have hA12 : A.take (s - a) ++ A.drop (s - a) = A := List.take_append_drop _ _
        have hB12 : B.take (mid - s) ++ B.drop (mid - s) = B := List.take_append_drop _ _
        have hA1l : (A.take (s - a)).length = s - a := by rw [List.length_take]; omega
        have hB1l : (B.take (mid - s)).length = mid - s := by rw [List.length_take]; omega
        have hA2l : (A.drop (s - a)).length = m - s := by rw [List.length_drop]; have := HM.out; have := HA.out; omega
        have hB2l : (B.drop (mid - s)).length = b - en := by rw [List.length_drop]; have := HM.out; have := HB.out; omega
        have hA1a : AscT Rec.t (A.take (s - a)) := HAA.out.sublist (List.take_sublist _ _)
        have hA2a : AscT Rec.t (A.drop (s - a)) := HAA.out.sublist (List.drop_sublist _ _)
        have hB1a : AscT Rec.t (B.take (mid - s)) := HBA.out.sublist (List.take_sublist _ _)
        have hB2a : AscT Rec.t (B.drop (mid - s)) := HBA.out.sublist (List.drop_sublist _ _)
        obtain ⟨A1, hA1⟩ : ∃ A1, A1 = A.take (s - a) := ⟨_, rfl⟩
        obtain ⟨A2, hA2⟩ : ∃ A2, A2 = A.drop (s - a) := ⟨_, rfl⟩
        obtain ⟨B1, hB1⟩ : ∃ B1, B1 = B.take (mid - s) := ⟨_, rfl⟩
        obtain ⟨B2, hB2⟩ : ∃ B2, B2 = B.drop (mid - s) := ⟨_, rfl⟩
        rw [← hA1, ← hA2, ← hB1, ← hB2] at hspl
        rw [← hA1] at hA12 hA1l hA1a
        rw [← hA2] at hA12 hA2l hA2a
        rw [← hB1] at hB12 hB1l hB1a
        rw [← hB2] at hB12 hB2l hB2a
        have hown1 : wr.ownsRow base 37 4 (.slice (some ⟨g, 0, none⟩) n cap) n (recs (P ++ A1 ++ A2 ++ B1 ++ B2 ++ S)) := by
          have e : P ++ A1 ++ A2 ++ B1 ++ B2 ++ S = P ++ A ++ B ++ S := by rw [← hA12, ← hB12]; simp
          rw [e]
          exact HO1.out
        have HSPL := Lib.hid hspl
        have LA1 := Lib.hid hA1l
        have LA2 := Lib.hid hA2l
        have LB1 := Lib.hid hB1l
        have LB2 := Lib.hid hB2l
        have SA1 := Lib.hid hA1a
        have SA2 := Lib.hid hA2a
        have SB1 := Lib.hid hB1a
        have SB2 := Lib.hid hB2a
        have HOW := Lib.hid hown1
        have HEN := Lib.hid hen
        have q1 : ¬ (s : Int) < (s : Int) := by omega
        have q2 : (mid : Int) + (m : Int) - (s : Int) = (en : Int) := by omega
        have q3 : s ≤ mid := by omega
        have q4 : mid ≤ en := by omega
        have q5 : en ≤ b := by omega
        have q6 : m ≤ en := by omega
        have q7 : s ≤ m := by omega
        clear hspl hA1l hA2l hB1l hB2l hA1a hA2a hB1a hB2a hA1 hA2 hB1 hB2 hA12 hB12 hown1 HSYM L6 L7 HO1 HO hen hpA hqB
        obtain ⟨cb, hcb⟩ : ∃ cb, cb = decide (s < m ∧ m < en) := ⟨_, rfl⟩
        have Hcb := Lib.hid hcb
        clear hcb
        go_upto_region 39 with fail
        go_cut [185] from 178 to 185 (fun sb wx => sb = .bool cb ∧ wr = wx)
        case first =>
          by_cases k1 : s < m
          · by_cases k2 : m < en
            · have k1' : (s : Int) < (m : Int) := by omega
              have k2' : (m : Int) < (en : Int) := by omega
              go_wp2_with fail
              go_meet
              exact ⟨by rw [Hcb.out, decide_eq_true ⟨k1, k2⟩], rfl⟩
            · have k1' : (s : Int) < (m : Int) := by omega
              have k2' : ¬ (m : Int) < (en : Int) := by omega
              go_wp2_with fail
              go_meet
              exact ⟨by rw [Hcb.out, decide_eq_false (fun h => k2 h.2)], rfl⟩
          · have k1' : ¬ (s : Int) < (m : Int) := by omega
            go_wp2_with fail
            go_meet
            exact ⟨by rw [Hcb.out, decide_eq_false (fun h => k1 h.1)], rfl⟩
        case rest =>
          obtain ⟨rfl, rfl⟩ := hcut
          go_upto_if 185 with fail
          go_cut [191] from 186 to 191 (fun _ wx => wx.ownsRow base 37 4 (.slice (some ⟨g, 0, none⟩) n cap) n (recs (P ++ A1 ++ B1 ++ A2 ++ B2 ++ S)) ∧ w.grownBy wx (some g))
          case first =>
            cases cb
            · go_wp2_with fail
              go_meet
              refine ⟨?_, hgr⟩
              have hk := of_decide_eq_false Hcb.out.symm
              have e : P ++ A1 ++ B1 ++ A2 ++ B2 ++ S = P ++ A1 ++ A2 ++ B1 ++ B2 ++ S := by
                by_cases k1 : s < m
                · have : B1 = [] := List.length_eq_zero_iff.1 (by rw [LB1.out]; have := HEN.out; omega)
                  subst this
                  simp
                · have : A2 = [] := List.length_eq_zero_iff.1 (by rw [LA2.out]; omega)
                  subst this
                  simp
              rw [e]
              exact HOW.out
            · have hk := of_decide_eq_true Hcb.out.symm
              have hrot := rotate_any base g n cap cc (P ++ A1) A2 B1 (B2 ++ S) s m en (.func (.func 38) #[] #[]) wr (by have := HA.out; have := LA1.out; simp; omega) (by have := HA.out; have := LA1.out; have := LA2.out; simp; omega) (by have := HA.out; have := LA1.out; have := LA2.out; have := LB1.out; have := HEN.out; simp; omega) (by have := HA.out; have := HN.out; have := HM.out; have := HB.out; have := LA1.out; have := LA2.out; have := LB1.out; have := LB2.out; have := HEN.out; simp; omega) (by rw [LA2.out]; omega) (by rw [LB1.out]; have := HEN.out; omega) hl (by rw [← List.append_assoc]; exact HOW.out)
              have e : P ++ A1 ++ B1 ++ A2 ++ (B2 ++ S) = P ++ A1 ++ B1 ++ A2 ++ B2 ++ S := by simp
              rw [e] at hrot
              have HROT := Lib.hid hrot
              clear hrot e hk
              go_wp2_with fail
              refine HROT.out.mono ?_
              rintro e w2 ⟨rfl, hown2, hg2⟩
              have HO2 := Lib.hid hown2
              clear hown2
              go_wp2_with fail
              go_meet
              exact ⟨HO2.out, grown_tr hgr hg2⟩
          case rest =>
            obtain ⟨hownwd, hgrwd⟩ := hcut
            obtain ⟨wd, rfl⟩ : ∃ wd : World, wd = wc := ⟨_, rfl⟩
            have HOwd := Lib.hid hownwd
            clear hownwd
            obtain ⟨cd, hcd⟩ : ∃ cd, cd = decide (a < s ∧ s < mid) := ⟨_, rfl⟩
            have Hcd := Lib.hid hcd
            clear hcd
            go_upto_region 41 with fail
            go_cut [199] from 192 to 199 (fun sb wx => sb = .bool cd ∧ wd = wx)
            case first =>
              by_cases k1 : a < s
              · by_cases k2 : s < mid
                · have k1' : (a : Int) < (s : Int) := by omega
                  have k2' : (s : Int) < (mid : Int) := by omega
                  go_wp2_with fail
                  go_meet
                  exact ⟨by rw [Hcd.out, decide_eq_true ⟨k1, k2⟩], rfl⟩
                · have k1' : (a : Int) < (s : Int) := by omega
                  have k2' : ¬ (s : Int) < (mid : Int) := by omega
                  go_wp2_with fail
                  go_meet
                  exact ⟨by rw [Hcd.out, decide_eq_false (fun h => k2 h.2)], rfl⟩
              · have k1' : ¬ (a : Int) < (s : Int) := by omega
                go_wp2_with fail
                go_meet
                exact ⟨by rw [Hcd.out, decide_eq_false (fun h => k1 h.1)], rfl⟩
            case rest =>
              obtain ⟨rfl, rfl⟩ := hcut
              go_upto_if 199 with fail
              go_cut [205] from 200 to 205 (fun _ wx => wx.ownsRow base 37 4 (.slice (some ⟨g, 0, none⟩) n cap) n (recs (P ++ mrg Rec.t A1 B1 ++ A2 ++ B2 ++ S)) ∧ w.grownBy wx (some g))
              case first =>
                cases cd
                · go_wp2_with fail
                  go_meet
                  refine ⟨?_, hgrwd⟩
                  have hk := of_decide_eq_false Hcd.out.symm
                  have e : P ++ mrg Rec.t A1 B1 ++ A2 ++ B2 ++ S = P ++ A1 ++ B1 ++ A2 ++ B2 ++ S := by
                    by_cases k1 : a < s
                    · have : B1 = [] := List.length_eq_zero_iff.1 (by rw [LB1.out]; omega)
                      subst this
                      simp [mrg_nil]
                    · have : A1 = [] := List.length_eq_zero_iff.1 (by rw [LA1.out]; omega)
                      subst this
                      simp [nil_mrg]
                  rw [e]
                  exact HOwd.out
                · have hk := of_decide_eq_true Hcd.out.symm
                  have hrot := IH P A1 B1 (A2 ++ B2 ++ S) a s mid wd (by have := HA.out; have := HN.out; have := HM.out; have := HB.out; have := HC.out; have := LA1.out; have := LA2.out; have := LB1.out; have := LB2.out; have := HEN.out; omega) (by have := HA.out; have := HN.out; have := HM.out; have := HB.out; have := HC.out; have := LA1.out; have := LA2.out; have := LB1.out; have := LB2.out; have := HEN.out; omega) (by have := HA.out; have := HN.out; have := HM.out; have := HB.out; have := HC.out; have := LA1.out; have := LA2.out; have := LB1.out; have := LB2.out; have := HEN.out; omega) HA.out (by have := HA.out; have := HN.out; have := HM.out; have := HB.out; have := HC.out; have := LA1.out; have := LA2.out; have := LB1.out; have := LB2.out; have := HEN.out; omega) (by have := HA.out; have := HN.out; have := HM.out; have := HB.out; have := HC.out; have := LA1.out; have := LA2.out; have := LB1.out; have := LB2.out; have := HEN.out; omega) (by have := HA.out; have := HN.out; have := HM.out; have := HB.out; have := HC.out; have := LA1.out; have := LA2.out; have := LB1.out; have := LB2.out; have := HEN.out; simp; omega) SA1.out SB1.out (by simpa using HOwd.out)
                  have e : P ++ mrg Rec.t A1 B1 ++ (A2 ++ B2 ++ S) = P ++ mrg Rec.t A1 B1 ++ A2 ++ B2 ++ S := by simp
                  rw [e] at hrot
                  clear e
                  have HROT := Lib.hid hrot
                  clear hrot hk
                  go_wp2_with fail
                  refine HROT.out.mono ?_
                  rintro e w2 ⟨rfl, hown2, hg2⟩
                  have HO2 := Lib.hid hown2
                  clear hown2
                  go_wp2_with fail
                  go_meet
                  exact ⟨HO2.out, grown_tr hgrwd hg2⟩
              case rest =>
                obtain ⟨hownwe, hgrwe⟩ := hcut
                obtain ⟨we, rfl⟩ : ∃ we : World, we = wc := ⟨_, rfl⟩
                have HOwe := Lib.hid hownwe
                clear hownwe
                obtain ⟨ce, hce⟩ : ∃ ce, ce = decide (mid < en ∧ en < b) := ⟨_, rfl⟩
                have Hce := Lib.hid hce
                clear hce
                go_upto_region 43 with fail
                go_cut [213] from 206 to 213 (fun sb wx => sb = .bool ce ∧ we = wx)
                case first =>
                  by_cases k1 : mid < en
                  · by_cases k2 : en < b
                    · have k1' : (mid : Int) < (en : Int) := by omega
                      have k2' : (en : Int) < (b : Int) := by omega
                      go_wp2_with fail
                      go_meet
                      exact ⟨by rw [Hce.out, decide_eq_true ⟨k1, k2⟩], rfl⟩
                    · have k1' : (mid : Int) < (en : Int) := by omega
                      have k2' : ¬ (en : Int) < (b : Int) := by omega
                      go_wp2_with fail
                      go_meet
                      exact ⟨by rw [Hce.out, decide_eq_false (fun h => k2 h.2)], rfl⟩
                  · have k1' : ¬ (mid : Int) < (en : Int) := by omega
                    go_wp2_with fail
                    go_meet
                    exact ⟨by rw [Hce.out, decide_eq_false (fun h => k1 h.1)], rfl⟩
                case rest =>
                  obtain ⟨rfl, rfl⟩ := hcut
                  go_upto_if 213 with fail
                  cases ce
                  · have hk := of_decide_eq_false Hce.out.symm
                    have e : D' = P ++ mrg Rec.t A1 B1 ++ A2 ++ B2 ++ S := by
                      rw [HD.out, HSPL.out]
                      by_cases k1 : mid < en
                      · have : B2 = [] := List.length_eq_zero_iff.1 (by rw [LB2.out]; omega)
                        subst this
                        simp [mrg_nil]
                      · have : A2 = [] := List.length_eq_zero_iff.1 (by rw [LA2.out]; have := HEN.out; omega)
                        subst this
                        simp [nil_mrg]
                    have hownF := HOwe.out
                    rw [← e] at hownF
                    have HOF := Lib.hid hownF
                    clear hownF e hk
                    go_wp2_with fail
                    go_end0
                    exact ⟨rfl, HOF.out, hgrwe⟩
                  · have hk := of_decide_eq_true Hce.out.symm
                    have hML : (mrg Rec.t A1 B1).length = mid - a := by rw [mrg_len]; have := HA.out; have := HN.out; have := HM.out; have := HB.out; have := HC.out; have := LA1.out; have := LA2.out; have := LB1.out; have := LB2.out; have := HEN.out; omega
                    have hrot := IH (P ++ mrg Rec.t A1 B1) A2 B2 S mid en b we (by have := HA.out; have := HN.out; have := HM.out; have := HB.out; have := HC.out; have := LA1.out; have := LA2.out; have := LB1.out; have := LB2.out; have := HEN.out; omega) (by have := HA.out; have := HN.out; have := HM.out; have := HB.out; have := HC.out; have := LA1.out; have := LA2.out; have := LB1.out; have := LB2.out; have := HEN.out; omega) (by have := HA.out; have := HN.out; have := HM.out; have := HB.out; have := HC.out; have := LA1.out; have := LA2.out; have := LB1.out; have := LB2.out; have := HEN.out; omega) (by have := HA.out; have := HN.out; have := HM.out; have := HB.out; have := HC.out; have := LA1.out; have := LA2.out; have := LB1.out; have := LB2.out; have := HEN.out; rw [List.length_append]; omega) (by have := HA.out; have := HN.out; have := HM.out; have := HB.out; have := HC.out; have := LA1.out; have := LA2.out; have := LB1.out; have := LB2.out; have := HEN.out; rw [List.length_append]; omega) (by have := HA.out; have := HN.out; have := HM.out; have := HB.out; have := HC.out; have := LA1.out; have := LA2.out; have := LB1.out; have := LB2.out; have := HEN.out; rw [List.length_append]; omega) (by have := HA.out; have := HN.out; have := HM.out; have := HB.out; have := HC.out; have := LA1.out; have := LA2.out; have := LB1.out; have := LB2.out; have := HEN.out; rw [List.length_append]; omega) SA2.out SB2.out HOwe.out
                    have e : P ++ mrg Rec.t A1 B1 ++ mrg Rec.t A2 B2 ++ S = D' := by
                      rw [HD.out, HSPL.out]
                      simp
                    rw [e] at hrot
                    have HROT := Lib.hid hrot
                    clear hrot hk e hML
                    go_wp2_with fail
                    refine HROT.out.mono ?_
                    rintro e w2 ⟨rfl, hown2, hg2⟩
                    have HO2 := Lib.hid hown2
                    clear hown2
                    go_wp2_with fail
                    go_end0
                    exact ⟨rfl, HO2.out, grown_tr hgrwe hg2⟩

theorem sym_any (base g n cap cc : Nat) (hl : n ≤ 1000000000) (c : Nat) : SymSaid base g n cap cc c := by
  induction c with
  | zero =>
    intro P A B S a m b w hc hA
    omega
  | succ c ih =>
    intro P A B S a m b w hc hA0 hB0 ha hm hb hn hA hB hown
    match A, hA0 with
    | [x], _ =>
      exact sym_front base g n cap cc P B S x a m b w ha (by simpa using hm) (by simpa using hb) (by simpa using hn) hl hB (by
        have e : insD P [] x B S = P ++ [x] ++ B ++ S := by simp [insD]
        rw [e]
        exact hown)
    | x1 :: x2 :: A', _ =>
      match B, hB0 with
      | [y], _ =>
        exact sym_back base g n cap cc P (x1 :: x2 :: A') S y a m b w ha hm (by simpa using hb) (by simpa using hn) (by simp) hl hA (by
          have e : insD P (x1 :: x2 :: A') y [] S = P ++ (x1 :: x2 :: A') ++ [y] ++ S := by simp [insD]
          rw [e]
          exact hown)
      | y1 :: y2 :: B', _ => exact sym_rec base g n cap cc c hl ih P (x1 :: x2 :: A') (y1 :: y2 :: B') S a m b w hc (by simp) (by simp) ha hm hb hn hA hB hown
end Go.Proofs.YtdcgminjamofmaaDoor
