/- Contract of slices.insertionSortCmpFunc at records. -/
import Derived.Test.YtdcgminjamofmaaDoorSwp
import Derived.Test.YtdcgminjamofmaaDoorStb
import Derived.Deep.QuietTactic
import Derived.BigQuiet
import Derived.StillTailTactics
namespace Go.Proofs.YtdcgminjamofmaaDoor
open Go.RowKit

/-- What is owned stays owned behind a call that leaves old memory alone; what has grown, too. -/
theorem grown_below {a b c : World} {g : Nat} (h : a.grownBy b (some g)) (k : Below b.heap.size b c) : a.grownBy c (some g) :=
  ⟨k.os.trans h.os, k.tape.trans h.tape, k.output.trans h.output, Nat.le_trans h.size k.size, fun i hi hne => (k.block i (Nat.lt_of_lt_of_le hi h.size)).trans (h.block i hi hne)⟩

def insD (P S1 : List Rec) (x : Rec) (S2 R : List Rec) : List Rec := P ++ (S1 ++ x :: S2) ++ R

theorem insD_at (P S1 : List Rec) (y x : Rec) (S2 R : List Rec) {p q : Nat} (hp : p = P.length + S1.length + 1) (hq : q = P.length + S1.length) :
    (insD P (S1 ++ [y]) x S2 R)[p]? = some x ∧ (insD P (S1 ++ [y]) x S2 R)[q]? = some y ∧ ((insD P (S1 ++ [y]) x S2 R).set p y).set q x = insD P S1 x (y :: S2) R := by
  have e1 : insD P (S1 ++ [y]) x S2 R = (P ++ S1) ++ y :: ([] ++ x :: (S2 ++ R)) := by simp [insD]
  have e2 : insD P S1 x (y :: S2) R = (P ++ S1) ++ x :: ([] ++ y :: (S2 ++ R)) := by simp [insD]
  obtain ⟨h1, h2, h3⟩ := swap_mid (P ++ S1) [] (S2 ++ R) y x (i := q) (j := p) (by simp; omega) (by simp; omega)
  rw [e1, e2]
  refine ⟨h2, h1, ?_⟩
  rw [← h3, List.set_comm _ _ (by omega)]
theorem grown_drewN {a b : World} {r : Option Nat} (h : a.grownBy b r) (n : Nat) : a.grownBy (b.drewN n) r := ⟨h.os, h.tape, h.output, h.size, h.block⟩
theorem insD_len (P S1 : List Rec) (x : Rec) (S2 R : List Rec) : (insD P S1 x S2 R).length = P.length + S1.length + 1 + S2.length + R.length := by
  simp [insD]
  omega

set_option maxHeartbeats 2000000 in
set_option maxRecDepth 100000 in
theorem insertion_any (base g n cap cc : Nat) (P X S : List Rec) (a b : Nat) (w : World) (ha : a = P.length) (hb : b = P.length + X.length) (hn : n = P.length + X.length + S.length) (hl : n ≤ 1000000000)
    (hown : w.ownsRow base 37 4 (.slice (some ⟨g, 0, none⟩) n cap) n (recs (P ++ X ++ S))) :
    Calls Tryd.prog 56 #[.slice (some ⟨g, 0, none⟩) n cc, .int .i64 a, .int .i64 b, .func (.func 38) #[] #[]] w (SortRet base g n cap (P ++ srt Rec.t X ++ S) w) := by
  have HA := Lib.hid ha
  have HB := Lib.hid hb
  have HN := Lib.hid hn
  have HO := Lib.hid hown
  have hab : a ≤ b := by omega
  have hbn : b ≤ n := by omega
  clear ha hb hn hown
  go_enter Tryd.func56, Tryd.ntmps56
  go_wp2_with fail
  go_loopw [8, 9] (fun s _ wr => ∃ q i : Nat, 1 ≤ q ∧ a + q ≤ b + 1 ∧ i = a + q ∧ s = .int .i64 i ∧ wr.ownsRow base 37 4 (.slice (some ⟨g, 0, none⟩) n cap) n (recs (P ++ (srt Rec.t (X.take q) ++ X.drop q) ++ S)) ∧ w.grownBy wr (some g)) (fun s _ _ => b + 1 - (intOf s).toNat)
  case atStart =>
    refine ⟨1, a + 1, by omega, by omega, rfl, by go_num, ?_, grown_refl _ _⟩
    have e : srt Rec.t (X.take 1) ++ X.drop 1 = X := by
      cases X with
      | nil => rfl
      | cons x X => simp [srt_one]
    rw [e]
    exact HO.out
  case round =>
    obtain ⟨q, i, hq1, hqb, hi, rfl, hown, hgr⟩ := hrel
    have HI := Lib.hid hi
    by_cases hlt : a + q < b
    · have hlt' : (i : Int) < (b : Int) := by omega
      have hlt2 : a < i := by omega
      clear hi
      have hqx : q < X.length := by have := HA.out; have := HB.out; omega
      obtain ⟨x, hx⟩ : ∃ x, X[q] = x := ⟨_, rfl⟩
      have hsrt : srt Rec.t (X.take (q + 1)) = mrg Rec.t (srt Rec.t (X.take q)) [x] := by rw [List.take_succ_eq_append_getElem hqx, srt_app, hx, srt_one]
      have hasc : AscT Rec.t (srt Rec.t (X.take q)) := srt_asc _
      have hlen : (srt Rec.t (X.take q)).length = q := by rw [srt_len, List.length_take]; omega
      rw [List.drop_eq_getElem_cons hqx, hx] at hown
      obtain ⟨R, hR⟩ : ∃ R, R = X.drop (q + 1) ++ S := ⟨_, rfl⟩
      have hRl : R.length = X.length - (q + 1) + S.length := by rw [hR]; simp
      have hown0 : wr.ownsRow base 37 4 (.slice (some ⟨g, 0, none⟩) n cap) n (recs (insD P (srt Rec.t (X.take q)) x [] R)) := by
        have e : insD P (srt Rec.t (X.take q)) x [] R = P ++ (srt Rec.t (X.take q) ++ x :: X.drop (q + 1)) ++ S := by rw [hR]; simp [insD]
        rw [e]
        exact hown
      have HO0 := Lib.hid hown0
      have HSRT := Lib.hid hsrt
      have HASC := Lib.hid hasc
      have HLEN := Lib.hid hlen
      have HR := Lib.hid hR
      have HRL := Lib.hid hRl
      clear hown hown0 hsrt hasc hlen hR hRl hx HO
      go_wp2_with fail
      obtain ⟨wo, rfl⟩ : ∃ wo : World, wo = wr := ⟨_, rfl⟩
      go_loopw [9] (fun s wr => ∃ (S1 S2 : List Rec) (j : Nat), j = a + S1.length ∧ s = .int .i64 j ∧ srt Rec.t (X.take q) = S1 ++ S2 ∧ (∀ y ∈ S2, x.t < y.t) ∧ wr.ownsRow base 37 4 (.slice (some ⟨g, 0, none⟩) n cap) n (recs (insD P S1 x S2 R)) ∧ w.grownBy wr (some g)) (fun s _ => (intOf s).toNat)
      case atStart =>
        refine ⟨srt Rec.t (X.take q), [], i, ?_, rfl, by simp, by simp, HO0.out, hgr⟩
        rw [HLEN.out]
        exact HI.out
      case round =>
        obtain ⟨S1, S2, j, hj, rfl, hss, hgt, hown, hgr2⟩ := hrel
        have hl12 : S1.length + S2.length = q := by rw [← HLEN.out, hss]; simp
        have HSS := Lib.hid hss
        have HGT := Lib.hid hgt
        have hDl : n = (insD P S1 x S2 R).length := by rw [insD_len]; have := HN.out; have := HRL.out; omega
        clear hss hgt hgr HO0
        rcases List.eq_nil_or_concat S1 with rfl | ⟨S1, y, rfl⟩
        · have hd : decide (((a : Int)) < ((a : Int))) = false := by simp
          have HO1 := Lib.hid hown
          have HDL := Lib.hid hDl
          have HL12 := Lib.hid hl12
          clear hown hDl hl12
          simp only [List.length_nil, Nat.add_zero] at hj
          subst hj
          go_wp2_with fail
          go_quiet (fail)
          go_wp2_with fail
          go_roundw
          case rel =>
            refine ⟨q + 1, i + 1, by omega, by omega, by have := HI.out; omega, by go_num, ?_, grown_drewN hgr2 _⟩
            have e : P ++ (srt Rec.t (X.take (q + 1)) ++ X.drop (q + 1)) ++ S = insD P [] x S2 R := by
              rw [HSRT.out, HSS.out, mrg_back (S1 := []) (S2 := S2) (x := x) (by simp) HGT.out, HR.out]
              simp [insD]
            rw [e]
            exact HO1.out
          case measure => simp [intOf]; omega
        · have hl1 : (S1.concat y).length = S1.length + 1 := by simp
          simp only [List.concat_eq_append] at hown hDl HSS hl12
          obtain ⟨p, hp⟩ : ∃ p, p = a + S1.length := ⟨_, rfl⟩
          obtain ⟨r, hr⟩ : ∃ r, r = p + 1 := ⟨_, rfl⟩
          obtain ⟨g1, g2, g3⟩ := insD_at P S1 y x S2 R (p := r) (q := p) (by have := HA.out; omega) (by have := HA.out; omega)
          obtain ⟨⟨c0, c1, c2, c3⟩, z0, z1, z2, z3⟩ := own_rec hown hDl g1
          obtain ⟨⟨d0, d1, d2, d3⟩, y0, y1, y2, y3⟩ := own_rec hown hDl g2
          have hpn : r < n := by
            have := insD_len P (S1 ++ [y]) x S2 R
            rw [← hDl, List.length_append] at this
            have h1 : [y].length = 1 := rfl
            have h2 := HA.out
            omega
          have HO1 := Lib.hid hown
          have e0 : r = j := by rw [hl1] at hj; omega
          have e1 : (a : Int) < (r : Int) := by omega
          have e1' : decide ((a : Int) < (r : Int)) = true := by simpa using e1
          have e2 : IntKind.i64.wrap ((r : Int) - 1) = (p : Int) := by rw [IntWalk.i64_in _ (by omega)]; omega
          have e3 : (p : Int) < (n : Int) := by omega
          have e4 : (r : Int) < (n : Int) := by omega
          have e5 : (0 : Int) ≤ (p : Int) := by omega
          have e6 : (0 : Int) ≤ (r : Int) := by omega
          have HP := Lib.hid hp
          have HRR := Lib.hid hr
          have G3 := Lib.hid g3
          subst e0
          have HDL := Lib.hid hDl
          have HL12 := Lib.hid hl12
          have G1 := Lib.hid g1
          have G2 := Lib.hid g2
          clear hown g1 g2 g3 hp hr hj hl1 hDl hl12
          go_wp2_with fail
          go_still_tail 14, (by kernel_rfl)
          change wpList _ _ _ _ _ wr.drew
          go_wp2_with fail
          refine (early_any x y _).mono ?_
          rintro e w2 ⟨rfl, hb2⟩
          have hown2 := own_keep HO1.out.drew (Nat.le_refl _) hb2
          have hg2 : w.grownBy w2 (some g) := grown_below (grown_drew hgr2) hb2
          clear c0 c1 c2 c3 d0 d1 d2 d3 z0 z1 z2 z3 y0 y1 y2 y3 hb2 hgr2
          by_cases hxy : x.t < y.t
          · rw [cmpI_lt hxy]
            have HXY := Lib.hid hxy
            obtain ⟨⟨c0, c1, c2, c3⟩, z0, z1, z2, z3⟩ := own_rec hown2 HDL.out G1.out
            obtain ⟨⟨d0, d1, d2, d3⟩, y0, y1, y2, y3⟩ := own_rec hown2 HDL.out G2.out
            have hsw := swap_own2 (a := x) (b := y) (i := r) (j := p) hown2 (by rw [← HDL.out]; omega) (by rw [← HDL.out]; omega)
            rw [G3.out] at hsw
            have HSW := Lib.hid hsw
            have hpr : ¬ p = r := by have := HRR.out; omega
            have hrp : ¬ r = p := fun h => hpr h.symm
            clear hxy hsw hown2
            go_wp2_with fail
            go_region
            obtain ⟨h1, h2⟩ := HSW.out
            clear HSW c0 c1 c2 c3 d0 d1 d2 d3 z0 z1 z2 z3 y0 y1 y2 y3
            obtain ⟨W3, hW3⟩ : ∃ W3, W3 = (((((((((w2.setCell ⟨g, r * 4, none⟩ (.int .i64 y.t)).setCell ⟨g, r * 4 + 1, none⟩ (.int .u8 y.k)).setCell ⟨g, r * 4 + 2, none⟩ (.int .i64 y.j)).setCell ⟨g, r * 4 + 3, none⟩ (.int .i64 y.v)).setCell ⟨g, p * 4, none⟩ (.int .i64 x.t)).setCell ⟨g, p * 4 + 1, none⟩ (.int .u8 x.k)).setCell ⟨g, p * 4 + 2, none⟩ (.int .i64 x.j)).setCell ⟨g, p * 4 + 3, none⟩ (.int .i64 x.v)).drew) := ⟨_, rfl⟩
            rw [← hW3] at h1 h2 ⊢
            have H1 := Lib.hid h1
            have H2 := Lib.hid (grown_tr hg2 h2)
            clear hW3 h1 h2 hg2
            go_wp2_with fail
            go_roundw
            case rel =>
              refine ⟨S1, y :: S2, p, HP.out, rfl, ?_, ?_, H1.out, H2.out⟩
              · rw [HSS.out]; simp
              · intro u hu
                rcases List.mem_cons.1 hu with rfl | hu
                · exact HXY.out
                · exact HGT.out u hu
            case measure => have := HRR.out; simp [intOf]; omega
          · have hc : cmpI x.t y.t = 0 ∨ cmpI x.t y.t = 1 := by unfold cmpI; rw [if_neg hxy]; split <;> simp
            have hc0 : decide (cmpI x.t y.t < 0) = false := by rcases hc with hc | hc <;> rw [hc] <;> rfl
            have HXY := Lib.hid hxy
            have HO2 := Lib.hid hown2
            clear hxy hc hown2
            go_wp2_with fail
            go_roundw
            case rel =>
              refine ⟨q + 1, i + 1, by omega, by omega, by have := HI.out; omega, by go_num, ?_, hg2⟩
              have hasc := HASC.out
              rw [HSS.out] at hasc
              obtain ⟨ha1, ha2, _⟩ := asc_app.1 hasc
              obtain ⟨_, _, ha3⟩ := asc_app.1 ha1
              have hle : y.t ≤ x.t := by have := HXY.out; omega
              have e : P ++ (srt Rec.t (X.take (q + 1)) ++ X.drop (q + 1)) ++ S = insD P (S1 ++ [y]) x S2 R := by
                rw [HSRT.out, HSS.out, mrg_back (S1 := S1 ++ [y]) (S2 := S2) (x := x) ?_ HGT.out, HR.out]
                · simp [insD]
                · intro u hu
                  rcases List.mem_append.1 hu with hu | hu
                  · exact Int.le_trans (ha3 u hu y (by simp)) hle
                  · rw [List.mem_singleton] at hu
                    subst hu
                    exact hle
              rw [e]
              exact HO2.out
            case measure => simp [intOf]; omega
    · have hle : X.length ≤ q := by have := HA.out; have := HB.out; omega
      have e : P ++ (srt Rec.t (X.take q) ++ X.drop q) ++ S = P ++ srt Rec.t X ++ S := by
        rw [List.take_of_length_le hle, List.drop_of_length_le hle, List.append_nil]
      rw [e] at hown
      have HO2 := Lib.hid hown
      have hlt' : ¬ (i : Int) < (b : Int) := by omega
      clear hown e hi
      go_wp2_with fail
      go_end0
      refine ⟨rfl, ?_, hgr⟩
      rw [← List.append_assoc]
      exact HO2.out
end Go.Proofs.YtdcgminjamofmaaDoor
