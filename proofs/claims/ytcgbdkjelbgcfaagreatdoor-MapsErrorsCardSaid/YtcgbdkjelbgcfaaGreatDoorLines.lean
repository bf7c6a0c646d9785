/- Contract of maps.Lines. -/
import Derived.Test.YtcgbdkjelbgcfaaGreatDoorEvm
namespace Go.Proofs.YtcgbdkjelbgcfaaGreatDoor
open Go.RowKit

def linesTo (R U : List Row) (p : Pt) (way c : Nat) : List (Nat × Nat) := ((List.range c).filter fun c => decide (1 ≤ c) && (fold2 R U p way c).2).map fun c => (way, c)
def lineC (l : List (Nat × Nat)) : List Value := l.flatMap fun q => [.int .u8 (1 + q.1 : Nat), .int .i64 q.2]
theorem lineC_len (l : List (Nat × Nat)) : (lineC l).length = l.length * 2 := flat_len _ 2 (fun _ => rfl) l
theorem linesTo_zero (R U : List Row) (p : Pt) (way : Nat) : linesTo R U p way 1 = [] := by simp [linesTo, List.range_succ]
theorem linesTo_succ (R U : List Row) (p : Pt) (way c : Nat) (h : 1 ≤ c) : linesTo R U p way (c + 1) = linesTo R U p way c ++ if (fold2 R U p way c).2 then [(way, c)] else [] := by
  unfold linesTo
  rw [List.range_succ, List.filter_append, List.map_append]
  congr 1
  simp only [List.filter_cons, List.filter_nil, decide_eq_true h, Bool.true_and]
  split <;> simp
theorem linesTo_le (R U : List Row) (p : Pt) (way c : Nat) : (linesTo R U p way c).length ≤ c := by
  unfold linesTo
  rw [List.length_map]
  exact Nat.le_trans (List.length_filter_le _ _) (by simp)
def linesL (W H : Nat) (R U : List Row) : List (Nat × Nat) := linesTo R U ⟨0, W, 0, H⟩ 0 W ++ linesTo R U ⟨0, W, 0, H⟩ 1 H

set_option maxHeartbeats 400000 in
theorem clip_lines (A : Option Addr) (n c : Nat) (w : World) (h : n ≤ c) (_hm : c ≤ maxLen) :
    Calls Tryz.prog 20 #[.slice A n c] w fun e w' => e = .returned (.slice A n n) ∧ w = w' := by
  unfold maxLen at _hm
  go_enter Tryz.func20, Tryz.ntmps20
  go_wp2
  go_ret
  exact ⟨rfl, rfl⟩

theorem line_info : (Tryz.prog.info? 43).map (fun i => (i.zero, i.size, i.bytes)) = some (some (.agg #[.int .u8 0, .int .i64 0]), 2, 16) := by kernel_rfl
theorem all_in {W H : Nat} {R U : List Row} (hv : VM W H R U) : InM W H ⟨0, W, 0, H⟩ := ⟨⟨hv.w.1, Nat.le_refl _⟩, hv.h.1, Nat.le_refl _⟩
theorem folds_all (W H : Nat) (RA UA : Option Addr) (R U : List Row) (cr cu : Nat) (way c : Nat) (w : World) (hm : MapOk w RA UA R U) (hv : VM W H R U) (hw : way ≤ 1) (hc1 : 1 ≤ c) (hc2 : c < acr W H way) :
    Calls Tryz.prog 18 #[.agg #[.int .i64 W, .int .i64 H, .slice RA R.length cr, .slice UA U.length cu], .agg #[.int .i64 0, .int .i64 W, .int .i64 0, .int .i64 H], .int .i64 way, .int .i64 c] w (RetBelow (.tuple #[.int .u8 (fold2 R U ⟨0, W, 0, H⟩ way c).1, .bool (fold2 R U ⟨0, W, 0, H⟩ way c).2]) w) :=
  folds_run W H RA UA R U cr cu ⟨0, W, 0, H⟩ way c w hm hv (all_in hv) hw (by simp [Pt.from']; omega) (by unfold acr at hc2; unfold Pt.to; simpa using hc2)

/-- What Lines returns: lines in new memory, or why not. -/
def LinesRet (W H : Int) (R U : List Row) (w : World) (e : Ending) (w' : World) : Prop :=
  Below w.heap.size w w' ∧ ((chkM W H R U ≠ 0 ∧ e = .returned (.tuple #[.slice none 0 0, .int .i64 (chkM W H R U)])) ∨
    (chkM W H R U = 0 ∧ ∃ A, e = .returned (.tuple #[.slice A (linesL W.toNat H.toNat R U).length (linesL W.toNat H.toNat R U).length, .int .i64 0]) ∧ Rd w' A 2 (linesL W.toNat H.toNat R U).length (lineC (linesL W.toNat H.toNat R U))))

set_option maxHeartbeats 4000000 in
set_option maxRecDepth 100000 in
theorem lines_any (W H : Int) (RA UA : Option Addr) (R U : List Row) (cr cu : Nat) (w : World) (hm : MapOk w RA UA R U) :
    Calls Tryz.prog 6 #[.agg #[.int .i64 W, .int .i64 H, .slice RA R.length cr, .slice UA U.length cu]] w (LinesRet W H R U w) := by
  have hn1 := heap_alloc_new w (.cells #[.int .i64 W, .int .i64 H, .slice RA R.length cr, .slice UA U.length cu] 24)
  have hb1 : Below w.heap.size w (w.alloc (.cells #[.int .i64 W, .int .i64 H, .slice RA R.length cr, .slice UA U.length cu] 24)) := (Below.refl _ _).alloc (Nat.le_refl _) _
  obtain ⟨Z, hZ⟩ : ∃ Z, chkM W H R U = Z := ⟨_, rfl⟩
  obtain ⟨i0, hi0, hz0, hz1, hz2⟩ := info_parts line_info
  have HI0 := Lib.hid hi0
  have HZ0 := Lib.hid hz0
  have HZ1 := Lib.hid hz1
  have HZ2 := Lib.hid hz2
  clear hi0 hz0 hz1 hz2
  have HM := Lib.hid hm
  have HZ := Lib.hid hZ
  clear hm hZ
  go_enter Tryz.func6, Tryz.ntmps6
  go_upto_region 1 with fail
  obtain ⟨V, hV⟩ : ∃ V, V = w.alloc (.cells #[.int .i64 W, .int .i64 H, .slice RA R.length cr, .slice UA U.length cu] 24) := ⟨_, rfl⟩
  rw [← hV] at hn1 hb1 ⊢
  obtain ⟨N, hN⟩ : ∃ N, N = w.heap.size := ⟨_, rfl⟩
  rw [← hN] at hn1 ⊢
  have N1 := Lib.hid hn1
  have hNV : N < V.heap.size := (Array.getElem?_eq_some_iff.1 hn1).1
  obtain ⟨⟨x0, x1, x2, x3⟩, _⟩ := blk4 hn1
  clear hV hN hn1
  go_wp2_with fail
  refine (mcheck_any W H RA UA R U cr cu V (HM.out.below hb1)).mono ?_
  rintro e w2 ⟨rfl, hb2⟩
  rw [HZ.out]
  clear x0 x1 x2 x3
  by_cases hz : Z = 0
  · subst hz
    obtain ⟨W', H', rfl, rfl, hv, -⟩ := chkM_vm HM.out HZ.out
    obtain ⟨W, rfl⟩ : ∃ W, W = W' := ⟨_, rfl⟩
    obtain ⟨H, rfl⟩ : ∃ H, H = H' := ⟨_, rfl⟩
    have hW16 := hv.w
    have hH16 := hv.h
    have HV := Lib.hid hv
    clear hv
    have N2 := Lib.hid (kept hb2 N1.out hNV)
    obtain ⟨⟨x0, x1, x2, x3⟩, _⟩ := blk4 N2.out
    have ix0 : ∀ w, (Instr.index 60 (.agg #[.int .i64 W, .int .i64 H]) (.int .i64 0)).run Tryz.prog w = .ok (.int .i64 W) w := fun _ => by kernel_rfl
    have ix1 : ∀ w, (Instr.index 60 (.agg #[.int .i64 W, .int .i64 H]) (.int .i64 1)).run Tryz.prog w = .ok (.int .i64 H) w := fun _ => by kernel_rfl
    go_wp2_with fail
    go_loopw [5, 6, 7, 8, 9, 10, 21] (fun s5 _ _ _ _ _ s21 wr => ∃ (wy n : Nat) (z : Int) (xs : List Value), wy ≤ 2 ∧ s21 = .int .i64 z ∧ z = wy ∧ n ≤ 16 * wy ∧ Hid (n = ((if wy = 0 then [] else linesTo R U ⟨0, W, 0, H⟩ 0 W) ++ (if wy = 2 then linesTo R U ⟨0, W, 0, H⟩ 1 H else [])).length ∧ xs = lineC ((if wy = 0 then [] else linesTo R U ⟨0, W, 0, H⟩ 0 W) ++ (if wy = 2 then linesTo R U ⟨0, W, 0, H⟩ 1 H else []))) ∧ ∃ A q, s5 = .slice A n q ∧ n ≤ q ∧ q ≤ maxLen ∧ wr.ownsRow V.heap.size 43 2 (.slice A n q) n xs ∧ Below V.heap.size V wr) (fun _ _ _ _ _ _ s21 _ => 2 - (intOf s21).toNat)
    case atStart => exact ⟨0, 0, 0, [], by omega, rfl, rfl, by omega, Lib.hid ⟨rfl, rfl⟩, none, 0, rfl, by omega, by unfold maxLen; omega, ⟨by simp, .inl ⟨rfl, rfl⟩⟩, hb2⟩
    case round =>
      obtain ⟨wy, n, z, xs, hwy, rfl, hz, hn16, HL, A, q, rfl, hnq, hqm, hown, hbr⟩ := hrel
      have HO := Lib.hid hown
      clear hown x0 x1 x2 x3
      obtain rfl | rfl | rfl : wy = 0 ∨ wy = 1 ∨ wy = 2 := by omega
      · obtain rfl : z = 0 := by simpa using hz
        clear hz
        have HL : Hid (n = (([] : List (Nat × Nat))).length ∧ xs = lineC (([] : List (Nat × Nat)))) := Lib.hid (by simpa using HL.out)
        go_wp2_with fail
        obtain ⟨wo, rfl⟩ : ∃ wo : World, wo = wr := ⟨_, rfl⟩
        obtain ⟨A0, rfl⟩ : ∃ A0 : Option Addr, A0 = A := ⟨_, rfl⟩
        obtain ⟨q0, rfl⟩ : ∃ q0 : Nat, q0 = q := ⟨_, rfl⟩
        obtain ⟨n0, rfl⟩ : ∃ n0 : Nat, n0 = n := ⟨_, rfl⟩
        obtain ⟨xs0, rfl⟩ : ∃ xs0 : List Value, xs0 = xs := ⟨_, rfl⟩
        go_loopw [5, 8, 9, 10] (fun s5 s8 _ _ wr => ∃ (c n : Nat) (xs : List Value), 1 ≤ c ∧ c ≤ W ∧ n + 1 ≤ n0 + c ∧ s8 = .int .i64 c ∧ Hid (n = (([] : List (Nat × Nat)) ++ linesTo R U ⟨0, W, 0, H⟩ 0 c).length ∧ xs = lineC (([] : List (Nat × Nat)) ++ linesTo R U ⟨0, W, 0, H⟩ 0 c)) ∧ ∃ A q, s5 = .slice A n q ∧ n ≤ q ∧ q ≤ maxLen ∧ wr.ownsRow V.heap.size 43 2 (.slice A n q) n xs ∧ Below V.heap.size V wr) (fun _ s8 _ _ _ => W - (intOf s8).toNat)
        case atStart => exact ⟨1, n0, xs0, by omega, by omega, by omega, rfl, Lib.hid (by rw [linesTo_zero, List.append_nil]; exact HL.out), A0, q0, rfl, hnq, hqm, HO.out, hbr⟩
        case round =>
          obtain ⟨c, n, xs, hc1, hc2, hnc, rfl, HLL, A, q, rfl, hnq, hqm, hown, hbq⟩ := hrel
          by_cases hlt : c < W
          · have q1 : (c : Int) < (W : Int) := by omega
            obtain ⟨⟨d0, d1, d2, d3⟩, _⟩ := blk4 (kept hbq N1.out hNV)
            obtain ⟨fi, fb, hfk⟩ : ∃ fi fb, fold2 R U ⟨0, W, 0, H⟩ 0 c = (fi, fb) := ⟨_, _, rfl⟩
            have hfo : ∀ w', MapOk w' RA UA R U → Calls Tryz.prog 18 #[.agg #[.int .i64 W, .int .i64 H, .slice RA R.length cr, .slice UA U.length cu], .agg #[.int .i64 0, .int .i64 W, .int .i64 0, .int .i64 H], .int .i64 0, .int .i64 c] w' (RetBelow (.tuple #[.int .u8 (fold2 R U ⟨0, W, 0, H⟩ 0 c).1, .bool (fold2 R U ⟨0, W, 0, H⟩ 0 c).2]) w') := fun w' hm' => folds_all W H RA UA R U cr cu 0 c w' hm' HV.out (by omega) hc1 (by unfold acr; simpa using hlt)
            rw [hfk] at hfo
            dsimp only at hfo
            have HFK := Lib.hid hfk
            have HFO := Lib.hid hfo
            have HXX : ∀ w', Below V.heap.size V w' → MapOk w' RA UA R U := fun w' h => (HM.out.below hb1).below h
            have HX := Lib.hid HXX
            clear hfk hfo HXX
            go_wp2_with fail
            go_region_held3 (fun w' => w'.cell? ⟨N, 0, none⟩ = some (.int .i64 W) ∧ w'.cell? ⟨N, 1, none⟩ = some (.int .i64 H) ∧ w'.cell? ⟨N, 2, none⟩ = some (.slice RA R.length cr) ∧ w'.cell? ⟨N, 3, none⟩ = some (.slice UA U.length cu))
              (first | exact ⟨d0, d1, d2, d3⟩ | go_keep)
              (first
                | (go_at_call 19; (with_reducible refine (all_any W H _ _ _).mono ?_); rintro e' w6 ⟨rfl, hb6⟩; have hbq := hbq.trans ((undrew hb6).mono hbq.size); have hown := own_keep hown (Nat.le_refl _) (undrew hb6); have d0 := below_cell (undrew hb6) d0; have d1 := below_cell (undrew hb6) d1; have d2 := below_cell (undrew hb6) d2; have d3 := below_cell (undrew hb6) d3)
                | (go_at_call 18; (with_reducible refine (HFO.out _ (HX.out _ hbq)).mono ?_); rintro e' w6 ⟨rfl, hb6⟩; have hbq := hbq.trans (hb6.mono hbq.size); have hown := own_keep hown (Nat.le_refl _) hb6; have d0 := below_cell hb6 d0; have d1 := below_cell hb6 d1; have d2 := below_cell hb6 d2; have d3 := below_cell hb6 d3)
                | fail)
            all_goals
              have hbq := hbq
              have hown := hown
              clear d0 d1 d2 d3
              cases fb
              · have HLN : Hid (n = (([] : List (Nat × Nat)) ++ linesTo R U ⟨0, W, 0, H⟩ 0 (c + 1)).length ∧ xs = lineC (([] : List (Nat × Nat)) ++ linesTo R U ⟨0, W, 0, H⟩ 0 (c + 1))) := Lib.hid (by rw [linesTo_succ _ _ _ _ _ hc1, HFK.out]; simpa using HLL.out)
                as_aux_lemma =>
                  go_wp2_with fail
                  go_roundw
                  case rel => exact ⟨c + 1, n, xs, by omega, by omega, by omega, by go_num, HLN, A, q, rfl, hnq, hqm, hown, hbq⟩
                  case measure => simp [intOf]; omega
              · have HLN : Hid (n + 1 = (([] : List (Nat × Nat)) ++ linesTo R U ⟨0, W, 0, H⟩ 0 (c + 1)).length ∧ xs ++ [.int .u8 1, .int .i64 c] = lineC (([] : List (Nat × Nat)) ++ linesTo R U ⟨0, W, 0, H⟩ 0 (c + 1))) := Lib.hid (by
                  rw [linesTo_succ _ _ _ _ _ hc1, HFK.out, ← List.append_assoc]
                  refine ⟨by rw [HLL.out.1]; simp only [List.length_append]; rfl, ?_⟩
                  rw [HLL.out.2]
                  simp [lineC])
                obtain ⟨v', w7, hr, hown', hg⟩ := run_append_rdK (P := Tryz.prog) (w6.alloc (.cells #[.int .u8 1, .int .i64 c] 43)) V.heap.size 36 36 43 i0 _ 2 16 Tryz.underlying36 HI0.out HZ0.out HZ1.out HZ2.out rfl (by omega) (.slice A n q) n xs (hown.alloc _) (some ⟨w6.heap.size, 0, none⟩) 1 1 [.int .u8 1, .int .i64 c] (by simp [Value.oneCell']) (rd_new _ 1 2 rfl rfl) (by simp) (by omega) (by omega) (by have := hbq.size; simp; omega)
                have hb7 : Below V.heap.size V w7 := (hbq.alloc hbq.size _).grown hg (by have := hbq.size; simp; omega) (fun q hq => (hown.lt q hq).1)
                obtain ⟨A', q', rfl, hnq', hqm'⟩ := own_form hown'
                have HR := Lib.hid hr
                have HO' := Lib.hid hown'
                clear hr hown hown' hg hbq
                as_aux_lemma =>
                  go_wp2_with (at_builtin; refine Lib.wpList_append_run _ rfl _ _ _ _ rfl _ _ rfl rfl _ _ HR.out ?_)
                  go_wp2_with fail
                  go_roundw
                  case rel => exact ⟨c + 1, n + 1, _, by omega, by omega, by omega, by go_num, HLN, A', q', rfl, hnq', hqm', HO'.out, hb7⟩
                  case measure => simp [intOf]; omega
          · have q1 : ¬ (c : Int) < (W : Int) := by omega
            have HO := Lib.hid hown
            obtain rfl : c = W := by omega
            clear hown
            as_aux_lemma =>
              go_wp2_with fail
              go_roundw
              case rel => exact ⟨1, n, 1, xs, by omega, by go_num, by omega, by omega, Lib.hid (by simpa using HLL.out), A, q, rfl, hnq, hqm, HO.out, hbq⟩
              case measure => simp [intOf]
      · obtain rfl : z = 1 := by simpa using hz
        clear hz
        have HL : Hid (n = (linesTo R U ⟨0, W, 0, H⟩ 0 W).length ∧ xs = lineC (linesTo R U ⟨0, W, 0, H⟩ 0 W)) := Lib.hid (by simpa using HL.out)
        go_wp2_with fail
        obtain ⟨wo, rfl⟩ : ∃ wo : World, wo = wr := ⟨_, rfl⟩
        obtain ⟨A0, rfl⟩ : ∃ A0 : Option Addr, A0 = A := ⟨_, rfl⟩
        obtain ⟨q0, rfl⟩ : ∃ q0 : Nat, q0 = q := ⟨_, rfl⟩
        obtain ⟨n0, rfl⟩ : ∃ n0 : Nat, n0 = n := ⟨_, rfl⟩
        obtain ⟨xs0, rfl⟩ : ∃ xs0 : List Value, xs0 = xs := ⟨_, rfl⟩
        go_loopw [5, 8, 9, 10] (fun s5 s8 _ _ wr => ∃ (c n : Nat) (xs : List Value), 1 ≤ c ∧ c ≤ H ∧ n + 1 ≤ n0 + c ∧ s8 = .int .i64 c ∧ Hid (n = (linesTo R U ⟨0, W, 0, H⟩ 0 W ++ linesTo R U ⟨0, W, 0, H⟩ 1 c).length ∧ xs = lineC (linesTo R U ⟨0, W, 0, H⟩ 0 W ++ linesTo R U ⟨0, W, 0, H⟩ 1 c)) ∧ ∃ A q, s5 = .slice A n q ∧ n ≤ q ∧ q ≤ maxLen ∧ wr.ownsRow V.heap.size 43 2 (.slice A n q) n xs ∧ Below V.heap.size V wr) (fun _ s8 _ _ _ => H - (intOf s8).toNat)
        case atStart => exact ⟨1, n0, xs0, by omega, by omega, by omega, rfl, Lib.hid (by rw [linesTo_zero, List.append_nil]; exact HL.out), A0, q0, rfl, hnq, hqm, HO.out, hbr⟩
        case round =>
          obtain ⟨c, n, xs, hc1, hc2, hnc, rfl, HLL, A, q, rfl, hnq, hqm, hown, hbq⟩ := hrel
          by_cases hlt : c < H
          · have q1 : (c : Int) < (H : Int) := by omega
            obtain ⟨⟨d0, d1, d2, d3⟩, _⟩ := blk4 (kept hbq N1.out hNV)
            obtain ⟨fi, fb, hfk⟩ : ∃ fi fb, fold2 R U ⟨0, W, 0, H⟩ 1 c = (fi, fb) := ⟨_, _, rfl⟩
            have hfo : ∀ w', MapOk w' RA UA R U → Calls Tryz.prog 18 #[.agg #[.int .i64 W, .int .i64 H, .slice RA R.length cr, .slice UA U.length cu], .agg #[.int .i64 0, .int .i64 W, .int .i64 0, .int .i64 H], .int .i64 1, .int .i64 c] w' (RetBelow (.tuple #[.int .u8 (fold2 R U ⟨0, W, 0, H⟩ 1 c).1, .bool (fold2 R U ⟨0, W, 0, H⟩ 1 c).2]) w') := fun w' hm' => folds_all W H RA UA R U cr cu 1 c w' hm' HV.out (by omega) hc1 (by unfold acr; simpa using hlt)
            rw [hfk] at hfo
            dsimp only at hfo
            have HFK := Lib.hid hfk
            have HFO := Lib.hid hfo
            have HXX : ∀ w', Below V.heap.size V w' → MapOk w' RA UA R U := fun w' h => (HM.out.below hb1).below h
            have HX := Lib.hid HXX
            clear hfk hfo HXX
            go_wp2_with fail
            go_region_held3 (fun w' => w'.cell? ⟨N, 0, none⟩ = some (.int .i64 W) ∧ w'.cell? ⟨N, 1, none⟩ = some (.int .i64 H) ∧ w'.cell? ⟨N, 2, none⟩ = some (.slice RA R.length cr) ∧ w'.cell? ⟨N, 3, none⟩ = some (.slice UA U.length cu))
              (first | exact ⟨d0, d1, d2, d3⟩ | go_keep)
              (first
                | (go_at_call 19; (with_reducible refine (all_any W H _ _ _).mono ?_); rintro e' w6 ⟨rfl, hb6⟩; have hbq := hbq.trans ((undrew hb6).mono hbq.size); have hown := own_keep hown (Nat.le_refl _) (undrew hb6); have d0 := below_cell (undrew hb6) d0; have d1 := below_cell (undrew hb6) d1; have d2 := below_cell (undrew hb6) d2; have d3 := below_cell (undrew hb6) d3)
                | (go_at_call 18; (with_reducible refine (HFO.out _ (HX.out _ hbq)).mono ?_); rintro e' w6 ⟨rfl, hb6⟩; have hbq := hbq.trans (hb6.mono hbq.size); have hown := own_keep hown (Nat.le_refl _) hb6; have d0 := below_cell hb6 d0; have d1 := below_cell hb6 d1; have d2 := below_cell hb6 d2; have d3 := below_cell hb6 d3)
                | fail)
            all_goals
              have hbq := hbq
              have hown := hown
              clear d0 d1 d2 d3
              cases fb
              · have HLN : Hid (n = (linesTo R U ⟨0, W, 0, H⟩ 0 W ++ linesTo R U ⟨0, W, 0, H⟩ 1 (c + 1)).length ∧ xs = lineC (linesTo R U ⟨0, W, 0, H⟩ 0 W ++ linesTo R U ⟨0, W, 0, H⟩ 1 (c + 1))) := Lib.hid (by rw [linesTo_succ _ _ _ _ _ hc1, HFK.out]; simpa using HLL.out)
                as_aux_lemma =>
                  go_wp2_with fail
                  go_roundw
                  case rel => exact ⟨c + 1, n, xs, by omega, by omega, by omega, by go_num, HLN, A, q, rfl, hnq, hqm, hown, hbq⟩
                  case measure => simp [intOf]; omega
              · have HLN : Hid (n + 1 = (linesTo R U ⟨0, W, 0, H⟩ 0 W ++ linesTo R U ⟨0, W, 0, H⟩ 1 (c + 1)).length ∧ xs ++ [.int .u8 2, .int .i64 c] = lineC (linesTo R U ⟨0, W, 0, H⟩ 0 W ++ linesTo R U ⟨0, W, 0, H⟩ 1 (c + 1))) := Lib.hid (by
                  rw [linesTo_succ _ _ _ _ _ hc1, HFK.out, ← List.append_assoc]
                  refine ⟨by rw [HLL.out.1]; simp only [List.length_append]; rfl, ?_⟩
                  rw [HLL.out.2]
                  simp [lineC])
                obtain ⟨v', w7, hr, hown', hg⟩ := run_append_rdK (P := Tryz.prog) (w6.alloc (.cells #[.int .u8 2, .int .i64 c] 43)) V.heap.size 36 36 43 i0 _ 2 16 Tryz.underlying36 HI0.out HZ0.out HZ1.out HZ2.out rfl (by omega) (.slice A n q) n xs (hown.alloc _) (some ⟨w6.heap.size, 0, none⟩) 1 1 [.int .u8 2, .int .i64 c] (by simp [Value.oneCell']) (rd_new _ 1 2 rfl rfl) (by simp) (by omega) (by omega) (by have := hbq.size; simp; omega)
                have hb7 : Below V.heap.size V w7 := (hbq.alloc hbq.size _).grown hg (by have := hbq.size; simp; omega) (fun q hq => (hown.lt q hq).1)
                obtain ⟨A', q', rfl, hnq', hqm'⟩ := own_form hown'
                have HR := Lib.hid hr
                have HO' := Lib.hid hown'
                clear hr hown hown' hg hbq
                as_aux_lemma =>
                  go_wp2_with (at_builtin; refine Lib.wpList_append_run _ rfl _ _ _ _ rfl _ _ rfl rfl _ _ HR.out ?_)
                  go_wp2_with fail
                  go_roundw
                  case rel => exact ⟨c + 1, n + 1, _, by omega, by omega, by omega, by go_num, HLN, A', q', rfl, hnq', hqm', HO'.out, hb7⟩
                  case measure => simp [intOf]; omega
          · have q1 : ¬ (c : Int) < (H : Int) := by omega
            have HO := Lib.hid hown
            obtain rfl : c = H := by omega
            clear hown
            as_aux_lemma =>
              go_wp2_with fail
              go_roundw
              case rel => exact ⟨2, n, 2, xs, by omega, by go_num, by omega, by omega, Lib.hid (by simpa using HLL.out), A, q, rfl, hnq, hqm, HO.out, hbq⟩
              case measure => simp [intOf]
      · obtain rfl : z = 2 := by simpa using hz
        clear hz
        go_wp2_with fail
        refine (clip_lines A n q wr hnq hqm).mono ?_
        rintro e w3 ⟨rfl, rfl⟩
        go_wp2_with fail
        refine bodyPost_ret (v := .tuple #[.slice A n n, .int .i64 0]) (by simp [results, Tryz.results6, go_sem]) rfl ⟨hb1.trans (hbr.mono hb1.size), .inr ⟨HZ.out, ?_⟩⟩
        have h1 : n = (linesL W H R U).length := by simpa [linesL] using HL.out.1
        have h2 : xs = lineC (linesL W H R U) := by simpa [linesL] using HL.out.2
        have h3 := Rd.of_own HO.out
        rw [h2, h1] at h3
        rw [h1]
        exact ⟨A, rfl, h3⟩
  · have hbz : (Z != 0) = true := by simpa using hz
    have HZN := Lib.hid hz
    clear hz
    go_wp2_with fail
    refine bodyPost_ret (v := .tuple #[.slice none 0 0, .int .i64 Z]) (by simp [results, Tryz.results6, go_sem]) rfl ?_
    exact ⟨hb1.trans (hb2.mono hb1.size), .inl ⟨by rw [HZ.out]; exact HZN.out, by rw [HZ.out]⟩⟩
end Go.Proofs.YtcgbdkjelbgcfaaGreatDoor
