/- Contract of journals.read. -/
import Derived.Test.YtdcgminjamofmaaDoorRead
import Derived.Deep.DeepCutAuto
import Derived.Laws.ResultCell
namespace Go.Proofs.YtdcgminjamofmaaDoor
open Go.RowKit

theorem Rd.sub {w : World} {b o n : Nat} {bs : List Int} (h : Rd w (some ⟨b, o, none⟩) 1 n (bts bs)) (i k : Nat) (hik : i + k ≤ n) : Rd w (some ⟨b, o + i, none⟩) 1 k (bts ((bs.drop i).take k)) := by
  have hl : bs.length = n := by have := h.1; simpa [bts] using this
  refine ⟨by simp [bts]; omega, fun hk => ?_⟩
  obtain ⟨b', o', e, hb, hc⟩ := h.2 (by omega)
  obtain ⟨rfl, rfl⟩ : b = b' ∧ o = o' := by simpa using e
  refine ⟨b, o + i, rfl, hb, fun j u hu => ?_⟩
  have hj : j < k := by
    have := (List.getElem?_eq_some_iff.1 hu).1
    simp [bts] at this
    omega
  have := hc (i + j) u (by
    unfold bts at hu ⊢
    rw [List.getElem?_map] at hu ⊢
    rw [List.getElem?_take, if_pos hj, List.getElem?_drop] at hu
    exact hu)
  rw [Nat.add_assoc]
  exact this
theorem mem_sub {bs : List Int} (hb : ∀ x ∈ bs, 0 ≤ x ∧ x ≤ 255) (i k : Nat) : ∀ x ∈ (bs.drop i).take k, 0 ≤ x ∧ x ≤ 255 := fun x hx => hb x (List.mem_of_mem_drop (List.mem_of_mem_take hx))

theorem row4 {w : World} {g : Nat} {a0 a1 a2 a3 : Value} {t : TypeId} (h : w.heap[g]? = some (.cells #[a0, a1, a2, a3] t (0, 0))) :
    w.cell? ⟨g, 0, none⟩ = some a0 ∧ w.cell? ⟨g, 1, none⟩ = some a1 ∧ w.cell? ⟨g, 2, none⟩ = some a2 ∧ w.cell? ⟨g, 3, none⟩ = some a3 :=
  ⟨by rw [cell_of_row _ _ 0 _ _ _ h]; rfl, by rw [cell_of_row _ _ 1 _ _ _ h]; rfl, by rw [cell_of_row _ _ 2 _ _ _ h]; rfl, by rw [cell_of_row _ _ 3 _ _ _ h]; rfl⟩
theorem row_free {w : World} {g : Nat} {cs : Array Value} {t : TypeId} (h : w.heap[g]? = some (.cells cs t (0, 0))) (q : Nat) : w.frozen? ⟨g, q, none⟩ = false := by simp [World.frozen?, h]
theorem read_end {w wc : World} {a b c d : Value} (h : Below w.heap.size w wc) : Below w.heap.size w ((((wc.setCell ⟨w.heap.size, 0, none⟩ a).setCell ⟨w.heap.size, 1, none⟩ b).setCell ⟨w.heap.size, 2, none⟩ c).setCell ⟨w.heap.size, 3, none⟩ d).drew :=
  ((((h.setCell (p := ⟨w.heap.size, 0, none⟩) (Nat.le_refl _) _).setCell (p := ⟨w.heap.size, 1, none⟩) (Nat.le_refl _) _).setCell (p := ⟨w.heap.size, 2, none⟩) (Nat.le_refl _) _).setCell (p := ⟨w.heap.size, 3, none⟩) (Nat.le_refl _) _).drew
theorem two_new (w : World) (c1 c2 : Array Value) {t1 t2 : TypeId} : ((w.alloc (.cells c1 t1)).alloc (.cells c2 t2)).drew.heap[w.heap.size]? = some (.cells c1 t1 (0, 0)) ∧ ((w.alloc (.cells c1 t1)).alloc (.cells c2 t2)).drew.heap[w.heap.size + 1]? = some (.cells c2 t2 (0, 0)) ∧ Below w.heap.size w ((w.alloc (.cells c1 t1)).alloc (.cells c2 t2)).drew := by
  refine ⟨?_, ?_, (((Below.refl _ _).alloc (Nat.le_refl _) _).alloc (by simp) _).drew⟩
  · show ((w.alloc (.cells c1 t1)).alloc (.cells c2 t2)).heap[w.heap.size]? = _
    rw [Below.heap_alloc _ _ _ (by simp)]
    exact heap_alloc_new w _
  · show ((w.alloc (.cells c1 t1)).alloc (.cells c2 t2)).heap[w.heap.size + 1]? = _
    have := heap_alloc_new (w.alloc (.cells c1 t1)) (.cells c2 t2)
    simpa using this

theorem keep_row {w w' : World} {g : Nat} {x : Obj} (h : Below w.heap.size w w') (hg : w.heap[g]? = some x) : w'.heap[g]? = some x := by
  rw [h.block g (Array.getElem?_eq_some_iff.1 hg).1]
  exact hg
theorem keep_on {w wc w2 : World} (h : Below w.heap.size w wc) (h2 : Below wc.heap.size wc w2) : Below w.heap.size w w2 := h.trans (h2.mono h.size)
theorem set_row {w : World} {g : Nat} {cs : Array Value} {t : TypeId} {fr : Nat × Nat} (h : w.heap[g]? = some (.cells cs t fr)) (i : Nat) (v : Value) : (w.setCell ⟨g, i, none⟩ v).heap[g]? = some (.cells (cs.setIfInBounds i v) t fr) := by
  simp [World.setCell, Array.getElem?_modify, h]
theorem set4 {w : World} {g : Nat} {a0 a1 a2 a3 : Value} {t : TypeId} (h : w.heap[g]? = some (.cells #[a0, a1, a2, a3] t (0, 0))) (a b c d : Value) :
    ((((w.setCell ⟨g, 0, none⟩ a).setCell ⟨g, 1, none⟩ b).setCell ⟨g, 2, none⟩ c).setCell ⟨g, 3, none⟩ d).heap[g]? = some (.cells #[a, b, c, d] t (0, 0)) :=
  set_row (set_row (set_row (set_row h 0 a) 1 b) 2 c) 3 d
set_option maxRecDepth 100000 in
theorem read_res {W : World} {g : Nat} {a b c d : Value} {t : TypeId} (h : W.heap[g]? = some (.cells #[a, b, c, d] t (0, 0))) (tmps : Array Value) (u : Value) (hp : tmps.getD 2 undef = .pointer (some ⟨g, 0, none⟩)) (hu : tmps.getD 3 undef = u) :
    (results Tryd.f29 tmps).run Tryd.prog W = .ok (.tuple #[.agg #[a, b, c, d], u]) W := by
  rw [results_cell_tmp rfl, hp, hu]
  simp only [asAddr, Sem.run_pure, Result.andThen_ok]
  rw [run_loadVar_row _ g t _ #[a, b, c, d] (0, 0) _ h rfl rfl rfl]
  rfl
theorem read_res_drew {W : World} {g : Nat} {a b c d : Value} {t : TypeId} (h : W.heap[g]? = some (.cells #[a, b, c, d] t (0, 0))) (tmps : Array Value) (u : Value) (hp : tmps.getD 2 undef = .pointer (some ⟨g, 0, none⟩)) (hu : tmps.getD 3 undef = u) :
    (results Tryd.f29 tmps).run Tryd.prog W.drew = .ok (.tuple #[.agg #[a, b, c, d], u]) W.drew := read_res (W := W.drew) h tmps u hp hu
theorem read_end2 {w wc : World} {a b c d : Value} (h : Below w.heap.size w wc) : Below w.heap.size w ((((wc.setCell ⟨w.heap.size, 0, none⟩ a).setCell ⟨w.heap.size, 1, none⟩ b).setCell ⟨w.heap.size, 2, none⟩ c).setCell ⟨w.heap.size, 3, none⟩ d) :=
  (((h.setCell (p := ⟨w.heap.size, 0, none⟩) (Nat.le_refl _) _).setCell (p := ⟨w.heap.size, 1, none⟩) (Nat.le_refl _) _).setCell (p := ⟨w.heap.size, 2, none⟩) (Nat.le_refl _) _).setCell (p := ⟨w.heap.size, 3, none⟩) (Nat.le_refl _) _
theorem undrew {w w2 : World} (h : Below w.drew.heap.size w.drew w2) : Below w.heap.size w w2 := ⟨h.os, h.tape, h.output, h.size, h.block⟩

def sub (bs : List Int) (i k : Nat) : List Int := (bs.drop i).take k
def readRec (bs : List Int) : Rec := ⟨be (sub bs 3 4), bs.getD 0 0, be (sub bs 1 2), be (sub bs 7 3)⟩
def readOk (bs : List Int) : Bool := (be (sub bs 10 2) == jsum (sub bs 0 10)) && (readRec bs).ok

set_option maxHeartbeats 8000000 in
theorem read_any (b o c : Nat) (bs : List Int) (w : World) (hl : bs.length = 12) (h : Rd w (some ⟨b, o, none⟩) 1 12 (bts bs)) (hb : ∀ x ∈ bs, 0 ≤ x ∧ x ≤ 255) (hc : 12 ≤ c) (hcm : c ≤ 9223372036854775807) :
    Calls Tryd.prog 29 #[.slice (some ⟨b, o, none⟩) 12 c] w (RetBelow (.tuple #[.agg (readRec bs).cells.toArray, .bool (readOk bs)]) w) := by
  have h1 := h.sub 1 2 (by omega)
  have h3 := h.sub 3 4 (by omega)
  have h7 := h.sub 7 3 (by omega)
  have h10 := h.sub 10 2 (by omega)
  have h0 := h.sub 0 10 (by omega)
  obtain ⟨x0, hx0⟩ : ∃ x, bs[0]? = some x := ⟨bs[0], List.getElem?_eq_getElem (by omega)⟩
  have hx0b := hb x0 (List.mem_of_getElem? hx0)
  obtain ⟨b', o', e, hbl, hcc⟩ := h.2 (by omega)
  obtain ⟨rfl, rfl⟩ : b = b' ∧ o = o' := by simpa using e
  have c0 : w.cell? ⟨b, o, none⟩ = some (.int .u8 x0) := hcc 0 _ (by unfold bts; rw [List.getElem?_map, hx0]; rfl)
  have b1 := mem_sub hb 1 2
  have b3 := mem_sub hb 3 4
  have b7 := mem_sub hb 7 3
  have b10 := mem_sub hb 10 2
  have b0 := mem_sub hb 0 10
  have l1 : (sub bs 1 2).length = 2 := by simp [sub]; omega
  have l3 : (sub bs 3 4).length = 4 := by simp [sub]; omega
  have l7 : (sub bs 7 3).length = 3 := by simp [sub]; omega
  have l10 : (sub bs 10 2).length = 2 := by simp [sub]; omega
  have l0 : (sub bs 0 10).length = 10 := by simp [sub]; omega
  change Rd w (some ⟨b, o + 1, none⟩) 1 2 (bts (sub bs 1 2)) at h1
  change Rd w (some ⟨b, o + 3, none⟩) 1 4 (bts (sub bs 3 4)) at h3
  change Rd w (some ⟨b, o + 7, none⟩) 1 3 (bts (sub bs 7 3)) at h7
  change Rd w (some ⟨b, o + 10, none⟩) 1 2 (bts (sub bs 10 2)) at h10
  change Rd w (some ⟨b, o + 0, none⟩) 1 10 (bts (sub bs 0 10)) at h0
  have hR : readRec bs = ⟨be (sub bs 3 4), x0, be (sub bs 1 2), be (sub bs 7 3)⟩ := by unfold readRec; rw [List.getD, hx0]; rfl
  have hO : readOk bs = ((be (sub bs 10 2) == jsum (sub bs 0 10)) && okRec (be (sub bs 3 4)) x0 (be (sub bs 1 2)) (be (sub bs 7 3))) := by unfold readOk; rw [hR]; rfl
  rw [hR, hO]
  change ∀ x ∈ sub bs 1 2, _ at b1
  change ∀ x ∈ sub bs 3 4, _ at b3
  change ∀ x ∈ sub bs 7 3, _ at b7
  change ∀ x ∈ sub bs 10 2, _ at b10
  change ∀ x ∈ sub bs 0 10, _ at b0
  generalize sub bs 1 2 = s1 at *
  generalize sub bs 3 4 = s3 at *
  generalize sub bs 7 3 = s7 at *
  generalize sub bs 10 2 = s10 at *
  generalize sub bs 0 10 = s0 at *
  have H1 := Lib.hid (And.intro h1 (And.intro b1 l1))
  have H3 := Lib.hid (And.intro h3 (And.intro b3 l3))
  have H7 := Lib.hid (And.intro h7 (And.intro b7 l7))
  have H10 := Lib.hid (And.intro h10 (And.intro b10 l10))
  have H0 := Lib.hid (And.intro h0 (And.intro b0 l0))
  have hcc1 : (3 : Int) ≤ (c : Int) := by omega
  have hcc7 : (7 : Int) ≤ (c : Int) := by omega
  have hcc10 : (10 : Int) ≤ (c : Int) := by omega
  have hcc12 : (12 : Int) ≤ (c : Int) := by omega
  have hcn : ¬ c = 1 := by omega
  have hcn3 : ¬ c = 3 := by omega
  have hcn7 : ¬ c = 7 := by omega
  have hcn10 : ¬ c = 10 := by omega
  clear h1 h3 h7 h10 h0 b1 b3 b7 b10 b0 l1 l3 l7 l10 l0 hcc hR hO hx0 hb h hl e
  obtain ⟨X, hX⟩ : ∃ X, be s10 = X := ⟨_, rfl⟩
  obtain ⟨Y, hY⟩ : ∃ Y, jsum s0 = Y := ⟨_, rfl⟩
  have hYb := jsum_bd s0
  rw [hY] at hYb
  have HX := Lib.hid hX
  have HY := Lib.hid hY
  rw [hX, hY]
  clear hX hY
  go_enter Tryd.func29, Tryd.ntmps29
  go_upto_region 2 with (fail)
  go_cut [5] (fun s5 wx => s5 = .pointer (some ⟨w.heap.size + 1, 0, none⟩) ∧ wx.heap[w.heap.size]? = some (.cells #[.int .i64 0, .int .u8 0, .int .i64 0, .int .i64 0] 37 (0, 0)) ∧ wx.heap[w.heap.size + 1]? = some (.cells #[.int .i64 (be s3), .int .u8 x0, .int .i64 (be s1), .int .i64 (be s7)] 37 (0, 0)) ∧ Below w.heap.size w wx)
  case first =>
    go_region_held3 (fun w' => w'.cell? ⟨b, o, none⟩ = some (.int .u8 x0))
      (first | exact (World.cell?_alloc_lt w _ ⟨b, o, none⟩ hbl).trans c0 | exact ((World.cell?_alloc_lt _ _ ⟨b, o, none⟩ (by simp; omega)).trans (World.cell?_alloc_lt w _ ⟨b, o, none⟩ hbl)).trans c0)
      (first | (go_at_call 46; ((with_reducible refine (be_any (some ⟨b, o + 1, none⟩) s1 2 (c - 1) _ H1.out.2.2.symm ?_ H1.out.2.1 (by omega)).mono ?_); (first | exact H1.out.1.alloc _ | exact (H1.out.1.alloc _).alloc _); rintro e w' ⟨rfl, rfl⟩)) | (go_at_call 46; ((with_reducible refine (be_any (some ⟨b, o + 3, none⟩) s3 4 (c - 3) _ H3.out.2.2.symm ?_ H3.out.2.1 (by omega)).mono ?_); (first | exact H3.out.1.alloc _ | exact (H3.out.1.alloc _).alloc _); rintro e w' ⟨rfl, rfl⟩)) | (go_at_call 46; ((with_reducible refine (be_any (some ⟨b, o + 7, none⟩) s7 3 (c - 7) _ H7.out.2.2.symm ?_ H7.out.2.1 (by omega)).mono ?_); (first | exact H7.out.1.alloc _ | exact (H7.out.1.alloc _).alloc _); rintro e w' ⟨rfl, rfl⟩)))
    all_goals go_wp2_with fail
    all_goals go_meet
    all_goals exact ⟨rfl, two_new w _ _⟩
  case rest =>
    obtain ⟨rfl, hz, hr, hbx⟩ := hcut
    obtain ⟨q0, q1, q2, q3⟩ := row4 hr
    have hs2 := (Array.getElem?_eq_some_iff.1 hr).1
    have g10 := H10.out.1.below hbx
    have g0 := H0.out.1.below hbx
    rw [Nat.add_zero] at g0
    have G10 := Lib.hid g10
    have G0 := Lib.hid g0
    obtain ⟨z0, z1, z2, z3⟩ := row4 hz
    have y0 := row_free hz 0
    have y1 := row_free hz 1
    have y2 := row_free hz 2
    have y3 := row_free hz 3
    have HZ := Lib.hid hz
    have HRR := Lib.hid hr
    clear g10 g0 hz hr
    have hwY : IntKind.i64.wrap Y = Y := IntWalk.i64_in _ (by omega)
    by_cases hXY : X = Y
    · subst hXY
      obtain ⟨C, hC⟩ : ∃ C, chk (be s3) x0 (be s1) (be s7) = C := ⟨_, rfl⟩
      have hK : okRec (be s3) x0 (be s1) (be s7) = decide (C = 0) := by
        rw [← hC]
        unfold chk
        cases okRec (be s3) x0 (be s1) (be s7) <;> rfl
      have HK := Lib.hid hK
      have HC := Lib.hid hC
      clear hC hK
      go_wp2_with fail
      first | (go_region_with (first | (go_at_call 46; ((with_reducible refine (be_any (some ⟨b, o + 10, none⟩) s10 2 (c - 10) _ H10.out.2.2.symm ?_ H10.out.2.1 (by omega)).mono ?_); exact G10.out; rintro e w' ⟨rfl, rfl⟩; rw [HX.out])) | (go_at_call 20; ((with_reducible refine (sum_any (some ⟨b, o, none⟩) s0 10 c _ H0.out.2.2.symm ?_ H0.out.2.1 (by omega)).mono ?_); exact G0.out; rintro e w' ⟨rfl, rfl⟩; rw [HY.out])) | (go_at_call 23; ((with_reducible refine (check_any (be s3) x0 (be s1) (be s7) _ hx0b.1 hx0b.2).mono ?_); rintro e w2 ⟨rfl, hb3⟩; have hb2 := undrew hb3; rw [HC.out]; obtain ⟨p0, p1, p2, p3⟩ := row4 (keep_row hb2 HRR.out); obtain ⟨v0, v1, v2, v3⟩ := row4 (keep_row hb2 HZ.out); have u0 := row_free (keep_row hb2 HZ.out) 0; have u1 := row_free (keep_row hb2 HZ.out) 1; have u2 := row_free (keep_row hb2 HZ.out) 2; have u3 := row_free (keep_row hb2 HZ.out) 3; have HB2 := Lib.hid hb2; clear hb2 hb3)))) | fail
      all_goals go_wp2_with fail
      all_goals refine bodyPost_ret (read_res (set4 (keep_row HB2.out HZ.out) _ _ _ _) _ _ rfl rfl) rfl ⟨?_, read_end2 (keep_on hbx HB2.out)⟩
      all_goals (rw [beq_self_eq_true, Bool.true_and, HK.out]; first | rfl | skip)
    · have hne : (X == Y) = false := by simpa using hXY
      clear hXY
      go_wp2_with fail
      first | (go_region_with (first | (go_at_call 46; ((with_reducible refine (be_any (some ⟨b, o + 10, none⟩) s10 2 (c - 10) _ H10.out.2.2.symm ?_ H10.out.2.1 (by omega)).mono ?_); exact G10.out; rintro e w' ⟨rfl, rfl⟩; rw [HX.out])) | (go_at_call 20; ((with_reducible refine (sum_any (some ⟨b, o, none⟩) s0 10 c _ H0.out.2.2.symm ?_ H0.out.2.1 (by omega)).mono ?_); exact G0.out; rintro e w' ⟨rfl, rfl⟩; rw [HY.out])))) | fail
      all_goals go_wp2_with fail
      all_goals refine bodyPost_ret (read_res_drew (set4 HZ.out _ _ _ _) _ _ rfl rfl) rfl ⟨?_, read_end hbx⟩
      all_goals (rw [hne]; rfl)
end Go.Proofs.YtdcgminjamofmaaDoor
