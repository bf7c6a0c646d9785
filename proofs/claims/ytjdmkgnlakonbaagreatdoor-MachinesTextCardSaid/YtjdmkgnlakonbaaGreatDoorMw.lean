/- Contracts of machines.words, Station.valid, Text and Parse: what they return, for every station and every text of at most 40 bytes. The condition: Mx. -/
import Derived.Test.YtjdmkgnlakonbaaGreatDoorPw
import Derived.Deep.RegionHeld
namespace Go.Proofs.YtjdmkgnlakonbaaGreatDoor
open Go.RowKit Go.Lib

def wordsV : List Value := wordL.map fun l => Value.string (bsOf l)
theorem words_any (w : World) : Calls Tryz.prog 17 #[] w fun e w' => e = .returned (.slice (some ⟨w.heap.size, 0, none⟩) 8 8) ∧ w' = w.alloc (.cells wordsV.toArray 9) := by
  go_enter Tryz.func17, Tryz.ntmps17
  go_wp2_with fail
  go_ret
  exact ⟨rfl, rfl⟩
set_option maxHeartbeats 1000000 in
theorem valid_any (k : Nat) (a : Int) (o : Bool) (w : World) : Calls Tryz.prog 19 #[.agg #[.int .u8 k, .int .i64 a, .bool o]] w (RetBelow (.bool (decide (goodSt k a))) w) := by
  have H := (Bx.start w).new #[.int .u8 k, .int .i64 a, .bool o] 24 rfl
  obtain ⟨R, hR⟩ : ∃ R, decide (goodSt k a) = R := ⟨_, rfl⟩
  rw [hR]
  have HR := Lib.hid hR
  clear hR
  go_enter Tryz.func19, Tryz.ntmps19
  go_upto_region 1 with fail
  obtain ⟨W, hW⟩ : ∃ W, W = w.alloc (.cells #[.int .u8 k, .int .i64 a, .bool o] 24) := ⟨_, rfl⟩
  rw [← hW] at H ⊢
  clear hW
  obtain ⟨N, hN⟩ : ∃ N, N = w.heap.size := ⟨_, rfl⟩
  rw [← hN] at H ⊢
  have HNN := Lib.hid hN
  clear hN
  clear HNN
  obtain ⟨⟨a0, a1, a2⟩, _⟩ := blk3 (H.blk 0 _ _ _ rfl)
  by_cases h1 : k ≤ 7
  · have q1 : (k : Int) ≤ 7 := by omega
    by_cases h2 : 1 ≤ a
    · by_cases h3 : a ≤ 512
      · have HF : Hid (R = true) := Lib.hid (by rw [← HR.out]; exact decide_eq_true ⟨h1, h2, h3⟩)
        go_wp2_with fail
        go_ret
        exact ⟨by rw [HF.out]; rfl, H.below⟩
      · have HF : Hid (R = false) := Lib.hid (by rw [← HR.out]; exact decide_eq_false fun h => h3 h.2.2)
        go_wp2_with fail
        go_ret
        exact ⟨by rw [HF.out]; rfl, H.below⟩
    · have HF : Hid (R = false) := Lib.hid (by rw [← HR.out]; exact decide_eq_false fun h => h2 h.2.1)
      go_wp2_with fail
      go_ret
      exact ⟨by rw [HF.out]; rfl, H.below⟩
  · have q1 : ¬ (k : Int) ≤ 7 := by omega
    have HF : Hid (R = false) := Lib.hid (by rw [← HR.out]; exact decide_eq_false fun h => h1 h.1)
    go_wp2_with fail
    go_ret
    exact ⟨by rw [HF.out]; rfl, H.below⟩
theorem txt_over {k : Nat} {a : Int} (h : goodSt k a) : bsOf (wordW k) ++ ⟨#[32]⟩ ++ bsOf (itoa a) ++ ⟨#[32, 111, 118, 101, 114]⟩ = txtB k a true := by
  unfold txtB
  rw [if_pos h]
  show bsOf (wordW k) ++ bsOf [32] ++ bsOf (itoa a) ++ bsOf [32, 111, 118, 101, 114] = _
  rw [bsOf_append, bsOf_append, bsOf_append]
  simp [txtL, ouL, overL]
theorem txt_under {k : Nat} {a : Int} (h : goodSt k a) : bsOf (wordW k) ++ ⟨#[32]⟩ ++ bsOf (itoa a) ++ ⟨#[32, 117, 110, 100, 101, 114]⟩ = txtB k a false := by
  unfold txtB
  rw [if_pos h]
  show bsOf (wordW k) ++ bsOf [32] ++ bsOf (itoa a) ++ bsOf [32, 117, 110, 100, 101, 114] = _
  rw [bsOf_append, bsOf_append, bsOf_append]
  simp [txtL, ouL, underL]
theorem wordsV_at {k : Nat} (h : k ≤ 7) : wordsV[k]? = some (.string (bsOf (wordW k))) := by
  match k, h with
  | 0, _ | 1, _ | 2, _ | 3, _ | 4, _ | 5, _ | 6, _ | 7, _ => rfl
theorem words_cell (w : World) {k : Nat} (h : k ≤ 7) : (w.alloc (.cells wordsV.toArray 9)).cell? ⟨w.heap.size, k, none⟩ = some (.string (bsOf (wordW k))) := by
  rw [cell_of_row _ _ k wordsV.toArray 9 (0, 0) (heap_alloc_new w _)]
  simpa using wordsV_at h
set_option maxHeartbeats 4000000 in
set_option maxRecDepth 100000 in
set_option linter.unusedSimpArgs false in
theorem text_any (k : Nat) (a : Int) (o : Bool) (w : World) (hM : Mx w) : Calls Tryz.prog 7 #[.agg #[.int .u8 k, .int .i64 a, .bool o]] w (RetBelow (.string (txtB k a o)) w) := by
  have H := (Bx.start w).new #[.int .u8 k, .int .i64 a, .bool o] 24 rfl
  obtain ⟨R, hR⟩ : ∃ R, txtB k a o = R := ⟨_, rfl⟩
  rw [hR]
  have HR := Lib.hid hR
  have HM := Lib.hid hM
  clear hR hM
  go_enter Tryz.func7, Tryz.ntmps7
  go_upto_region 1 with fail
  obtain ⟨W, hW⟩ : ∃ W, W = w.alloc (.cells #[.int .u8 k, .int .i64 a, .bool o] 24) := ⟨_, rfl⟩
  rw [← hW] at H ⊢
  clear hW
  obtain ⟨N, hN⟩ : ∃ N, N = w.heap.size := ⟨_, rfl⟩
  rw [← hN] at H ⊢
  clear hN
  have hr := H.range 0 rfl
  obtain ⟨⟨a0, a1, a2⟩, _⟩ := blk3 (H.blk 0 _ _ _ rfl)
  go_wp2_with fail
  refine (valid_any k a o _).mono ?_
  rintro e w2 ⟨rfl, hb⟩
  have H2 := H.call hb
  clear a0 a1 a2 hr hb H
  obtain ⟨⟨a0, a1, a2⟩, _⟩ := blk3 (H2.blk 0 _ _ _ rfl)
  by_cases hg : goodSt k a
  · rw [decide_eq_true hg]
    obtain ⟨g1, g2, g3⟩ := hg
    have HG := Lib.hid (show goodSt k a from ⟨g1, g2, g3⟩)
    have q1 : (k : Int) < 8 := by omega
    have zw := (word_facts g1).2
    have zi := (itoa_facts g2 g3).2.1
    rw [← bsOf_size] at zw zi
    have z1 : ¬ 9223372036854775807 < (bsOf (wordW k)).size + 1 := by omega
    have z2 : ¬ 9223372036854775807 < (bsOf (wordW k)).size + 1 + (bsOf (itoa a)).size := by omega
    have z3 : ¬ 9223372036854775807 < (bsOf (wordW k)).size + 1 + (bsOf (itoa a)).size + 6 := by omega
    have z4 : ¬ 9223372036854775807 < (bsOf (wordW k)).size + 1 + (bsOf (itoa a)).size + 5 := by omega
    clear g1 g2 g3 zw zi
    obtain ⟨S, hSd⟩ : ∃ S : World → Prop, S = fun W' => (W'.cell? ⟨N, 0, none⟩ = some (.int .u8 k) ∧ W'.cell? ⟨N, 1, none⟩ = some (.int .i64 a)) ∧ Below w2.heap.size w2 W' := ⟨_, rfl⟩
    have HSA : Hid (∀ W', Below w2.heap.size w2 W' → S W') := Lib.hid fun W' h => by
      subst hSd
      exact ⟨⟨below_cell h a0, below_cell h a1⟩, h⟩
    have HSO : Hid (∀ W', S W' → W'.cell? ⟨N, 0, none⟩ = some (.int .u8 k) ∧ W'.cell? ⟨N, 1, none⟩ = some (.int .i64 a)) := Lib.hid fun W' h => by subst hSd; exact h.1
    have HIT := Lib.hid fun (W' : World) (h : Mx W') => itoa_any a HG.out.2.1 HG.out.2.2 W' h
    clear hSd
    cases o
    · go_upto_region 5 with fail
      refine wp_region_held_drew (S := S) (by kernel_rfl) (HSA.out _ (Below.refl _ _).drew) (fun hS => ?_)
      have hb : Below w2.heap.size w2 w2.drew := (Below.refl _ _).drew
      obtain ⟨X0, hX0⟩ : ∃ W, W = w2.drew := ⟨_, rfl⟩
      rw [← hX0] at hb hS ⊢
      clear hX0
      refine wpAnyH_take (i := 1) (v := ?_) rfl (by kernel_rfl) (by kernel_rfl) (by kernel_rfl) (fun _ _ _ h => h) (Or.inl ⟨by rfl, ?_⟩) hS ?_
      rotate_left
      · intro w0 hSw
        have hSw := HSO.out _ hSw
        go_split_ands
        go_simp
        try with_reducible rfl
      try simp only [Act.put, List.getElem_toArray, List.getElem_cons_zero, List.setIfInBounds_toArray, List.set_cons_zero, List.set_cons_succ]
      refine wpAnyH_take (i := 2) (v := ?_) rfl (by kernel_rfl) (by kernel_rfl) (by kernel_rfl) (fun _ _ _ h => h) (Or.inl ⟨by rfl, ?_⟩) hS ?_
      rotate_left
      · intro w0 hSw
        have hSw := HSO.out _ hSw
        go_split_ands
        go_simp
        try with_reducible rfl
      try simp only [Act.put, List.getElem_toArray, List.getElem_cons_zero, List.getElem_cons_succ, List.setIfInBounds_toArray, List.set_cons_zero, List.set_cons_succ]
      refine wpAnyH_take (i := 6) (v := ?_) rfl (by kernel_rfl) (by kernel_rfl) (by kernel_rfl) (fun _ _ _ h => h) (Or.inl ⟨by rfl, ?_⟩) hS ?_
      rotate_left
      · intro w0 hSw
        have hSw := HSO.out _ hSw
        go_split_ands
        go_simp
        try with_reducible rfl
      try simp only [Act.put, List.getElem_toArray, List.getElem_cons_zero, List.getElem_cons_succ, List.setIfInBounds_toArray, List.set_cons_zero, List.set_cons_succ]
      refine wpAnyH_take (i := 7) (v := ?_) rfl (by kernel_rfl) (by kernel_rfl) (by kernel_rfl) (fun _ _ _ h => h) (Or.inl ⟨by rfl, ?_⟩) hS ?_
      rotate_left
      · intro w0 hSw
        have hSw := HSO.out _ hSw
        go_split_ands
        go_simp
        try with_reducible rfl
      try simp only [Act.put, List.getElem_toArray, List.getElem_cons_zero, List.getElem_cons_succ, List.setIfInBounds_toArray, List.set_cons_zero, List.set_cons_succ]
      refine wpAnyH_ready (rs := [0]) (by kernel_rfl) (by simp) (AllReadyH.cons rfl (fun K hK => ?_) AllReadyH.nil)
      go_simp
      refine (words_any _).mono ?_
      rintro e X1 ⟨rfl, hX1⟩
      have hc : X1.cell? ⟨X0.heap.size, k, none⟩ = some (.string (bsOf (wordW k))) := by subst hX1; exact words_cell X0 HG.out.1
      have hb : Below w2.heap.size w2 X1 := by subst hX1; exact hb.alloc hb.size _
      clear hX1
      refine hK.out _ _ (HSA.out _ hb) (fun hS => ?_)
      clear hK K
      obtain ⟨PW, hP⟩ : ∃ P, P = X0.heap.size := ⟨_, rfl⟩
      rw [← hP] at hc ⊢
      clear hP
      obtain ⟨S2, hS2⟩ : ∃ S2 : World → Prop, S2 = fun W' => (W'.cell? ⟨N, 0, none⟩ = some (.int .u8 k) ∧ W'.cell? ⟨N, 1, none⟩ = some (.int .i64 a) ∧ W'.cell? ⟨PW, k, none⟩ = some (.string (bsOf (wordW k)))) ∧ Below w2.heap.size w2 W' := ⟨_, rfl⟩
      have HSB : Hid (∀ W', Below X1.heap.size X1 W' → S2 W') := Lib.hid fun W' h => by
        subst hS2
        exact ⟨⟨below_cell h (HSO.out _ hS).1, below_cell h (HSO.out _ hS).2, below_cell h hc⟩, hb.trans (h.mono hb.size)⟩
      have HSW : ∀ W', S2 W' → S W' := fun W' h => by
        subst hS2
        exact HSA.out _ h.2
      have HSO : Hid (∀ W', S2 W' → W'.cell? ⟨N, 0, none⟩ = some (.int .u8 k) ∧ W'.cell? ⟨N, 1, none⟩ = some (.int .i64 a) ∧ W'.cell? ⟨PW, k, none⟩ = some (.string (bsOf (wordW k)))) := Lib.hid fun W' h => by
        subst hS2
        exact h.1
      have hS : S2 X1 := HSB.out _ (Below.refl _ _)
      refine wpAnyH_strong (S' := S2) HSW _ _ _ _ ?_
      clear hS2 HSW
      refine wpAnyH_take (i := 3) (v := ?_) rfl (by kernel_rfl) (by kernel_rfl) (by kernel_rfl) (fun _ _ _ h => h) (Or.inl ⟨by rfl, ?_⟩) hS ?_
      rotate_left
      · intro w0 hSw
        have hSw := HSO.out _ hSw
        go_split_ands
        go_simp
        try with_reducible rfl
      try simp only [Act.put, List.getElem_toArray, List.getElem_cons_zero, List.getElem_cons_succ, List.setIfInBounds_toArray, List.set_cons_zero, List.set_cons_succ]
      refine wpAnyH_take (i := 4) (v := ?_) rfl (by kernel_rfl) (by kernel_rfl) (by kernel_rfl) (fun _ _ _ h => h) (Or.inl ⟨by rfl, ?_⟩) hS ?_
      rotate_left
      · intro w0 hSw
        have hSw := HSO.out _ hSw
        go_split_ands
        go_simp
        try with_reducible rfl
      try simp only [Act.put, List.getElem_toArray, List.getElem_cons_zero, List.getElem_cons_succ, List.setIfInBounds_toArray, List.set_cons_zero, List.set_cons_succ]
      refine wpAnyH_take (i := 5) (v := ?_) rfl (by kernel_rfl) (by kernel_rfl) (by kernel_rfl) (fun _ _ _ h => h) (Or.inl ⟨by rfl, ?_⟩) hS ?_
      rotate_left
      · intro w0 hSw
        have hSw := HSO.out _ hSw
        go_split_ands
        go_simp
        try with_reducible rfl
      try simp only [Act.put, List.getElem_toArray, List.getElem_cons_zero, List.getElem_cons_succ, List.setIfInBounds_toArray, List.set_cons_zero, List.set_cons_succ]
      refine wpAnyH_ready (rs := [8]) (by kernel_rfl) (by simp) (AllReadyH.cons rfl (fun K hK => ?_) AllReadyH.nil)
      go_simp
      refine (HIT.out _ (HM.out.below (H2.below.trans (hb.mono H2.below.size)))).mono ?_
      rintro e X2 ⟨rfl, hbm⟩
      refine hK.out _ _ (HSB.out _ hbm) (fun hS => ?_)
      have hb := hb.trans (hbm.mono hb.size)
      clear hK K hbm
      refine wpAnyH_take (i := 9) (v := ?_) rfl (by kernel_rfl) (by kernel_rfl) (by kernel_rfl) (fun _ _ _ h => h) (Or.inl ⟨by rfl, ?_⟩) hS ?_
      rotate_left
      · intro w0 hSw
        have hSw := HSO.out _ hSw
        go_split_ands
        go_simp
        try with_reducible rfl
      try simp only [Act.put, List.getElem_toArray, List.getElem_cons_zero, List.getElem_cons_succ, List.setIfInBounds_toArray, List.set_cons_zero, List.set_cons_succ]
      refine wpAnyH_take (i := 10) (v := ?_) rfl (by kernel_rfl) (by kernel_rfl) (by kernel_rfl) (fun _ _ _ h => h) (Or.inl ⟨by rfl, ?_⟩) hS ?_
      rotate_left
      · intro w0 hSw
        have hSw := HSO.out _ hSw
        go_split_ands
        go_simp
        try with_reducible rfl
      try simp only [Act.put, List.getElem_toArray, List.getElem_cons_zero, List.getElem_cons_succ, List.setIfInBounds_toArray, List.set_cons_zero, List.set_cons_succ]
      refine wpAnyH_take (i := 11) (v := ?_) rfl (by kernel_rfl) (by kernel_rfl) (by kernel_rfl) (fun _ _ _ h => h) (Or.inl ⟨by rfl, ?_⟩) hS ?_
      rotate_left
      · intro w0 hSw
        have hSw := HSO.out _ hSw
        go_split_ands
        go_simp
        try with_reducible rfl
      try simp only [Act.put, List.getElem_toArray, List.getElem_cons_zero, List.getElem_cons_succ, List.setIfInBounds_toArray, List.set_cons_zero, List.set_cons_succ]
      refine wpAnyH_done (by kernel_rfl) ?_ _
      go_wp2_with fail
      go_ret
      exact ⟨by rw [← HR.out, ← txt_under HG.out]; rfl, H2.below.trans (hb.mono H2.below.size)⟩
    · go_upto_region 4 with fail
      refine wp_region_held_drew (S := S) (by kernel_rfl) (HSA.out _ (Below.refl _ _).drew) (fun hS => ?_)
      have hb : Below w2.heap.size w2 w2.drew := (Below.refl _ _).drew
      obtain ⟨X0, hX0⟩ : ∃ W, W = w2.drew := ⟨_, rfl⟩
      rw [← hX0] at hb hS ⊢
      clear hX0
      refine wpAnyH_take (i := 1) (v := ?_) rfl (by kernel_rfl) (by kernel_rfl) (by kernel_rfl) (fun _ _ _ h => h) (Or.inl ⟨by rfl, ?_⟩) hS ?_
      rotate_left
      · intro w0 hSw
        have hSw := HSO.out _ hSw
        go_split_ands
        go_simp
        try with_reducible rfl
      try simp only [Act.put, List.getElem_toArray, List.getElem_cons_zero, List.setIfInBounds_toArray, List.set_cons_zero, List.set_cons_succ]
      refine wpAnyH_take (i := 2) (v := ?_) rfl (by kernel_rfl) (by kernel_rfl) (by kernel_rfl) (fun _ _ _ h => h) (Or.inl ⟨by rfl, ?_⟩) hS ?_
      rotate_left
      · intro w0 hSw
        have hSw := HSO.out _ hSw
        go_split_ands
        go_simp
        try with_reducible rfl
      try simp only [Act.put, List.getElem_toArray, List.getElem_cons_zero, List.getElem_cons_succ, List.setIfInBounds_toArray, List.set_cons_zero, List.set_cons_succ]
      refine wpAnyH_take (i := 6) (v := ?_) rfl (by kernel_rfl) (by kernel_rfl) (by kernel_rfl) (fun _ _ _ h => h) (Or.inl ⟨by rfl, ?_⟩) hS ?_
      rotate_left
      · intro w0 hSw
        have hSw := HSO.out _ hSw
        go_split_ands
        go_simp
        try with_reducible rfl
      try simp only [Act.put, List.getElem_toArray, List.getElem_cons_zero, List.getElem_cons_succ, List.setIfInBounds_toArray, List.set_cons_zero, List.set_cons_succ]
      refine wpAnyH_take (i := 7) (v := ?_) rfl (by kernel_rfl) (by kernel_rfl) (by kernel_rfl) (fun _ _ _ h => h) (Or.inl ⟨by rfl, ?_⟩) hS ?_
      rotate_left
      · intro w0 hSw
        have hSw := HSO.out _ hSw
        go_split_ands
        go_simp
        try with_reducible rfl
      try simp only [Act.put, List.getElem_toArray, List.getElem_cons_zero, List.getElem_cons_succ, List.setIfInBounds_toArray, List.set_cons_zero, List.set_cons_succ]
      refine wpAnyH_ready (rs := [0]) (by kernel_rfl) (by simp) (AllReadyH.cons rfl (fun K hK => ?_) AllReadyH.nil)
      go_simp
      refine (words_any _).mono ?_
      rintro e X1 ⟨rfl, hX1⟩
      have hc : X1.cell? ⟨X0.heap.size, k, none⟩ = some (.string (bsOf (wordW k))) := by subst hX1; exact words_cell X0 HG.out.1
      have hb : Below w2.heap.size w2 X1 := by subst hX1; exact hb.alloc hb.size _
      clear hX1
      refine hK.out _ _ (HSA.out _ hb) (fun hS => ?_)
      clear hK K
      obtain ⟨PW, hP⟩ : ∃ P, P = X0.heap.size := ⟨_, rfl⟩
      rw [← hP] at hc ⊢
      clear hP
      obtain ⟨S2, hS2⟩ : ∃ S2 : World → Prop, S2 = fun W' => (W'.cell? ⟨N, 0, none⟩ = some (.int .u8 k) ∧ W'.cell? ⟨N, 1, none⟩ = some (.int .i64 a) ∧ W'.cell? ⟨PW, k, none⟩ = some (.string (bsOf (wordW k)))) ∧ Below w2.heap.size w2 W' := ⟨_, rfl⟩
      have HSB : Hid (∀ W', Below X1.heap.size X1 W' → S2 W') := Lib.hid fun W' h => by
        subst hS2
        exact ⟨⟨below_cell h (HSO.out _ hS).1, below_cell h (HSO.out _ hS).2, below_cell h hc⟩, hb.trans (h.mono hb.size)⟩
      have HSW : ∀ W', S2 W' → S W' := fun W' h => by
        subst hS2
        exact HSA.out _ h.2
      have HSO : Hid (∀ W', S2 W' → W'.cell? ⟨N, 0, none⟩ = some (.int .u8 k) ∧ W'.cell? ⟨N, 1, none⟩ = some (.int .i64 a) ∧ W'.cell? ⟨PW, k, none⟩ = some (.string (bsOf (wordW k)))) := Lib.hid fun W' h => by
        subst hS2
        exact h.1
      have hS : S2 X1 := HSB.out _ (Below.refl _ _)
      refine wpAnyH_strong (S' := S2) HSW _ _ _ _ ?_
      clear hS2 HSW
      refine wpAnyH_take (i := 3) (v := ?_) rfl (by kernel_rfl) (by kernel_rfl) (by kernel_rfl) (fun _ _ _ h => h) (Or.inl ⟨by rfl, ?_⟩) hS ?_
      rotate_left
      · intro w0 hSw
        have hSw := HSO.out _ hSw
        go_split_ands
        go_simp
        try with_reducible rfl
      try simp only [Act.put, List.getElem_toArray, List.getElem_cons_zero, List.getElem_cons_succ, List.setIfInBounds_toArray, List.set_cons_zero, List.set_cons_succ]
      refine wpAnyH_take (i := 4) (v := ?_) rfl (by kernel_rfl) (by kernel_rfl) (by kernel_rfl) (fun _ _ _ h => h) (Or.inl ⟨by rfl, ?_⟩) hS ?_
      rotate_left
      · intro w0 hSw
        have hSw := HSO.out _ hSw
        go_split_ands
        go_simp
        try with_reducible rfl
      try simp only [Act.put, List.getElem_toArray, List.getElem_cons_zero, List.getElem_cons_succ, List.setIfInBounds_toArray, List.set_cons_zero, List.set_cons_succ]
      refine wpAnyH_take (i := 5) (v := ?_) rfl (by kernel_rfl) (by kernel_rfl) (by kernel_rfl) (fun _ _ _ h => h) (Or.inl ⟨by rfl, ?_⟩) hS ?_
      rotate_left
      · intro w0 hSw
        have hSw := HSO.out _ hSw
        go_split_ands
        go_simp
        try with_reducible rfl
      try simp only [Act.put, List.getElem_toArray, List.getElem_cons_zero, List.getElem_cons_succ, List.setIfInBounds_toArray, List.set_cons_zero, List.set_cons_succ]
      refine wpAnyH_ready (rs := [8]) (by kernel_rfl) (by simp) (AllReadyH.cons rfl (fun K hK => ?_) AllReadyH.nil)
      go_simp
      refine (HIT.out _ (HM.out.below (H2.below.trans (hb.mono H2.below.size)))).mono ?_
      rintro e X2 ⟨rfl, hbm⟩
      refine hK.out _ _ (HSB.out _ hbm) (fun hS => ?_)
      have hb := hb.trans (hbm.mono hb.size)
      clear hK K hbm
      refine wpAnyH_take (i := 9) (v := ?_) rfl (by kernel_rfl) (by kernel_rfl) (by kernel_rfl) (fun _ _ _ h => h) (Or.inl ⟨by rfl, ?_⟩) hS ?_
      rotate_left
      · intro w0 hSw
        have hSw := HSO.out _ hSw
        go_split_ands
        go_simp
        try with_reducible rfl
      try simp only [Act.put, List.getElem_toArray, List.getElem_cons_zero, List.getElem_cons_succ, List.setIfInBounds_toArray, List.set_cons_zero, List.set_cons_succ]
      refine wpAnyH_take (i := 10) (v := ?_) rfl (by kernel_rfl) (by kernel_rfl) (by kernel_rfl) (fun _ _ _ h => h) (Or.inl ⟨by rfl, ?_⟩) hS ?_
      rotate_left
      · intro w0 hSw
        have hSw := HSO.out _ hSw
        go_split_ands
        go_simp
        try with_reducible rfl
      try simp only [Act.put, List.getElem_toArray, List.getElem_cons_zero, List.getElem_cons_succ, List.setIfInBounds_toArray, List.set_cons_zero, List.set_cons_succ]
      refine wpAnyH_take (i := 11) (v := ?_) rfl (by kernel_rfl) (by kernel_rfl) (by kernel_rfl) (fun _ _ _ h => h) (Or.inl ⟨by rfl, ?_⟩) hS ?_
      rotate_left
      · intro w0 hSw
        have hSw := HSO.out _ hSw
        go_split_ands
        go_simp
        try with_reducible rfl
      try simp only [Act.put, List.getElem_toArray, List.getElem_cons_zero, List.getElem_cons_succ, List.setIfInBounds_toArray, List.set_cons_zero, List.set_cons_succ]
      refine wpAnyH_done (by kernel_rfl) ?_ _
      go_wp2_with fail
      go_ret
      exact ⟨by rw [← HR.out, ← txt_over HG.out]; rfl, H2.below.trans (hb.mono H2.below.size)⟩
  · rw [decide_eq_false hg]
    go_wp2_with fail
    go_ret
    exact ⟨by rw [← HR.out]; unfold txtB; rw [if_neg hg]; rfl, H2.below⟩
end Go.Proofs.YtjdmkgnlakonbaaGreatDoor
namespace Go.Proofs.YtjdmkgnlakonbaaGreatDoor
open Go.RowKit Go.Lib

def ParseRet (s : ByteArray) (w : World) (e : Ending) (w' : World) : Prop := ∃ (k : Nat) (a : Int) (o : Bool) (er : Int), e = .returned (.tuple #[.agg #[.int .u8 k, .int .i64 a, .bool o], .int .i64 er]) ∧ ParseIs s k a o er ∧ Below w.heap.size w w'
theorem wordIdx_any (p : Nat) (x : ByteArray) (w : World) (h : ∀ j, j < 8 → w.cell? ⟨p, 0 + j, none⟩ = some (.string ((wordL.map bsOf).getD j ByteArray.empty))) :
    Calls Tryz.prog 16 #[.slice (some ⟨p, 0, none⟩) 8 8, .string x] w fun e w' => e = .returned (.int .i64 (idxOfS (wordL.map bsOf) x)) ∧ w' = w :=
  Any.slices_Index_string Tryz.laysIndexS p 0 8 8 (wordL.map bsOf) x w (by decide) (by decide) h
theorem words_cells {w : World} {X : World} (h : X = w.alloc (.cells wordsV.toArray 9)) {X2 : World} (hb : Below X.heap.size X X2) : ∀ j, j < 8 → X2.cell? ⟨w.heap.size, 0 + j, none⟩ = some (.string ((wordL.map bsOf).getD j ByteArray.empty)) := by
  intro j hj
  rw [Nat.zero_add]
  have hc := words_cell w (k := j) (by omega)
  rw [← h] at hc
  rw [below_cell hb hc]
  match j, hj with
  | 0, _ | 1, _ | 2, _ | 3, _ | 4, _ | 5, _ | 6, _ | 7, _ => rfl
set_option maxHeartbeats 4000000 in
set_option maxRecDepth 100000 in
set_option linter.unusedSimpArgs false in
theorem parse_any (s : ByteArray) (hs : s.size ≤ 40) (w : World) (hM : Mx w) : Calls Tryz.prog 6 #[.string s] w (ParseRet s w) := by
  have HM := Lib.hid hM
  have HS := Lib.hid hs
  clear hM
  have H := (Bx.start w).new #[.int .u8 0, .int .i64 0, .bool false] 24 rfl
  obtain ⟨x, r, hw, hr, hl, hle⟩ := words_first s
  have HLE := Lib.hid hle
  have HW := Lib.hid hw
  obtain ⟨c, hc⟩ : ∃ c, c = countB s spB := ⟨_, rfl⟩
  rw [← hc] at hr hl
  have HC := Lib.hid hc
  have HR := Lib.hid hr
  have HL := Lib.hid hl
  clear hw hr hl hle hc
  go_enter Tryz.func6, Tryz.ntmps6
  go_upto_region 1 with fail
  obtain ⟨W, hW⟩ : ∃ W, W = w.alloc (.cells #[.int .u8 0, .int .i64 0, .bool false] 24) := ⟨_, rfl⟩
  rw [← hW] at H ⊢
  clear hW
  obtain ⟨N, hN⟩ : ∃ N, N = w.heap.size := ⟨_, rfl⟩
  rw [← hN] at H ⊢
  clear hN
  go_wp2_with fail
  refine (split_any s HS.out _ (HM.out.below H.below)).mono ?_
  rintro e w2 ⟨rfl, hw2⟩
  rw [HW.out] at hw2
  rw [← HC.out]
  have H2 := H.new ((x :: r).map Value.string).toArray 9 rfl
  rw [← hw2] at H2
  obtain ⟨P, hP⟩ : ∃ P, P = W.heap.size := ⟨_, rfl⟩
  rw [← hP] at H2 ⊢
  clear hw2 hP H W
  have hx0 : w2.cell? ⟨P, 0, none⟩ = some (.string x) := by
    rw [cell_of_row _ _ 0 _ 9 (0, 0) (H2.blk 1 _ _ _ rfl)]; simp
  obtain ⟨S, hSd⟩ : ∃ S : World → Prop, S = fun W' => W'.cell? ⟨P, 0, none⟩ = some (.string x) ∧ Below w2.heap.size w2 W' := ⟨_, rfl⟩
  have HSA : Hid (∀ W', Below w2.heap.size w2 W' → S W') := Lib.hid fun W' h => by
    subst hSd
    exact ⟨below_cell h hx0, h⟩
  have HSO : Hid (∀ W', S W' → W'.cell? ⟨P, 0, none⟩ = some (.string x)) := Lib.hid fun W' h => by subst hSd; exact h.1
  clear hSd hx0
  have q0 : (0 : Int) < (c : Int) + 1 := by omega
  have q1 : (0 : Int) < ((c + 1 : Nat) : Int) := by omega
  go_upto_region 2 with fail
  refine wp_region_held_drew (S := S) (by kernel_rfl) (HSA.out _ (Below.refl _ _).drew) (fun hS => ?_)
  have hb : Below w2.heap.size w2 w2.drew := (Below.refl _ _).drew
  obtain ⟨X0, hX0⟩ : ∃ W, W = w2.drew := ⟨_, rfl⟩
  rw [← hX0] at hb hS ⊢
  clear hX0
  refine wpAnyH_take (i := 1) (v := ?_) rfl (by kernel_rfl) (by kernel_rfl) (by kernel_rfl) (fun _ _ _ h => h) (Or.inl ⟨by rfl, ?_⟩) hS ?_
  rotate_left
  · intro w0 hSw
    have hSw := HSO.out _ hSw
    go_split_ands
    go_simp
    try with_reducible rfl
  try simp only [Act.put, List.getElem_toArray, List.getElem_cons_zero, List.setIfInBounds_toArray, List.set_cons_zero, List.set_cons_succ]
  refine wpAnyH_take (i := 2) (v := ?_) rfl (by kernel_rfl) (by kernel_rfl) (by kernel_rfl) (fun _ _ _ h => h) (Or.inl ⟨by rfl, ?_⟩) hS ?_
  rotate_left
  · intro w0 hSw
    have hSw := HSO.out _ hSw
    go_split_ands
    go_simp
    try with_reducible rfl
  try simp only [Act.put, List.getElem_toArray, List.getElem_cons_zero, List.getElem_cons_succ, List.setIfInBounds_toArray, List.set_cons_zero, List.set_cons_succ]
  refine wpAnyH_take (i := 3) (v := ?_) rfl (by kernel_rfl) (by kernel_rfl) (by kernel_rfl) (fun _ _ _ h => h) (Or.inl ⟨by rfl, ?_⟩) hS ?_
  rotate_left
  · intro w0 hSw
    have hSw := HSO.out _ hSw
    go_split_ands
    go_simp
    try with_reducible rfl
  try simp only [Act.put, List.getElem_toArray, List.getElem_cons_zero, List.getElem_cons_succ, List.setIfInBounds_toArray, List.set_cons_zero, List.set_cons_succ]
  refine wpAnyH_ready (rs := [0]) (by kernel_rfl) (by simp) (AllReadyH.cons rfl (fun K hK => ?_) AllReadyH.nil)
  go_simp
  refine (words_any _).mono ?_
  rintro e X1 ⟨rfl, hX1⟩
  have hb1 : Below w2.heap.size w2 X1 := by subst hX1; exact hb.alloc hb.size _
  have HI := Lib.hid (wordIdx_any X0.heap.size x X1 (words_cells hX1 (Below.refl _ _)))
  refine hK.out _ _ (HSA.out _ hb1) (fun hS => ?_)
  clear hK K hX1 hb
  refine wpAnyH_ready (rs := [4]) (by kernel_rfl) (by simp) (AllReadyH.cons rfl (fun K hK => ?_) AllReadyH.nil)
  go_simp
  refine HI.out.mono ?_
  rintro e X2 ⟨rfl, rfl⟩
  refine hK.out _ _ (HSA.out _ hb1) (fun hS => ?_)
  clear hK K HI
  refine wpAnyH_take (i := 5) (v := ?_) rfl (by kernel_rfl) (by kernel_rfl) (by kernel_rfl) (fun _ _ _ h => h) (Or.inl ⟨by rfl, ?_⟩) hS ?_
  rotate_left
  · intro w0 hSw
    have hSw := HSO.out _ hSw
    go_split_ands
    go_simp
    try with_reducible rfl
  try simp only [Act.put, List.getElem_toArray, List.getElem_cons_zero, List.getElem_cons_succ, List.setIfInBounds_toArray, List.set_cons_zero, List.set_cons_succ]
  refine wpAnyH_done (by kernel_rfl) ?_ _
  have H3 := H2.call hb1
  clear hb1 HSO HSA H2 q0 q1
  obtain ⟨i, hi⟩ : ∃ i, idxOfS (wordL.map bsOf) x = i := ⟨_, rfl⟩
  have hir := idx_range x
  rw [hi] at hir ⊢
  have HII := Lib.hid hi
  clear hi
  obtain ⟨⟨a0, a1, a2⟩, d0, d1, d2⟩ := blk3 (H3.blk 0 _ _ _ rfl)
  by_cases h3 : c = 2
  · subst h3
    obtain ⟨y, z, rfl⟩ : ∃ y z, r = [y, z] := by
      have h2 := HR.out
      match r, h2 with
      | [y, z], _ => exact ⟨y, z, rfl⟩
    have HW3 : Hid (splitB spB 0 2 s = [x, y, z]) := Lib.hid (by rw [HC.out]; exact HW.out)
    by_cases h0 : i < 0
    · clear hir
      go_wp2_with fail
      have H4 := ((H3.set 0 0 rfl (.int .u8 0)).set 0 1 rfl (.int .i64 0)).set 0 2 rfl (.bool false)
      exact bodyPost_ret (res_cell_tmp rfl rfl (H4.range 0 rfl) Tryz.underlying24 rfl (by kernel_rfl)) rfl ⟨0, 0, false, 4, rfl, .inr ⟨rfl, rfl, rfl, rfl, (parse_word HW3.out (by rw [HII.out]; exact h0))⟩, H4.below⟩
    · obtain ⟨k, rfl⟩ : ∃ k : Nat, i = k := ⟨i.toNat, by omega⟩
      have hk : k ≤ 7 := by omega
      clear hir h0
      have p0 : ¬ (k : Int) < 0 := by omega
      have hrow := H3.blk 1 _ _ _ rfl
      obtain ⟨w3, hw3⟩ : ∃ W, W = X2 := ⟨_, rfl⟩
      rw [← hw3] at H3 a0 a1 a2 d0 d1 d2 hrow ⊢
      have p1 : w3.cell? ⟨P, 1, none⟩ = some (.string y) := by rw [cell_of_row _ _ 1 _ 9 (0, 0) hrow]; simp
      have p2 : w3.cell? ⟨P, 2, none⟩ = some (.string z) := by rw [cell_of_row _ _ 2 _ 9 (0, 0) hrow]; simp
      clear hw3 hrow hS
      have hy : y.size ≤ 1000 := by have := HLE.out y (by simp); have := HS.out; omega
      go_wp2_with fail
      refine (atoi_any y hy _ (HM.out.below H3.below)).mono ?_
      rintro e w4 ⟨v, ex, rfl, hb, hv⟩
      have H4 := H3.call hb
      have hrow := H4.blk 1 _ _ _ rfl
      have p2 : w4.cell? ⟨P, 2, none⟩ = some (.string z) := by rw [cell_of_row _ _ 2 _ 9 (0, 0) hrow]; simp
      have HV := Lib.hid hv
      clear p1 hrow hy a0 a1 a2 d0 d1 d2 hv
      go_upto_region 6 with fail
      have wU : IntKind.u8.wrap (k : Int) = k := IntWalk.u8_in _ (by omega)
      go_upto_region 7 with fail
      have hov : (bsOf overL).toList = [111, 118, 101, 114] := by simp [bsOf, overL]
      obtain ⟨o, ho⟩ : ∃ o, (z.toList == [111, 118, 101, 114]) = o := ⟨_, rfl⟩
      rw [ho]
      have HO : Hid ((z.toList == (bsOf overL).toList) = o) := Lib.hid (by rw [hov]; exact ho)
      clear ho hov p2 wU
      have H5 := H4.new #[.int .u8 k, .int .i64 v, .bool o] 24 rfl
      obtain ⟨Q, hQ⟩ : ∃ Q, Q = w4.heap.size := ⟨_, rfl⟩
      rw [← hQ] at H5 ⊢
      obtain ⟨W5, hW5⟩ : ∃ W, W = w4.alloc (.cells #[.int .u8 k, .int .i64 v, .bool o] 24) := ⟨_, rfl⟩
      rw [← hW5] at H5 ⊢
      clear hW5
      clear hQ hb H3 H4 p0
      obtain ⟨⟨b0, b1, b2⟩, _⟩ := blk3 (H5.blk 2 _ _ _ rfl)
      go_wp2_with fail
      refine (text_any k v o _ (HM.out.below H5.below)).mono ?_
      rintro e w6 ⟨rfl, hb⟩
      have H6 := H5.call hb
      clear hb H5 b0 b1 b2
      obtain ⟨⟨b0, b1, b2⟩, _⟩ := blk3 (H6.blk 2 _ _ _ rfl)
      obtain ⟨⟨a0, a1, a2⟩, d0, d1, d2⟩ := blk3 (H6.blk 0 _ _ _ rfl)
      by_cases ht : txtB k v o = s
      · have hbq : ((txtB k v o).toList == s.toList) = true := (bytes_beq_iff _ _).2 ht
        have HT := Lib.hid ht
        clear ht
        go_wp2_with fail
        have H7 := ((H6.set 0 0 rfl (.int .u8 k)).set 0 1 rfl (.int .i64 v)).set 0 2 rfl (.bool o)
        exact bodyPost_ret (res_cell_tmp rfl rfl (H7.range 0 rfl) Tryz.underlying24 rfl (by kernel_rfl)) rfl ⟨k, v, o, 0, rfl, .inl ⟨rfl, txt_good HT.out HC.out.symm, HT.out.symm⟩, H7.below⟩
      · have hbq : ((txtB k v o).toList == s.toList) = false := (bytes_beq_false_iff _ _).2 ht
        have HT := Lib.hid ht
        clear ht
        have H3 := H6
        clear H6
        go_wp2_with fail
        have H4 := ((H3.set 0 0 rfl (.int .u8 0)).set 0 1 rfl (.int .i64 0)).set 0 2 rfl (.bool false)
        exact bodyPost_ret (res_cell_tmp rfl rfl (H4.range 0 rfl) Tryz.underlying24 rfl (by kernel_rfl)) rfl ⟨0, 0, false, 4, rfl, .inr ⟨rfl, rfl, rfl, rfl, (parse_text HW3.out HII.out HV.out HO.out HT.out)⟩, H4.below⟩
  · have q2 : ¬ (c : Int) + 1 = 3 := by omega
    clear hir
    go_wp2_with fail
    have H4 := ((H3.set 0 0 rfl (.int .u8 0)).set 0 1 rfl (.int .i64 0)).set 0 2 rfl (.bool false)
    exact bodyPost_ret (res_cell_tmp rfl rfl (H4.range 0 rfl) Tryz.underlying24 rfl (by kernel_rfl)) rfl ⟨0, 0, false, 4, rfl, .inr ⟨rfl, rfl, rfl, rfl, (parse_count (by rw [← HC.out]; exact h3))⟩, H4.below⟩
end Go.Proofs.YtjdmkgnlakonbaaGreatDoor
