/- The law MachinesText of crimplaw41: for every station and every text it returns true, where lives does. -/
import Derived.Test.YtjdmkgnlakonbaaGreatDoorMw
import Derived.Test.YtjdmkgnlakonbaaGreatDoorMvd
namespace Go.Proofs.YtjdmkgnlakonbaaGreatDoor
open Go.RowKit Go.Lib

def LawRetM (w : World) (e : Ending) (w' : World) : Prop := e = .returned (.bool true) ∧ Below w.heap.size w w'
def Lives41 (w : World) : Prop := ∀ w', Below w.heap.size w w' → Calls Tryz.prog 4 #[] w' (LawRetM w')
theorem cut_size {k : Nat} {a : Int} (h : goodSt k a) : 5 ≤ (txtB k a false).size := by
  unfold txtB
  rw [if_pos h, bsOf_size]
  simp only [txtL, ouL, underL, List.length_append, List.length_cons, Bool.false_eq_true, if_false]
  omega
set_option maxHeartbeats 4000000 in
set_option maxRecDepth 100000 in
set_option linter.unusedSimpArgs false in
theorem lawM_any (k : Nat) (a : Int) (o : Bool) (s : ByteArray) (w : World) (HLV : Lives41 w) (hM : Mx w) : Calls Tryz.prog 3 #[.agg #[.int .u8 k, .int .i64 a, .bool o], .string s] w (LawRetM w) := by
  have HLV := Lib.hid HLV
  have HM := Lib.hid hM
  clear hM
  have H := (Bx.start w).new #[.int .u8 k, .int .i64 a, .bool o] 24 rfl
  go_enter Tryz.func3, Tryz.ntmps3
  go_upto_region 1 with fail
  obtain ⟨W, hW⟩ : ∃ W, W = w.alloc (.cells #[.int .u8 k, .int .i64 a, .bool o] 24) := ⟨_, rfl⟩
  rw [← hW] at H ⊢
  clear hW
  obtain ⟨N, hN⟩ : ∃ N, N = w.heap.size := ⟨_, rfl⟩
  rw [← hN] at H ⊢
  clear hN
  by_cases hs : s.size > 40
  · have q0 : (s.size : Int) > 40 := by omega
    go_wp2_with fail
    refine (HLV.out _ H.below).mono ?_
    rintro e w9 ⟨rfl, hb9⟩
    go_wp2_with fail
    go_ret
    exact ⟨rfl, (H.call hb9).below⟩
  · have q0 : ¬ (s.size : Int) > 40 := by omega
    have HS : Hid (s.size ≤ 40) := Lib.hid (by omega)
    clear hs
    obtain ⟨⟨a0, a1, a2⟩, _⟩ := blk3 (H.blk 0 _ _ _ rfl)
    go_upto_region 4 with fail
    clear q0
    obtain ⟨g, hg⟩ : ∃ g, decide (goodSt k a) = g := ⟨_, rfl⟩
    have HG := Lib.hid hg
    clear hg
    go_cut [26] from 14 to 26 (fun s26 wx => s26 = .bool g ∧ W = wx)
    case first =>
      as_aux_lemma =>
      by_cases h1 : k ≤ 7
      · have q1 : (k : Int) ≤ 7 := by omega
        by_cases h2 : 1 ≤ a
        · by_cases h3 : a ≤ 512
          · go_wp2_with fail
            go_meet
            exact ⟨by rw [← HG.out, decide_eq_true ⟨h1, h2, h3⟩], rfl⟩
          · go_wp2_with fail
            go_meet
            exact ⟨by rw [← HG.out, decide_eq_false fun h => by have := h.2.2; omega], rfl⟩
        · go_wp2_with fail
          go_meet
          exact ⟨by rw [← HG.out, decide_eq_false fun h => by have := h.2.1; omega], rfl⟩
      · have q1 : ¬ (k : Int) ≤ 7 := by omega
        go_wp2_with fail
        go_meet
        exact ⟨by rw [← HG.out, decide_eq_false fun h => by have := h.1; omega], rfl⟩
    case rest =>
      obtain ⟨rfl, rfl⟩ := hcut
      go_upto_if 26 with fail
      go_cut [5] from 5 to 57 (fun s5 wx => s5 = .string (txtB k a o) ∧ Hid (Bx w [(N, #[.int .u8 k, .int .i64 a, .bool o], 24)] wx))
      case first =>
        cases g
        · have HG0 : Hid (¬ goodSt k a) := Lib.hid (of_decide_eq_false HG.out)
          go_wp2_with fail
          go_meet
          exact ⟨by unfold txtB; rw [if_neg HG0.out]; rfl, Lib.hid H⟩
        · have hg : goodSt k a := of_decide_eq_true HG.out
          have HG : Hid (goodSt k a) := Lib.hid hg
          obtain ⟨g1, g2, g3⟩ := hg
          have q1 : (k : Int) < 8 := by omega
          have zw := (word_facts g1).2
          have zi := (itoa_facts g2 g3).2.1
          rw [← bsOf_size] at zw zi
          have z1 : ¬ 9223372036854775807 < (bsOf (wordW k)).size + 1 := by omega
          have z2 : ¬ 9223372036854775807 < (bsOf (wordW k)).size + 1 + (bsOf (itoa a)).size := by omega
          have z3 : ¬ 9223372036854775807 < (bsOf (wordW k)).size + 1 + (bsOf (itoa a)).size + 6 := by omega
          clear g1 g2 g3 zw zi
          obtain ⟨S, hSd⟩ : ∃ S : World → Prop, S = fun W' => (W'.cell? ⟨N, 0, none⟩ = some (.int .u8 k) ∧ W'.cell? ⟨N, 1, none⟩ = some (.int .i64 a)) ∧ Below W.heap.size W W' := ⟨_, rfl⟩
          have HSA : Hid (∀ W', Below W.heap.size W W' → S W') := Lib.hid fun W' h => by
            subst hSd
            exact ⟨⟨below_cell h a0, below_cell h a1⟩, h⟩
          have HSO : Hid (∀ W', S W' → W'.cell? ⟨N, 0, none⟩ = some (.int .u8 k) ∧ W'.cell? ⟨N, 1, none⟩ = some (.int .i64 a)) := Lib.hid fun W' h => by subst hSd; exact h.1
          have HIT := Lib.hid fun (W' : World) (h : Mx W') => itoa_any a HG.out.2.1 HG.out.2.2 W' h
          clear hSd a0 a1 a2
          obtain ⟨w2, hw2⟩ : ∃ w2, w2 = W := ⟨_, rfl⟩
          rw [← hw2] at H HSA ⊢
          clear hw2
          have H2 := H
          clear H
          go_upto_region 5 with fail
          refine wp_region_held_drew (S := S) (by kernel_rfl) (HSA.out _ (Below.refl _ _).drew) (fun hS => ?_)
          have hb : Below w2.heap.size w2 w2.drew := (Below.refl _ _).drew
          obtain ⟨X0, hX0⟩ : ∃ W, W = w2.drew := ⟨_, rfl⟩
          rw [← hX0] at hb hS ⊢
          clear hX0
          refine wpAnyH_take (i := 1) (v := ?_) rfl (by kernel_rfl) (by kernel_rfl) (by kernel_rfl) (fun _ _ _ h => h) (Or.inl ⟨by rfl, ?_⟩) hS ?_
          rotate_left
          · intro w0 hSw
            have hSw := HSO.out _ hSw
            go_split_ands
            go_simp
            try with_reducible rfl
          try simp only [Act.put, List.getElem_toArray, List.getElem_cons_zero, List.setIfInBounds_toArray, List.set_cons_zero, List.set_cons_succ]
          refine wpAnyH_take (i := 2) (v := ?_) rfl (by kernel_rfl) (by kernel_rfl) (by kernel_rfl) (fun _ _ _ h => h) (Or.inl ⟨by rfl, ?_⟩) hS ?_
          rotate_left
          · intro w0 hSw
            have hSw := HSO.out _ hSw
            go_split_ands
            go_simp
            try with_reducible rfl
          try simp only [Act.put, List.getElem_toArray, List.getElem_cons_zero, List.getElem_cons_succ, List.setIfInBounds_toArray, List.set_cons_zero, List.set_cons_succ]
          refine wpAnyH_take (i := 6) (v := ?_) rfl (by kernel_rfl) (by kernel_rfl) (by kernel_rfl) (fun _ _ _ h => h) (Or.inl ⟨by rfl, ?_⟩) hS ?_
          rotate_left
          · intro w0 hSw
            have hSw := HSO.out _ hSw
            go_split_ands
            go_simp
            try with_reducible rfl
          try simp only [Act.put, List.getElem_toArray, List.getElem_cons_zero, List.getElem_cons_succ, List.setIfInBounds_toArray, List.set_cons_zero, List.set_cons_succ]
          refine wpAnyH_take (i := 7) (v := ?_) rfl (by kernel_rfl) (by kernel_rfl) (by kernel_rfl) (fun _ _ _ h => h) (Or.inl ⟨by rfl, ?_⟩) hS ?_
          rotate_left
          · intro w0 hSw
            have hSw := HSO.out _ hSw
            go_split_ands
            go_simp
            try with_reducible rfl
          try simp only [Act.put, List.getElem_toArray, List.getElem_cons_zero, List.getElem_cons_succ, List.setIfInBounds_toArray, List.set_cons_zero, List.set_cons_succ]
          refine wpAnyH_ready (rs := [0, 8]) (by kernel_rfl) (by simp) (AllReadyH.cons rfl (fun K hK => ?_) (AllReadyH.cons rfl (fun K hK => ?_) AllReadyH.nil))
          · go_simp
            have hc : (X0.alloc (.cells wordsV.toArray 9)).cell? ⟨X0.heap.size, k, none⟩ = some (.string (bsOf (wordW k))) := words_cell X0 HG.out.1
            have hb : Below w2.heap.size w2 (X0.alloc (.cells wordsV.toArray 9)) := hb.alloc hb.size _
            refine hK.out _ (X0.alloc (.cells wordsV.toArray 9)) (HSA.out _ hb) (fun hS => ?_)
            clear hK K
            obtain ⟨X1, hX1⟩ : ∃ X1, X1 = X0.alloc (.cells wordsV.toArray 9) := ⟨_, rfl⟩
            rw [← hX1] at hc hb hS ⊢
            clear hX1
            obtain ⟨PW, hP⟩ : ∃ P, P = X0.heap.size := ⟨_, rfl⟩
            rw [← hP] at hc ⊢
            clear hP
            obtain ⟨S2, hS2⟩ : ∃ S2 : World → Prop, S2 = fun W' => (W'.cell? ⟨N, 0, none⟩ = some (.int .u8 k) ∧ W'.cell? ⟨N, 1, none⟩ = some (.int .i64 a) ∧ W'.cell? ⟨PW, k, none⟩ = some (.string (bsOf (wordW k)))) ∧ Below w2.heap.size w2 W' := ⟨_, rfl⟩
            have HSB : Hid (∀ W', Below X1.heap.size X1 W' → S2 W') := Lib.hid fun W' h => by
              subst hS2
              exact ⟨⟨below_cell h (HSO.out _ hS).1, below_cell h (HSO.out _ hS).2, below_cell h hc⟩, hb.trans (h.mono hb.size)⟩
            have HSW : ∀ W', S2 W' → S W' := fun W' h => by
              subst hS2
              exact HSA.out _ h.2
            have HSO : Hid (∀ W', S2 W' → W'.cell? ⟨N, 0, none⟩ = some (.int .u8 k) ∧ W'.cell? ⟨N, 1, none⟩ = some (.int .i64 a) ∧ W'.cell? ⟨PW, k, none⟩ = some (.string (bsOf (wordW k)))) := Lib.hid fun W' h => by
              subst hS2
              exact h.1
            have hS : S2 X1 := HSB.out _ (Below.refl _ _)
            refine wpAnyH_strong (S' := S2) HSW _ _ _ _ ?_
            clear hS2 HSW
            refine wpAnyH_take (i := 3) (v := ?_) rfl (by kernel_rfl) (by kernel_rfl) (by kernel_rfl) (fun _ _ _ h => h) (Or.inl ⟨by rfl, ?_⟩) hS ?_
            rotate_left
            · intro w0 hSw
              have hSw := HSO.out _ hSw
              go_split_ands
              go_simp
              try with_reducible rfl
            try simp only [Act.put, List.getElem_toArray, List.getElem_cons_zero, List.getElem_cons_succ, List.setIfInBounds_toArray, List.set_cons_zero, List.set_cons_succ]
            refine wpAnyH_take (i := 4) (v := ?_) rfl (by kernel_rfl) (by kernel_rfl) (by kernel_rfl) (fun _ _ _ h => h) (Or.inl ⟨by rfl, ?_⟩) hS ?_
            rotate_left
            · intro w0 hSw
              have hSw := HSO.out _ hSw
              go_split_ands
              go_simp
              try with_reducible rfl
            try simp only [Act.put, List.getElem_toArray, List.getElem_cons_zero, List.getElem_cons_succ, List.setIfInBounds_toArray, List.set_cons_zero, List.set_cons_succ]
            refine wpAnyH_take (i := 5) (v := ?_) rfl (by kernel_rfl) (by kernel_rfl) (by kernel_rfl) (fun _ _ _ h => h) (Or.inl ⟨by rfl, ?_⟩) hS ?_
            rotate_left
            · intro w0 hSw
              have hSw := HSO.out _ hSw
              go_split_ands
              go_simp
              try with_reducible rfl
            try simp only [Act.put, List.getElem_toArray, List.getElem_cons_zero, List.getElem_cons_succ, List.setIfInBounds_toArray, List.set_cons_zero, List.set_cons_succ]
            refine wpAnyH_ready (rs := [8]) (by kernel_rfl) (by simp) (AllReadyH.cons rfl (fun K hK => ?_) AllReadyH.nil)
            go_simp
            refine (HIT.out _ (HM.out.below (H2.below.trans (hb.mono H2.below.size)))).mono ?_
            rintro e X2 ⟨rfl, hbm⟩
            refine hK.out _ _ (HSB.out _ hbm) (fun hS => ?_)
            have hb := hb.trans (hbm.mono hb.size)
            clear hK K hbm
            refine wpAnyH_take (i := 9) (v := ?_) rfl (by kernel_rfl) (by kernel_rfl) (by kernel_rfl) (fun _ _ _ h => h) (Or.inl ⟨by rfl, ?_⟩) hS ?_
            rotate_left
            · intro w0 hSw
              have hSw := HSO.out _ hSw
              go_split_ands
              go_simp
              try with_reducible rfl
            try simp only [Act.put, List.getElem_toArray, List.getElem_cons_zero, List.getElem_cons_succ, List.setIfInBounds_toArray, List.set_cons_zero, List.set_cons_succ]
            refine wpAnyH_take (i := 10) (v := ?_) rfl (by kernel_rfl) (by kernel_rfl) (by kernel_rfl) (fun _ _ _ h => h) (Or.inl ⟨by rfl, ?_⟩) hS ?_
            rotate_left
            · intro w0 hSw
              have hSw := HSO.out _ hSw
              go_split_ands
              go_simp
              try with_reducible rfl
            try simp only [Act.put, List.getElem_toArray, List.getElem_cons_zero, List.getElem_cons_succ, List.setIfInBounds_toArray, List.set_cons_zero, List.set_cons_succ]
            refine wpAnyH_take (i := 11) (v := ?_) rfl (by kernel_rfl) (by kernel_rfl) (by kernel_rfl) (fun _ _ _ h => h) (Or.inl ⟨by rfl, ?_⟩) hS ?_
            rotate_left
            · intro w0 hSw
              have hSw := HSO.out _ hSw
              go_split_ands
              go_simp
              try with_reducible rfl
            try simp only [Act.put, List.getElem_toArray, List.getElem_cons_zero, List.getElem_cons_succ, List.setIfInBounds_toArray, List.set_cons_zero, List.set_cons_succ]
            refine wpAnyH_done (by kernel_rfl) ?_ _
            rw [txt_under HG.out]
            have H3 := H2.call hb
            clear H2 hb z1 z2 z3 q1 HSO HSB HSA
            obtain ⟨⟨a0, a1, a2⟩, _⟩ := blk3 (H3.blk 0 _ _ _ rfl)
            cases o
            · go_upto_region 8 with fail
              go_wp2_with fail
              refine (parse_any (txtB k a false) (by have := txt_size k a false; omega) _ (HM.out.below H3.below)).mono ?_
              rintro e w5 ⟨k', a', o', er, rfl, hp, hb⟩
              obtain ⟨rfl, rfl, rfl, rfl⟩ : k' = k ∧ a' = a ∧ o' = false ∧ er = 0 := by
                rcases hp with ⟨rfl, h1, h2⟩ | ⟨_, _, _, _, h⟩
                · obtain ⟨h3, h4, h5⟩ := txt_inj HG.out h1 h2
                  exact ⟨h3.symm, h4.symm, h5.symm, rfl⟩
                · exact absurd rfl (h k a false HG.out)
              have H4 := H3.call hb
              clear hb hp H3 a0 a1 a2
              have H5 := H4.new #[.int .u8 k', .int .i64 a', .bool false] 24 rfl
              obtain ⟨⟨a0, a1, a2⟩, _⟩ := blk3 (H5.blk 0 _ _ _ rfl)
              obtain ⟨⟨b0, b1, b2⟩, _⟩ := blk3 (H5.blk 1 _ _ _ rfl)
              go_upto_region 9 with fail
              obtain ⟨Q, hQ⟩ : ∃ Q, Q = w5.heap.size := ⟨_, rfl⟩
              rw [← hQ] at H5 b0 b1 b2 ⊢
              obtain ⟨W5, hW5⟩ : ∃ W, W = w5.alloc (.cells #[.int .u8 k', .int .i64 a', .bool false] 24) := ⟨_, rfl⟩
              rw [← hW5] at H5 a0 a1 a2 b0 b1 b2 ⊢
              clear hW5
              clear hQ H4
              go_wp2_with fail
              go_meet
              exact ⟨rfl, Lib.hid (H5.upto 1)⟩
            · obtain ⟨m, hm⟩ : ∃ m, (txtB k a false).size = m + 5 := ⟨(txtB k a false).size - 5, by have := cut_size HG.out; omega⟩
              have hm2 := txt_size k a false
              have z5 : wrap64 (((txtB k a false).size : Int) - 5) = (m : Int) := by rw [IntWalk.wrap64_in _ (by omega)]; omega
              have z6 : (m : Int) ≤ (((txtB k a false).size : Nat) : Int) := by omega
              have z7 : ¬ 9223372036854775807 < m + 4 := by omega
              have hcut2 : (txtB k a false).extract 0 m ++ { data := #[111, 118, 101, 114] } = txtB k a true := by
                have h := txt_cut HG.out
                rw [hm] at h
                exact h
              have HCUT := Lib.hid hcut2
              clear hm2 hcut2
              go_upto_region 8 with fail
              rw [HCUT.out]
              go_wp2_with fail
              refine (parse_any (txtB k a true) (by have := txt_size k a true; omega) _ (HM.out.below H3.below)).mono ?_
              rintro e w5 ⟨k', a', o', er, rfl, hp, hb⟩
              obtain ⟨rfl, rfl, rfl, rfl⟩ : k' = k ∧ a' = a ∧ o' = true ∧ er = 0 := by
                rcases hp with ⟨rfl, h1, h2⟩ | ⟨_, _, _, _, h⟩
                · obtain ⟨h3, h4, h5⟩ := txt_inj HG.out h1 h2
                  exact ⟨h3.symm, h4.symm, h5.symm, rfl⟩
                · exact absurd rfl (h k a true HG.out)
              have H4 := H3.call hb
              clear hb hp H3 a0 a1 a2
              have H5 := H4.new #[.int .u8 k', .int .i64 a', .bool true] 24 rfl
              obtain ⟨⟨a0, a1, a2⟩, _⟩ := blk3 (H5.blk 0 _ _ _ rfl)
              obtain ⟨⟨b0, b1, b2⟩, _⟩ := blk3 (H5.blk 1 _ _ _ rfl)
              go_upto_region 9 with fail
              obtain ⟨Q, hQ⟩ : ∃ Q, Q = w5.heap.size := ⟨_, rfl⟩
              rw [← hQ] at H5 b0 b1 b2 ⊢
              obtain ⟨W5, hW5⟩ : ∃ W, W = w5.alloc (.cells #[.int .u8 k', .int .i64 a', .bool true] 24) := ⟨_, rfl⟩
              rw [← hW5] at H5 a0 a1 a2 b0 b1 b2 ⊢
              clear hW5
              clear hQ H4
              go_wp2_with fail
              go_meet
              exact ⟨rfl, Lib.hid (H5.upto 1)⟩
          · go_simp
            refine (HIT.out _ (HM.out.below (H2.below.trans (hb.mono H2.below.size)))).mono ?_
            rintro e X1 ⟨rfl, hbm⟩
            have hb := hb.trans (hbm.mono hb.size)
            refine hK.out _ _ (HSA.out _ hb) (fun hS => ?_)
            clear hK K hbm
            refine wpAnyH_ready (rs := [0]) (by kernel_rfl) (by simp) (AllReadyH.cons rfl (fun K hK => ?_) AllReadyH.nil)
            go_simp
            have hc : (X1.alloc (.cells wordsV.toArray 9)).cell? ⟨X1.heap.size, k, none⟩ = some (.string (bsOf (wordW k))) := words_cell X1 HG.out.1
            have hb : Below w2.heap.size w2 (X1.alloc (.cells wordsV.toArray 9)) := hb.alloc hb.size _
            refine hK.out _ (X1.alloc (.cells wordsV.toArray 9)) (HSA.out _ hb) (fun hS => ?_)
            clear hK K
            obtain ⟨X2, hX2⟩ : ∃ X2, X2 = X1.alloc (.cells wordsV.toArray 9) := ⟨_, rfl⟩
            rw [← hX2] at hc hb hS ⊢
            clear hX2
            obtain ⟨PW, hP⟩ : ∃ P, P = X1.heap.size := ⟨_, rfl⟩
            rw [← hP] at hc ⊢
            clear hP
            obtain ⟨S2, hS2⟩ : ∃ S2 : World → Prop, S2 = fun W' => (W'.cell? ⟨N, 0, none⟩ = some (.int .u8 k) ∧ W'.cell? ⟨N, 1, none⟩ = some (.int .i64 a) ∧ W'.cell? ⟨PW, k, none⟩ = some (.string (bsOf (wordW k)))) ∧ Below w2.heap.size w2 W' := ⟨_, rfl⟩
            have HSB : Hid (∀ W', Below X2.heap.size X2 W' → S2 W') := Lib.hid fun W' h => by
              subst hS2
              exact ⟨⟨below_cell h (HSO.out _ hS).1, below_cell h (HSO.out _ hS).2, below_cell h hc⟩, hb.trans (h.mono hb.size)⟩
            have HSW : ∀ W', S2 W' → S W' := fun W' h => by
              subst hS2
              exact HSA.out _ h.2
            have HSO : Hid (∀ W', S2 W' → W'.cell? ⟨N, 0, none⟩ = some (.int .u8 k) ∧ W'.cell? ⟨N, 1, none⟩ = some (.int .i64 a) ∧ W'.cell? ⟨PW, k, none⟩ = some (.string (bsOf (wordW k)))) := Lib.hid fun W' h => by
              subst hS2
              exact h.1
            have hS : S2 X2 := HSB.out _ (Below.refl _ _)
            refine wpAnyH_strong (S' := S2) HSW _ _ _ _ ?_
            clear hS2 HSW
            refine wpAnyH_take (i := 3) (v := ?_) rfl (by kernel_rfl) (by kernel_rfl) (by kernel_rfl) (fun _ _ _ h => h) (Or.inl ⟨by rfl, ?_⟩) hS ?_
            rotate_left
            · intro w0 hSw
              have hSw := HSO.out _ hSw
              go_split_ands
              go_simp
              try with_reducible rfl
            try simp only [Act.put, List.getElem_toArray, List.getElem_cons_zero, List.getElem_cons_succ, List.setIfInBounds_toArray, List.set_cons_zero, List.set_cons_succ]
            refine wpAnyH_take (i := 4) (v := ?_) rfl (by kernel_rfl) (by kernel_rfl) (by kernel_rfl) (fun _ _ _ h => h) (Or.inl ⟨by rfl, ?_⟩) hS ?_
            rotate_left
            · intro w0 hSw
              have hSw := HSO.out _ hSw
              go_split_ands
              go_simp
              try with_reducible rfl
            try simp only [Act.put, List.getElem_toArray, List.getElem_cons_zero, List.getElem_cons_succ, List.setIfInBounds_toArray, List.set_cons_zero, List.set_cons_succ]
            refine wpAnyH_take (i := 5) (v := ?_) rfl (by kernel_rfl) (by kernel_rfl) (by kernel_rfl) (fun _ _ _ h => h) (Or.inl ⟨by rfl, ?_⟩) hS ?_
            rotate_left
            · intro w0 hSw
              have hSw := HSO.out _ hSw
              go_split_ands
              go_simp
              try with_reducible rfl
            try simp only [Act.put, List.getElem_toArray, List.getElem_cons_zero, List.getElem_cons_succ, List.setIfInBounds_toArray, List.set_cons_zero, List.set_cons_succ]
            refine wpAnyH_take (i := 9) (v := ?_) rfl (by kernel_rfl) (by kernel_rfl) (by kernel_rfl) (fun _ _ _ h => h) (Or.inl ⟨by rfl, ?_⟩) hS ?_
            rotate_left
            · intro w0 hSw
              have hSw := HSO.out _ hSw
              go_split_ands
              go_simp
              try with_reducible rfl
            try simp only [Act.put, List.getElem_toArray, List.getElem_cons_zero, List.getElem_cons_succ, List.setIfInBounds_toArray, List.set_cons_zero, List.set_cons_succ]
            refine wpAnyH_take (i := 10) (v := ?_) rfl (by kernel_rfl) (by kernel_rfl) (by kernel_rfl) (fun _ _ _ h => h) (Or.inl ⟨by rfl, ?_⟩) hS ?_
            rotate_left
            · intro w0 hSw
              have hSw := HSO.out _ hSw
              go_split_ands
              go_simp
              try with_reducible rfl
            try simp only [Act.put, List.getElem_toArray, List.getElem_cons_zero, List.getElem_cons_succ, List.setIfInBounds_toArray, List.set_cons_zero, List.set_cons_succ]
            refine wpAnyH_take (i := 11) (v := ?_) rfl (by kernel_rfl) (by kernel_rfl) (by kernel_rfl) (fun _ _ _ h => h) (Or.inl ⟨by rfl, ?_⟩) hS ?_
            rotate_left
            · intro w0 hSw
              have hSw := HSO.out _ hSw
              go_split_ands
              go_simp
              try with_reducible rfl
            try simp only [Act.put, List.getElem_toArray, List.getElem_cons_zero, List.getElem_cons_succ, List.setIfInBounds_toArray, List.set_cons_zero, List.set_cons_succ]
            refine wpAnyH_done (by kernel_rfl) ?_ _
            rw [txt_under HG.out]
            have H3 := H2.call hb
            clear H2 hb z1 z2 z3 q1 HSO HSB HSA
            obtain ⟨⟨a0, a1, a2⟩, _⟩ := blk3 (H3.blk 0 _ _ _ rfl)
            cases o
            · go_upto_region 8 with fail
              go_wp2_with fail
              refine (parse_any (txtB k a false) (by have := txt_size k a false; omega) _ (HM.out.below H3.below)).mono ?_
              rintro e w5 ⟨k', a', o', er, rfl, hp, hb⟩
              obtain ⟨rfl, rfl, rfl, rfl⟩ : k' = k ∧ a' = a ∧ o' = false ∧ er = 0 := by
                rcases hp with ⟨rfl, h1, h2⟩ | ⟨_, _, _, _, h⟩
                · obtain ⟨h3, h4, h5⟩ := txt_inj HG.out h1 h2
                  exact ⟨h3.symm, h4.symm, h5.symm, rfl⟩
                · exact absurd rfl (h k a false HG.out)
              have H4 := H3.call hb
              clear hb hp H3 a0 a1 a2
              have H5 := H4.new #[.int .u8 k', .int .i64 a', .bool false] 24 rfl
              obtain ⟨⟨a0, a1, a2⟩, _⟩ := blk3 (H5.blk 0 _ _ _ rfl)
              obtain ⟨⟨b0, b1, b2⟩, _⟩ := blk3 (H5.blk 1 _ _ _ rfl)
              go_upto_region 9 with fail
              obtain ⟨Q, hQ⟩ : ∃ Q, Q = w5.heap.size := ⟨_, rfl⟩
              rw [← hQ] at H5 b0 b1 b2 ⊢
              obtain ⟨W5, hW5⟩ : ∃ W, W = w5.alloc (.cells #[.int .u8 k', .int .i64 a', .bool false] 24) := ⟨_, rfl⟩
              rw [← hW5] at H5 a0 a1 a2 b0 b1 b2 ⊢
              clear hW5
              clear hQ H4
              go_wp2_with fail
              go_meet
              exact ⟨rfl, Lib.hid (H5.upto 1)⟩
            · obtain ⟨m, hm⟩ : ∃ m, (txtB k a false).size = m + 5 := ⟨(txtB k a false).size - 5, by have := cut_size HG.out; omega⟩
              have hm2 := txt_size k a false
              have z5 : wrap64 (((txtB k a false).size : Int) - 5) = (m : Int) := by rw [IntWalk.wrap64_in _ (by omega)]; omega
              have z6 : (m : Int) ≤ (((txtB k a false).size : Nat) : Int) := by omega
              have z7 : ¬ 9223372036854775807 < m + 4 := by omega
              have hcut2 : (txtB k a false).extract 0 m ++ { data := #[111, 118, 101, 114] } = txtB k a true := by
                have h := txt_cut HG.out
                rw [hm] at h
                exact h
              have HCUT := Lib.hid hcut2
              clear hm2 hcut2
              go_upto_region 8 with fail
              rw [HCUT.out]
              go_wp2_with fail
              refine (parse_any (txtB k a true) (by have := txt_size k a true; omega) _ (HM.out.below H3.below)).mono ?_
              rintro e w5 ⟨k', a', o', er, rfl, hp, hb⟩
              obtain ⟨rfl, rfl, rfl, rfl⟩ : k' = k ∧ a' = a ∧ o' = true ∧ er = 0 := by
                rcases hp with ⟨rfl, h1, h2⟩ | ⟨_, _, _, _, h⟩
                · obtain ⟨h3, h4, h5⟩ := txt_inj HG.out h1 h2
                  exact ⟨h3.symm, h4.symm, h5.symm, rfl⟩
                · exact absurd rfl (h k a true HG.out)
              have H4 := H3.call hb
              clear hb hp H3 a0 a1 a2
              have H5 := H4.new #[.int .u8 k', .int .i64 a', .bool true] 24 rfl
              obtain ⟨⟨a0, a1, a2⟩, _⟩ := blk3 (H5.blk 0 _ _ _ rfl)
              obtain ⟨⟨b0, b1, b2⟩, _⟩ := blk3 (H5.blk 1 _ _ _ rfl)
              go_upto_region 9 with fail
              obtain ⟨Q, hQ⟩ : ∃ Q, Q = w5.heap.size := ⟨_, rfl⟩
              rw [← hQ] at H5 b0 b1 b2 ⊢
              obtain ⟨W5, hW5⟩ : ∃ W, W = w5.alloc (.cells #[.int .u8 k', .int .i64 a', .bool true] 24) := ⟨_, rfl⟩
              rw [← hW5] at H5 a0 a1 a2 b0 b1 b2 ⊢
              clear hW5
              clear hQ H4
              go_wp2_with fail
              go_meet
              exact ⟨rfl, Lib.hid (H5.upto 1)⟩
      case rest =>
        obtain ⟨rfl, HB⟩ := hcut
        clear a0 a1 a2 H
        have H3 := HB.out
        clear HB
        go_wp2_with fail
        refine (parse_any s HS.out _ (HM.out.below H3.below)).mono ?_
        rintro e w5 ⟨k2, a2, o2, er, rfl, hp, hb⟩
        have HP := Lib.hid hp
        have H4 := H3.call hb
        clear hb hp H3
        have H5 := H4.new #[.int .u8 k2, .int .i64 a2, .bool o2] 24 rfl
        go_upto_region 12 with fail
        obtain ⟨Q, hQ⟩ : ∃ Q, Q = w5.heap.size := ⟨_, rfl⟩
        rw [← hQ] at H5 ⊢
        obtain ⟨W5, hW5⟩ : ∃ W, W = w5.alloc (.cells #[.int .u8 k2, .int .i64 a2, .bool o2] 24) := ⟨_, rfl⟩
        rw [← hW5] at H5 ⊢
        clear hW5
        clear hQ H4
        obtain ⟨⟨x0, x1, x2⟩, _⟩ := blk3 (H5.blk 0 _ _ _ rfl)
        go_wp2_with fail
        refine (text_any k a o _ (HM.out.below H5.below)).mono ?_
        rintro e w6 ⟨rfl, hb⟩
        have H6 := H5.call hb
        clear hb H5 x0 x1 x2
        obtain ⟨⟨b0, b1, b2⟩, _⟩ := blk3 (H6.blk 1 _ _ _ rfl)
        rcases HP.out with ⟨rfl, hg2, he⟩ | ⟨rfl, rfl, rfl, rfl, _⟩
        · have HG2 := Lib.hid hg2
          have HE := Lib.hid he
          clear hg2 he HP
          go_wp2_with fail
          refine (text_any k2 a2 o2 _ (HM.out.below H6.below)).mono ?_
          rintro e w7 ⟨rfl, hb⟩
          have H7 := H6.call hb
          clear hb H6 b0 b1 b2
          have hbq : ((txtB k2 a2 o2).toList == s.toList) = true := (bytes_beq_iff _ _).2 HE.out.symm
          have hnq : (s.toList == []) = false := by
            have h := (bytes_beq_false_iff s ByteArray.empty).2 (by rw [HE.out]; exact txt_ne HG2.out)
            simpa using h
          go_wp2_with fail
          refine (HLV.out _ H7.below).mono ?_
          rintro e w9 ⟨rfl, hb9⟩
          go_wp2_with fail
          go_ret
          exact ⟨rfl, (H7.call hb9).below⟩
        · clear HP
          go_wp2_with fail
          refine (HLV.out _ H6.below).mono ?_
          rintro e w9 ⟨rfl, hb9⟩
          go_wp2_with fail
          go_ret
          exact ⟨rfl, (H6.call hb9).below⟩
end Go.Proofs.YtjdmkgnlakonbaaGreatDoor
