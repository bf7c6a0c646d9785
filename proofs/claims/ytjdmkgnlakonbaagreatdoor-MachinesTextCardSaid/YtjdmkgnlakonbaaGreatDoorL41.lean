/- machines.box.base at three sides, as a call that the executor knows; lives of crimplaw41 returns true in every world that holds the tables of quarters and of turns, and leaves all memory as it was: a run by the kernel. -/
import Derived.Test.YtjdmkgnlakonbaaGreatDoorKb
import Derived.Test.YtjdmkgnlakonbaaGreatDoorMm
namespace Go.Proofs.YtjdmkgnlakonbaaGreatDoor
open Ex Go.RowKit

theorem south_any (a b c d : Int) (w : World) : Calls Tryz.prog 74 #[.agg #[.int .i64 a, .int .i64 b, .int .i64 c, .int .i64 d]] w (RetBelow (.int .i64 c) w) := by
  have H := (Bx.start w).new #[.int .i64 a, .int .i64 b, .int .i64 c, .int .i64 d] 76 rfl
  go_enter Tryz.func74, Tryz.ntmps74
  go_upto_region 1 with fail
  obtain ⟨W, hW⟩ : ∃ W, W = w.alloc (.cells #[.int .i64 a, .int .i64 b, .int .i64 c, .int .i64 d] 76) := ⟨_, rfl⟩
  rw [← hW] at H ⊢
  clear hW
  obtain ⟨N, hN⟩ : ∃ N, N = w.heap.size := ⟨_, rfl⟩
  rw [← hN] at H ⊢
  have HNN := Lib.hid hN
  clear hN
  obtain ⟨⟨a0, a1, a2, a3⟩, _⟩ := blk4 (H.blk 0 _ _ _ rfl)
  go_wp2_with fail
  go_ret
  exact ⟨rfl, H.below⟩
theorem west_any (a b c d : Int) (w : World) : Calls Tryz.prog 77 #[.agg #[.int .i64 a, .int .i64 b, .int .i64 c, .int .i64 d]] w (RetBelow (.int .i64 a) w) := by
  have H := (Bx.start w).new #[.int .i64 a, .int .i64 b, .int .i64 c, .int .i64 d] 76 rfl
  go_enter Tryz.func77, Tryz.ntmps77
  go_upto_region 1 with fail
  obtain ⟨W, hW⟩ : ∃ W, W = w.alloc (.cells #[.int .i64 a, .int .i64 b, .int .i64 c, .int .i64 d] 76) := ⟨_, rfl⟩
  rw [← hW] at H ⊢
  clear hW
  obtain ⟨N, hN⟩ : ∃ N, N = w.heap.size := ⟨_, rfl⟩
  rw [← hN] at H ⊢
  have HNN := Lib.hid hN
  clear hN
  obtain ⟨⟨a0, a1, a2, a3⟩, _⟩ := blk4 (H.blk 0 _ _ _ rfl)
  go_wp2_with fail
  go_ret
  exact ⟨rfl, H.below⟩
theorem ll_any (b c d : Int) (h0 : -1000 < c) (h1 : c < 1000) (w : World) : Calls Tryz.prog 78 #[.agg #[.int .i64 0, .int .i64 b, .int .i64 c, .int .i64 d]] w (RetBelow (.int .i64 c) w) := by
  have H := (Bx.start w).new #[.int .i64 0, .int .i64 b, .int .i64 c, .int .i64 d] 76 rfl
  have e1 : wrap64 c = c := IntWalk.wrap64_in _ (by omega)
  go_enter Tryz.func78, Tryz.ntmps78
  go_upto_region 1 with fail
  obtain ⟨W, hW⟩ : ∃ W, W = w.alloc (.cells #[.int .i64 0, .int .i64 b, .int .i64 c, .int .i64 d] 76) := ⟨_, rfl⟩
  rw [← hW] at H ⊢
  clear hW
  obtain ⟨N, hN⟩ : ∃ N, N = w.heap.size := ⟨_, rfl⟩
  rw [← hN] at H ⊢
  have HNN := Lib.hid hN
  clear hN
  obtain ⟨⟨a0, a1, a2, a3⟩, _⟩ := blk4 (H.blk 0 _ _ _ rfl)
  go_wp2_with fail
  go_ret
  exact ⟨rfl, H.below⟩
theorem baseIx0 (a b c d : Int) (w : World) : (Instr.index 168 (.agg #[(.func (.func 74) #[.agg #[.int .i64 a, .int .i64 b, .int .i64 c, .int .i64 d]] #[]), (.func (.func 75) #[.agg #[.int .i64 a, .int .i64 b, .int .i64 c, .int .i64 d]] #[]), (.func (.func 76) #[.agg #[.int .i64 a, .int .i64 b, .int .i64 c, .int .i64 d]] #[]), (.func (.func 77) #[.agg #[.int .i64 a, .int .i64 b, .int .i64 c, .int .i64 d]] #[]), (.func (.func 78) #[.agg #[.int .i64 a, .int .i64 b, .int .i64 c, .int .i64 d]] #[]), (.func (.func 79) #[.agg #[.int .i64 a, .int .i64 b, .int .i64 c, .int .i64 d]] #[]), (.func (.func 80) #[.agg #[.int .i64 a, .int .i64 b, .int .i64 c, .int .i64 d]] #[]), (.func (.func 81) #[.agg #[.int .i64 a, .int .i64 b, .int .i64 c, .int .i64 d]] #[])]) (.int .u8 0)).run Tryz.prog w = .ok (.func (.func 74) #[.agg #[.int .i64 a, .int .i64 b, .int .i64 c, .int .i64 d]] #[]) w := by kernel_rfl
set_option maxRecDepth 100000 in
set_option maxHeartbeats 1000000 in
theorem base0_any (a b c d : Int) (w : World) : Calls Tryz.prog 41 #[.agg #[.int .i64 a, .int .i64 b, .int .i64 c, .int .i64 d], .int .u8 0] w (RetBelow (.int .i64 c) w) := by
  have H := (Bx.start w).new #[.int .i64 a, .int .i64 b, .int .i64 c, .int .i64 d] 76 rfl
  have hix := baseIx0 a b c d
  go_enter Tryz.func41, Tryz.ntmps41
  go_upto_region 1 with fail
  obtain ⟨W, hW⟩ : ∃ W, W = w.alloc (.cells #[.int .i64 a, .int .i64 b, .int .i64 c, .int .i64 d] 76) := ⟨_, rfl⟩
  rw [← hW] at H ⊢
  clear hW
  obtain ⟨N, hN⟩ : ∃ N, N = w.heap.size := ⟨_, rfl⟩
  rw [← hN] at H ⊢
  have HNN := Lib.hid hN
  clear hN
  obtain ⟨⟨a0, a1, a2, a3⟩, _⟩ := blk4 (H.blk 0 _ _ _ rfl)
  go_wp2_with fail
  refine (south_any a b c d _).mono ?_
  rintro e w2 ⟨rfl, hb⟩
  go_wp2_with fail
  go_ret
  exact ⟨rfl, (H.call hb).below⟩
theorem baseIx3 (a b c d : Int) (w : World) : (Instr.index 168 (.agg #[(.func (.func 74) #[.agg #[.int .i64 a, .int .i64 b, .int .i64 c, .int .i64 d]] #[]), (.func (.func 75) #[.agg #[.int .i64 a, .int .i64 b, .int .i64 c, .int .i64 d]] #[]), (.func (.func 76) #[.agg #[.int .i64 a, .int .i64 b, .int .i64 c, .int .i64 d]] #[]), (.func (.func 77) #[.agg #[.int .i64 a, .int .i64 b, .int .i64 c, .int .i64 d]] #[]), (.func (.func 78) #[.agg #[.int .i64 a, .int .i64 b, .int .i64 c, .int .i64 d]] #[]), (.func (.func 79) #[.agg #[.int .i64 a, .int .i64 b, .int .i64 c, .int .i64 d]] #[]), (.func (.func 80) #[.agg #[.int .i64 a, .int .i64 b, .int .i64 c, .int .i64 d]] #[]), (.func (.func 81) #[.agg #[.int .i64 a, .int .i64 b, .int .i64 c, .int .i64 d]] #[])]) (.int .u8 3)).run Tryz.prog w = .ok (.func (.func 77) #[.agg #[.int .i64 a, .int .i64 b, .int .i64 c, .int .i64 d]] #[]) w := by kernel_rfl
set_option maxRecDepth 100000 in
set_option maxHeartbeats 1000000 in
theorem base3_any (a b c d : Int) (w : World) : Calls Tryz.prog 41 #[.agg #[.int .i64 a, .int .i64 b, .int .i64 c, .int .i64 d], .int .u8 3] w (RetBelow (.int .i64 a) w) := by
  have H := (Bx.start w).new #[.int .i64 a, .int .i64 b, .int .i64 c, .int .i64 d] 76 rfl
  have hix := baseIx3 a b c d
  go_enter Tryz.func41, Tryz.ntmps41
  go_upto_region 1 with fail
  obtain ⟨W, hW⟩ : ∃ W, W = w.alloc (.cells #[.int .i64 a, .int .i64 b, .int .i64 c, .int .i64 d] 76) := ⟨_, rfl⟩
  rw [← hW] at H ⊢
  clear hW
  obtain ⟨N, hN⟩ : ∃ N, N = w.heap.size := ⟨_, rfl⟩
  rw [← hN] at H ⊢
  have HNN := Lib.hid hN
  clear hN
  obtain ⟨⟨a0, a1, a2, a3⟩, _⟩ := blk4 (H.blk 0 _ _ _ rfl)
  go_wp2_with fail
  refine (west_any a b c d _).mono ?_
  rintro e w2 ⟨rfl, hb⟩
  go_wp2_with fail
  go_ret
  exact ⟨rfl, (H.call hb).below⟩
theorem baseIx4 (b c d : Int) (w : World) : (Instr.index 168 (.agg #[(.func (.func 74) #[.agg #[.int .i64 0, .int .i64 b, .int .i64 c, .int .i64 d]] #[]), (.func (.func 75) #[.agg #[.int .i64 0, .int .i64 b, .int .i64 c, .int .i64 d]] #[]), (.func (.func 76) #[.agg #[.int .i64 0, .int .i64 b, .int .i64 c, .int .i64 d]] #[]), (.func (.func 77) #[.agg #[.int .i64 0, .int .i64 b, .int .i64 c, .int .i64 d]] #[]), (.func (.func 78) #[.agg #[.int .i64 0, .int .i64 b, .int .i64 c, .int .i64 d]] #[]), (.func (.func 79) #[.agg #[.int .i64 0, .int .i64 b, .int .i64 c, .int .i64 d]] #[]), (.func (.func 80) #[.agg #[.int .i64 0, .int .i64 b, .int .i64 c, .int .i64 d]] #[]), (.func (.func 81) #[.agg #[.int .i64 0, .int .i64 b, .int .i64 c, .int .i64 d]] #[])]) (.int .u8 4)).run Tryz.prog w = .ok (.func (.func 78) #[.agg #[.int .i64 0, .int .i64 b, .int .i64 c, .int .i64 d]] #[]) w := by kernel_rfl
set_option maxRecDepth 100000 in
set_option maxHeartbeats 1000000 in
theorem base4_any (b c d : Int) (h0 : -1000 < c) (h1 : c < 1000) (w : World) : Calls Tryz.prog 41 #[.agg #[.int .i64 0, .int .i64 b, .int .i64 c, .int .i64 d], .int .u8 4] w (RetBelow (.int .i64 c) w) := by
  have H := (Bx.start w).new #[.int .i64 0, .int .i64 b, .int .i64 c, .int .i64 d] 76 rfl
  have hc := Lib.hid (And.intro h0 h1)
  clear h0 h1
  have hix := baseIx4 b c d
  go_enter Tryz.func41, Tryz.ntmps41
  go_upto_region 1 with fail
  obtain ⟨W, hW⟩ : ∃ W, W = w.alloc (.cells #[.int .i64 0, .int .i64 b, .int .i64 c, .int .i64 d] 76) := ⟨_, rfl⟩
  rw [← hW] at H ⊢
  clear hW
  obtain ⟨N, hN⟩ : ∃ N, N = w.heap.size := ⟨_, rfl⟩
  rw [← hN] at H ⊢
  have HNN := Lib.hid hN
  clear hN
  obtain ⟨⟨a0, a1, a2, a3⟩, _⟩ := blk4 (H.blk 0 _ _ _ rfl)
  go_wp2_with fail
  refine (ll_any b c d hc.out.1 hc.out.2 _).mono ?_
  rintro e w2 ⟨rfl, hb⟩
  go_wp2_with fail
  go_ret
  exact ⟨rfl, (H.call hb).below⟩
noncomputable def xBase : List AV → St → CRes := fun vs S => match vs with
  | [.agg [.int .i64 a, .int .i64 _, .int .i64 c, .int .i64 _], .int .u8 s] => match ieq s 0 with
    | true => .ok (.int .i64 c) S
    | false => match ieq s 3 with
      | true => .ok (.int .i64 a) S
      | false => match ieq s 4 && (ieq a 0 && (ilt (-1000) c && ilt c 1000)) with
        | true => .ok (.int .i64 c) S
        | false => .no [104]
  | _ => .no [105]
set_option maxRecDepth 100000 in
theorem xBase_ok {W : World} {K : Nat} {xt : FuncId → List AV → St → CRes} (hx : CallOk (Kept.zz W K) Tryz.prog xt) : CallOk (Kept.zz W K) Tryz.prog (xtM 41 xBase xt) := by
  intro g vs S v S' h ρ xs w hxs hw hK hz
  unfold xtM at h
  cases hg : Nat.beq g 41 with
  | false => rw [hg] at h; exact hx g vs S v S' h ρ xs w hxs hw hK hz
  | true =>
    rw [hg] at h
    have hg := Nat.eq_of_beq_eq_true hg
    subst hg
    have h : xBase vs S = .ok v S' := h
    refine .inl ⟨by decide, enters_of Tryz.func41 (by kernel_rfl) rfl _, ?_⟩
    unfold xBase at h
    split at h
    · rename_i a b c d s _
      simp only [VRL, VR] at hxs
      obtain ⟨_, _, rfl, ⟨_, rfl, _, _, rfl, rfl, _, _, rfl, rfl, _, _, rfl, rfl, _, _, rfl, rfl, rfl⟩, _, _, rfl, rfl, rfl⟩ := hxs
      split at h
      · rename_i hk
        rw [ieq_eq, decide_eq_true_eq] at hk
        injection h with e1 e2; subst e1; subst e2; subst hk
        refine (base0_any a b c d w).mono ?_
        rintro e w' ⟨rfl, hb'⟩
        exact ⟨_, ρ, rfl, by simp only [VR], WR.of_below hw hb', Up.refl _ _ _ _, Fr.of_below hb'⟩
      · split at h
        · rename_i hk
          rw [ieq_eq, decide_eq_true_eq] at hk
          injection h with e1 e2; subst e1; subst e2; subst hk
          refine (base3_any a b c d w).mono ?_
          rintro e w' ⟨rfl, hb'⟩
          exact ⟨_, ρ, rfl, by simp only [VR], WR.of_below hw hb', Up.refl _ _ _ _, Fr.of_below hb'⟩
        · split at h
          · rename_i hk
            simp only [ilt_eq, ieq_eq, Bool.and_eq_true, decide_eq_true_eq] at hk
            obtain ⟨k1, k2, k3, k4⟩ := hk
            injection h with e1 e2; subst e1; subst e2; subst k1; subst k2
            refine (base4_any b c d k3 k4 w).mono ?_
            rintro e w' ⟨rfl, hb'⟩
            exact ⟨_, ρ, rfl, by simp only [VR], WR.of_below hw hb', Up.refl _ _ _ _, Fr.of_below hb'⟩
          · cases h
    · cases h
end Go.Proofs.YtjdmkgnlakonbaaGreatDoor
namespace Go.Proofs.YtjdmkgnlakonbaaGreatDoor
open Ex Go.RowKit

noncomputable def xB41 : FuncId → List AV → St → CRes := xtM 41 xBase xmc11
theorem xB41_ok {W : World} (hQ : Qf W) (hT : Tn W) : Known1 W xB41 := fun _ => xBase_ok (xmc11_ok hQ hT _)
set_option maxRecDepth 100000
theorem lives41_true : isTrue xB41 4 = true := by kernel_rfl
theorem lives41_ok (w : World) (hQ : Qf w) (hT : Tn w) : Calls Tryz.prog 4 #[] w fun e w' => e = .returned (.bool true) ∧ Below w.heap.size w w' := isTrue_ok lives41_true hQ hT (xB41_ok hQ hT)
end Go.Proofs.YtjdmkgnlakonbaaGreatDoor
