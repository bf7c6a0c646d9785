/- Joined texts. The contract of cells.moved at valid moves and cells. · The contract of booklets.Binding.listed at the bindings of B.Of: it returns true. · slices.Sort and slices.Compact at ints, laid at this program, for a row of the call's own. -/
import Derived.Test.YtdkijcmhjeaofaaGreatDoorQCmv
import Derived.Deep.RegionHeld3
import Derived.Test.YtdkijcmhjeaofaaGreatDoorQEc
import Derived.Shelf.Sort.Plain
import Derived.Shelf.Slices.CompactI
import Derived.Shelf.Slices.In.SortNone
import Derived.Sort.OwnSortedInts
namespace Go.Proofs.YtdkijcmhjeaofaaGreatDoor
open Go.RowKit

theorem Bx.nodup {w wr : World} {l : List (Nat × Array Value × TypeId)} (h : Bx w l wr) : (l.map (·.1)).Nodup := by
  rw [List.Nodup, List.pairwise_iff_getElem]
  intro i j hi hj hij he
  simp only [List.length_map] at hi hj
  simp only [List.getElem_map] at he
  have h1 : l[i]? = some (l[i].1, l[i].2.1, l[i].2.2) := List.getElem?_eq_getElem hi
  have h2 : l[j]? = some (l[i].1, l[j].2.1, l[j].2.2) := by rw [he]; exact List.getElem?_eq_getElem hj
  have := h.inj i j _ _ _ _ _ h1 h2
  omega
theorem Bx.perm {w wr : World} {l l' : List (Nat × Array Value × TypeId)} (h : Bx w l wr) (hp : l.Perm l') : Bx w l' wr := by
  have hn : (l'.map (·.1)).Nodup := (hp.map _).nodup_iff.1 h.nodup
  have hm : ∀ (i g : Nat) (cs : Array Value) (t : TypeId), l'[i]? = some (g, cs, t) → ∃ j, l[j]? = some (g, cs, t) := fun i g cs t hi => List.mem_iff_getElem?.1 (hp.mem_iff.2 (List.mem_of_getElem? hi))
  refine ⟨h.below, fun i g cs t hi => ?_, fun i g cs t hi => ?_, fun i j g cs t ds u hi hj => ?_⟩
  · obtain ⟨j, hj⟩ := hm i g cs t hi; exact h.blk j g cs t hj
  · obtain ⟨j, hj⟩ := hm i g cs t hi; exact h.lo j g cs t hj
  · rw [List.Nodup, List.pairwise_iff_getElem] at hn
    have li := (List.getElem?_eq_some_iff.1 hi)
    have lj := (List.getElem?_eq_some_iff.1 hj)
    obtain ⟨hi1, hi2⟩ := li
    obtain ⟨hj1, hj2⟩ := lj
    rcases Nat.lt_trichotomy i j with hlt | heq | hgt
    · exact absurd (by rw [List.getElem_map, List.getElem_map, hi2, hj2]) (hn i j (by simpa using hi1) (by simpa using hj1) hlt)
    · exact heq
    · exact absurd (by rw [List.getElem_map, List.getElem_map, hi2, hj2]) (hn j i (by simpa using hj1) (by simpa using hi1) hgt)
/-- A block of two cells that was just made, behind a call. -/
theorem fresh2 {X w4 : World} {c d : Value} {e : TypeId} {g : Nat} (hb : Below (X.alloc (.cells #[c, d] e)).heap.size (X.alloc (.cells #[c, d] e)) w4) (hg : X.heap.size = g) :
    (w4.cell? ⟨g, 0, none⟩ = some c ∧ w4.cell? ⟨g, 1, none⟩ = some d) ∧ (w4.frozen? ⟨g, 0, none⟩ = false ∧ w4.frozen? ⟨g, 1, none⟩ = false) := by
  subst hg
  exact blk2 (kept hb (heap_alloc_new X _) (by simp))
theorem fresh2b {X w4 : World} {c d : Value} {e : TypeId} {o : Obj} {g : Nat} (hb : Below ((X.alloc (.cells #[c, d] e)).alloc o).heap.size ((X.alloc (.cells #[c, d] e)).alloc o) w4) (hg : X.heap.size = g) :
    (w4.cell? ⟨g, 0, none⟩ = some c ∧ w4.cell? ⟨g, 1, none⟩ = some d) ∧ (w4.frozen? ⟨g, 0, none⟩ = false ∧ w4.frozen? ⟨g, 1, none⟩ = false) := by
  subst hg
  exact blk2 (kept hb ((Below.heap_alloc _ _ _ (by simp)).trans (heap_alloc_new X _)) (by simp; omega))
theorem Bx.ne {w wr : World} {l : List (Nat × Array Value × TypeId)} (h : Bx w l wr) (i j : Nat) (hij : i ≠ j) {g g' : Nat} {cs ds : Array Value} {t u : TypeId} (hi : l[i]? = some (g, cs, t)) (hj : l[j]? = some (g', ds, u)) : g ≠ g' := by
  intro e
  subst e
  exact hij (h.inj i j g cs t ds u hi hj)
theorem Bx.upto {w wr : World} {l : List (Nat × Array Value × TypeId)} (h : Bx w l wr) (n : Nat) : Bx w (l.take n) wr := by
  have hk : ∀ (i : Nat) (x : Nat × Array Value × TypeId), (l.take n)[i]? = some x → l[i]? = some x := by
    intro i x hi
    rw [List.getElem?_take] at hi
    split at hi
    · exact hi
    · cases hi
  exact ⟨h.below, fun i g cs t hi => h.blk i g cs t (hk i _ hi), fun i g cs t hi => h.lo i g cs t (hk i _ hi), fun i j g cs t ds u hi hj => h.inj i j g cs t ds u (hk i _ hi) (hk j _ hj)⟩
theorem and_one_i64 (X : Int) : bits BinOp.and IntKind.i64 X 1 = X % 2 := by
  have h1 : ((BitVec.ofInt 64 X &&& BitVec.ofInt 64 1).toNat : Int) = X % 2 := by
    rw [BitVec.toNat_and, BitVec.toNat_ofInt, BitVec.toNat_ofInt]
    have e : ((1 : Int) % (2 ^ 64 : Nat)).toNat = 1 := by decide
    rw [e, Nat.and_one_is_mod]
    omega
  show IntKind.i64.wrap ((BitVec.ofInt 64 X &&& BitVec.ofInt 64 1).toNat : Int) = _
  rw [h1]
  exact IntWalk.i64_in _ (by omega)
def sqN (d : Int × Int) : Nat → Nat
  | 0 => 0
  | k + 1 => if qside k = d then k else sqN d k
theorem sqN_4 (d : Int × Int) : sqN d 4 = sideQ d := by
  unfold sideQ
  simp only [sqN, eq_comm (a := d)]
  split
  · rfl
  · split
    · rfl
    · split
      · rfl
      · split <;> rfl
def quartersV : Value := .agg quartersL.toArray
theorem quartersIx0 (w : World) : (Instr.index 330 quartersV (.int .i64 0)).run Tryz.prog w = .ok (.agg (rowQ 0).toArray) w := by kernel_rfl
theorem quartersIx1 (w : World) : (Instr.index 330 quartersV (.int .i64 1)).run Tryz.prog w = .ok (.agg (rowQ 1).toArray) w := by kernel_rfl
theorem quartersIx2 (w : World) : (Instr.index 330 quartersV (.int .i64 2)).run Tryz.prog w = .ok (.agg (rowQ 2).toArray) w := by kernel_rfl
theorem quartersIx3 (w : World) : (Instr.index 330 quartersV (.int .i64 3)).run Tryz.prog w = .ok (.agg (rowQ 3).toArray) w := by kernel_rfl
theorem quartersIx (k : Nat) (hk : k < 4) (w : World) : (Instr.index 330 quartersV (.int .i64 k)).run Tryz.prog w = .ok (.agg (rowQ k).toArray) w := by
  have : k = 0 ∨ k = 1 ∨ k = 2 ∨ k = 3 := by omega
  rcases this with rfl | rfl | rfl | rfl
  · exact quartersIx0 w
  · exact quartersIx1 w
  · exact quartersIx2 w
  · exact quartersIx3 w

set_option maxRecDepth 100000 in
set_option maxHeartbeats 4000000 in
theorem moved_ok (m : Mv) (c : Cl) (w : World) (hm : m.ok = true) (hc : c.ok = true) (hQ : Qf w) (hT : Tn w) :
    Calls Tryz.prog 202 #[.agg #[.int .u8 m.t, .int .i64 m.x, .int .i64 m.y], .agg #[.int .i64 c.x, .int .i64 c.y, .int .u8 c.q]] w (RetBelow (.agg #[.int .i64 (movedC m c).x, .int .i64 (movedC m c).y, .int .u8 (movedC m c).q]) w) := by
  obtain ⟨⟨rx, ry, rq⟩, hR⟩ : ∃ R, movedC m c = R := ⟨_, rfl⟩
  rw [hR]
  unfold Cl.ok at hc
  obtain ⟨c1, c2, c3, c4, c5⟩ := okC_iff.1 hc
  have hmid := fun w => middle_any c w (by omega) (by omega)
  have hp1 := fun w h => point_ok m (2 * c.x + 1) (2 * c.y + 1) w hm (by omega) (by omega) h
  obtain ⟨t, x, y⟩ := m
  obtain ⟨a, b, q⟩ := c
  obtain ⟨m1, ⟨m2, m3⟩, ⟨m4, m5⟩, _⟩ := Mv.ok_iff.1 hm
  dsimp only at c1 c2 c3 c4 c5 m1 m2 m3 m4 m5 hmid hp1 ⊢
  have hm0 : (⟨t, 0, 0⟩ : Mv).ok = true := Mv.ok_iff.2 ⟨m1, by dsimp only; omega, by dsimp only; omega, by dsimp only; omega⟩
  have hqs : (-1 ≤ (qside q).1 ∧ (qside q).1 ≤ 1) ∧ (-1 ≤ (qside q).2 ∧ (qside q).2 ≤ 1) := by unfold qside; split <;> decide
  have hp2 := fun w h => point_ok ⟨t, 0, 0⟩ (qside q).1 (qside q).2 w hm0 (by omega) (by omega) h
  have hq : q < 4 := by omega
  obtain ⟨⟨ob1, ob2⟩, ob3, ob4⟩ := matOf_bd t (x := 2 * a + 1) (y := 2 * b + 1) (B := 10000) (by omega) (by omega)
  obtain ⟨⟨X, Y⟩, hXY⟩ : ∃ r, pointM ⟨t, x, y⟩ (2 * a + 1) (2 * b + 1) = r := ⟨_, rfl⟩
  have hXb : (-60000 ≤ X ∧ X ≤ 60000) ∧ (-60000 ≤ Y ∧ Y ≤ 60000) := by
    unfold pointM at hXY
    simp only [Prod.mk.injEq] at hXY
    obtain ⟨e1, e2⟩ := hXY
    omega
  have H := (((Bx.start w).new #[.int .u8 t, .int .i64 x, .int .i64 y] 68 rfl).new #[.int .i64 a, .int .i64 b, .int .u8 q] 111 (N := w.heap.size + 1) (by simp)).new #[.int .i64 0, .int .i64 0, .int .u8 0] 111 (N := w.heap.size + 2) (by simp)
  have q1 : (q : Int) < 4 := by omega
  have HMID := Lib.hid hmid
  have hrow := fun (w' : World) (h : Qf w') => h.row hq
  unfold rowQ at hrow
  obtain ⟨⟨s1, s2⟩, h3⟩ : ∃ z, qside q = z := ⟨_, rfl⟩
  rw [h3] at hrow hp2 hqs
  dsimp only at hrow hp2 hqs
  obtain ⟨⟨U, V⟩, hUV⟩ : ∃ r, pointM ⟨t, 0, 0⟩ s1 s2 = r := ⟨_, rfl⟩
  have hrx : rx = X / 2 ∧ ry = Y / 2 ∧ rq = sideQ (U, V) := by
    unfold movedC at hR
    dsimp only at hR
    rw [h3, hXY] at hR
    have hU : matOf (mat t) s1 s2 = (U, V) := by rw [← hUV]; unfold pointM; simp
    rw [hU] at hR
    simp only [Cl.mk.injEq] at hR
    exact ⟨hR.1.symm, hR.2.1.symm, hR.2.2.symm⟩
  rw [hXY] at hp1
  rw [hUV] at hp2
  unfold ptR at hp1 hp2
  dsimp only at hp1 hp2
  obtain ⟨hrx1, hrx2, hrq⟩ := hrx
  have HX1 := Lib.hid hrx1
  have HX2 := Lib.hid hrx2
  clear hrx1 hrx2
  have HRQ := Lib.hid hrq
  have HROW := Lib.hid hrow
  have HP1 := Lib.hid hp1
  have HP2 := Lib.hid hp2
  have HQ := Lib.hid hQ
  have HT := Lib.hid hT
  clear hmid hp1 hp2 hrow hQ hT hR h3 hm hc hm0 hXY hUV hrq ob1 ob2 ob3 ob4
  go_enter Tryz.func202, Tryz.ntmps202
  go_upto_region 1 with fail
  obtain ⟨W, hW⟩ : ∃ W, W = ((w.alloc (.cells #[.int .u8 t, .int .i64 x, .int .i64 y] 68)).alloc (.cells #[.int .i64 a, .int .i64 b, .int .u8 q] 111)).alloc (.cells #[.int .i64 0, .int .i64 0, .int .u8 0] 111) := ⟨_, rfl⟩
  rw [← hW] at H ⊢
  obtain ⟨N, hN⟩ : ∃ N, N = w.heap.size := ⟨_, rfl⟩
  rw [← hN] at H ⊢
  obtain ⟨P, hP⟩ : ∃ P, P = N + 2 := ⟨_, rfl⟩
  rw [← hP] at H
  rw [show N + 1 + 1 = P from hP.symm]
  have hne1 : N ≠ P := by omega
  have hne2 : N + 1 ≠ P := by omega
  clear hW hN hP
  obtain ⟨⟨g0, g1, g2⟩, _⟩ := blk3 (H.blk 1 _ _ _ rfl)
  have hr := HROW.out _ (HQ.out.below H.below)
  have r0 := hr 0 _ rfl
  have r1 := hr 1 _ rfl
  simp only [Nat.add_zero] at r0
  clear hr
  go_cut [5, 6] (fun s5 s6 wx => ∃ p5 p6, s5 = .pointer (some ⟨p5, 0, none⟩) ∧ s6 = .pointer (some ⟨p6, 0, none⟩) ∧ Bx w [(N, #[.int .u8 t, .int .i64 x, .int .i64 y], 68), (N + 1, #[.int .i64 a, .int .i64 b, .int .u8 q], 111), (P, #[.int .i64 0, .int .i64 0, .int .u8 0], 111), (p5, #[.int .i64 (2 * a + 1), .int .i64 (2 * b + 1)], 311), (p6, #[.int .i64 s1, .int .i64 s2], 311)] wx)
  case first =>
    have HSA : Hid (∀ W', Below W.heap.size W W' → (fun w' : World => w'.cell? ⟨N + 1, 0, none⟩ = some (.int .i64 a) ∧ w'.cell? ⟨N + 1, 1, none⟩ = some (.int .i64 b) ∧ w'.cell? ⟨N + 1, 2, none⟩ = some (.int .u8 q) ∧ w'.cell? ⟨1, q * 17, none⟩ = some (.int .i64 s1) ∧ w'.cell? ⟨1, q * 17 + 1, none⟩ = some (.int .i64 s2)) W') := Lib.hid fun W' h => ⟨below_cell h g0, below_cell h g1, below_cell h g2, below_cell h r0, below_cell h r1⟩
    clear g0 g1 g2 r0 r1 hne1 hne2 HQ HT HP1 HP2 HROW
    refine wp_region_held_drew (S := (fun w' : World => w'.cell? ⟨N + 1, 0, none⟩ = some (.int .i64 a) ∧ w'.cell? ⟨N + 1, 1, none⟩ = some (.int .i64 b) ∧ w'.cell? ⟨N + 1, 2, none⟩ = some (.int .u8 q) ∧ w'.cell? ⟨1, q * 17, none⟩ = some (.int .i64 s1) ∧ w'.cell? ⟨1, q * 17 + 1, none⟩ = some (.int .i64 s2))) (by kernel_rfl) (HSA.out _ (Below.refl _ _).drew) (fun hS => ?_)
    have hb : Below W.heap.size W W.drew := (Below.refl _ _).drew
    have H := H.drew
    obtain ⟨X0, hX⟩ : ∃ X, X = W.drew := ⟨_, rfl⟩
    rw [← hX] at H hb ⊢
    clear hX
    have hS := HSA.out _ hb
    refine wpAnyH_take (i := 0) (v := ?_) rfl (by kernel_rfl) (by kernel_rfl) (by kernel_rfl) (fun _ _ _ h => h) (Or.inl ⟨by rfl, ?_⟩) hS ?_
    rotate_left
    · intro w0 hSw
      (try dsimp only at hSw)
      go_split_ands
      go_simp
      try with_reducible rfl
    try simp only [Act.put, List.getElem_toArray, List.getElem_cons_zero, List.setIfInBounds_toArray, List.set_cons_zero, List.set_cons_succ]
    refine wpAnyH_take (i := 2) (v := ?_) rfl (by kernel_rfl) (by kernel_rfl) (by kernel_rfl) (fun _ _ _ h => h) (Or.inl ⟨by rfl, ?_⟩) hS ?_
    rotate_left
    · intro w0 hSw
      (try dsimp only at hSw)
      go_split_ands
      go_simp
      try with_reducible rfl
    try simp only [Act.put, List.getElem_toArray, List.getElem_cons_zero, List.getElem_cons_succ, List.setIfInBounds_toArray, List.set_cons_zero, List.set_cons_succ]
    refine wpAnyH_take (i := 3) (v := ?_) rfl (by kernel_rfl) (by kernel_rfl) (by kernel_rfl) (fun _ _ _ h => h) (Or.inl ⟨by rfl, ?_⟩) hS ?_
    rotate_left
    · intro w0 hSw
      (try dsimp only at hSw)
      go_split_ands
      go_simp
      try with_reducible rfl
    try simp only [Act.put, List.getElem_toArray, List.getElem_cons_zero, List.getElem_cons_succ, List.setIfInBounds_toArray, List.set_cons_zero, List.set_cons_succ]
    refine wpAnyH_take (i := 4) (v := ?_) rfl (by kernel_rfl) (by kernel_rfl) (by kernel_rfl) (fun _ _ _ h => h) (Or.inl ⟨by rfl, ?_⟩) hS ?_
    rotate_left
    · intro w0 hSw
      (try dsimp only at hSw)
      go_split_ands
      go_simp
      try with_reducible rfl
    try simp only [Act.put, List.getElem_toArray, List.getElem_cons_zero, List.getElem_cons_succ, List.setIfInBounds_toArray, List.set_cons_zero, List.set_cons_succ]
    refine wpAnyH_take (i := 5) (v := ?_) rfl (by kernel_rfl) (by kernel_rfl) (by kernel_rfl) (fun _ _ _ h => h) (Or.inl ⟨by rfl, ?_⟩) hS ?_
    rotate_left
    · intro w0 hSw
      (try dsimp only at hSw)
      go_split_ands
      go_simp
      try with_reducible rfl
    try simp only [Act.put, List.getElem_toArray, List.getElem_cons_zero, List.getElem_cons_succ, List.setIfInBounds_toArray, List.set_cons_zero, List.set_cons_succ]
    refine wpAnyH_take (i := 6) (v := ?_) rfl (by kernel_rfl) (by kernel_rfl) (by kernel_rfl) (fun _ _ _ h => h) (Or.inl ⟨by rfl, ?_⟩) hS ?_
    rotate_left
    · intro w0 hSw
      (try dsimp only at hSw)
      go_split_ands
      go_simp
      try with_reducible rfl
    try simp only [Act.put, List.getElem_toArray, List.getElem_cons_zero, List.getElem_cons_succ, List.setIfInBounds_toArray, List.set_cons_zero, List.set_cons_succ]
    refine wpAnyH_ready (rs := [1, 7, 8]) (by kernel_rfl) (by simp) (AllReadyH.cons rfl (fun K hK => ?_) (AllReadyH.cons rfl (fun K hK => ?_) (AllReadyH.cons rfl (fun K hK => ?_) (AllReadyH.nil))))
    · go_simp
      refine (HMID.out _).mono ?_
      rintro e X1 ⟨rfl, hbm⟩
      have hb := hb.trans (hbm.mono hb.size)
      have H := H.call hbm
      refine hK.out _ _ (HSA.out _ hb) (fun hS => ?_)
      clear hK K hbm
      refine wpAnyH_ready (rs := [7, 8]) (by kernel_rfl) (by simp) (AllReadyH.cons rfl (fun K hK => ?_) (AllReadyH.cons rfl (fun K hK => ?_) (AllReadyH.nil)))
      · obtain ⟨p5, hp⟩ : ∃ p, X1.heap.size = p := ⟨_, rfl⟩
        have hl7 : W.heap.size ≤ p5 := hp ▸ hb.size
        have hb := hb.alloc hb.size (.cells #[.int .i64 0, .int .i64 0] 311)
        have H := H.new #[.int .i64 0, .int .i64 0] 311 hp
        have HP7 := Lib.hid hp
        go_simp
        refine hK.out _ _ (HSA.out _ hb) (fun hS => ?_)
        clear hK K
        obtain ⟨X2, hX⟩ : ∃ X, X = X1.alloc (.cells #[.int .i64 0, .int .i64 0] 311) := ⟨_, rfl⟩
        rw [← hX] at H hb ⊢
        clear hX hp hS HP7
        have hS := HSA.out _ hb
        refine wpAnyH_ready (rs := [8]) (by kernel_rfl) (by simp) (AllReadyH.cons rfl (fun K hK => ?_) (AllReadyH.nil))
        · obtain ⟨p6, hp⟩ : ∃ p, X2.heap.size = p := ⟨_, rfl⟩
          have hl8 : W.heap.size ≤ p6 := hp ▸ hb.size
          have hb := hb.alloc hb.size (.cells #[.int .i64 0, .int .i64 0] 311)
          have H := H.new #[.int .i64 0, .int .i64 0] 311 hp
          have HP8 := Lib.hid hp
          go_simp
          refine hK.out _ _ (HSA.out _ hb) (fun hS => ?_)
          clear hK K
          obtain ⟨X3, hX⟩ : ∃ X, X = X2.alloc (.cells #[.int .i64 0, .int .i64 0] 311) := ⟨_, rfl⟩
          rw [← hX] at H hb ⊢
          clear hX hp hS HP8
          have hS := HSA.out _ hb
          refine wpAnyH_ready (rs := [9]) (by kernel_rfl) (by simp) (AllReadyH.cons rfl (fun K hK => ?_) AllReadyH.nil)
          obtain ⟨⟨y0, y1⟩, z0, z1⟩ := blk2 (H.blk 3 _ _ _ rfl)
          have hb := (hb.setCell (p := ⟨p5, 0, none⟩) hl7 (.int .i64 (2 * a + 1))).setCell (p := ⟨p5, 1, none⟩) hl7 (.int .i64 (2 * b + 1))
          have H := (H.set 3 0 rfl (.int .i64 (2 * a + 1))).set 3 1 rfl (.int .i64 (2 * b + 1))
          go_simp
          refine hK.out _ _ (HSA.out _ hb) (fun hS => ?_)
          clear hK K y0 y1 z0 z1 hS
          obtain ⟨Y9, hX⟩ : ∃ X, X = (X3.setCell ⟨p5, 0, none⟩ (.int .i64 (2 * a + 1))).setCell ⟨p5, 1, none⟩ (.int .i64 (2 * b + 1)) := ⟨_, rfl⟩
          rw [← hX] at H hb ⊢
          clear hX
          have hS := HSA.out _ hb
          refine wpAnyH_ready (rs := [10]) (by kernel_rfl) (by simp) (AllReadyH.cons rfl (fun K hK => ?_) AllReadyH.nil)
          obtain ⟨⟨y0, y1⟩, z0, z1⟩ := blk2 (H.blk 4 _ _ _ rfl)
          have hb := (hb.setCell (p := ⟨p6, 0, none⟩) hl8 (.int .i64 (s1))).setCell (p := ⟨p6, 1, none⟩) hl8 (.int .i64 (s2))
          have H := (H.set 4 0 rfl (.int .i64 (s1))).set 4 1 rfl (.int .i64 (s2))
          go_simp
          refine hK.out _ _ (HSA.out _ hb) (fun hS => ?_)
          clear hK K y0 y1 z0 z1 hS
          obtain ⟨Y10, hX⟩ : ∃ X, X = (Y9.setCell ⟨p6, 0, none⟩ (.int .i64 (s1))).setCell ⟨p6, 1, none⟩ (.int .i64 (s2)) := ⟨_, rfl⟩
          rw [← hX] at H hb ⊢
          clear hX
          have hS := HSA.out _ hb
          refine wpAnyH_done (by kernel_rfl) ?_ _
          go_wp2_with fail
          go_meet
          exact ⟨_, _, rfl, rfl, H⟩
      · obtain ⟨p6, hp⟩ : ∃ p, X1.heap.size = p := ⟨_, rfl⟩
        have hl8 : W.heap.size ≤ p6 := hp ▸ hb.size
        have hb := hb.alloc hb.size (.cells #[.int .i64 0, .int .i64 0] 311)
        have H := H.new #[.int .i64 0, .int .i64 0] 311 hp
        have HP8 := Lib.hid hp
        go_simp
        refine hK.out _ _ (HSA.out _ hb) (fun hS => ?_)
        clear hK K
        obtain ⟨X2, hX⟩ : ∃ X, X = X1.alloc (.cells #[.int .i64 0, .int .i64 0] 311) := ⟨_, rfl⟩
        rw [← hX] at H hb ⊢
        clear hX hp hS HP8
        have hS := HSA.out _ hb
        refine wpAnyH_ready (rs := [7]) (by kernel_rfl) (by simp) (AllReadyH.cons rfl (fun K hK => ?_) (AllReadyH.nil))
        · obtain ⟨p5, hp⟩ : ∃ p, X2.heap.size = p := ⟨_, rfl⟩
          have hl7 : W.heap.size ≤ p5 := hp ▸ hb.size
          have hb := hb.alloc hb.size (.cells #[.int .i64 0, .int .i64 0] 311)
          have H := H.new #[.int .i64 0, .int .i64 0] 311 hp
          have HP7 := Lib.hid hp
          go_simp
          refine hK.out _ _ (HSA.out _ hb) (fun hS => ?_)
          clear hK K
          obtain ⟨X3, hX⟩ : ∃ X, X = X2.alloc (.cells #[.int .i64 0, .int .i64 0] 311) := ⟨_, rfl⟩
          rw [← hX] at H hb ⊢
          clear hX hp hS HP7
          have hS := HSA.out _ hb
          refine wpAnyH_ready (rs := [9]) (by kernel_rfl) (by simp) (AllReadyH.cons rfl (fun K hK => ?_) AllReadyH.nil)
          obtain ⟨⟨y0, y1⟩, z0, z1⟩ := blk2 (H.blk 4 _ _ _ rfl)
          have hb := (hb.setCell (p := ⟨p5, 0, none⟩) hl7 (.int .i64 (2 * a + 1))).setCell (p := ⟨p5, 1, none⟩) hl7 (.int .i64 (2 * b + 1))
          have H := (H.set 4 0 rfl (.int .i64 (2 * a + 1))).set 4 1 rfl (.int .i64 (2 * b + 1))
          go_simp
          refine hK.out _ _ (HSA.out _ hb) (fun hS => ?_)
          clear hK K y0 y1 z0 z1 hS
          obtain ⟨Y9, hX⟩ : ∃ X, X = (X3.setCell ⟨p5, 0, none⟩ (.int .i64 (2 * a + 1))).setCell ⟨p5, 1, none⟩ (.int .i64 (2 * b + 1)) := ⟨_, rfl⟩
          rw [← hX] at H hb ⊢
          clear hX
          have hS := HSA.out _ hb
          refine wpAnyH_ready (rs := [10]) (by kernel_rfl) (by simp) (AllReadyH.cons rfl (fun K hK => ?_) AllReadyH.nil)
          obtain ⟨⟨y0, y1⟩, z0, z1⟩ := blk2 (H.blk 3 _ _ _ rfl)
          have hb := (hb.setCell (p := ⟨p6, 0, none⟩) hl8 (.int .i64 (s1))).setCell (p := ⟨p6, 1, none⟩) hl8 (.int .i64 (s2))
          have H := (H.set 3 0 rfl (.int .i64 (s1))).set 3 1 rfl (.int .i64 (s2))
          go_simp
          refine hK.out _ _ (HSA.out _ hb) (fun hS => ?_)
          clear hK K y0 y1 z0 z1 hS
          obtain ⟨Y10, hX⟩ : ∃ X, X = (Y9.setCell ⟨p6, 0, none⟩ (.int .i64 (s1))).setCell ⟨p6, 1, none⟩ (.int .i64 (s2)) := ⟨_, rfl⟩
          rw [← hX] at H hb ⊢
          clear hX
          have hS := HSA.out _ hb
          refine wpAnyH_done (by kernel_rfl) ?_ _
          go_wp2_with fail
          go_meet
          exact ⟨_, _, rfl, rfl, H.perm (.cons _ (.cons _ (.cons _ (.swap _ _ _))))⟩
    · obtain ⟨p5, hp⟩ : ∃ p, X0.heap.size = p := ⟨_, rfl⟩
      have hl7 : W.heap.size ≤ p5 := hp ▸ hb.size
      have hb := hb.alloc hb.size (.cells #[.int .i64 0, .int .i64 0] 311)
      have H := H.new #[.int .i64 0, .int .i64 0] 311 hp
      have HP7 := Lib.hid hp
      go_simp
      refine hK.out _ _ (HSA.out _ hb) (fun hS => ?_)
      clear hK K
      obtain ⟨X1, hX⟩ : ∃ X, X = X0.alloc (.cells #[.int .i64 0, .int .i64 0] 311) := ⟨_, rfl⟩
      rw [← hX] at H hb ⊢
      clear hX hp hS HP7
      have hS := HSA.out _ hb
      refine wpAnyH_ready (rs := [1, 8]) (by kernel_rfl) (by simp) (AllReadyH.cons rfl (fun K hK => ?_) (AllReadyH.cons rfl (fun K hK => ?_) (AllReadyH.nil)))
      · go_simp
        refine (HMID.out _).mono ?_
        rintro e X2 ⟨rfl, hbm⟩
        have hb := hb.trans (hbm.mono hb.size)
        have H := H.call hbm
        refine hK.out _ _ (HSA.out _ hb) (fun hS => ?_)
        clear hK K hbm
        refine wpAnyH_ready (rs := [8]) (by kernel_rfl) (by simp) (AllReadyH.cons rfl (fun K hK => ?_) (AllReadyH.nil))
        · obtain ⟨p6, hp⟩ : ∃ p, X2.heap.size = p := ⟨_, rfl⟩
          have hl8 : W.heap.size ≤ p6 := hp ▸ hb.size
          have hb := hb.alloc hb.size (.cells #[.int .i64 0, .int .i64 0] 311)
          have H := H.new #[.int .i64 0, .int .i64 0] 311 hp
          have HP8 := Lib.hid hp
          go_simp
          refine hK.out _ _ (HSA.out _ hb) (fun hS => ?_)
          clear hK K
          obtain ⟨X3, hX⟩ : ∃ X, X = X2.alloc (.cells #[.int .i64 0, .int .i64 0] 311) := ⟨_, rfl⟩
          rw [← hX] at H hb ⊢
          clear hX hp hS HP8
          have hS := HSA.out _ hb
          refine wpAnyH_ready (rs := [9]) (by kernel_rfl) (by simp) (AllReadyH.cons rfl (fun K hK => ?_) AllReadyH.nil)
          obtain ⟨⟨y0, y1⟩, z0, z1⟩ := blk2 (H.blk 3 _ _ _ rfl)
          have hb := (hb.setCell (p := ⟨p5, 0, none⟩) hl7 (.int .i64 (2 * a + 1))).setCell (p := ⟨p5, 1, none⟩) hl7 (.int .i64 (2 * b + 1))
          have H := (H.set 3 0 rfl (.int .i64 (2 * a + 1))).set 3 1 rfl (.int .i64 (2 * b + 1))
          go_simp
          refine hK.out _ _ (HSA.out _ hb) (fun hS => ?_)
          clear hK K y0 y1 z0 z1 hS
          obtain ⟨Y9, hX⟩ : ∃ X, X = (X3.setCell ⟨p5, 0, none⟩ (.int .i64 (2 * a + 1))).setCell ⟨p5, 1, none⟩ (.int .i64 (2 * b + 1)) := ⟨_, rfl⟩
          rw [← hX] at H hb ⊢
          clear hX
          have hS := HSA.out _ hb
          refine wpAnyH_ready (rs := [10]) (by kernel_rfl) (by simp) (AllReadyH.cons rfl (fun K hK => ?_) AllReadyH.nil)
          obtain ⟨⟨y0, y1⟩, z0, z1⟩ := blk2 (H.blk 4 _ _ _ rfl)
          have hb := (hb.setCell (p := ⟨p6, 0, none⟩) hl8 (.int .i64 (s1))).setCell (p := ⟨p6, 1, none⟩) hl8 (.int .i64 (s2))
          have H := (H.set 4 0 rfl (.int .i64 (s1))).set 4 1 rfl (.int .i64 (s2))
          go_simp
          refine hK.out _ _ (HSA.out _ hb) (fun hS => ?_)
          clear hK K y0 y1 z0 z1 hS
          obtain ⟨Y10, hX⟩ : ∃ X, X = (Y9.setCell ⟨p6, 0, none⟩ (.int .i64 (s1))).setCell ⟨p6, 1, none⟩ (.int .i64 (s2)) := ⟨_, rfl⟩
          rw [← hX] at H hb ⊢
          clear hX
          have hS := HSA.out _ hb
          refine wpAnyH_done (by kernel_rfl) ?_ _
          go_wp2_with fail
          go_meet
          exact ⟨_, _, rfl, rfl, H⟩
      · obtain ⟨p6, hp⟩ : ∃ p, X1.heap.size = p := ⟨_, rfl⟩
        have hl8 : W.heap.size ≤ p6 := hp ▸ hb.size
        have hb := hb.alloc hb.size (.cells #[.int .i64 0, .int .i64 0] 311)
        have H := H.new #[.int .i64 0, .int .i64 0] 311 hp
        have HP8 := Lib.hid hp
        go_simp
        refine hK.out _ _ (HSA.out _ hb) (fun hS => ?_)
        clear hK K
        obtain ⟨X2, hX⟩ : ∃ X, X = X1.alloc (.cells #[.int .i64 0, .int .i64 0] 311) := ⟨_, rfl⟩
        rw [← hX] at H hb ⊢
        clear hX hp hS HP8
        have hS := HSA.out _ hb
        refine wpAnyH_ready (rs := [1]) (by kernel_rfl) (by simp) (AllReadyH.cons rfl (fun K hK => ?_) (AllReadyH.nil))
        · go_simp
          refine (HMID.out _).mono ?_
          rintro e X3 ⟨rfl, hbm⟩
          have hb := hb.trans (hbm.mono hb.size)
          have H := H.call hbm
          refine hK.out _ _ (HSA.out _ hb) (fun hS => ?_)
          clear hK K hbm
          refine wpAnyH_ready (rs := [9]) (by kernel_rfl) (by simp) (AllReadyH.cons rfl (fun K hK => ?_) AllReadyH.nil)
          obtain ⟨⟨y0, y1⟩, z0, z1⟩ := blk2 (H.blk 3 _ _ _ rfl)
          have hb := (hb.setCell (p := ⟨p5, 0, none⟩) hl7 (.int .i64 (2 * a + 1))).setCell (p := ⟨p5, 1, none⟩) hl7 (.int .i64 (2 * b + 1))
          have H := (H.set 3 0 rfl (.int .i64 (2 * a + 1))).set 3 1 rfl (.int .i64 (2 * b + 1))
          go_simp
          refine hK.out _ _ (HSA.out _ hb) (fun hS => ?_)
          clear hK K y0 y1 z0 z1 hS
          obtain ⟨Y9, hX⟩ : ∃ X, X = (X3.setCell ⟨p5, 0, none⟩ (.int .i64 (2 * a + 1))).setCell ⟨p5, 1, none⟩ (.int .i64 (2 * b + 1)) := ⟨_, rfl⟩
          rw [← hX] at H hb ⊢
          clear hX
          have hS := HSA.out _ hb
          refine wpAnyH_ready (rs := [10]) (by kernel_rfl) (by simp) (AllReadyH.cons rfl (fun K hK => ?_) AllReadyH.nil)
          obtain ⟨⟨y0, y1⟩, z0, z1⟩ := blk2 (H.blk 4 _ _ _ rfl)
          have hb := (hb.setCell (p := ⟨p6, 0, none⟩) hl8 (.int .i64 (s1))).setCell (p := ⟨p6, 1, none⟩) hl8 (.int .i64 (s2))
          have H := (H.set 4 0 rfl (.int .i64 (s1))).set 4 1 rfl (.int .i64 (s2))
          go_simp
          refine hK.out _ _ (HSA.out _ hb) (fun hS => ?_)
          clear hK K y0 y1 z0 z1 hS
          obtain ⟨Y10, hX⟩ : ∃ X, X = (Y9.setCell ⟨p6, 0, none⟩ (.int .i64 (s1))).setCell ⟨p6, 1, none⟩ (.int .i64 (s2)) := ⟨_, rfl⟩
          rw [← hX] at H hb ⊢
          clear hX
          have hS := HSA.out _ hb
          refine wpAnyH_done (by kernel_rfl) ?_ _
          go_wp2_with fail
          go_meet
          exact ⟨_, _, rfl, rfl, H⟩
    · obtain ⟨p6, hp⟩ : ∃ p, X0.heap.size = p := ⟨_, rfl⟩
      have hl8 : W.heap.size ≤ p6 := hp ▸ hb.size
      have hb := hb.alloc hb.size (.cells #[.int .i64 0, .int .i64 0] 311)
      have H := H.new #[.int .i64 0, .int .i64 0] 311 hp
      have HP8 := Lib.hid hp
      go_simp
      refine hK.out _ _ (HSA.out _ hb) (fun hS => ?_)
      clear hK K
      obtain ⟨X1, hX⟩ : ∃ X, X = X0.alloc (.cells #[.int .i64 0, .int .i64 0] 311) := ⟨_, rfl⟩
      rw [← hX] at H hb ⊢
      clear hX hp hS HP8
      have hS := HSA.out _ hb
      refine wpAnyH_ready (rs := [1, 7]) (by kernel_rfl) (by simp) (AllReadyH.cons rfl (fun K hK => ?_) (AllReadyH.cons rfl (fun K hK => ?_) (AllReadyH.nil)))
      · go_simp
        refine (HMID.out _).mono ?_
        rintro e X2 ⟨rfl, hbm⟩
        have hb := hb.trans (hbm.mono hb.size)
        have H := H.call hbm
        refine hK.out _ _ (HSA.out _ hb) (fun hS => ?_)
        clear hK K hbm
        refine wpAnyH_ready (rs := [7]) (by kernel_rfl) (by simp) (AllReadyH.cons rfl (fun K hK => ?_) (AllReadyH.nil))
        · obtain ⟨p5, hp⟩ : ∃ p, X2.heap.size = p := ⟨_, rfl⟩
          have hl7 : W.heap.size ≤ p5 := hp ▸ hb.size
          have hb := hb.alloc hb.size (.cells #[.int .i64 0, .int .i64 0] 311)
          have H := H.new #[.int .i64 0, .int .i64 0] 311 hp
          have HP7 := Lib.hid hp
          go_simp
          refine hK.out _ _ (HSA.out _ hb) (fun hS => ?_)
          clear hK K
          obtain ⟨X3, hX⟩ : ∃ X, X = X2.alloc (.cells #[.int .i64 0, .int .i64 0] 311) := ⟨_, rfl⟩
          rw [← hX] at H hb ⊢
          clear hX hp hS HP7
          have hS := HSA.out _ hb
          refine wpAnyH_ready (rs := [9]) (by kernel_rfl) (by simp) (AllReadyH.cons rfl (fun K hK => ?_) AllReadyH.nil)
          obtain ⟨⟨y0, y1⟩, z0, z1⟩ := blk2 (H.blk 4 _ _ _ rfl)
          have hb := (hb.setCell (p := ⟨p5, 0, none⟩) hl7 (.int .i64 (2 * a + 1))).setCell (p := ⟨p5, 1, none⟩) hl7 (.int .i64 (2 * b + 1))
          have H := (H.set 4 0 rfl (.int .i64 (2 * a + 1))).set 4 1 rfl (.int .i64 (2 * b + 1))
          go_simp
          refine hK.out _ _ (HSA.out _ hb) (fun hS => ?_)
          clear hK K y0 y1 z0 z1 hS
          obtain ⟨Y9, hX⟩ : ∃ X, X = (X3.setCell ⟨p5, 0, none⟩ (.int .i64 (2 * a + 1))).setCell ⟨p5, 1, none⟩ (.int .i64 (2 * b + 1)) := ⟨_, rfl⟩
          rw [← hX] at H hb ⊢
          clear hX
          have hS := HSA.out _ hb
          refine wpAnyH_ready (rs := [10]) (by kernel_rfl) (by simp) (AllReadyH.cons rfl (fun K hK => ?_) AllReadyH.nil)
          obtain ⟨⟨y0, y1⟩, z0, z1⟩ := blk2 (H.blk 3 _ _ _ rfl)
          have hb := (hb.setCell (p := ⟨p6, 0, none⟩) hl8 (.int .i64 (s1))).setCell (p := ⟨p6, 1, none⟩) hl8 (.int .i64 (s2))
          have H := (H.set 3 0 rfl (.int .i64 (s1))).set 3 1 rfl (.int .i64 (s2))
          go_simp
          refine hK.out _ _ (HSA.out _ hb) (fun hS => ?_)
          clear hK K y0 y1 z0 z1 hS
          obtain ⟨Y10, hX⟩ : ∃ X, X = (Y9.setCell ⟨p6, 0, none⟩ (.int .i64 (s1))).setCell ⟨p6, 1, none⟩ (.int .i64 (s2)) := ⟨_, rfl⟩
          rw [← hX] at H hb ⊢
          clear hX
          have hS := HSA.out _ hb
          refine wpAnyH_done (by kernel_rfl) ?_ _
          go_wp2_with fail
          go_meet
          exact ⟨_, _, rfl, rfl, H.perm (.cons _ (.cons _ (.cons _ (.swap _ _ _))))⟩
      · obtain ⟨p5, hp⟩ : ∃ p, X1.heap.size = p := ⟨_, rfl⟩
        have hl7 : W.heap.size ≤ p5 := hp ▸ hb.size
        have hb := hb.alloc hb.size (.cells #[.int .i64 0, .int .i64 0] 311)
        have H := H.new #[.int .i64 0, .int .i64 0] 311 hp
        have HP7 := Lib.hid hp
        go_simp
        refine hK.out _ _ (HSA.out _ hb) (fun hS => ?_)
        clear hK K
        obtain ⟨X2, hX⟩ : ∃ X, X = X1.alloc (.cells #[.int .i64 0, .int .i64 0] 311) := ⟨_, rfl⟩
        rw [← hX] at H hb ⊢
        clear hX hp hS HP7
        have hS := HSA.out _ hb
        refine wpAnyH_ready (rs := [1]) (by kernel_rfl) (by simp) (AllReadyH.cons rfl (fun K hK => ?_) (AllReadyH.nil))
        · go_simp
          refine (HMID.out _).mono ?_
          rintro e X3 ⟨rfl, hbm⟩
          have hb := hb.trans (hbm.mono hb.size)
          have H := H.call hbm
          refine hK.out _ _ (HSA.out _ hb) (fun hS => ?_)
          clear hK K hbm
          refine wpAnyH_ready (rs := [9]) (by kernel_rfl) (by simp) (AllReadyH.cons rfl (fun K hK => ?_) AllReadyH.nil)
          obtain ⟨⟨y0, y1⟩, z0, z1⟩ := blk2 (H.blk 4 _ _ _ rfl)
          have hb := (hb.setCell (p := ⟨p5, 0, none⟩) hl7 (.int .i64 (2 * a + 1))).setCell (p := ⟨p5, 1, none⟩) hl7 (.int .i64 (2 * b + 1))
          have H := (H.set 4 0 rfl (.int .i64 (2 * a + 1))).set 4 1 rfl (.int .i64 (2 * b + 1))
          go_simp
          refine hK.out _ _ (HSA.out _ hb) (fun hS => ?_)
          clear hK K y0 y1 z0 z1 hS
          obtain ⟨Y9, hX⟩ : ∃ X, X = (X3.setCell ⟨p5, 0, none⟩ (.int .i64 (2 * a + 1))).setCell ⟨p5, 1, none⟩ (.int .i64 (2 * b + 1)) := ⟨_, rfl⟩
          rw [← hX] at H hb ⊢
          clear hX
          have hS := HSA.out _ hb
          refine wpAnyH_ready (rs := [10]) (by kernel_rfl) (by simp) (AllReadyH.cons rfl (fun K hK => ?_) AllReadyH.nil)
          obtain ⟨⟨y0, y1⟩, z0, z1⟩ := blk2 (H.blk 3 _ _ _ rfl)
          have hb := (hb.setCell (p := ⟨p6, 0, none⟩) hl8 (.int .i64 (s1))).setCell (p := ⟨p6, 1, none⟩) hl8 (.int .i64 (s2))
          have H := (H.set 3 0 rfl (.int .i64 (s1))).set 3 1 rfl (.int .i64 (s2))
          go_simp
          refine hK.out _ _ (HSA.out _ hb) (fun hS => ?_)
          clear hK K y0 y1 z0 z1 hS
          obtain ⟨Y10, hX⟩ : ∃ X, X = (Y9.setCell ⟨p6, 0, none⟩ (.int .i64 (s1))).setCell ⟨p6, 1, none⟩ (.int .i64 (s2)) := ⟨_, rfl⟩
          rw [← hX] at H hb ⊢
          clear hX
          have hS := HSA.out _ hb
          refine wpAnyH_done (by kernel_rfl) ?_ _
          go_wp2_with fail
          go_meet
          exact ⟨_, _, rfl, rfl, H.perm (.cons _ (.cons _ (.cons _ (.swap _ _ _))))⟩
  case rest =>
    obtain ⟨p5, p6, rfl, rfl, H⟩ := hcut
    clear hne1 hne2 g0 g1 g2 r0 r1
    obtain ⟨⟨f0, f1, f2⟩, _⟩ := blk3 (H.blk 0 _ _ _ rfl)
    obtain ⟨⟨e0, e1⟩, y0, y1⟩ := blk2 (H.blk 3 _ _ _ rfl)
    have HT1 := HT.out.below H.below
    go_wp2_with fail
    refine (HP1.out _ HT1).mono ?_
    rintro e w2 ⟨rfl, hb⟩
    have H2 := H.call hb
    clear f0 f1 f2 e0 e1 y0 y1 hb H HT1
    obtain ⟨⟨f0, f1, f2⟩, u0, u1, u2⟩ := blk3 (H2.blk 0 _ _ _ rfl)
    obtain ⟨⟨e0, e1⟩, y0, y1⟩ := blk2 (H2.blk 3 _ _ _ rfl)
    have nb1 : N ≠ p5 := H2.ne 0 3 (by omega) rfl rfl
    go_upto_region 3 with fail
    have H3 := (H2.set 3 0 rfl (.int .i64 X)).set 3 1 rfl (.int .i64 Y)
    obtain ⟨W3, hW3⟩ : ∃ W, W = (w2.setCell ⟨p5, 0, none⟩ (.int .i64 X)).setCell ⟨p5, 1, none⟩ (.int .i64 Y) := ⟨_, rfl⟩
    rw [← hW3] at H3 ⊢
    clear f0 f1 f2 u0 u1 u2 e0 e1 y0 y1 hW3 H2
    obtain ⟨⟨f0, f1, f2⟩, u0, u1, u2⟩ := blk3 (H3.blk 0 _ _ _ rfl)
    go_upto_region 4 with fail
    have H4 := (H3.set 0 1 rfl (.int .i64 0)).set 0 2 rfl (.int .i64 0)
    obtain ⟨W4, hW4⟩ : ∃ W, W = (W3.setCell ⟨N, 1, none⟩ (.int .i64 0)).setCell ⟨N, 2, none⟩ (.int .i64 0) := ⟨_, rfl⟩
    rw [← hW4] at H4 ⊢
    clear f0 f1 f2 u0 u1 u2 hW4 H3
    obtain ⟨⟨f0, f1, f2⟩, _⟩ := blk3 (H4.blk 0 _ _ _ rfl)
    obtain ⟨⟨e0, e1⟩, y0, y1⟩ := blk2 (H4.blk 4 _ _ _ rfl)
    have HT4 := HT.out.below H4.below
    go_wp2_with fail
    refine (HP2.out _ HT4).mono ?_
    rintro e w5 ⟨rfl, hb⟩
    have H5 := H4.call hb
    clear f0 f1 f2 e0 e1 y0 y1 hb H4 HT4
    obtain ⟨⟨e0, e1⟩, y0, y1⟩ := blk2 (H5.blk 4 _ _ _ rfl)
    go_upto_region 5 with fail
    have H6 := (H5.set 4 0 rfl (.int .i64 U)).set 4 1 rfl (.int .i64 V)
    obtain ⟨W6, hW6⟩ : ∃ W, W = (w5.setCell ⟨p6, 0, none⟩ (.int .i64 U)).setCell ⟨p6, 1, none⟩ (.int .i64 V) := ⟨_, rfl⟩
    rw [← hW6] at H6 ⊢
    clear e0 e1 y0 y1 hW6 H5
    obtain ⟨⟨e0, e1⟩, _⟩ := blk2 (H6.blk 3 _ _ _ rfl)
    have a1 := and_one_i64 X
    have a2 := and_one_i64 Y
    have k1 : IntKind.i64.wrap (X - X % 2) = X - X % 2 := IntWalk.i64_in _ (by omega)
    have k2 : IntKind.i64.wrap (Y - Y % 2) = Y - Y % 2 := IntWalk.i64_in _ (by omega)
    have k3 : IntKind.i64.wrap ((X - X % 2).tdiv 2) = rx := by rw [HX1.out, show X - X % 2 = 2 * (X / 2) by omega, Int.mul_tdiv_cancel_left _ (by decide)]; exact IntWalk.i64_in _ (by omega)
    have k4 : IntKind.i64.wrap ((Y - Y % 2).tdiv 2) = ry := by rw [HX2.out, show Y - Y % 2 = 2 * (Y / 2) by omega, Int.mul_tdiv_cancel_left _ (by decide)]; exact IntWalk.i64_in _ (by omega)
    go_upto_region 6 with fail
    clear a1 a2 k1 k2 k3 k4 e0 e1
    have H7 := H6.new #[.int .i64 rx, .int .i64 ry, .int .u8 0] 111 rfl
    obtain ⟨p7, hp7⟩ : ∃ p, W6.heap.size = p := ⟨_, rfl⟩
    rw [hp7] at H7 ⊢
    obtain ⟨W7, hW7⟩ : ∃ W, W = W6.alloc (.cells #[.int .i64 rx, .int .i64 ry, .int .u8 0] 111) := ⟨_, rfl⟩
    rw [← hW7] at H7 ⊢
    clear hp7 hW7 H6
    have hr := (HQ.out.below H7.below).at'
    repeat' (go_not_at_region 7; first
      | refine wpList_load_mid rfl 330 (.global 1) rfl 1 0 rfl _ _ hr Tryz.underlying330 rfl (by kernel_rfl) ?_
      | go_step)
    clear hr
    go_loopw [47] (fun i wr => ∃ k : Nat, k ≤ 4 ∧ i = .int .i64 k ∧ Bx w [(N, #[.int .u8 t, .int .i64 0, .int .i64 0], 68), (N + 1, #[.int .i64 a, .int .i64 b, .int .u8 q], 111), (P, #[.int .i64 0, .int .i64 0, .int .u8 0], 111), (p5, #[.int .i64 X, .int .i64 Y], 311), (p6, #[.int .i64 U, .int .i64 V], 311), (p7, #[.int .i64 rx, .int .i64 ry, .int .u8 (sqN (U, V) k)], 111)] wr) (fun i _ => 4 - (intOf i).toNat)
    case atStart => exact ⟨0, by omega, rfl, H7⟩
    case round =>
      obtain ⟨k, hk, rfl, Hr⟩ := hrel
      obtain ⟨S, hS⟩ : ∃ S, sqN (U, V) k = S := ⟨_, rfl⟩
      have HS := Lib.hid hS
      rw [hS] at Hr
      clear hS
      by_cases hlt : k < 4
      · have q2 : (k : Int) < 4 := by omega
        have hix := fun w => quartersIx k hlt w
        unfold quartersV rowQ at hix
        obtain ⟨⟨d1, d2⟩, hd⟩ : ∃ z, qside k = z := ⟨_, rfl⟩
        obtain ⟨e3, h3⟩ : ∃ z, qln k = z := ⟨_, rfl⟩
        obtain ⟨e4, h4⟩ : ∃ z, qby k = z := ⟨_, rfl⟩
        obtain ⟨⟨n1, n2, n3⟩, h6⟩ : ∃ z, nxt k 0 = z := ⟨_, rfl⟩
        obtain ⟨⟨n4, n5, n6⟩, h7⟩ : ∃ z, nxt k 1 = z := ⟨_, rfl⟩
        obtain ⟨⟨n7, n8, n9⟩, h8⟩ : ∃ z, nxt k 2 = z := ⟨_, rfl⟩
        obtain ⟨⟨u1, u2⟩, h1⟩ : ∃ z, qone k = z := ⟨_, rfl⟩
        obtain ⟨⟨v1, v2⟩, h2⟩ : ∃ z, qtwo k = z := ⟨_, rfl⟩
        rw [hd, h3, h4, h6, h7, h8, h1, h2] at hix
        dsimp only at hix
        have HD := Lib.hid hd
        have kw : IntKind.u8.wrap (k : Int) = k := by
          have : k = 0 ∨ k = 1 ∨ k = 2 ∨ k = 3 := by omega
          rcases this with rfl | rfl | rfl | rfl <;> rfl
        clear hd h3 h4 h6 h7 h8 h1 h2
        go_upto_region 8 with fail
        repeat' (go_not_at_region 9; first
          | refine wpList_store_new rfl 329 (.tmp 9) (.tmp 50) rfl _ _ rfl rfl (by kernel_rfl) rfl rfl ?_
          | go_step)
        clear hix
        obtain ⟨p9, hp9⟩ : ∃ p, wr.heap.size = p := ⟨_, rfl⟩
        rw [hp9]
        have H9 := Hr.new #[.int .i64 d1, .int .i64 d2, .int .u8 e3, .int .i64 e4, .int .i64 n1, .int .i64 n2, .int .u8 n3, .int .i64 n4, .int .i64 n5, .int .u8 n6, .int .i64 n7, .int .i64 n8, .int .u8 n9, .int .i64 u1, .int .i64 u2, .int .i64 v1, .int .i64 v2] 329 hp9
        obtain ⟨W9, hW9⟩ : ∃ W, W = wr.alloc (.cells #[.int .i64 d1, .int .i64 d2, .int .u8 e3, .int .i64 e4, .int .i64 n1, .int .i64 n2, .int .u8 n3, .int .i64 n4, .int .i64 n5, .int .u8 n6, .int .i64 n7, .int .i64 n8, .int .u8 n9, .int .i64 u1, .int .i64 u2, .int .i64 v1, .int .i64 v2] 329) := ⟨_, rfl⟩
        rw [← hW9] at H9
        change Code.wp _ _ _ _ (wr.alloc (.cells #[.int .i64 d1, .int .i64 d2, .int .u8 e3, .int .i64 e4, .int .i64 n1, .int .i64 n2, .int .u8 n3, .int .i64 n4, .int .i64 n5, .int .u8 n6, .int .i64 n7, .int .i64 n8, .int .u8 n9, .int .i64 u1, .int .i64 u2, .int .i64 v1, .int .i64 v2] 329))
        rw [← hW9]
        have hrr := H9.range 6 rfl
        have r0 := hrr 0 _ rfl
        have r1 := hrr 1 _ rfl
        simp only [Nat.zero_add] at r0 r1
        clear hrr hp9 hW9 Hr
        obtain ⟨⟨e0, e1⟩, _⟩ := blk2 (H9.blk 4 _ _ _ rfl)
        obtain ⟨⟨f0, f1, f2⟩, g0, g1, g2⟩ := blk3 (H9.blk 5 _ _ _ rfl)
        have hs1 : sqN (U, V) (k + 1) = if qside k = (U, V) then k else sqN (U, V) k := rfl
        by_cases hq2 : d1 = U ∧ d2 = V
        · obtain ⟨rfl, rfl⟩ := hq2
          have HN : Hid (sqN (d1, d2) (k + 1) = k) := Lib.hid (by rw [hs1, HD.out, if_pos rfl])
          clear hs1
          go_wp2_with fail
          exact ⟨⟨k + 1, by omega, by go_num, by rw [HN.out]; exact (H9.set 5 2 rfl (.int .u8 k)).upto 6⟩, by simp [intOf]; omega⟩
        · have HN : Hid (sqN (U, V) (k + 1) = S) := Lib.hid (by rw [hs1, HD.out, if_neg (fun h => hq2 (by injection h with h1 h2; exact ⟨h1, h2⟩)), HS.out])
          clear hs1
          go_wp2_with fail
          all_goals first
            | exact absurd ⟨rfl, rfl⟩ hq2
            | exact absurd ⟨by assumption, by assumption⟩ hq2
            | exact ⟨⟨k + 1, by omega, by go_num, by rw [HN.out]; exact H9.upto 6⟩, by simp [intOf]; omega⟩
      · have hk4 : k = 4 := by omega
        subst hk4
        obtain ⟨⟨f0, f1, f2⟩, _⟩ := blk3 (Hr.blk 5 _ _ _ rfl)
        obtain ⟨⟨c0, c1', c2'⟩, z0, z1, z2⟩ := blk3 (Hr.blk 2 _ _ _ rfl)
        have HF : Hid (S = rq) := Lib.hid (by rw [← HS.out, sqN_4, HRQ.out])
        go_wp2_with fail
        have H8 := ((Hr.set 2 0 rfl (.int .i64 rx)).set 2 1 rfl (.int .i64 ry)).set 2 2 rfl (.int .u8 S)
        exact bodyPost_ret (res_cell rfl rfl (H8.range 2 rfl) Tryz.underlying111 rfl (by kernel_rfl)) rfl ⟨by rw [HF.out]; rfl, H8.below⟩
theorem movedOk : MovedOk := fun m c w hm hc hQ hT => moved_ok m c w hm hc hQ hT
end Go.Proofs.YtdkijcmhjeaofaaGreatDoor
namespace Go.Proofs.YtdkijcmhjeaofaaGreatDoor
open Go.RowKit

theorem fol_at {w : World} {A : Option Addr} {l : List (Nat × Nat)} {n : Nat} (h : Rd w A 2 n (folV l)) {j : Nat} (hj : j < l.length) : ∃ b o, A = some ⟨b, o, none⟩ ∧ b < w.heap.size ∧ w.cell? ⟨b, o + j * 2, none⟩ = some (.int .i64 (l[j].1 : Int)) ∧ w.cell? ⟨b, o + j * 2 + 1, none⟩ = some (.int .i64 (l[j].2 : Int)) := by
  have hg : ∀ (l : List (Nat × Nat)) (j : Nat) (hj : j < l.length), (folV l)[j * 2]? = some (nV l[j].1) ∧ (folV l)[j * 2 + 1]? = some (nV l[j].2) := by
    intro l
    induction l with
    | nil => intro j hj; exact absurd hj (Nat.not_lt_zero _)
    | cons p r ih =>
      intro j hj
      cases j with
      | zero => exact ⟨rfl, rfl⟩
      | succ j =>
        have := ih j (by simpa using hj)
        rw [show (j + 1) * 2 = j * 2 + 2 by omega]
        exact this
  have hn : n = l.length := by have h1 := h.1; rw [folV_len] at h1; omega
  obtain ⟨b, o, e, hb, hc⟩ := h.2 (by omega)
  have := hg l j hj
  exact ⟨b, o, e, hb, hc _ _ this.1, hc _ _ this.2⟩
theorem loo_at {w : World} {A : Option Addr} {l : List Nat} {n : Nat} (h : Rd w A 1 n (looV l)) {j : Nat} (hj : j < l.length) : ∃ b o, A = some ⟨b, o, none⟩ ∧ b < w.heap.size ∧ w.cell? ⟨b, o + j, none⟩ = some (.int .i64 (l[j] : Int)) := by
  have hn : n = l.length := by have h1 := h.1; simp [looV] at h1; omega
  obtain ⟨b, o, e, hb, hc⟩ := h.2 (by omega)
  exact ⟨b, o, e, hb, hc j _ (by unfold looV; rw [List.getElem?_map, List.getElem?_eq_getElem hj]; rfl)⟩
theorem far_any (n L P : Nat) (hn : n < L) (w : World) (hP : w.cell? ⟨P, 0, none⟩ = some (.int .i64 (L : Int))) :
    Calls Tryz.prog 44 #[.int .i64 (n : Int), .pointer (some ⟨P, 0, none⟩)] w (RetBelow (.bool false) w) := by
  have q0 : ¬ (n : Int) < 0 := by omega
  have q1 : ¬ (n : Int) ≥ (L : Int) := by omega
  go_enter Tryz.func44, Tryz.ntmps44
  go_wp2_with fail
  go_ret
  exact ⟨rfl, Below.refl _ _⟩
set_option maxHeartbeats 4000000 in
set_option maxRecDepth 100000 in
set_option linter.unusedSimpArgs false in
theorem listed_any (f : Nat → Option Nat) (L : Nat) (hN : Nc f L) (hL : L ≤ 24) (fA lA : Option Addr) (nf fc nl lc : Nat) (w : World) (hB : BAt w f L fA lA nf fc nl lc) :
    Calls Tryz.prog 22 #[.agg #[.int .i64 L, .slice fA nf fc, .slice lA nl lc]] w (RetBelow (.bool true) w) := by
  have hnf : nf ≤ 24 := by have h1 := hB.hf; have h2 := folios_len f L; omega
  have hnl : nl ≤ 24 := by have h1 := hB.hl; have h2 := loose_len f L; omega
  have HBA := Lib.hid hB
  have HNC := Lib.hid hN
  clear hB hN
  have H := (Bx.start w).new #[.int .i64 L, .slice fA nf fc, .slice lA nl lc] 28 rfl
  go_enter Tryz.func22, Tryz.ntmps22
  go_upto_region 1 with fail
  obtain ⟨W, hW⟩ : ∃ zW, zW = w.alloc (.cells #[.int .i64 L, .slice fA nf fc, .slice lA nl lc] 28) := ⟨_, rfl⟩
  rw [← hW] at H ⊢
  clear hW
  obtain ⟨N, hN⟩ : ∃ N, N = w.heap.size := ⟨_, rfl⟩
  rw [← hN] at H ⊢
  have HNN := Lib.hid hN
  clear hN
  obtain ⟨⟨a0, a1, a2⟩, _⟩ := blk3 (H.blk 0 _ _ _ rfl)
  go_wp2_with fail
  clear a0 a1 a2
  go_loopw [12] (fun s12 wr => ∃ j : Nat, s12 = .int .i64 j ∧ j ≤ nf ∧ Hid (Bx w [(N, #[.int .i64 L, .slice fA nf fc, .slice lA nl lc], 28)] wr)) (fun s12 _ => nf - (intOf s12).toNat)
  case atStart => exact ⟨0, rfl, by omega, Lib.hid H⟩
  case round =>
    obtain ⟨j, rfl, hj, HH⟩ := hrel
    by_cases hlt : j < nf
    · have q0 : (j : Int) < (nf : Int) := by omega
      have H1 := HH.out
      have hjl : j < (foliosTo f L).length := by have := HBA.out.hf; omega
      obtain ⟨b, o, rfl, hbl, p0, p1⟩ := fol_at (HBA.out.rf.below H1.below) hjl
      have hmf := mem_folio.1 (List.getElem_mem hjl)
      have hmy := (HNC.out.lt _ _ hmf.2.1).2.1
      obtain ⟨x, hx⟩ : ∃ x, (foliosTo f L)[j].1 = x := ⟨_, rfl⟩
      obtain ⟨y, hy⟩ : ∃ y, (foliosTo f L)[j].2 = y := ⟨_, rfl⟩
      have hxy := hmf.2.2
      have hxl := hmf.1
      rw [hx] at p0 hxy hxl
      rw [hy] at p1 hmy hxy
      have t1 : ¬ (x : Int) ≥ (y : Int) := by omega
      have HX := Lib.hid hx
      clear hmf hx hy
      have HFX := Lib.hid fun (W' : World) (h : W'.cell? ⟨N, 0, none⟩ = some (.int .i64 (L : Int))) => far_any x L N hxl W' h
      have HFY := Lib.hid fun (W' : World) (h : W'.cell? ⟨N, 0, none⟩ = some (.int .i64 (L : Int))) => far_any y L N hmy W' h
      have e0 := below_cell ((Below.refl _ wr).alloc (Nat.le_refl _) (.cells #[.int .i64 (x : Int), .int .i64 (y : Int)] 36)) p0
      cases j with
      | zero =>
        simp only [Nat.zero_mul, Nat.add_zero] at p0 p1 e0
        go_upto_region 5 with fail
        have H2 := H1.new #[.int .i64 x, .int .i64 y] 36 rfl
        obtain ⟨S, hSd⟩ : ∃ S : World → Prop, S = fun W' => (W'.cell? ⟨wr.heap.size, 0, none⟩ = some (.int .i64 (x : Int)) ∧ W'.cell? ⟨wr.heap.size, 1, none⟩ = some (.int .i64 (y : Int)) ∧ W'.cell? ⟨N, 0, none⟩ = some (.int .i64 (L : Int)) ∧ W'.cell? ⟨N, 1, none⟩ = some (.slice (some ⟨b, o, none⟩) nf fc)) := ⟨_, rfl⟩
        obtain ⟨W2, hW2⟩ : ∃ zW, zW = wr.alloc (.cells #[.int .i64 x, .int .i64 y] 36) := ⟨_, rfl⟩
        rw [← hW2] at H2 e0 ⊢
        clear hW2
        obtain ⟨Q, hQ⟩ : ∃ Q, Q = wr.heap.size := ⟨_, rfl⟩
        rw [← hQ] at H2 hSd ⊢
        clear hQ
        obtain ⟨⟨b0, b1, b2⟩, _⟩ := blk3 (H2.blk 0 _ _ _ rfl)
        obtain ⟨⟨c0, c1⟩, _⟩ := blk2 (H2.blk 1 _ _ _ rfl)
        have HSA : Hid (∀ W', Below W2.heap.size W2 W' → S W') := Lib.hid fun W' h => by subst hSd; exact ⟨below_cell h c0, below_cell h c1, below_cell h b0, below_cell h b1⟩
        have HSO : Hid (∀ W', S W' → W'.cell? ⟨Q, 0, none⟩ = some (.int .i64 (x : Int)) ∧ W'.cell? ⟨Q, 1, none⟩ = some (.int .i64 (y : Int)) ∧ W'.cell? ⟨N, 0, none⟩ = some (.int .i64 (L : Int)) ∧ W'.cell? ⟨N, 1, none⟩ = some (.slice (some ⟨b, o, none⟩) nf fc)) := Lib.hid fun W' h => by subst hSd; exact h
        have HN0 : Hid (∀ W', S W' → W'.cell? ⟨N, 0, none⟩ = some (.int .i64 (L : Int))) := Lib.hid fun W' h => (HSO.out _ h).2.2.1
        clear hSd b0 b1 b2 c0 c1 e0
        refine wp_region_held_drew (S := S) (by kernel_rfl) (HSA.out _ (Below.refl _ _).drew) (fun hS => ?_)
        have hb : Below W2.heap.size W2 W2.drew := (Below.refl _ _).drew
        obtain ⟨X0, hX0⟩ : ∃ zW, zW = W2.drew := ⟨_, rfl⟩
        rw [← hX0] at hb hS ⊢
        clear hX0
        refine wpAnyH_take (i := 0) (v := ?_) rfl (by kernel_rfl) (by kernel_rfl) (by kernel_rfl) (fun _ _ _ h => h) (Or.inl ⟨by rfl, ?_⟩) hS ?_
        rotate_left
        · intro w0 hSw
          have hSw := HSO.out _ hSw
          go_split_ands
          go_simp
          try with_reducible rfl
        try simp only [Act.put, List.getElem_toArray, List.getElem_cons_zero, List.setIfInBounds_toArray, List.set_cons_zero, List.set_cons_succ]
        refine wpAnyH_take (i := 1) (v := ?_) rfl (by kernel_rfl) (by kernel_rfl) (by kernel_rfl) (fun _ _ _ h => h) (Or.inl ⟨by rfl, ?_⟩) hS ?_
        rotate_left
        · intro w0 hSw
          have hSw := HSO.out _ hSw
          go_split_ands
          go_simp
          try with_reducible rfl
        try simp only [Act.put, List.getElem_toArray, List.getElem_cons_zero, List.getElem_cons_succ, List.setIfInBounds_toArray, List.set_cons_zero, List.set_cons_succ]
        refine wpAnyH_take (i := 2) (v := ?_) rfl (by kernel_rfl) (by kernel_rfl) (by kernel_rfl) (fun _ _ _ h => h) (Or.inl ⟨by rfl, ?_⟩) hS ?_
        rotate_left
        · intro w0 hSw
          have hSw := HSO.out _ hSw
          go_split_ands
          go_simp
          try with_reducible rfl
        try simp only [Act.put, List.getElem_toArray, List.getElem_cons_zero, List.getElem_cons_succ, List.setIfInBounds_toArray, List.set_cons_zero, List.set_cons_succ]
        refine wpAnyH_ready (rs := [3]) (by kernel_rfl) (by simp) (AllReadyH.cons rfl (fun K hK => ?_) AllReadyH.nil)
        go_simp
        refine (HFX.out _ (HN0.out _ hS)).mono ?_
        rintro e X1 ⟨rfl, hbm⟩
        have hb := hb.trans (hbm.mono hb.size)
        refine hK.out _ _ (HSA.out _ hb) (fun hS => ?_)
        clear hK K hbm
        refine wpAnyH_take (i := 4) (v := ?_) rfl (by kernel_rfl) (by kernel_rfl) (by kernel_rfl) (fun _ _ _ h => h) (Or.inl ⟨by rfl, ?_⟩) hS ?_
        rotate_left
        · intro w0 hSw
          have hSw := HSO.out _ hSw
          go_split_ands
          go_simp
          try with_reducible rfl
        try simp only [Act.put, List.getElem_toArray, List.getElem_cons_zero, List.getElem_cons_succ, List.setIfInBounds_toArray, List.set_cons_zero, List.set_cons_succ]
        refine wpAnyH_take (i := 5) (v := ?_) rfl (by kernel_rfl) (by kernel_rfl) (by kernel_rfl) (fun _ _ _ h => h) (Or.inl ⟨by rfl, ?_⟩) hS ?_
        rotate_left
        · intro w0 hSw
          have hSw := HSO.out _ hSw
          go_split_ands
          go_simp
          try with_reducible rfl
        try simp only [Act.put, List.getElem_toArray, List.getElem_cons_zero, List.getElem_cons_succ, List.setIfInBounds_toArray, List.set_cons_zero, List.set_cons_succ]
        refine wpAnyH_take (i := 6) (v := ?_) rfl (by kernel_rfl) (by kernel_rfl) (by kernel_rfl) (fun _ _ _ h => h) (Or.inl ⟨by rfl, ?_⟩) hS ?_
        rotate_left
        · intro w0 hSw
          have hSw := HSO.out _ hSw
          go_split_ands
          go_simp
          try with_reducible rfl
        try simp only [Act.put, List.getElem_toArray, List.getElem_cons_zero, List.getElem_cons_succ, List.setIfInBounds_toArray, List.set_cons_zero, List.set_cons_succ]
        refine wpAnyH_take (i := 7) (v := ?_) rfl (by kernel_rfl) (by kernel_rfl) (by kernel_rfl) (fun _ _ _ h => h) (Or.inl ⟨by rfl, ?_⟩) hS ?_
        rotate_left
        · intro w0 hSw
          have hSw := HSO.out _ hSw
          go_split_ands
          go_simp
          try with_reducible rfl
        try simp only [Act.put, List.getElem_toArray, List.getElem_cons_zero, List.getElem_cons_succ, List.setIfInBounds_toArray, List.set_cons_zero, List.set_cons_succ]
        refine wpAnyH_ready (rs := [8]) (by kernel_rfl) (by simp) (AllReadyH.cons rfl (fun K hK => ?_) AllReadyH.nil)
        go_simp
        refine (HFY.out _ (HN0.out _ hS)).mono ?_
        rintro e X2 ⟨rfl, hbm⟩
        have hb := hb.trans (hbm.mono hb.size)
        refine hK.out _ _ (HSA.out _ hb) (fun hS => ?_)
        clear hK K hbm
        refine wpAnyH_take (i := 9) (v := ?_) rfl (by kernel_rfl) (by kernel_rfl) (by kernel_rfl) (fun _ _ _ h => h) (Or.inl ⟨by rfl, ?_⟩) hS ?_
        rotate_left
        · intro w0 hSw
          have hSw := HSO.out _ hSw
          go_split_ands
          go_simp
          try with_reducible rfl
        try simp only [Act.put, List.getElem_toArray, List.getElem_cons_zero, List.getElem_cons_succ, List.setIfInBounds_toArray, List.set_cons_zero, List.set_cons_succ]
        refine wpAnyH_take (i := 10) (v := ?_) rfl (by kernel_rfl) (by kernel_rfl) (by kernel_rfl) (fun _ _ _ h => h) (Or.inl ⟨by rfl, ?_⟩) hS ?_
        rotate_left
        · intro w0 hSw
          have hSw := HSO.out _ hSw
          go_split_ands
          go_simp
          try with_reducible rfl
        try simp only [Act.put, List.getElem_toArray, List.getElem_cons_zero, List.getElem_cons_succ, List.setIfInBounds_toArray, List.set_cons_zero, List.set_cons_succ]
        refine wpAnyH_take (i := 11) (v := ?_) rfl (by kernel_rfl) (by kernel_rfl) (by kernel_rfl) (fun _ _ _ h => h) (Or.inl ⟨by rfl, ?_⟩) hS ?_
        rotate_left
        · intro w0 hSw
          have hSw := HSO.out _ hSw
          go_split_ands
          go_simp
          try with_reducible rfl
        try simp only [Act.put, List.getElem_toArray, List.getElem_cons_zero, List.getElem_cons_succ, List.setIfInBounds_toArray, List.set_cons_zero, List.set_cons_succ]
        refine wpAnyH_take (i := 12) (v := ?_) rfl (by kernel_rfl) (by kernel_rfl) (by kernel_rfl) (fun _ _ _ h => h) (Or.inl ⟨by rfl, ?_⟩) hS ?_
        rotate_left
        · intro w0 hSw
          have hSw := HSO.out _ hSw
          go_split_ands
          go_simp
          try with_reducible rfl
        try simp only [Act.put, List.getElem_toArray, List.getElem_cons_zero, List.getElem_cons_succ, List.setIfInBounds_toArray, List.set_cons_zero, List.set_cons_succ]
        refine wpAnyH_take (i := 13) (v := ?_) rfl (by kernel_rfl) (by kernel_rfl) (by kernel_rfl) (fun _ _ _ h => h) (Or.inl ⟨by rfl, ?_⟩) hS ?_
        rotate_left
        · intro w0 hSw
          have hSw := HSO.out _ hSw
          go_split_ands
          go_simp
          try with_reducible rfl
        try simp only [Act.put, List.getElem_toArray, List.getElem_cons_zero, List.getElem_cons_succ, List.setIfInBounds_toArray, List.set_cons_zero, List.set_cons_succ]
        refine wpAnyH_take (i := 14) (v := ?_) rfl (by kernel_rfl) (by kernel_rfl) (by kernel_rfl) (fun _ _ _ h => h) (Or.inl ⟨by rfl, ?_⟩) hS ?_
        rotate_left
        · intro w0 hSw
          have hSw := HSO.out _ hSw
          go_split_ands
          go_simp
          try with_reducible rfl
        try simp only [Act.put, List.getElem_toArray, List.getElem_cons_zero, List.getElem_cons_succ, List.setIfInBounds_toArray, List.set_cons_zero, List.set_cons_succ]
        refine wpAnyH_take (i := 15) (v := ?_) rfl (by kernel_rfl) (by kernel_rfl) (by kernel_rfl) (fun _ _ _ h => h) (Or.inl ⟨by rfl, ?_⟩) hS ?_
        rotate_left
        · intro w0 hSw
          have hSw := HSO.out _ hSw
          go_split_ands
          go_simp
          try with_reducible rfl
        try simp only [Act.put, List.getElem_toArray, List.getElem_cons_zero, List.getElem_cons_succ, List.setIfInBounds_toArray, List.set_cons_zero, List.set_cons_succ]
        refine wpAnyH_take (i := 16) (v := ?_) rfl (by kernel_rfl) (by kernel_rfl) (by kernel_rfl) (fun _ _ _ h => h) (Or.inl ⟨by rfl, ?_⟩) hS ?_
        rotate_left
        · intro w0 hSw
          have hSw := HSO.out _ hSw
          go_split_ands
          go_simp
          try with_reducible rfl
        try simp only [Act.put, List.getElem_toArray, List.getElem_cons_zero, List.getElem_cons_succ, List.setIfInBounds_toArray, List.set_cons_zero, List.set_cons_succ]
        refine wpAnyH_take (i := 17) (v := ?_) rfl (by kernel_rfl) (by kernel_rfl) (by kernel_rfl) (fun _ _ _ h => h) (Or.inl ⟨by rfl, ?_⟩) hS ?_
        rotate_left
        · intro w0 hSw
          have hSw := HSO.out _ hSw
          go_split_ands
          go_simp
          try with_reducible rfl
        try simp only [Act.put, List.getElem_toArray, List.getElem_cons_zero, List.getElem_cons_succ, List.setIfInBounds_toArray, List.set_cons_zero, List.set_cons_succ]
        refine wpAnyH_take (i := 18) (v := ?_) rfl (by kernel_rfl) (by kernel_rfl) (by kernel_rfl) (fun _ _ _ h => h) (Or.inl ⟨by rfl, ?_⟩) hS ?_
        rotate_left
        · intro w0 hSw
          have hSw := HSO.out _ hSw
          go_split_ands
          go_simp
          try with_reducible rfl
        try simp only [Act.put, List.getElem_toArray, List.getElem_cons_zero, List.getElem_cons_succ, List.setIfInBounds_toArray, List.set_cons_zero, List.set_cons_succ]
        refine wpAnyH_take (i := 19) (v := ?_) rfl (by kernel_rfl) (by kernel_rfl) (by kernel_rfl) (fun _ _ _ h => h) (Or.inl ⟨by rfl, ?_⟩) hS ?_
        rotate_left
        · intro w0 hSw
          have hSw := HSO.out _ hSw
          go_split_ands
          go_simp
          try with_reducible rfl
        try simp only [Act.put, List.getElem_toArray, List.getElem_cons_zero, List.getElem_cons_succ, List.setIfInBounds_toArray, List.set_cons_zero, List.set_cons_succ]
        refine wpAnyH_take (i := 20) (v := ?_) rfl (by kernel_rfl) (by kernel_rfl) (by kernel_rfl) (fun _ _ _ h => h) (Or.inl ⟨by rfl, ?_⟩) hS ?_
        rotate_left
        · intro w0 hSw
          have hSw := HSO.out _ hSw
          go_split_ands
          go_simp
          try with_reducible rfl
        try simp only [Act.put, List.getElem_toArray, List.getElem_cons_zero, List.getElem_cons_succ, List.setIfInBounds_toArray, List.set_cons_zero, List.set_cons_succ]
        refine wpAnyH_take (i := 21) (v := undef) rfl (by kernel_rfl) (by kernel_rfl) (by kernel_rfl) (fun _ _ _ h => h) (Or.inr ⟨by rfl, rfl⟩) hS ?_
        try simp only [Act.put, List.getElem_toArray, List.getElem_cons_zero, List.getElem_cons_succ, List.setIfInBounds_toArray, List.set_cons_zero, List.set_cons_succ]
        refine wpAnyH_take (i := 22) (v := undef) rfl (by kernel_rfl) (by kernel_rfl) (by kernel_rfl) (fun _ _ _ h => h) (Or.inr ⟨by rfl, rfl⟩) hS ?_
        try simp only [Act.put, List.getElem_toArray, List.getElem_cons_zero, List.getElem_cons_succ, List.setIfInBounds_toArray, List.set_cons_zero, List.set_cons_succ]
        refine wpAnyH_take (i := 23) (v := undef) rfl (by kernel_rfl) (by kernel_rfl) (by kernel_rfl) (fun _ _ _ h => h) (Or.inr ⟨by rfl, rfl⟩) hS ?_
        try simp only [Act.put, List.getElem_toArray, List.getElem_cons_zero, List.getElem_cons_succ, List.setIfInBounds_toArray, List.set_cons_zero, List.set_cons_succ]
        refine wpAnyH_take (i := 24) (v := undef) rfl (by kernel_rfl) (by kernel_rfl) (by kernel_rfl) (fun _ _ _ h => h) (Or.inr ⟨by rfl, rfl⟩) hS ?_
        try simp only [Act.put, List.getElem_toArray, List.getElem_cons_zero, List.getElem_cons_succ, List.setIfInBounds_toArray, List.set_cons_zero, List.set_cons_succ]
        refine wpAnyH_take (i := 25) (v := undef) rfl (by kernel_rfl) (by kernel_rfl) (by kernel_rfl) (fun _ _ _ h => h) (Or.inr ⟨by rfl, rfl⟩) hS ?_
        try simp only [Act.put, List.getElem_toArray, List.getElem_cons_zero, List.getElem_cons_succ, List.setIfInBounds_toArray, List.set_cons_zero, List.set_cons_succ]
        refine wpAnyH_take (i := 26) (v := undef) rfl (by kernel_rfl) (by kernel_rfl) (by kernel_rfl) (fun _ _ _ h => h) (Or.inr ⟨by rfl, rfl⟩) hS ?_
        try simp only [Act.put, List.getElem_toArray, List.getElem_cons_zero, List.getElem_cons_succ, List.setIfInBounds_toArray, List.set_cons_zero, List.set_cons_succ]
        refine wpAnyH_take (i := 27) (v := undef) rfl (by kernel_rfl) (by kernel_rfl) (by kernel_rfl) (fun _ _ _ h => h) (Or.inr ⟨by rfl, rfl⟩) hS ?_
        try simp only [Act.put, List.getElem_toArray, List.getElem_cons_zero, List.getElem_cons_succ, List.setIfInBounds_toArray, List.set_cons_zero, List.set_cons_succ]
        refine wpAnyH_take (i := 28) (v := undef) rfl (by kernel_rfl) (by kernel_rfl) (by kernel_rfl) (fun _ _ _ h => h) (Or.inr ⟨by rfl, rfl⟩) hS ?_
        try simp only [Act.put, List.getElem_toArray, List.getElem_cons_zero, List.getElem_cons_succ, List.setIfInBounds_toArray, List.set_cons_zero, List.set_cons_succ]
        refine wpAnyH_take (i := 29) (v := undef) rfl (by kernel_rfl) (by kernel_rfl) (by kernel_rfl) (fun _ _ _ h => h) (Or.inr ⟨by rfl, rfl⟩) hS ?_
        try simp only [Act.put, List.getElem_toArray, List.getElem_cons_zero, List.getElem_cons_succ, List.setIfInBounds_toArray, List.set_cons_zero, List.set_cons_succ]
        refine wpAnyH_take (i := 30) (v := undef) rfl (by kernel_rfl) (by kernel_rfl) (by kernel_rfl) (fun _ _ _ h => h) (Or.inr ⟨by rfl, rfl⟩) hS ?_
        try simp only [Act.put, List.getElem_toArray, List.getElem_cons_zero, List.getElem_cons_succ, List.setIfInBounds_toArray, List.set_cons_zero, List.set_cons_succ]
        refine wpAnyH_take (i := 31) (v := ?_) rfl (by kernel_rfl) (by kernel_rfl) (by kernel_rfl) (fun _ _ _ h => h) (Or.inl ⟨by rfl, ?_⟩) hS ?_
        rotate_left
        · intro w0 hSw
          have hSw := HSO.out _ hSw
          go_split_ands
          go_simp
          try with_reducible rfl
        try simp only [Act.put, List.getElem_toArray, List.getElem_cons_zero, List.getElem_cons_succ, List.setIfInBounds_toArray, List.set_cons_zero, List.set_cons_succ]
        refine wpAnyH_take (i := 32) (v := ?_) rfl (by kernel_rfl) (by kernel_rfl) (by kernel_rfl) (fun _ _ _ h => h) (Or.inl ⟨by rfl, ?_⟩) hS ?_
        rotate_left
        · intro w0 hSw
          have hSw := HSO.out _ hSw
          go_split_ands
          go_simp
          try with_reducible rfl
        try simp only [Act.put, List.getElem_toArray, List.getElem_cons_zero, List.getElem_cons_succ, List.setIfInBounds_toArray, List.set_cons_zero, List.set_cons_succ]
        refine wpAnyH_done (by kernel_rfl) ?_ _
        have H3 := H2.call hb
        go_wp2_with fail
        go_roundw
        case rel => exact ⟨1, rfl, by omega, Lib.hid (H3.upto 1)⟩
        case measure => simp [intOf]; omega
      | succ j' =>
        have hjl' : j' < (foliosTo f L).length := by omega
        obtain ⟨b2, o2, eb, _, m0, _⟩ := fol_at (HBA.out.rf.below H1.below) hjl'
        obtain ⟨rfl, rfl⟩ : b = b2 ∧ o = o2 := by simpa using eb
        have hsr := List.pairwise_iff_getElem.1 (folios_sorted (f := f) L) j' (j' + 1) hjl' hjl (by omega)
        rw [HX.out] at hsr
        obtain ⟨x', hx'⟩ : ∃ x', (foliosTo f L)[j'].1 = x' := ⟨_, rfl⟩
        rw [hx'] at m0 hsr
        have t3 : ¬ (x' : Int) ≥ (x : Int) := by omega
        have q5 : (j' : Int) < (nf : Int) := by omega
        have q6 : (((j' + 1 : Nat) : Int)) > 0 := by omega
        have ew : IntKind.i64.wrap (j' : Int) = (j' : Int) := IntWalk.i64_in _ (by have := folios_len f L; omega)
        have em := below_cell ((Below.refl _ wr).alloc (Nat.le_refl _) (.cells #[.int .i64 (x : Int), .int .i64 (y : Int)] 36)) m0
        clear hx' eb m0
        go_upto_region 5 with fail
        have H2 := H1.new #[.int .i64 x, .int .i64 y] 36 rfl
        obtain ⟨S, hSd⟩ : ∃ S : World → Prop, S = fun W' => (W'.cell? ⟨wr.heap.size, 0, none⟩ = some (.int .i64 (x : Int)) ∧ W'.cell? ⟨wr.heap.size, 1, none⟩ = some (.int .i64 (y : Int)) ∧ W'.cell? ⟨N, 0, none⟩ = some (.int .i64 (L : Int)) ∧ W'.cell? ⟨N, 1, none⟩ = some (.slice (some ⟨b, o, none⟩) nf fc) ∧ W'.cell? ⟨b, o + j' * 2, none⟩ = some (.int .i64 (x' : Int))) := ⟨_, rfl⟩
        obtain ⟨W2, hW2⟩ : ∃ zW, zW = wr.alloc (.cells #[.int .i64 x, .int .i64 y] 36) := ⟨_, rfl⟩
        rw [← hW2] at H2 e0 em ⊢
        clear hW2
        obtain ⟨Q, hQ⟩ : ∃ Q, Q = wr.heap.size := ⟨_, rfl⟩
        rw [← hQ] at H2 hSd ⊢
        clear hQ
        obtain ⟨⟨b0, b1, b2⟩, _⟩ := blk3 (H2.blk 0 _ _ _ rfl)
        obtain ⟨⟨c0, c1⟩, _⟩ := blk2 (H2.blk 1 _ _ _ rfl)
        have HSA : Hid (∀ W', Below W2.heap.size W2 W' → S W') := Lib.hid fun W' h => by subst hSd; exact ⟨below_cell h c0, below_cell h c1, below_cell h b0, below_cell h b1, below_cell h em⟩
        have HSO : Hid (∀ W', S W' → W'.cell? ⟨Q, 0, none⟩ = some (.int .i64 (x : Int)) ∧ W'.cell? ⟨Q, 1, none⟩ = some (.int .i64 (y : Int)) ∧ W'.cell? ⟨N, 0, none⟩ = some (.int .i64 (L : Int)) ∧ W'.cell? ⟨N, 1, none⟩ = some (.slice (some ⟨b, o, none⟩) nf fc) ∧ W'.cell? ⟨b, o + j' * 2, none⟩ = some (.int .i64 (x' : Int))) := Lib.hid fun W' h => by subst hSd; exact h
        have HN0 : Hid (∀ W', S W' → W'.cell? ⟨N, 0, none⟩ = some (.int .i64 (L : Int))) := Lib.hid fun W' h => (HSO.out _ h).2.2.1
        clear em
        clear hSd b0 b1 b2 c0 c1 e0
        refine wp_region_held_drew (S := S) (by kernel_rfl) (HSA.out _ (Below.refl _ _).drew) (fun hS => ?_)
        have hb : Below W2.heap.size W2 W2.drew := (Below.refl _ _).drew
        obtain ⟨X0, hX0⟩ : ∃ zW, zW = W2.drew := ⟨_, rfl⟩
        rw [← hX0] at hb hS ⊢
        clear hX0
        refine wpAnyH_take (i := 0) (v := ?_) rfl (by kernel_rfl) (by kernel_rfl) (by kernel_rfl) (fun _ _ _ h => h) (Or.inl ⟨by rfl, ?_⟩) hS ?_
        rotate_left
        · intro w0 hSw
          have hSw := HSO.out _ hSw
          go_split_ands
          go_simp
          try with_reducible rfl
        try simp only [Act.put, List.getElem_toArray, List.getElem_cons_zero, List.setIfInBounds_toArray, List.set_cons_zero, List.set_cons_succ]
        refine wpAnyH_take (i := 1) (v := ?_) rfl (by kernel_rfl) (by kernel_rfl) (by kernel_rfl) (fun _ _ _ h => h) (Or.inl ⟨by rfl, ?_⟩) hS ?_
        rotate_left
        · intro w0 hSw
          have hSw := HSO.out _ hSw
          go_split_ands
          go_simp
          try with_reducible rfl
        try simp only [Act.put, List.getElem_toArray, List.getElem_cons_zero, List.getElem_cons_succ, List.setIfInBounds_toArray, List.set_cons_zero, List.set_cons_succ]
        refine wpAnyH_take (i := 2) (v := ?_) rfl (by kernel_rfl) (by kernel_rfl) (by kernel_rfl) (fun _ _ _ h => h) (Or.inl ⟨by rfl, ?_⟩) hS ?_
        rotate_left
        · intro w0 hSw
          have hSw := HSO.out _ hSw
          go_split_ands
          go_simp
          try with_reducible rfl
        try simp only [Act.put, List.getElem_toArray, List.getElem_cons_zero, List.getElem_cons_succ, List.setIfInBounds_toArray, List.set_cons_zero, List.set_cons_succ]
        refine wpAnyH_ready (rs := [3]) (by kernel_rfl) (by simp) (AllReadyH.cons rfl (fun K hK => ?_) AllReadyH.nil)
        go_simp
        refine (HFX.out _ (HN0.out _ hS)).mono ?_
        rintro e X1 ⟨rfl, hbm⟩
        have hb := hb.trans (hbm.mono hb.size)
        refine hK.out _ _ (HSA.out _ hb) (fun hS => ?_)
        clear hK K hbm
        refine wpAnyH_take (i := 4) (v := ?_) rfl (by kernel_rfl) (by kernel_rfl) (by kernel_rfl) (fun _ _ _ h => h) (Or.inl ⟨by rfl, ?_⟩) hS ?_
        rotate_left
        · intro w0 hSw
          have hSw := HSO.out _ hSw
          go_split_ands
          go_simp
          try with_reducible rfl
        try simp only [Act.put, List.getElem_toArray, List.getElem_cons_zero, List.getElem_cons_succ, List.setIfInBounds_toArray, List.set_cons_zero, List.set_cons_succ]
        refine wpAnyH_take (i := 5) (v := ?_) rfl (by kernel_rfl) (by kernel_rfl) (by kernel_rfl) (fun _ _ _ h => h) (Or.inl ⟨by rfl, ?_⟩) hS ?_
        rotate_left
        · intro w0 hSw
          have hSw := HSO.out _ hSw
          go_split_ands
          go_simp
          try with_reducible rfl
        try simp only [Act.put, List.getElem_toArray, List.getElem_cons_zero, List.getElem_cons_succ, List.setIfInBounds_toArray, List.set_cons_zero, List.set_cons_succ]
        refine wpAnyH_take (i := 6) (v := ?_) rfl (by kernel_rfl) (by kernel_rfl) (by kernel_rfl) (fun _ _ _ h => h) (Or.inl ⟨by rfl, ?_⟩) hS ?_
        rotate_left
        · intro w0 hSw
          have hSw := HSO.out _ hSw
          go_split_ands
          go_simp
          try with_reducible rfl
        try simp only [Act.put, List.getElem_toArray, List.getElem_cons_zero, List.getElem_cons_succ, List.setIfInBounds_toArray, List.set_cons_zero, List.set_cons_succ]
        refine wpAnyH_take (i := 7) (v := ?_) rfl (by kernel_rfl) (by kernel_rfl) (by kernel_rfl) (fun _ _ _ h => h) (Or.inl ⟨by rfl, ?_⟩) hS ?_
        rotate_left
        · intro w0 hSw
          have hSw := HSO.out _ hSw
          go_split_ands
          go_simp
          try with_reducible rfl
        try simp only [Act.put, List.getElem_toArray, List.getElem_cons_zero, List.getElem_cons_succ, List.setIfInBounds_toArray, List.set_cons_zero, List.set_cons_succ]
        refine wpAnyH_ready (rs := [8]) (by kernel_rfl) (by simp) (AllReadyH.cons rfl (fun K hK => ?_) AllReadyH.nil)
        go_simp
        refine (HFY.out _ (HN0.out _ hS)).mono ?_
        rintro e X2 ⟨rfl, hbm⟩
        have hb := hb.trans (hbm.mono hb.size)
        refine hK.out _ _ (HSA.out _ hb) (fun hS => ?_)
        clear hK K hbm
        refine wpAnyH_take (i := 9) (v := ?_) rfl (by kernel_rfl) (by kernel_rfl) (by kernel_rfl) (fun _ _ _ h => h) (Or.inl ⟨by rfl, ?_⟩) hS ?_
        rotate_left
        · intro w0 hSw
          have hSw := HSO.out _ hSw
          go_split_ands
          go_simp
          try with_reducible rfl
        try simp only [Act.put, List.getElem_toArray, List.getElem_cons_zero, List.getElem_cons_succ, List.setIfInBounds_toArray, List.set_cons_zero, List.set_cons_succ]
        refine wpAnyH_take (i := 10) (v := ?_) rfl (by kernel_rfl) (by kernel_rfl) (by kernel_rfl) (fun _ _ _ h => h) (Or.inl ⟨by rfl, ?_⟩) hS ?_
        rotate_left
        · intro w0 hSw
          have hSw := HSO.out _ hSw
          go_split_ands
          go_simp
          try with_reducible rfl
        try simp only [Act.put, List.getElem_toArray, List.getElem_cons_zero, List.getElem_cons_succ, List.setIfInBounds_toArray, List.set_cons_zero, List.set_cons_succ]
        refine wpAnyH_take (i := 11) (v := ?_) rfl (by kernel_rfl) (by kernel_rfl) (by kernel_rfl) (fun _ _ _ h => h) (Or.inl ⟨by rfl, ?_⟩) hS ?_
        rotate_left
        · intro w0 hSw
          have hSw := HSO.out _ hSw
          go_split_ands
          go_simp
          try with_reducible rfl
        try simp only [Act.put, List.getElem_toArray, List.getElem_cons_zero, List.getElem_cons_succ, List.setIfInBounds_toArray, List.set_cons_zero, List.set_cons_succ]
        refine wpAnyH_take (i := 12) (v := ?_) rfl (by kernel_rfl) (by kernel_rfl) (by kernel_rfl) (fun _ _ _ h => h) (Or.inl ⟨by rfl, ?_⟩) hS ?_
        rotate_left
        · intro w0 hSw
          have hSw := HSO.out _ hSw
          go_split_ands
          go_simp
          try with_reducible rfl
        try simp only [Act.put, List.getElem_toArray, List.getElem_cons_zero, List.getElem_cons_succ, List.setIfInBounds_toArray, List.set_cons_zero, List.set_cons_succ]
        refine wpAnyH_take (i := 13) (v := ?_) rfl (by kernel_rfl) (by kernel_rfl) (by kernel_rfl) (fun _ _ _ h => h) (Or.inl ⟨by rfl, ?_⟩) hS ?_
        rotate_left
        · intro w0 hSw
          have hSw := HSO.out _ hSw
          go_split_ands
          go_simp
          try with_reducible rfl
        try simp only [Act.put, List.getElem_toArray, List.getElem_cons_zero, List.getElem_cons_succ, List.setIfInBounds_toArray, List.set_cons_zero, List.set_cons_succ]
        refine wpAnyH_take (i := 14) (v := ?_) rfl (by kernel_rfl) (by kernel_rfl) (by kernel_rfl) (fun _ _ _ h => h) (Or.inl ⟨by rfl, ?_⟩) hS ?_
        rotate_left
        · intro w0 hSw
          have hSw := HSO.out _ hSw
          go_split_ands
          go_simp
          try with_reducible rfl
        try simp only [Act.put, List.getElem_toArray, List.getElem_cons_zero, List.getElem_cons_succ, List.setIfInBounds_toArray, List.set_cons_zero, List.set_cons_succ]
        refine wpAnyH_take (i := 15) (v := ?_) rfl (by kernel_rfl) (by kernel_rfl) (by kernel_rfl) (fun _ _ _ h => h) (Or.inl ⟨by rfl, ?_⟩) hS ?_
        rotate_left
        · intro w0 hSw
          have hSw := HSO.out _ hSw
          go_split_ands
          go_simp
          try with_reducible rfl
        try simp only [Act.put, List.getElem_toArray, List.getElem_cons_zero, List.getElem_cons_succ, List.setIfInBounds_toArray, List.set_cons_zero, List.set_cons_succ]
        refine wpAnyH_take (i := 16) (v := ?_) rfl (by kernel_rfl) (by kernel_rfl) (by kernel_rfl) (fun _ _ _ h => h) (Or.inl ⟨by rfl, ?_⟩) hS ?_
        rotate_left
        · intro w0 hSw
          have hSw := HSO.out _ hSw
          go_split_ands
          go_simp
          try with_reducible rfl
        try simp only [Act.put, List.getElem_toArray, List.getElem_cons_zero, List.getElem_cons_succ, List.setIfInBounds_toArray, List.set_cons_zero, List.set_cons_succ]
        refine wpAnyH_take (i := 17) (v := ?_) rfl (by kernel_rfl) (by kernel_rfl) (by kernel_rfl) (fun _ _ _ h => h) (Or.inl ⟨by rfl, ?_⟩) hS ?_
        rotate_left
        · intro w0 hSw
          have hSw := HSO.out _ hSw
          go_split_ands
          go_simp
          try with_reducible rfl
        try simp only [Act.put, List.getElem_toArray, List.getElem_cons_zero, List.getElem_cons_succ, List.setIfInBounds_toArray, List.set_cons_zero, List.set_cons_succ]
        refine wpAnyH_take (i := 18) (v := ?_) rfl (by kernel_rfl) (by kernel_rfl) (by kernel_rfl) (fun _ _ _ h => h) (Or.inl ⟨by rfl, ?_⟩) hS ?_
        rotate_left
        · intro w0 hSw
          have hSw := HSO.out _ hSw
          go_split_ands
          go_simp
          try with_reducible rfl
        try simp only [Act.put, List.getElem_toArray, List.getElem_cons_zero, List.getElem_cons_succ, List.setIfInBounds_toArray, List.set_cons_zero, List.set_cons_succ]
        refine wpAnyH_take (i := 19) (v := ?_) rfl (by kernel_rfl) (by kernel_rfl) (by kernel_rfl) (fun _ _ _ h => h) (Or.inl ⟨by rfl, ?_⟩) hS ?_
        rotate_left
        · intro w0 hSw
          have hSw := HSO.out _ hSw
          go_split_ands
          go_simp
          try with_reducible rfl
        try simp only [Act.put, List.getElem_toArray, List.getElem_cons_zero, List.getElem_cons_succ, List.setIfInBounds_toArray, List.set_cons_zero, List.set_cons_succ]
        refine wpAnyH_take (i := 20) (v := ?_) rfl (by kernel_rfl) (by kernel_rfl) (by kernel_rfl) (fun _ _ _ h => h) (Or.inl ⟨by rfl, ?_⟩) hS ?_
        rotate_left
        · intro w0 hSw
          have hSw := HSO.out _ hSw
          go_split_ands
          go_simp
          try with_reducible rfl
        try simp only [Act.put, List.getElem_toArray, List.getElem_cons_zero, List.getElem_cons_succ, List.setIfInBounds_toArray, List.set_cons_zero, List.set_cons_succ]
        refine wpAnyH_take (i := 21) (v := ?_) rfl (by kernel_rfl) (by kernel_rfl) (by kernel_rfl) (fun _ _ _ h => h) (Or.inl ⟨by rfl, ?_⟩) hS ?_
        rotate_left
        · intro w0 hSw
          have hSw := HSO.out _ hSw
          go_split_ands
          go_simp
          try with_reducible rfl
        try simp only [Act.put, List.getElem_toArray, List.getElem_cons_zero, List.getElem_cons_succ, List.setIfInBounds_toArray, List.set_cons_zero, List.set_cons_succ]
        refine wpAnyH_take (i := 22) (v := ?_) rfl (by kernel_rfl) (by kernel_rfl) (by kernel_rfl) (fun _ _ _ h => h) (Or.inl ⟨by rfl, ?_⟩) hS ?_
        rotate_left
        · intro w0 hSw
          have hSw := HSO.out _ hSw
          go_split_ands
          go_simp
          try with_reducible rfl
        try simp only [Act.put, List.getElem_toArray, List.getElem_cons_zero, List.getElem_cons_succ, List.setIfInBounds_toArray, List.set_cons_zero, List.set_cons_succ]
        refine wpAnyH_take (i := 23) (v := ?_) rfl (by kernel_rfl) (by kernel_rfl) (by kernel_rfl) (fun _ _ _ h => h) (Or.inl ⟨by rfl, ?_⟩) hS ?_
        rotate_left
        · intro w0 hSw
          have hSw := HSO.out _ hSw
          go_split_ands
          go_simp
          try with_reducible rfl
        try simp only [Act.put, List.getElem_toArray, List.getElem_cons_zero, List.getElem_cons_succ, List.setIfInBounds_toArray, List.set_cons_zero, List.set_cons_succ]
        refine wpAnyH_take (i := 24) (v := ?_) rfl (by kernel_rfl) (by kernel_rfl) (by kernel_rfl) (fun _ _ _ h => h) (Or.inl ⟨by rfl, ?_⟩) hS ?_
        rotate_left
        · intro w0 hSw
          have hSw := HSO.out _ hSw
          go_split_ands
          go_simp
          try with_reducible rfl
        try simp only [Act.put, List.getElem_toArray, List.getElem_cons_zero, List.getElem_cons_succ, List.setIfInBounds_toArray, List.set_cons_zero, List.set_cons_succ]
        refine wpAnyH_take (i := 25) (v := ?_) rfl (by kernel_rfl) (by kernel_rfl) (by kernel_rfl) (fun _ _ _ h => h) (Or.inl ⟨by rfl, ?_⟩) hS ?_
        rotate_left
        · intro w0 hSw
          have hSw := HSO.out _ hSw
          go_split_ands
          go_simp
          try with_reducible rfl
        try simp only [Act.put, List.getElem_toArray, List.getElem_cons_zero, List.getElem_cons_succ, List.setIfInBounds_toArray, List.set_cons_zero, List.set_cons_succ]
        refine wpAnyH_take (i := 26) (v := ?_) rfl (by kernel_rfl) (by kernel_rfl) (by kernel_rfl) (fun _ _ _ h => h) (Or.inl ⟨by rfl, ?_⟩) hS ?_
        rotate_left
        · intro w0 hSw
          have hSw := HSO.out _ hSw
          go_split_ands
          go_simp
          try with_reducible rfl
        try simp only [Act.put, List.getElem_toArray, List.getElem_cons_zero, List.getElem_cons_succ, List.setIfInBounds_toArray, List.set_cons_zero, List.set_cons_succ]
        refine wpAnyH_take (i := 27) (v := ?_) rfl (by kernel_rfl) (by kernel_rfl) (by kernel_rfl) (fun _ _ _ h => h) (Or.inl ⟨by rfl, ?_⟩) hS ?_
        rotate_left
        · intro w0 hSw
          have hSw := HSO.out _ hSw
          go_split_ands
          go_simp
          try with_reducible rfl
        try simp only [Act.put, List.getElem_toArray, List.getElem_cons_zero, List.getElem_cons_succ, List.setIfInBounds_toArray, List.set_cons_zero, List.set_cons_succ]
        refine wpAnyH_take (i := 28) (v := ?_) rfl (by kernel_rfl) (by kernel_rfl) (by kernel_rfl) (fun _ _ _ h => h) (Or.inl ⟨by rfl, ?_⟩) hS ?_
        rotate_left
        · intro w0 hSw
          have hSw := HSO.out _ hSw
          go_split_ands
          go_simp
          try with_reducible rfl
        try simp only [Act.put, List.getElem_toArray, List.getElem_cons_zero, List.getElem_cons_succ, List.setIfInBounds_toArray, List.set_cons_zero, List.set_cons_succ]
        refine wpAnyH_take (i := 29) (v := ?_) rfl (by kernel_rfl) (by kernel_rfl) (by kernel_rfl) (fun _ _ _ h => h) (Or.inl ⟨by rfl, ?_⟩) hS ?_
        rotate_left
        · intro w0 hSw
          have hSw := HSO.out _ hSw
          go_split_ands
          go_simp
          try with_reducible rfl
        try simp only [Act.put, List.getElem_toArray, List.getElem_cons_zero, List.getElem_cons_succ, List.setIfInBounds_toArray, List.set_cons_zero, List.set_cons_succ]
        refine wpAnyH_take (i := 30) (v := ?_) rfl (by kernel_rfl) (by kernel_rfl) (by kernel_rfl) (fun _ _ _ h => h) (Or.inl ⟨by rfl, ?_⟩) hS ?_
        rotate_left
        · intro w0 hSw
          have hSw := HSO.out _ hSw
          go_split_ands
          go_simp
          try with_reducible rfl
        try simp only [Act.put, List.getElem_toArray, List.getElem_cons_zero, List.getElem_cons_succ, List.setIfInBounds_toArray, List.set_cons_zero, List.set_cons_succ]
        refine wpAnyH_take (i := 31) (v := ?_) rfl (by kernel_rfl) (by kernel_rfl) (by kernel_rfl) (fun _ _ _ h => h) (Or.inl ⟨by rfl, ?_⟩) hS ?_
        rotate_left
        · intro w0 hSw
          have hSw := HSO.out _ hSw
          go_split_ands
          go_simp
          try with_reducible rfl
        try simp only [Act.put, List.getElem_toArray, List.getElem_cons_zero, List.getElem_cons_succ, List.setIfInBounds_toArray, List.set_cons_zero, List.set_cons_succ]
        refine wpAnyH_take (i := 32) (v := ?_) rfl (by kernel_rfl) (by kernel_rfl) (by kernel_rfl) (fun _ _ _ h => h) (Or.inl ⟨by rfl, ?_⟩) hS ?_
        rotate_left
        · intro w0 hSw
          have hSw := HSO.out _ hSw
          go_split_ands
          go_simp
          try with_reducible rfl
        try simp only [Act.put, List.getElem_toArray, List.getElem_cons_zero, List.getElem_cons_succ, List.setIfInBounds_toArray, List.set_cons_zero, List.set_cons_succ]
        refine wpAnyH_done (by kernel_rfl) ?_ _
        have H3 := H2.call hb
        go_wp2_with fail
        go_roundw
        case rel => exact ⟨j' + 2, by go_num, by omega, Lib.hid (H3.upto 1)⟩
        case measure => simp [intOf]; omega
    · have q0 : ¬ (j : Int) < (nf : Int) := by omega
      have H1 := HH.out
      obtain ⟨⟨a0, a1, a2⟩, _⟩ := blk3 (H1.blk 0 _ _ _ rfl)
      have HH1 := HH
      clear HH H H1
      go_wp2_with fail
      clear a0 a1 a2 q0
      go_loopw [54] (fun s54 wx => ∃ k : Nat, s54 = .int .i64 k ∧ k ≤ nl ∧ Hid (Bx w [(N, #[.int .i64 L, .slice fA nf fc, .slice lA nl lc], 28)] wx)) (fun s54 _ => nl - (intOf s54).toNat)
      case atStart => exact ⟨0, rfl, by omega, HH1⟩
      case round =>
        obtain ⟨k, rfl, hk, HH⟩ := hrel
        clear HH1
        have H1 := HH.out
        by_cases hlt2 : k < nl
        · have q0 : (k : Int) < (nl : Int) := by omega
          have hkl : k < (looseTo f L).length := by have := HBA.out.hl; omega
          obtain ⟨b, o, rfl, hbl, p0⟩ := loo_at (HBA.out.rl.below H1.below) hkl
          obtain ⟨x, hx⟩ : ∃ x, (looseTo f L)[k] = x := ⟨_, rfl⟩
          have hxl : x < L := hx ▸ (mem_loose.1 (List.getElem_mem hkl)).1
          rw [hx] at p0
          have HX := Lib.hid hx
          have HFX := Lib.hid fun (W' : World) (h : W'.cell? ⟨N, 0, none⟩ = some (.int .i64 (L : Int))) => far_any x L N hxl W' h
          obtain ⟨⟨a0, a1, a2⟩, _⟩ := blk3 (H1.blk 0 _ _ _ rfl)
          clear hx
          cases k with
          | zero =>
            simp only [Nat.add_zero] at p0
            go_wp2_with fail
            refine (HFX.out _ a0).mono ?_
            rintro e w3 ⟨rfl, hb⟩
            have H3 := H1.call hb
            clear a0 a1 a2 p0 hb
            obtain ⟨⟨a0, a1, a2⟩, _⟩ := blk3 (H3.blk 0 _ _ _ rfl)
            go_wp2_with fail
            go_roundw
            case rel => exact ⟨1, rfl, by omega, Lib.hid H3⟩
            case measure => simp [intOf]; omega
          | succ k' =>
            have hkl' : k' < (looseTo f L).length := by omega
            obtain ⟨b2, o2, eb, _, m0⟩ := loo_at (HBA.out.rl.below H1.below) hkl'
            obtain ⟨rfl, rfl⟩ : b = b2 ∧ o = o2 := by simpa using eb
            have hsr := List.pairwise_iff_getElem.1 (loose_sorted (f := f) L) k' (k' + 1) hkl' hkl (by omega)
            rw [HX.out] at hsr
            obtain ⟨x', hx'⟩ : ∃ x', (looseTo f L)[k'] = x' := ⟨_, rfl⟩
            rw [hx'] at m0 hsr
            have t3 : ¬ (x' : Int) ≥ (x : Int) := by omega
            have q5 : (k' : Int) < (nl : Int) := by omega
            have q6 : (((k' + 1 : Nat) : Int)) > 0 := by omega
            have ew : IntKind.i64.wrap (k' : Int) = (k' : Int) := IntWalk.i64_in _ (by have := loose_len f L; omega)
            clear hx' eb hkl'
            go_wp2_with fail
            refine (HFX.out _ a0).mono ?_
            rintro e w3 ⟨rfl, hb⟩
            have H3 := H1.call hb
            have m1 := below_cell hb m0
            clear a0 a1 a2 p0 hb m0
            obtain ⟨⟨a0, a1, a2⟩, _⟩ := blk3 (H3.blk 0 _ _ _ rfl)
            go_wp2_with fail
            go_roundw
            case rel => exact ⟨k' + 2, by go_num, by omega, Lib.hid H3⟩
            case measure => simp [intOf]; omega
        · have q0 : ¬ (k : Int) < (nl : Int) := by omega
          go_wp2_with fail
          go_ret
          exact ⟨rfl, H1.below⟩
end Go.Proofs.YtdkijcmhjeaofaaGreatDoor
namespace Go.Proofs
open Go.Shelf Go.RowKit
def Tryz.laysSort_ren : Go.Shelf.Ren := ⟨fun | 189 => 24 | 125 => 42 | 257 => 45 | 128 => 83 | 129 => 84 | 294 => 85 | 295 => 86 | 296 => 87 | 297 => 88 | 298 => 89 | 299 => 90 | 216 => 91 | 300 => 92 | 301 => 93 | 328 => 138 | 329 => 134 | 330 => 135 | 331 => 139 | 332 => 140 | 215 => 43 | 343 => 192 | n => n, fun | 28 => 26 | 3 => 3 | 46 => 104 | 0 => 0 | 51 => 170 | 53 => 22 | 4 => 4 | 183 => 163 | 182 => 162 | 131 => 167 | 5 => 5 | 9 => 9 | 218 => 235 | 222 => 142 | 228 => 303 | 229 => 260 | n => n, fun | n => n⟩
theorem Tryz.laysSort : Go.Proofs.Lays.n189 Tryz.prog Tryz.laysSort_ren := {
  mixed := by kernel_rfl, f125 := Tryz.func42.trans (congrArg some (by kernel_rfl)), f128 := Tryz.func83.trans (congrArg some (by kernel_rfl)), f129 := Tryz.func84.trans (congrArg some (by kernel_rfl)), f189 := Tryz.func24.trans (congrArg some (by kernel_rfl)), f215 := Tryz.func43.trans (congrArg some (by kernel_rfl)), f216 := Tryz.func91.trans (congrArg some (by kernel_rfl)), f257 := Tryz.func45.trans (congrArg some (by kernel_rfl)), f294 := Tryz.func85.trans (congrArg some (by kernel_rfl)), f295 := Tryz.func86.trans (congrArg some (by kernel_rfl)), f296 := Tryz.func87.trans (congrArg some (by kernel_rfl)), f297 := Tryz.func88.trans (congrArg some (by kernel_rfl)), f298 := Tryz.func89.trans (congrArg some (by kernel_rfl)), f299 := Tryz.func90.trans (congrArg some (by kernel_rfl)), f300 := Tryz.func92.trans (congrArg some (by kernel_rfl)), f301 := Tryz.func93.trans (congrArg some (by kernel_rfl)), f328 := Tryz.func138.trans (congrArg some (by kernel_rfl)), f329 := Tryz.func134.trans (congrArg some (by kernel_rfl)), f330 := Tryz.func135.trans (congrArg some (by kernel_rfl)), f331 := Tryz.func139.trans (congrArg some (by kernel_rfl)), f332 := Tryz.func140.trans (congrArg some (by kernel_rfl)), f343 := Tryz.func192.trans (congrArg some (by kernel_rfl)), t0 := Tryz.underlying0, a0 := Tryz.isAgg0, z0 := Tryz.sizeOf0, v0 := Tryz.zeroValue0, t3 := Tryz.underlying3, a3 := Tryz.isAgg3, z3 := Tryz.sizeOf3, v3 := Tryz.zeroValue3, t4 := Tryz.underlying4, a4 := Tryz.isAgg4, z4 := Tryz.sizeOf4, v4 := Tryz.zeroValue4, t5 := Tryz.underlying5, a5 := Tryz.isAgg5, z5 := Tryz.sizeOf5, v5 := Tryz.zeroValue5, t9 := Tryz.underlying9, a9 := Tryz.isAgg9, z9 := Tryz.sizeOf9, v9 := Tryz.zeroValue9, t28 := Tryz.underlying26, a28 := Tryz.isAgg26, z28 := Tryz.sizeOf26, v28 := Tryz.zeroValue26, t46 := Tryz.underlying104, a46 := Tryz.isAgg104, z46 := Tryz.sizeOf104, v46 := Tryz.zeroValue104, t51 := Tryz.underlying170, a51 := Tryz.isAgg170, z51 := Tryz.sizeOf170, v51 := Tryz.zeroValue170, t53 := Tryz.underlying22, a53 := Tryz.isAgg22, z53 := Tryz.sizeOf22, v53 := Tryz.zeroValue22, t131 := Tryz.underlying167, a131 := Tryz.isAgg167, z131 := Tryz.sizeOf167, v131 := Tryz.zeroValue167, t182 := Tryz.underlying162, a182 := Tryz.isAgg162, z182 := Tryz.sizeOf162, v182 := Tryz.zeroValue162, t183 := Tryz.underlying163, a183 := Tryz.isAgg163, z183 := Tryz.sizeOf163, v183 := Tryz.zeroValue163, t218 := Tryz.underlying235, a218 := Tryz.isAgg235, z218 := Tryz.sizeOf235, v218 := Tryz.zeroValue235, t222 := Tryz.underlying142, a222 := Tryz.isAgg142, z222 := Tryz.sizeOf142, v222 := Tryz.zeroValue142, t228 := Tryz.underlying303, a228 := Tryz.isAgg303, z228 := Tryz.sizeOf303, v228 := Tryz.zeroValue303, t229 := Tryz.underlying260, a229 := Tryz.isAgg260, z229 := Tryz.sizeOf260, v229 := Tryz.zeroValue260 }
def Tryz.laysCompact_ren : Go.Shelf.Ren := ⟨fun | 20 => 25 | n => n, fun | 22 => 26 | 3 => 3 | 4 => 4 | 0 => 0 | n => n, fun | n => n⟩
theorem Tryz.laysCompact : Go.Proofs.Lays2.n20 Tryz.prog Tryz.laysCompact_ren := {
  mixed := by kernel_rfl, f20 := Tryz.func25.trans (congrArg some (by kernel_rfl)), t0 := Tryz.underlying0, a0 := Tryz.isAgg0, z0 := Tryz.sizeOf0, v0 := Tryz.zeroValue0, t3 := Tryz.underlying3, a3 := Tryz.isAgg3, z3 := Tryz.sizeOf3, v3 := Tryz.zeroValue3, t4 := Tryz.underlying4, a4 := Tryz.isAgg4, z4 := Tryz.sizeOf4, v4 := Tryz.zeroValue4, t22 := Tryz.underlying26, a22 := Tryz.isAgg26, z22 := Tryz.sizeOf26, v22 := Tryz.zeroValue26, i3 := by kernel_rfl }
end Go.Proofs
namespace Go.Proofs.YtdkijcmhjeaofaaGreatDoor
open Go.RowKit

def iBV (xs : List Int) : List Value := xs.map (Value.int .i64)
def srt (xs : List Int) : List Int := xs.mergeSort fun x y => decide (x ≤ y)
theorem srt_len (xs : List Int) : (srt xs).length = xs.length := by unfold srt; rw [List.length_mergeSort]
theorem sortI_any {M m c : Nat} {B : Option Addr} {xs : List Int} (w : World) (h : w.ownsRow M 3 1 (.slice B m c) m (iBV xs)) (hM : M ≤ w.heap.size) (hm : m ≤ 1000) :
    Calls Tryz.prog 24 #[.slice B m c] w fun e w' => e = .returned (.tuple #[]) ∧ w'.ownsRow M 3 1 (.slice B m c) m (iBV (srt xs)) ∧ Below M w w' := by
  have hl : xs.length = m := by have := h.1; simpa [iBV] using this
  rcases h.2 with ⟨h0, rfl⟩ | ⟨g, cap, cur, r1, r2, r3, r4, r5, r6, r7⟩
  · obtain rfl : xs = [] := List.eq_nil_of_length_eq_zero hl
    refine (Any.slices_Sort_int_none Tryz.laysSort B c w).mono ?_
    rintro e w' ⟨rfl, rfl⟩
    exact ⟨rfl, by simpa [srt, iBV] using h, Below.refl _ _⟩
  · obtain ⟨rfl, rfl⟩ : B = some ⟨g, 0, none⟩ ∧ c = cap := by simpa using r1
    subst hl
    have hH := holds_of_blockI (ss := xs) r3 (by rw [Nat.mul_one] at r7; exact r7)
    refine (Any.slices_Sort_int Tryz.laysSort g 0 c xs w hH (Array.getElem?_eq_some_iff.1 r3).1 (by omega)).mono ?_
    rintro e w' ⟨rfl, n, os, rfl⟩
    refine ⟨rfl, ownsRow_sortedI (ts := srt xs) (srt_len xs) r2 r3 r4 r5 r6, ?_⟩
    exact below_own (v := .slice (some ⟨g, 0, none⟩) xs.length c) (grownBy_sortedI _) h hM
theorem compactI_any {M m c : Nat} {B : Option Addr} {xs : List Int} (w : World) (h : w.ownsRow M 3 1 (.slice B m c) m (iBV xs)) (hM : M ≤ w.heap.size) (hm : m ≤ 1000) (hk : ∀ j, j < xs.length → Lib.keeps xs.toArray j = true) :
    Calls Tryz.prog 25 #[.slice B m c] w fun e w' => (∃ B' c', e = .returned (.slice B' m c')) ∧ Below M w w' := by
  have hl : xs.length = m := by have := h.1; simpa [iBV] using this
  rcases h.2 with ⟨h0, rfl⟩ | ⟨g, cap, cur, r1, r2, r3, r4, r5, r6, r7⟩
  · refine (Any.slices_Compact_int_empty Tryz.laysCompact B c w).mono ?_
    rintro e w' ⟨rfl, rfl⟩
    exact ⟨⟨B, c, rfl⟩, Below.refl _ _⟩
  · obtain ⟨rfl, rfl⟩ : B = some ⟨g, 0, none⟩ ∧ c = cap := by simpa using r1
    subst hl
    have hH := holds_of_blockI (ss := xs) r3 (by rw [Nat.mul_one] at r7; exact r7)
    refine (Any.slices_Compact_int Tryz.laysCompact g 0 c xs w hH (by omega) r4).mono ?_
    rintro e w' ⟨rfl, n, rfl⟩
    refine ⟨⟨some ⟨g, 0, none⟩, c, by rw [Lib.compact_all xs hk]⟩, ?_⟩
    have hg := grownBy_sortedI (w := w) (g := g) (n := n) (os := #[]) (Lib.compact xs ++ List.replicate (xs.length - (Lib.compact xs).length) 0).toArray
    rw [Go.Sort.grow_empty] at hg
    exact below_own (v := .slice (some ⟨g, 0, none⟩) xs.length c) hg h hM
theorem srt_keeps {xs : List Int} (h : xs.Nodup) : ∀ j, j < (srt xs).length → Lib.keeps (srt xs).toArray j = true := by
  have hp : (srt xs).Perm xs := List.mergeSort_perm _ _
  have hn : (srt xs).Nodup := hp.nodup_iff.2 h
  intro j hj
  unfold Lib.keeps
  rw [decide_eq_true_iff]
  by_cases h0 : j = 0
  · exact .inl h0
  · refine .inr fun e => ?_
    have h1 : j - 1 < (srt xs).length := by omega
    have hne := List.pairwise_iff_getElem.1 hn (j - 1) j h1 hj (by omega)
    rw [getElem!_pos _ j (by simpa using hj), getElem!_pos _ (j - 1) (by simpa using h1)] at e
    simp only [List.getElem_toArray] at e
    exact hne e.symm
/-- All leaves, as Check lists them. -/
def leafI (f : Nat → Option Nat) (L j : Nat) : List Int := ((looseTo f L ++ ((foliosTo f L).take j).flatMap fun p => [p.1, p.2]).map fun n : Nat => (n : Int))
theorem iV_leaf (f : Nat → Option Nat) (L j : Nat) : iBV (leafI f L j) = looV (looseTo f L) ++ folV ((foliosTo f L).take j) := by
  unfold iBV leafI looV folV
  rw [List.map_map, List.map_append]
  congr 1
  generalize (foliosTo f L).take j = l
  induction l with
  | nil => rfl
  | cons p r ih => rw [List.flatMap_cons, List.flatMap_cons, List.map_append, ih]; rfl
theorem leaf_len (f : Nat → Option Nat) (L j : Nat) (hj : j ≤ (foliosTo f L).length) : (leafI f L j).length = (looseTo f L).length + 2 * j := by
  unfold leafI
  rw [List.length_map, List.length_append]
  have : ∀ l : List (Nat × Nat), (l.flatMap fun p => [p.1, p.2]).length = 2 * l.length := by
    intro l
    induction l with
    | nil => rfl
    | cons p r ih => rw [List.flatMap_cons, List.length_append, ih]; simp; omega
  rw [this, List.length_take]
  omega
theorem leaf_all {f : Nat → Option Nat} {L : Nat} (h : Nc f L) : (leafI f L (foliosTo f L).length).Nodup ∧ (leafI f L (foliosTo f L).length).length = L := by
  have hp := leaves_perm h
  have he : leafI f L (foliosTo f L).length = (leavesOf f L).map fun n : Nat => (n : Int) := by unfold leafI leavesOf; rw [List.take_length]
  rw [he]
  refine ⟨?_, by rw [List.length_map, hp.length_eq, List.length_range]⟩
  have hn : (leavesOf f L).Nodup := hp.nodup_iff.2 List.nodup_range
  unfold List.Nodup at hn ⊢
  rw [List.pairwise_map]
  exact hn.imp fun hne e => hne (by omega)
end Go.Proofs.YtdkijcmhjeaofaaGreatDoor
