/- The whole table cells.quarters; the contract of cells.Corners. -/
import Derived.Test.YtjdmkgnlakonbaaGreatDoorCl
import Derived.Deep.WholeRow
namespace Go.Proofs.YtjdmkgnlakonbaaGreatDoor
open Go.RowKit

/-- A whole value into the block that was made last. -/
theorem wpList_store_new {P : Program} {ops : Array Oper} {rest : List Oper} {op : Oper} {a : Act} {w : World} {Q : Exit → Act → World → Prop} (hgd : op.guard = none) (t : TypeId) (x y : Operand) (ho : op.op = .store t x y)
    (c c' : Array Value) (hx : a.eval x = .pointer (some ⟨w.heap.size, 0, none⟩)) (hy : a.eval y = .agg c') (hi : (P.info? t).map (·.size) = some c'.size) (hc : c.size = c'.size) (h1 : c'.all (·.oneCell') = true)
    (h : wpList P ops Q rest (a.put op.dst undef) (w.alloc (.cells c' t))) : wpList P ops Q (op :: rest) a (w.alloc (.cells c t)) :=
  wpList_plain hgd fun K hK => by
    have hk : K (a.put op.dst undef) (w.alloc (.cells c' t)) := hK _ _ h
    unfold Oper.wp execOp
    simp only [ho, hx, hy, Sem.run_bind, run_storeAt_new w t c c' hi hc h1, Sem.run_pure, Result.andThen_ok]
    exact hk
/-- The kind of the line of the edge 0 of a quarter, and how much more its number is. -/
def qln : Nat → Int
  | 0 => 2 | 1 => 1 | 2 => 2 | _ => 1
def qby : Nat → Int
  | 0 => 0 | 1 => 1 | 2 => 1 | _ => 0
/-- A row of the table. -/
def rowQ (q : Nat) : List Value := [.int .i64 (qside q).1, .int .i64 (qside q).2, .int .u8 (qln q), .int .i64 (qby q),
  .int .i64 (nxt q 0).1, .int .i64 (nxt q 0).2.1, .int .u8 (nxt q 0).2.2, .int .i64 (nxt q 1).1, .int .i64 (nxt q 1).2.1, .int .u8 (nxt q 1).2.2, .int .i64 (nxt q 2).1, .int .i64 (nxt q 2).2.1, .int .u8 (nxt q 2).2.2,
  .int .i64 (qone q).1, .int .i64 (qone q).2, .int .i64 (qtwo q).1, .int .i64 (qtwo q).2]
def quartersL : List Value := rowQ 0 ++ rowQ 1 ++ rowQ 2 ++ rowQ 3
/-- The table lies as the text lays it. -/
structure Qf (w : World) : Prop where
  lt : 9 < w.heap.size
  at' : w.rangeAt 9 0 quartersL
theorem Qf.below {w w' : World} (h : Qf w) (hb : Below w.heap.size w w') : Qf w' :=
  ⟨Nat.lt_of_lt_of_le h.lt hb.size, fun j v hj => below_cell hb (h.at' j v hj)⟩
theorem Qf.row {w : World} (h : Qf w) {q : Nat} (hq : q < 4) : w.rangeAt 9 (q * 17) (rowQ q) := by
  intro j v hj
  have hj17 : j < 17 := (List.getElem?_eq_some_iff.1 hj).1
  have := h.at' (q * 17 + j) v (by
    have h4 : q = 0 ∨ q = 1 ∨ q = 2 ∨ q = 3 := by omega
    rcases h4 with rfl | rfl | rfl | rfl
    · unfold quartersL
      rw [List.append_assoc, List.append_assoc, List.getElem?_append_left (by simp [rowQ]; omega)]; simpa using hj
    · unfold quartersL
      rw [List.append_assoc, List.append_assoc, List.getElem?_append_right (by simp [rowQ]), List.getElem?_append_left (by simp [rowQ]; omega)]
      have : 1 * 17 + j - (rowQ 0).length = j := by simp [rowQ]
      rw [this]; exact hj
    · unfold quartersL
      rw [List.append_assoc, List.getElem?_append_right (by simp [rowQ]), List.getElem?_append_left (by simp [rowQ]; omega)]
      have : 2 * 17 + j - (rowQ 0 ++ rowQ 1).length = j := by simp [rowQ]
      rw [this]; exact hj
    · unfold quartersL
      rw [List.getElem?_append_right (by simp [rowQ])]
      have : 3 * 17 + j - (rowQ 0 ++ rowQ 1 ++ rowQ 2).length = j := by simp [rowQ]
      rw [this]; exact hj)
  rw [Nat.zero_add] at this
  exact this
theorem Qf.qt {w : World} (h : Qf w) : Qt w := by
  refine ⟨h.lt, fun q e hq he => ?_⟩
  have hr := h.row hq
  have h3 : e = 0 ∨ e = 1 ∨ e = 2 := by omega
  rcases h3 with rfl | rfl | rfl
  · exact ⟨hr 4 _ rfl, hr 5 _ rfl, hr 6 _ rfl⟩
  · exact ⟨hr 7 _ rfl, hr 8 _ rfl, hr 9 _ rfl⟩
  · exact ⟨hr 10 _ rfl, hr 11 _ rfl, hr 12 _ rfl⟩

/-- The corners of a cell. -/
def cornersV (c : Cl) : Value := .agg #[.int .i64 (2 * c.x + 1), .int .i64 (2 * c.y + 1), .int .i64 (2 * c.x + (qone c.q).1), .int .i64 (2 * c.y + (qone c.q).2), .int .i64 (2 * c.x + (qtwo c.q).1), .int .i64 (2 * c.y + (qtwo c.q).2)]
theorem q_bd (q : Nat) : (0 ≤ (qone q).1 ∧ (qone q).1 ≤ 2) ∧ (0 ≤ (qone q).2 ∧ (qone q).2 ≤ 2) ∧ (0 ≤ (qtwo q).1 ∧ (qtwo q).1 ≤ 2) ∧ (0 ≤ (qtwo q).2 ∧ (qtwo q).2 ≤ 2) := by
  unfold qone qtwo; split <;> decide

def cArr (x y u1 u2 v1 v2 : Int) : Nat → Array Value
  | 0 => #[.int .i64 1, .int .i64 1, .int .i64 u1, .int .i64 u2, .int .i64 v1, .int .i64 v2]
  | 1 => #[.int .i64 (2 * x + 1), .int .i64 (2 * y + 1), .int .i64 u1, .int .i64 u2, .int .i64 v1, .int .i64 v2]
  | 2 => #[.int .i64 (2 * x + 1), .int .i64 (2 * y + 1), .int .i64 (2 * x + u1), .int .i64 (2 * y + u2), .int .i64 v1, .int .i64 v2]
  | _ => #[.int .i64 (2 * x + 1), .int .i64 (2 * y + 1), .int .i64 (2 * x + u1), .int .i64 (2 * y + u2), .int .i64 (2 * x + v1), .int .i64 (2 * y + v2)]
theorem blk6 {w : World} {g : Nat} {a b c d e f : Value} {t : TypeId} (h : w.heap[g]? = some (Obj.cells #[a, b, c, d, e, f] t (0, 0))) :
    (w.cell? ⟨g, 0, none⟩ = some a ∧ w.cell? ⟨g, 1, none⟩ = some b ∧ w.cell? ⟨g, 2, none⟩ = some c ∧ w.cell? ⟨g, 3, none⟩ = some d ∧ w.cell? ⟨g, 4, none⟩ = some e ∧ w.cell? ⟨g, 5, none⟩ = some f) ∧
    (w.frozen? ⟨g, 0, none⟩ = false ∧ w.frozen? ⟨g, 1, none⟩ = false ∧ w.frozen? ⟨g, 2, none⟩ = false ∧ w.frozen? ⟨g, 3, none⟩ = false ∧ w.frozen? ⟨g, 4, none⟩ = false ∧ w.frozen? ⟨g, 5, none⟩ = false) := by
  have hc : ∀ j, w.cell? ⟨g, j, none⟩ = #[a, b, c, d, e, f][j]? := fun j => cell_of_row w g j _ t (0, 0) h
  have hf : ∀ j, w.frozen? ⟨g, j, none⟩ = false := fun j => by simp [World.frozen?, h]
  exact ⟨⟨hc 0, hc 1, hc 2, hc 3, hc 4, hc 5⟩, hf 0, hf 1, hf 2, hf 3, hf 4, hf 5⟩

set_option maxRecDepth 100000 in
set_option maxHeartbeats 4000000 in
theorem corners_ok (c : Cl) (w : World) (hc : c.ok = true) (hQ : Qf w) : Calls Tryz.prog 222 #[.agg #[.int .i64 c.x, .int .i64 c.y, .int .u8 c.q]] w (RetBelow (.tuple #[cornersV c, .int .i64 0]) w) := by
  unfold Cl.ok at hc
  obtain ⟨c1, c2, c3, c4, c5⟩ := okC_iff.1 hc
  obtain ⟨x, y, q⟩ := c
  dsimp only at hc c1 c2 c3 c4 c5 ⊢
  have hq : q < 4 := by omega
  unfold cornersV
  dsimp only
  obtain ⟨⟨o1, o2⟩, ⟨o3, o4⟩, ⟨o5, o6⟩, o7, o8⟩ := q_bd q
  have hrow := fun (w' : World) (h : Qf w') => h.row hq
  unfold rowQ at hrow
  obtain ⟨⟨u1, u2⟩, h1⟩ : ∃ z, qone q = z := ⟨_, rfl⟩
  obtain ⟨⟨v1, v2⟩, h2⟩ : ∃ z, qtwo q = z := ⟨_, rfl⟩
  obtain ⟨⟨s1, s2⟩, h3⟩ : ∃ z, qside q = z := ⟨_, rfl⟩
  obtain ⟨ln, h4⟩ : ∃ z, qln q = z := ⟨_, rfl⟩
  obtain ⟨by', h5⟩ : ∃ z, qby q = z := ⟨_, rfl⟩
  obtain ⟨⟨n1, n2, n3⟩, h6⟩ : ∃ z, nxt q 0 = z := ⟨_, rfl⟩
  obtain ⟨⟨n4, n5, n6⟩, h7⟩ : ∃ z, nxt q 1 = z := ⟨_, rfl⟩
  obtain ⟨⟨n7, n8, n9⟩, h8⟩ : ∃ z, nxt q 2 = z := ⟨_, rfl⟩
  rw [h1, h2, h3, h4, h5, h6, h7, h8] at hrow
  rw [h1] at o1 o2 o3 o4
  rw [h2] at o5 o6 o7 o8
  rw [h1, h2]
  dsimp only at hrow o1 o2 o3 o4 o5 o6 o7 o8 ⊢
  have HC := Lib.hid hc
  have HROW := Lib.hid hrow
  have HQ := Lib.hid hQ
  have q1 : (q : Int) < 4 := by omega
  have H := ((Bx.start w).new #[.int .i64 x, .int .i64 y, .int .u8 q] 90 rfl).new #[.int .i64 0, .int .i64 0, .int .i64 0, .int .i64 0, .int .i64 0, .int .i64 0] 340 (N := w.heap.size + 1) (by simp)
  clear hc hrow h1 h2 h3 h4 h5 h6 h7 h8 hQ
  go_enter Tryz.func222, Tryz.ntmps222
  go_upto_region 1 with fail
  obtain ⟨W, hW⟩ : ∃ W, W = (w.alloc (.cells #[.int .i64 x, .int .i64 y, .int .u8 q] 90)).alloc (.cells #[.int .i64 0, .int .i64 0, .int .i64 0, .int .i64 0, .int .i64 0, .int .i64 0] 340) := ⟨_, rfl⟩
  rw [← hW] at H ⊢
  obtain ⟨N, hN⟩ : ∃ N, N = w.heap.size := ⟨_, rfl⟩
  rw [← hN] at H ⊢
  clear hW hN
  obtain ⟨⟨a0, a1, a2⟩, _⟩ := blk3 (H.blk 0 _ _ _ rfl)
  go_wp2_with fail
  refine (cellCheck_any x y q _).mono ?_
  rintro e w2 ⟨rfl, hb⟩
  rw [HC.out, ec_t]
  have H2 := H.call hb
  clear a0 a1 a2 hb H
  obtain ⟨⟨a0, a1, a2⟩, _⟩ := blk3 (H2.blk 0 _ _ _ rfl)
  have hr := HROW.out _ (HQ.out.below H2.below)
  go_upto_region 3 with fail
  have hz : Tryz.prog.info? 330 = Tryz.prog.info? 330 := rfl
  clear hz
  repeat' (go_not_at_region 4; first
    | refine wpList_load_mid rfl 330 (.tmp 13) rfl 9 (q * 17) rfl _ _ hr Tryz.underlying330 rfl (by kernel_rfl) ?_
    | refine wpList_store_new rfl 330 (.tmp 4) (.tmp 14) rfl _ _ rfl rfl (by kernel_rfl) rfl rfl ?_
    | go_step)
  clear hr a0 a1 a2
  obtain ⟨G4, hG4⟩ : ∃ G, G = w2.heap.size := ⟨_, rfl⟩
  rw [← hG4]
  have H4 := H2.new #[.int .i64 s1, .int .i64 s2, .int .u8 ln, .int .i64 by', .int .i64 n1, .int .i64 n2, .int .u8 n3, .int .i64 n4, .int .i64 n5, .int .u8 n6, .int .i64 n7, .int .i64 n8, .int .u8 n9, .int .i64 u1, .int .i64 u2, .int .i64 v1, .int .i64 v2] 330 hG4.symm
  obtain ⟨W4, hW4⟩ : ∃ W, W = w2.alloc (.cells #[.int .i64 s1, .int .i64 s2, .int .u8 ln, .int .i64 by', .int .i64 n1, .int .i64 n2, .int .u8 n3, .int .i64 n4, .int .i64 n5, .int .u8 n6, .int .i64 n7, .int .i64 n8, .int .u8 n9, .int .i64 u1, .int .i64 u2, .int .i64 v1, .int .i64 v2] 330) := ⟨_, rfl⟩
  rw [← hW4] at H4
  change Code.wp _ _ _ _ (w2.alloc (.cells #[.int .i64 s1, .int .i64 s2, .int .u8 ln, .int .i64 by', .int .i64 n1, .int .i64 n2, .int .u8 n3, .int .i64 n4, .int .i64 n5, .int .u8 n6, .int .i64 n7, .int .i64 n8, .int .u8 n9, .int .i64 u1, .int .i64 u2, .int .i64 v1, .int .i64 v2] 330))
  rw [← hW4]
  have hrr := H4.range 2 rfl
  have r13 := hrr 13 _ rfl
  have r14 := hrr 14 _ rfl
  have r15 := hrr 15 _ rfl
  have r16 := hrr 16 _ rfl
  simp only [Nat.zero_add] at r13 r14 r15 r16
  clear hrr hG4 hW4
  go_wp2_with fail
  obtain ⟨G5, hG5⟩ : ∃ G, G = W4.heap.size := ⟨_, rfl⟩
  rw [← hG5]
  have H5 := H4.new (cArr x y u1 u2 v1 v2 0) 340 hG5.symm
  have hne : N ≠ G5 := by have := H4.lt 0 rfl; omega
  have hne2 : N + 1 ≠ G5 := by have := H4.lt 1 rfl; omega
  clear hG5 r13 r14 r15 r16
  go_loopw [21] (fun i wr => ∃ k : Nat, k ≤ 3 ∧ i = .int .i64 k ∧ Bx w [(N, #[.int .i64 x, .int .i64 y, .int .u8 q], 90), (N + 1, #[.int .i64 0, .int .i64 0, .int .i64 0, .int .i64 0, .int .i64 0, .int .i64 0], 340), (G4, #[.int .i64 s1, .int .i64 s2, .int .u8 ln, .int .i64 by', .int .i64 n1, .int .i64 n2, .int .u8 n3, .int .i64 n4, .int .i64 n5, .int .u8 n6, .int .i64 n7, .int .i64 n8, .int .u8 n9, .int .i64 u1, .int .i64 u2, .int .i64 v1, .int .i64 v2], 330), (G5, cArr x y u1 u2 v1 v2 k, 340)] wr) (fun i _ => 3 - (intOf i).toNat)
  case atStart => exact ⟨0, by omega, rfl, H5⟩
  case round =>
    obtain ⟨k, hk, rfl, Hr⟩ := hrel
    obtain ⟨⟨a0, a1, a2⟩, _⟩ := blk3 (Hr.blk 0 _ _ _ rfl)
    have w1 : IntKind.i64.wrap (2 * x) = 2 * x := IntWalk.i64_in _ (by omega)
    have w2' : IntKind.i64.wrap (2 * y) = 2 * y := IntWalk.i64_in _ (by omega)
    have h4 : k = 0 ∨ k = 1 ∨ k = 2 ∨ k = 3 := by omega
    rcases h4 with rfl | rfl | rfl | rfl
    · as_aux_lemma =>
        have w3 : IntKind.i64.wrap (1 + 2 * x) = 2 * x + 1 := by rw [IntWalk.i64_in _ (by omega)]; omega
        have w4 : IntKind.i64.wrap (1 + 2 * y) = 2 * y + 1 := by rw [IntWalk.i64_in _ (by omega)]; omega
        obtain ⟨⟨d0, d1, d2, d3, d4, d5⟩, f0, f1, f2, f3, f4, f5⟩ := blk6 (Hr.blk 3 _ _ _ rfl)
        go_wp2_with fail
        go_region
        go_wp2_with fail
        go_region
        go_wp2_with fail
        exact ⟨⟨1, by omega, rfl, ((Hr.set 3 0 rfl (.int .i64 (2 * x + 1))).set 3 1 rfl (.int .i64 (2 * y + 1))).drew.drew⟩, by simp [intOf]⟩
    · as_aux_lemma =>
        have w3 : IntKind.i64.wrap (u1 + 2 * x) = 2 * x + u1 := by rw [IntWalk.i64_in _ (by omega)]; omega
        have w4 : IntKind.i64.wrap (u2 + 2 * y) = 2 * y + u2 := by rw [IntWalk.i64_in _ (by omega)]; omega
        obtain ⟨⟨d0, d1, d2, d3, d4, d5⟩, f0, f1, f2, f3, f4, f5⟩ := blk6 (Hr.blk 3 _ _ _ rfl)
        go_wp2_with fail
        go_region
        go_wp2_with fail
        go_region
        go_wp2_with fail
        exact ⟨⟨2, by omega, rfl, ((Hr.set 3 2 rfl (.int .i64 (2 * x + u1))).set 3 3 rfl (.int .i64 (2 * y + u2))).drew.drew⟩, by simp [intOf]⟩
    · as_aux_lemma =>
        have w3 : IntKind.i64.wrap (v1 + 2 * x) = 2 * x + v1 := by rw [IntWalk.i64_in _ (by omega)]; omega
        have w4 : IntKind.i64.wrap (v2 + 2 * y) = 2 * y + v2 := by rw [IntWalk.i64_in _ (by omega)]; omega
        obtain ⟨⟨d0, d1, d2, d3, d4, d5⟩, f0, f1, f2, f3, f4, f5⟩ := blk6 (Hr.blk 3 _ _ _ rfl)
        go_wp2_with fail
        go_region
        go_wp2_with fail
        go_region
        go_wp2_with fail
        exact ⟨⟨3, by omega, rfl, ((Hr.set 3 4 rfl (.int .i64 (2 * x + v1))).set 3 5 rfl (.int .i64 (2 * y + v2))).drew.drew⟩, by simp [intOf]⟩
    · as_aux_lemma =>
        obtain ⟨⟨d0, d1, d2, d3, d4, d5⟩, f0, f1, f2, f3, f4, f5⟩ := blk6 (Hr.blk 3 _ _ _ rfl)
        obtain ⟨⟨b0, b1, b2, b3, b4, b5⟩, g0, g1, g2, g3, g4, g5⟩ := blk6 (Hr.blk 1 _ _ _ rfl)
        go_wp2_with fail
        have H6 := (((((Hr.set 1 0 rfl (.int .i64 (2 * x + 1))).set 1 1 rfl (.int .i64 (2 * y + 1))).set 1 2 rfl (.int .i64 (2 * x + u1))).set 1 3 rfl (.int .i64 (2 * y + u2))).set 1 4 rfl (.int .i64 (2 * x + v1))).set 1 5 rfl (.int .i64 (2 * y + v2))
        exact bodyPost_ret (res_cell_tmp rfl rfl (H6.range 1 rfl) Tryz.underlying340 rfl (by kernel_rfl)) rfl ⟨rfl, H6.below⟩
end Go.Proofs.YtjdmkgnlakonbaaGreatDoor
