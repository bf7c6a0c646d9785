/- Plain laws of blocks: what read makes of the block of a record, and of one in which a byte is changed or two neighbours are exchanged. -/
import Derived.Test.YtdcgminjamofmaaDoorScan
namespace Go.Proofs.YtdcgminjamofmaaDoor

def S10 (b0 b1 b2 b3 b4 b5 b6 b7 b8 b9 : Int) : Int := b0 + 2 * b1 + 3 * b2 + 4 * b3 + 5 * b4 + 6 * b5 + 7 * b6 + 8 * b7 + 9 * b8 + 10 * b9
theorem jsum10 (b0 b1 b2 b3 b4 b5 b6 b7 b8 b9 : Int) : jsum [b0, b1, b2, b3, b4, b5, b6, b7, b8, b9] = S10 b0 b1 b2 b3 b4 b5 b6 b7 b8 b9 % 65536 := by
  unfold jsum S10
  congr 1
  simp only [wsum]
  omega
/-- The check sequence of a block is right. -/
def sumOk (bs : List Int) : Bool := be (sub bs 10 2) == jsum (sub bs 0 10)
theorem readOk_sum {bs : List Int} (h : readOk bs = true) : sumOk bs = true := by
  unfold readOk at h
  simp only [Bool.and_eq_true] at h
  exact h.1
theorem readOk_of_sum {bs : List Int} (h : sumOk bs = false) : readOk bs = false := by
  unfold sumOk at h
  unfold readOk
  rw [h]
  rfl
theorem sumOk12 (b0 b1 b2 b3 b4 b5 b6 b7 b8 b9 b10 b11 : Int) : sumOk [b0, b1, b2, b3, b4, b5, b6, b7, b8, b9, b10, b11] = true ↔ b10 * 256 + b11 = S10 b0 b1 b2 b3 b4 b5 b6 b7 b8 b9 % 65536 := by
  unfold sumOk
  have e1 : sub [b0, b1, b2, b3, b4, b5, b6, b7, b8, b9, b10, b11] 10 2 = [b10, b11] := rfl
  have e2 : sub [b0, b1, b2, b3, b4, b5, b6, b7, b8, b9, b10, b11] 0 10 = [b0, b1, b2, b3, b4, b5, b6, b7, b8, b9] := rfl
  have e3 : be [b10, b11] = b10 * 256 + b11 := by simp [be]
  rw [e1, e2, e3, jsum10]
  simp
theorem list12 {bs : List Int} (h : bs.length = 12) : ∃ b0 b1 b2 b3 b4 b5 b6 b7 b8 b9 b10 b11, bs = [b0, b1, b2, b3, b4, b5, b6, b7, b8, b9, b10, b11] := by
  match bs, h with
  | [b0, b1, b2, b3, b4, b5, b6, b7, b8, b9, b10, b11], _ => exact ⟨_, _, _, _, _, _, _, _, _, _, _, _, rfl⟩

theorem one_1 {S a x : Int} (ha : 0 ≤ a ∧ a ≤ 255) (hx : 0 ≤ x ∧ x ≤ 255) (h : S % 65536 = (S + 1 * (x - a)) % 65536) : a = x := by omega
theorem one_2 {S a x : Int} (ha : 0 ≤ a ∧ a ≤ 255) (hx : 0 ≤ x ∧ x ≤ 255) (h : S % 65536 = (S + 2 * (x - a)) % 65536) : a = x := by omega
theorem one_3 {S a x : Int} (ha : 0 ≤ a ∧ a ≤ 255) (hx : 0 ≤ x ∧ x ≤ 255) (h : S % 65536 = (S + 3 * (x - a)) % 65536) : a = x := by omega
theorem one_4 {S a x : Int} (ha : 0 ≤ a ∧ a ≤ 255) (hx : 0 ≤ x ∧ x ≤ 255) (h : S % 65536 = (S + 4 * (x - a)) % 65536) : a = x := by omega
theorem one_5 {S a x : Int} (ha : 0 ≤ a ∧ a ≤ 255) (hx : 0 ≤ x ∧ x ≤ 255) (h : S % 65536 = (S + 5 * (x - a)) % 65536) : a = x := by omega
theorem one_6 {S a x : Int} (ha : 0 ≤ a ∧ a ≤ 255) (hx : 0 ≤ x ∧ x ≤ 255) (h : S % 65536 = (S + 6 * (x - a)) % 65536) : a = x := by omega
theorem one_7 {S a x : Int} (ha : 0 ≤ a ∧ a ≤ 255) (hx : 0 ≤ x ∧ x ≤ 255) (h : S % 65536 = (S + 7 * (x - a)) % 65536) : a = x := by omega
theorem one_8 {S a x : Int} (ha : 0 ≤ a ∧ a ≤ 255) (hx : 0 ≤ x ∧ x ≤ 255) (h : S % 65536 = (S + 8 * (x - a)) % 65536) : a = x := by omega
theorem one_9 {S a x : Int} (ha : 0 ≤ a ∧ a ≤ 255) (hx : 0 ≤ x ∧ x ≤ 255) (h : S % 65536 = (S + 9 * (x - a)) % 65536) : a = x := by omega
theorem one_10 {S a x : Int} (ha : 0 ≤ a ∧ a ≤ 255) (hx : 0 ≤ x ∧ x ≤ 255) (h : S % 65536 = (S + 10 * (x - a)) % 65536) : a = x := by omega
theorem two_any {S a x : Int} (ha : 0 ≤ a ∧ a ≤ 255) (hx : 0 ≤ x ∧ x ≤ 255) (h : S % 65536 = (S + (a - x)) % 65536) : a = x := by omega
theorem hi_byte {a b x M : Int} (h : a * 256 + b = M) (h' : x * 256 + b = M) : a = x := by omega
theorem lo_byte {a b x M : Int} (h : a * 256 + b = M) (h' : a * 256 + x = M) : b = x := by omega
theorem hl_byte {a b M : Int} (h : a * 256 + b = M) (h' : b * 256 + a = M) : a = b := by omega
theorem mod_nine {S a b c : Int} (h : b * 256 + c = S % 65536) (h' : a * 256 + c = (S + 10 * (b - a)) % 65536) (_ha : 0 ≤ a ∧ a ≤ 255) (_hb : 0 ≤ b ∧ b ≤ 255) : a = b := by omega
theorem dam_one {bs : List Int} (hl : bs.length = 12) (hb : ∀ x ∈ bs, 0 ≤ x ∧ x ≤ 255) (hs : sumOk bs = true) {i : Nat} (hi : i < 12) {x : Int} (hx : 0 ≤ x ∧ x ≤ 255) (hne : bs.getD i 0 ≠ x) : sumOk (bs.set i x) = false := by
  obtain ⟨b0, b1, b2, b3, b4, b5, b6, b7, b8, b9, b10, b11, rfl⟩ := list12 hl
  rw [sumOk12] at hs
  simp only [List.mem_cons, List.not_mem_nil, or_false, forall_eq_or_imp, forall_eq] at hb
  obtain ⟨q0, q1, q2, q3, q4, q5, q6, q7, q8, q9, q10, q11⟩ := hb
  rw [← Bool.not_eq_true]
  intro h
  match i, hi with
  | 0, _ =>
    change b0 ≠ x at hne
    change sumOk [x, b1, b2, b3, b4, b5, b6, b7, b8, b9, b10, b11] = true at h
    rw [sumOk12] at h
    have e : S10 x b1 b2 b3 b4 b5 b6 b7 b8 b9 = S10 b0 b1 b2 b3 b4 b5 b6 b7 b8 b9 + 1 * (x - b0) := by clear hs h; unfold S10; omega
    rw [e] at h
    exact hne (one_1 q0 hx (hs.symm.trans h))
  | 1, _ =>
    change b1 ≠ x at hne
    change sumOk [b0, x, b2, b3, b4, b5, b6, b7, b8, b9, b10, b11] = true at h
    rw [sumOk12] at h
    have e : S10 b0 x b2 b3 b4 b5 b6 b7 b8 b9 = S10 b0 b1 b2 b3 b4 b5 b6 b7 b8 b9 + 2 * (x - b1) := by clear hs h; unfold S10; omega
    rw [e] at h
    exact hne (one_2 q1 hx (hs.symm.trans h))
  | 2, _ =>
    change b2 ≠ x at hne
    change sumOk [b0, b1, x, b3, b4, b5, b6, b7, b8, b9, b10, b11] = true at h
    rw [sumOk12] at h
    have e : S10 b0 b1 x b3 b4 b5 b6 b7 b8 b9 = S10 b0 b1 b2 b3 b4 b5 b6 b7 b8 b9 + 3 * (x - b2) := by clear hs h; unfold S10; omega
    rw [e] at h
    exact hne (one_3 q2 hx (hs.symm.trans h))
  | 3, _ =>
    change b3 ≠ x at hne
    change sumOk [b0, b1, b2, x, b4, b5, b6, b7, b8, b9, b10, b11] = true at h
    rw [sumOk12] at h
    have e : S10 b0 b1 b2 x b4 b5 b6 b7 b8 b9 = S10 b0 b1 b2 b3 b4 b5 b6 b7 b8 b9 + 4 * (x - b3) := by clear hs h; unfold S10; omega
    rw [e] at h
    exact hne (one_4 q3 hx (hs.symm.trans h))
  | 4, _ =>
    change b4 ≠ x at hne
    change sumOk [b0, b1, b2, b3, x, b5, b6, b7, b8, b9, b10, b11] = true at h
    rw [sumOk12] at h
    have e : S10 b0 b1 b2 b3 x b5 b6 b7 b8 b9 = S10 b0 b1 b2 b3 b4 b5 b6 b7 b8 b9 + 5 * (x - b4) := by clear hs h; unfold S10; omega
    rw [e] at h
    exact hne (one_5 q4 hx (hs.symm.trans h))
  | 5, _ =>
    change b5 ≠ x at hne
    change sumOk [b0, b1, b2, b3, b4, x, b6, b7, b8, b9, b10, b11] = true at h
    rw [sumOk12] at h
    have e : S10 b0 b1 b2 b3 b4 x b6 b7 b8 b9 = S10 b0 b1 b2 b3 b4 b5 b6 b7 b8 b9 + 6 * (x - b5) := by clear hs h; unfold S10; omega
    rw [e] at h
    exact hne (one_6 q5 hx (hs.symm.trans h))
  | 6, _ =>
    change b6 ≠ x at hne
    change sumOk [b0, b1, b2, b3, b4, b5, x, b7, b8, b9, b10, b11] = true at h
    rw [sumOk12] at h
    have e : S10 b0 b1 b2 b3 b4 b5 x b7 b8 b9 = S10 b0 b1 b2 b3 b4 b5 b6 b7 b8 b9 + 7 * (x - b6) := by clear hs h; unfold S10; omega
    rw [e] at h
    exact hne (one_7 q6 hx (hs.symm.trans h))
  | 7, _ =>
    change b7 ≠ x at hne
    change sumOk [b0, b1, b2, b3, b4, b5, b6, x, b8, b9, b10, b11] = true at h
    rw [sumOk12] at h
    have e : S10 b0 b1 b2 b3 b4 b5 b6 x b8 b9 = S10 b0 b1 b2 b3 b4 b5 b6 b7 b8 b9 + 8 * (x - b7) := by clear hs h; unfold S10; omega
    rw [e] at h
    exact hne (one_8 q7 hx (hs.symm.trans h))
  | 8, _ =>
    change b8 ≠ x at hne
    change sumOk [b0, b1, b2, b3, b4, b5, b6, b7, x, b9, b10, b11] = true at h
    rw [sumOk12] at h
    have e : S10 b0 b1 b2 b3 b4 b5 b6 b7 x b9 = S10 b0 b1 b2 b3 b4 b5 b6 b7 b8 b9 + 9 * (x - b8) := by clear hs h; unfold S10; omega
    rw [e] at h
    exact hne (one_9 q8 hx (hs.symm.trans h))
  | 9, _ =>
    change b9 ≠ x at hne
    change sumOk [b0, b1, b2, b3, b4, b5, b6, b7, b8, x, b10, b11] = true at h
    rw [sumOk12] at h
    have e : S10 b0 b1 b2 b3 b4 b5 b6 b7 b8 x = S10 b0 b1 b2 b3 b4 b5 b6 b7 b8 b9 + 10 * (x - b9) := by clear hs h; unfold S10; omega
    rw [e] at h
    exact hne (one_10 q9 hx (hs.symm.trans h))
  | 10, _ =>
    change b10 ≠ x at hne
    change sumOk [b0, b1, b2, b3, b4, b5, b6, b7, b8, b9, x, b11] = true at h
    rw [sumOk12] at h
    exact hne (hi_byte hs h)
  | 11, _ =>
    change b11 ≠ x at hne
    change sumOk [b0, b1, b2, b3, b4, b5, b6, b7, b8, b9, b10, x] = true at h
    rw [sumOk12] at h
    exact hne (lo_byte hs h)
theorem dam_two {bs : List Int} (hl : bs.length = 12) (hb : ∀ x ∈ bs, 0 ≤ x ∧ x ≤ 255) (hs : sumOk bs = true) {i : Nat} (hi : i + 1 < 12) (hne : bs.getD i 0 ≠ bs.getD (i + 1) 0) : sumOk ((bs.set i (bs.getD (i + 1) 0)).set (i + 1) (bs.getD i 0)) = false := by
  obtain ⟨b0, b1, b2, b3, b4, b5, b6, b7, b8, b9, b10, b11, rfl⟩ := list12 hl
  rw [sumOk12] at hs
  simp only [List.mem_cons, List.not_mem_nil, or_false, forall_eq_or_imp, forall_eq] at hb
  obtain ⟨q0, q1, q2, q3, q4, q5, q6, q7, q8, q9, q10, q11⟩ := hb
  rw [← Bool.not_eq_true]
  intro h
  match i, hi with
  | 0, _ =>
    change b0 ≠ b1 at hne
    change sumOk [b1, b0, b2, b3, b4, b5, b6, b7, b8, b9, b10, b11] = true at h
    rw [sumOk12] at h
    have e : S10 b1 b0 b2 b3 b4 b5 b6 b7 b8 b9 = S10 b0 b1 b2 b3 b4 b5 b6 b7 b8 b9 + (b0 - b1) := by clear hs h; unfold S10; omega
    rw [e] at h
    exact hne (two_any q0 q1 (hs.symm.trans h))
  | 1, _ =>
    change b1 ≠ b2 at hne
    change sumOk [b0, b2, b1, b3, b4, b5, b6, b7, b8, b9, b10, b11] = true at h
    rw [sumOk12] at h
    have e : S10 b0 b2 b1 b3 b4 b5 b6 b7 b8 b9 = S10 b0 b1 b2 b3 b4 b5 b6 b7 b8 b9 + (b1 - b2) := by clear hs h; unfold S10; omega
    rw [e] at h
    exact hne (two_any q1 q2 (hs.symm.trans h))
  | 2, _ =>
    change b2 ≠ b3 at hne
    change sumOk [b0, b1, b3, b2, b4, b5, b6, b7, b8, b9, b10, b11] = true at h
    rw [sumOk12] at h
    have e : S10 b0 b1 b3 b2 b4 b5 b6 b7 b8 b9 = S10 b0 b1 b2 b3 b4 b5 b6 b7 b8 b9 + (b2 - b3) := by clear hs h; unfold S10; omega
    rw [e] at h
    exact hne (two_any q2 q3 (hs.symm.trans h))
  | 3, _ =>
    change b3 ≠ b4 at hne
    change sumOk [b0, b1, b2, b4, b3, b5, b6, b7, b8, b9, b10, b11] = true at h
    rw [sumOk12] at h
    have e : S10 b0 b1 b2 b4 b3 b5 b6 b7 b8 b9 = S10 b0 b1 b2 b3 b4 b5 b6 b7 b8 b9 + (b3 - b4) := by clear hs h; unfold S10; omega
    rw [e] at h
    exact hne (two_any q3 q4 (hs.symm.trans h))
  | 4, _ =>
    change b4 ≠ b5 at hne
    change sumOk [b0, b1, b2, b3, b5, b4, b6, b7, b8, b9, b10, b11] = true at h
    rw [sumOk12] at h
    have e : S10 b0 b1 b2 b3 b5 b4 b6 b7 b8 b9 = S10 b0 b1 b2 b3 b4 b5 b6 b7 b8 b9 + (b4 - b5) := by clear hs h; unfold S10; omega
    rw [e] at h
    exact hne (two_any q4 q5 (hs.symm.trans h))
  | 5, _ =>
    change b5 ≠ b6 at hne
    change sumOk [b0, b1, b2, b3, b4, b6, b5, b7, b8, b9, b10, b11] = true at h
    rw [sumOk12] at h
    have e : S10 b0 b1 b2 b3 b4 b6 b5 b7 b8 b9 = S10 b0 b1 b2 b3 b4 b5 b6 b7 b8 b9 + (b5 - b6) := by clear hs h; unfold S10; omega
    rw [e] at h
    exact hne (two_any q5 q6 (hs.symm.trans h))
  | 6, _ =>
    change b6 ≠ b7 at hne
    change sumOk [b0, b1, b2, b3, b4, b5, b7, b6, b8, b9, b10, b11] = true at h
    rw [sumOk12] at h
    have e : S10 b0 b1 b2 b3 b4 b5 b7 b6 b8 b9 = S10 b0 b1 b2 b3 b4 b5 b6 b7 b8 b9 + (b6 - b7) := by clear hs h; unfold S10; omega
    rw [e] at h
    exact hne (two_any q6 q7 (hs.symm.trans h))
  | 7, _ =>
    change b7 ≠ b8 at hne
    change sumOk [b0, b1, b2, b3, b4, b5, b6, b8, b7, b9, b10, b11] = true at h
    rw [sumOk12] at h
    have e : S10 b0 b1 b2 b3 b4 b5 b6 b8 b7 b9 = S10 b0 b1 b2 b3 b4 b5 b6 b7 b8 b9 + (b7 - b8) := by clear hs h; unfold S10; omega
    rw [e] at h
    exact hne (two_any q7 q8 (hs.symm.trans h))
  | 8, _ =>
    change b8 ≠ b9 at hne
    change sumOk [b0, b1, b2, b3, b4, b5, b6, b7, b9, b8, b10, b11] = true at h
    rw [sumOk12] at h
    have e : S10 b0 b1 b2 b3 b4 b5 b6 b7 b9 b8 = S10 b0 b1 b2 b3 b4 b5 b6 b7 b8 b9 + (b8 - b9) := by clear hs h; unfold S10; omega
    rw [e] at h
    exact hne (two_any q8 q9 (hs.symm.trans h))
  | 9, _ =>
    change b9 ≠ b10 at hne
    change sumOk [b0, b1, b2, b3, b4, b5, b6, b7, b8, b10, b9, b11] = true at h
    rw [sumOk12] at h
    have e : S10 b0 b1 b2 b3 b4 b5 b6 b7 b8 b10 = S10 b0 b1 b2 b3 b4 b5 b6 b7 b8 b9 + 10 * (b10 - b9) := by clear hs h; unfold S10; omega
    rw [e] at h
    exact hne (mod_nine hs h q9 q10)
  | 10, _ =>
    change b10 ≠ b11 at hne
    change sumOk [b0, b1, b2, b3, b4, b5, b6, b7, b8, b9, b11, b10] = true at h
    rw [sumOk12] at h
    exact hne (hl_byte hs h)

/-- What read makes of the block of a valid record. -/
theorem read_blk {r : Rec} (h : r.ok = true) : readRec r.blk = r ∧ readOk r.blk = true := by
  have hr := okRec_iff.1 h
  obtain ⟨t, k, j, v⟩ := r
  dsimp only at hr
  have e : readRec (Rec.blk ⟨t, k, j, v⟩) = ⟨t, k, j, v⟩ := by
    show (⟨be [t / 16777216, t / 65536 % 256, t / 256 % 256, t % 256], k, be [j / 256, j % 256], be [v / 65536, v / 256 % 256, v % 256]⟩ : Rec) = _
    have e1 : be [t / 16777216, t / 65536 % 256, t / 256 % 256, t % 256] = t := by simp [be]; omega
    have e2 : be [j / 256, j % 256] = j := by simp [be]; omega
    have e3 : be [v / 65536, v / 256 % 256, v % 256] = v := by simp [be]; omega
    rw [e1, e2, e3]
  refine ⟨e, ?_⟩
  unfold readOk
  rw [e, h, Bool.and_true]
  show (be [jsum (head10 t k j v) / 256, jsum (head10 t k j v) % 256] == jsum (head10 t k j v)) = true
  have := jsum_bd (head10 t k j v)
  simp [be]
  omega
theorem blk_bytes {r : Rec} (h : r.ok = true) : ∀ x ∈ r.blk, 0 ≤ x ∧ x ≤ 255 := by
  have hr := okRec_iff.1 h
  have h10 := head10_bd (t := r.t) (k := r.k) (j := r.j) (v := r.v) (by omega) (by omega) (by omega) (by omega)
  intro x hx
  unfold Rec.blk blk at hx
  rcases List.mem_append.1 hx with hx | hx
  · exact h10 x hx
  · have := jsum_bd (head10 r.t r.k r.j r.v)
    simp only [List.mem_cons, List.not_mem_nil, or_false] at hx
    rcases hx with rfl | rfl <;> omega
theorem encs_bytes {L : List Rec} (h : ∀ r ∈ L, r.ok = true) : ∀ x ∈ encs L, 0 ≤ x ∧ x ≤ 255 := by
  intro x hx
  unfold encs at hx
  obtain ⟨r, hr, hxr⟩ := List.mem_flatMap.1 hx
  exact blk_bytes (h r hr) x hxr
theorem at12_encs {L : List Rec} {q : Nat} (hq : q < L.length) (tail : List Int) : at12 (encs L ++ tail) q = L[q].blk := by
  unfold at12 sub
  have h1 : 12 * q ≤ (encs L).length := by rw [encs_len]; omega
  rw [List.drop_append_of_le_length h1]
  have hd : (encs L).drop (12 * q) = encs (L.drop q) := by rw [Nat.mul_comm]; exact flat_drop _ 12 blk_len L q
  rw [hd, List.drop_eq_getElem_cons hq]
  unfold encs
  rw [List.flatMap_cons, List.append_assoc]
  exact List.take_left' (blk_len _)
theorem scan_all {L : List Rec} {bs : List Int} (h : ∀ q (hq : q < L.length), at12 bs q = L[q].blk) (hok : ∀ r ∈ L, r.ok = true) : ∀ k, k ≤ L.length → scanG bs k = L.take k ∧ scanD bs k = [] := by
  intro k
  induction k with
  | zero => intro _; exact ⟨by simp [scanG], rfl⟩
  | succ k ih =>
    intro hk
    have hb := read_blk (hok L[k] (List.getElem_mem _))
    have hg := scan_good (bs := bs) (k := k) (by rw [h k (by omega)]; exact hb.2)
    obtain ⟨i1, i2⟩ := ih (by omega)
    rw [hg.1, hg.2, i1, i2, h k (by omega), hb.1]
    exact ⟨(List.take_succ_eq_append_getElem (by omega)).symm, rfl⟩
theorem scan_dam {L : List Rec} {bs : List Int} {d : Nat} (hd : d < L.length) (h : ∀ q (hq : q < L.length), q ≠ d → at12 bs q = L[q].blk) (hok : ∀ r ∈ L, r.ok = true) (hbad : readOk (at12 bs d) = false) :
    ∀ k, k ≤ L.length → (k ≤ d → scanG bs k = L.take k ∧ scanD bs k = []) ∧ (d < k → scanG bs k = L.take d ++ (L.take k).drop (d + 1) ∧ scanD bs k = [(d : Int)]) := by
  intro k
  induction k with
  | zero => intro _; exact ⟨fun _ => ⟨by simp [scanG], rfl⟩, fun h => by omega⟩
  | succ k ih =>
    intro hk
    obtain ⟨i1, i2⟩ := ih (by omega)
    by_cases hkd : k = d
    · subst hkd
      have hb := scan_bad (bs := bs) (k := k) hbad
      obtain ⟨j1, j2⟩ := i1 (by omega)
      refine ⟨fun h => by omega, fun _ => ?_⟩
      rw [hb.1, hb.2, j1, j2]
      refine ⟨?_, rfl⟩
      rw [List.drop_of_length_le (by rw [List.length_take]; omega), List.append_nil]
    · have hb := read_blk (hok L[k] (List.getElem_mem _))
      have hg := scan_good (bs := bs) (k := k) (by rw [h k (by omega) hkd]; exact hb.2)
      rw [hg.1, hg.2, h k (by omega) hkd, hb.1]
      refine ⟨fun hkd' => ?_, fun hkd' => ?_⟩
      · obtain ⟨j1, j2⟩ := i1 (by omega)
        rw [j1, j2]
        exact ⟨(List.take_succ_eq_append_getElem (by omega)).symm, rfl⟩
      · obtain ⟨j1, j2⟩ := i2 (by omega)
        rw [j1, j2]
        refine ⟨?_, rfl⟩
        rw [List.take_succ_eq_append_getElem (show k < L.length by omega), List.drop_append_of_le_length (by rw [List.length_take]; omega), List.append_assoc]

theorem sub_set_in {l : List Int} {i a n : Nat} {x : Int} (h : a ≤ i) : sub (l.set i x) a n = (sub l a n).set (i - a) x := by
  unfold sub
  rw [List.drop_set, if_neg (by omega), List.take_set]
theorem sub_set_lo {l : List Int} {i a n : Nat} {x : Int} (h : i < a) : sub (l.set i x) a n = sub l a n := by
  unfold sub
  rw [List.drop_set, if_pos h]
theorem sub_set_hi {l : List Int} {i a n : Nat} {x : Int} (h : a + n ≤ i) : sub (l.set i x) a n = sub l a n := by
  unfold sub
  rw [List.drop_set, if_neg (by omega), List.take_set, List.set_eq_of_length_le]
  rw [List.length_take]
  omega
theorem at12_set_ne {l : List Int} {i q : Nat} {x : Int} (h : q ≠ i / 12) : at12 (l.set i x) q = at12 l q := by
  unfold at12
  rcases Nat.lt_or_ge q (i / 12) with hq | hq
  · exact sub_set_hi (by omega)
  · exact sub_set_lo (by omega)
theorem at12_set_at {l : List Int} {i : Nat} {x : Int} : at12 (l.set i x) (i / 12) = (at12 l (i / 12)).set (i % 12) x := by
  unfold at12
  rw [sub_set_in (by omega)]
  congr 1
  omega
theorem sub_getD {l : List Int} {a n i : Nat} (h : i < n) : (sub l a n).getD i 0 = l.getD (a + i) 0 := by
  unfold sub
  rw [List.getD, List.getD, List.getElem?_take, if_pos h, List.getElem?_drop]

/-- A byte of the blocks is another one. -/
theorem encs_dam1 {L : List Rec} {i : Nat} {x : Int} (hok : ∀ r ∈ L, r.ok = true) (hi : i < 12 * L.length) (hx : 0 ≤ x ∧ x ≤ 255) (hne : (encs L).getD i 0 ≠ x) :
    scanG ((encs L).set i x) L.length = L.take (i / 12) ++ L.drop (i / 12 + 1) ∧ scanD ((encs L).set i x) L.length = [((i / 12 : Nat) : Int)] := by
  have hd : i / 12 < L.length := by omega
  have he : ∀ q (hq : q < L.length), at12 (encs L) q = L[q].blk := fun q hq => by have := at12_encs hq []; rwa [List.append_nil] at this
  have hb := read_blk (hok L[i / 12] (List.getElem_mem _))
  have hbad : readOk (at12 ((encs L).set i x) (i / 12)) = false := by
    rw [at12_set_at]
    refine readOk_of_sum (dam_one ?_ ?_ ?_ (by omega) hx ?_)
    · rw [he _ hd]; exact blk_len _
    · rw [he _ hd]; exact blk_bytes (hok _ (List.getElem_mem _))
    · rw [he _ hd]; exact readOk_sum hb.2
    · unfold at12
      rw [sub_getD (by omega)]
      have : 12 * (i / 12) + i % 12 = i := by omega
      rw [this]
      exact hne
  have := (scan_dam hd (fun q hq hqd => (at12_set_ne hqd).trans (he q hq)) hok hbad L.length (Nat.le_refl _)).2 hd
  rw [List.take_length] at this
  exact this
/-- Two neighbours in a block, different, are exchanged. -/
theorem encs_dam2 {L : List Rec} {i : Nat} (hok : ∀ r ∈ L, r.ok = true) (hi : i < 12 * L.length) (hm : i % 12 ≠ 11) (hne : (encs L).getD i 0 ≠ (encs L).getD (i + 1) 0) :
    scanG (((encs L).set i ((encs L).getD (i + 1) 0)).set (i + 1) ((encs L).getD i 0)) L.length = L.take (i / 12) ++ L.drop (i / 12 + 1) ∧ scanD (((encs L).set i ((encs L).getD (i + 1) 0)).set (i + 1) ((encs L).getD i 0)) L.length = [((i / 12 : Nat) : Int)] := by
  have hd : i / 12 < L.length := by omega
  have he : ∀ q (hq : q < L.length), at12 (encs L) q = L[q].blk := fun q hq => by have := at12_encs hq []; rwa [List.append_nil] at this
  have hb := read_blk (hok L[i / 12] (List.getElem_mem _))
  have e1 : (i + 1) / 12 = i / 12 := by omega
  have e2 : (i + 1) % 12 = i % 12 + 1 := by omega
  have hg : ∀ k, k < 12 → (at12 (encs L) (i / 12)).getD k 0 = (encs L).getD (12 * (i / 12) + k) 0 := fun k hk => by unfold at12; exact sub_getD hk
  have g0 := hg (i % 12) (by omega)
  have g1 := hg (i % 12 + 1) (by omega)
  rw [show 12 * (i / 12) + i % 12 = i by omega] at g0
  rw [show 12 * (i / 12) + (i % 12 + 1) = i + 1 by omega] at g1
  have hbad : readOk (at12 (((encs L).set i ((encs L).getD (i + 1) 0)).set (i + 1) ((encs L).getD i 0)) (i / 12)) = false := by
    have h2 := at12_set_at (l := (encs L).set i ((encs L).getD (i + 1) 0)) (i := i + 1) (x := (encs L).getD i 0)
    rw [e1, e2] at h2
    rw [h2, at12_set_at, ← g0, ← g1]
    refine readOk_of_sum (dam_two ?_ ?_ ?_ (by omega) ?_)
    · rw [he _ hd]; exact blk_len _
    · rw [he _ hd]; exact blk_bytes (hok _ (List.getElem_mem _))
    · rw [he _ hd]; exact readOk_sum hb.2
    · rw [g0, g1]; exact hne
  have := (scan_dam hd (fun q hq hqd => (at12_set_ne (by rw [e1]; exact hqd)).trans ((at12_set_ne hqd).trans (he q hq))) hok hbad L.length (Nat.le_refl _)).2 hd
  rw [List.take_length] at this
  exact this
end Go.Proofs.YtdcgminjamofmaaDoor
