/- crimplaw42.records on two lists that are equal; crimplaw42.sum; journals.read's inner function. -/
import Derived.Test.YtdcgminjamofmaaDoorOf
import Derived.Laws.BitsAllLaws
namespace Go.Proofs.YtdcgminjamofmaaDoor
open Go.RowKit

set_option maxHeartbeats 1000000 in
theorem records_same (A B : Option Addr) (l : List Rec) (n d : Nat) (w : World) (hn : n = l.length) (hA : Rd w A 4 n (recs l)) (hB : Rd w B 4 n (recs l)) (hl : n ≤ 1000000000000) :
    Calls Tryd.prog 17 #[.slice A n n, .slice B n d] w (RetBelow (.bool true) w) := by
  subst hn
  go_enter Tryd.func17, Tryd.ntmps17
  go_wp2
  go_loopw [5] (fun i wr => ∃ k : Nat, k ≤ l.length ∧ i = .int .i64 k ∧ ∃ q, wr = w.drewN q) (fun i _ => l.length - (intOf i).toNat)
  case atStart => exact ⟨0, by omega, rfl, 0, rfl⟩
  case round =>
    obtain ⟨k, hk, rfl, q, rfl⟩ := hrel
    by_cases hlt : k < l.length
    · obtain ⟨b, o, rfl, hbl, c0, c1, c2, c3⟩ := rd_rec hA k hlt
      obtain ⟨b', o', rfl, hbl', e0, e1, e2, e3⟩ := rd_rec hB k hlt
      generalize l[k] = r at *
      have hki : ((k : Nat) : Int) < (l.length : Int) := by omega
      go_wp2_with fail
      go_quiet (fail)
      go_wp2_with fail
      exact ⟨⟨k + 1, by omega, by go_num, q + nq, rfl⟩, by simp [intOf]; omega⟩
    · go_wp2
      go_ret
      exact ⟨rfl, below_drewN (Below.refl _ _) _⟩

theorem wsum_mod (i : Nat) (l : List Int) (b : Int) (k : Nat) (hk : i + l.length = k) : (jsum l + ((k : Int) + 1) % 65536 * b) % 65536 = (wsum i (l ++ [b]) - wsum i l + wsum 0 l) % 65536 := by
  unfold jsum
  rw [wsum_snoc]
  have : ((i : Int) + (l.length : Int) + 1) = (k : Int) + 1 := by omega
  rw [this]
  have e : wsum i l + ((k : Int) + 1) * b - wsum i l + wsum 0 l = wsum 0 l + ((k : Int) + 1) * b := by omega
  rw [e]
  simp [Int.add_emod, Int.mul_emod]
theorem sum_step (bs : List Int) (k : Nat) (hk : k < bs.length) (x : Int) (hx : bs[k] = x) : (jsum (bs.take k) + ((k : Int) + 1) % 65536 * x) % 65536 = jsum (bs.take (k + 1)) := by
  rw [wsum_mod 0 (bs.take k) x k (by rw [List.length_take]; omega), List.take_succ_eq_append_getElem hk, hx]
  unfold jsum
  congr 1
  omega

set_option maxHeartbeats 400000 in
theorem lawsum_any (A : Option Addr) (bs : List Int) (n c : Nat) (w : World) (hn : n = bs.length) (h : Rd w A 1 n (bts bs)) (hb : ∀ x ∈ bs, 0 ≤ x ∧ x ≤ 255) (hl : n ≤ 140737488355328) :
    Calls Tryd.prog 18 #[.slice A n c] w fun e w' => e = .returned (.int .i64 (jsum bs)) ∧ w = w' := by
  subst hn
  go_enter Tryd.func18, Tryd.ntmps18
  go_wp2
  go_loop [3, 4] (fun n i => ∃ k : Nat, k ≤ bs.length ∧ i = .int .i64 k ∧ n = .int .i64 (jsum (bs.take k))) (fun _ i => bs.length - (intOf i).toNat)
  case atStart => exact ⟨0, Nat.zero_le _, rfl, rfl⟩
  case round =>
    obtain ⟨k, hk, rfl, rfl⟩ := hrel
    by_cases hlt : k < bs.length
    · obtain ⟨b, o, rfl, hbl, hc⟩ := h.2 (by omega)
      have hc1 := hc k (.int .u8 bs[k]) (by simp [bts, hlt])
      have hbb := hb bs[k] (List.getElem_mem _)
      obtain ⟨x, hx⟩ : ∃ x, bs[k] = x := ⟨_, rfl⟩
      rw [hx] at hc1 hbb
      have HX := Lib.hid (sum_step bs k hlt x hx)
      have hj := jsum_bd (bs.take k)
      obtain ⟨J, hJ⟩ : ∃ J, jsum (bs.take k) = J := ⟨_, rfl⟩
      rw [hJ] at hj ⊢
      have HJ := Lib.hid hJ
      have hm1 : 0 ≤ ((k : Int) + 1) % 65536 * x := Int.mul_nonneg (by omega) hbb.1
      have hm2 : ((k : Int) + 1) % 65536 * x ≤ 65535 * 255 := Int.mul_le_mul (by omega) hbb.2 hbb.1 (by omega)
      clear hc hx hJ
      go_wp2
      exact ⟨⟨k + 1, by omega, by go_num, val_int (by rw [← HX.out, HJ.out])⟩, by simp [intOf]; omega⟩
    · go_wp2
      go_ret
      exact ⟨ret_int (by rw [List.take_of_length_le (by omega)]), rfl⟩

theorem or_byte (J x : Int) (h0 : 0 ≤ J) (h1 : J < 16777216) (h2 : 0 ≤ x) (h3 : x ≤ 255) : bits .or .i64 (J * 256) x = J * 256 + x := by
  obtain ⟨a, rfl⟩ := Int.eq_ofNat_of_zero_le h0
  obtain ⟨b, rfl⟩ := Int.eq_ofNat_of_zero_le h2
  have hof : ∀ q : Nat, q < 9223372036854775808 → (BitVec.ofInt 64 (q : Int)).toNat = q := fun q hq => by
    rw [BitVec.ofInt_natCast, BitVec.toNat_ofNat]; exact Nat.mod_eq_of_lt (by omega)
  have e1 : (a : Int) * 256 = ((a * 256 : Nat) : Int) := by omega
  rw [e1]
  show IntKind.i64.wrap ((BitVec.ofInt 64 ((a * 256 : Nat) : Int) ||| BitVec.ofInt 64 (b : Int)).toNat : Int) = _
  rw [BitVec.toNat_or, hof _ (by omega), hof _ (by omega)]
  have e2 : a * 256 ||| b = a * 256 + b := by
    have := Nat.shiftLeft_add_eq_or_of_lt (show b < 2 ^ 8 by omega) a
    rw [Nat.shiftLeft_eq] at this
    exact this.symm
  rw [e2, IntKind.wrap_i64]
  omega

def be (bs : List Int) : Int := bs.foldl (fun n x => n * 256 + x) 0
theorem be_snoc (l : List Int) (x : Int) : be (l ++ [x]) = be l * 256 + x := by unfold be; rw [List.foldl_append]; rfl
theorem be_bd (l : List Int) (h : ∀ x ∈ l, 0 ≤ x ∧ x ≤ 255) : 0 ≤ be l ∧ be l < 256 ^ l.length := by
  have : ∀ (l : List Int) (n : Int), 0 ≤ n → (∀ x ∈ l, 0 ≤ x ∧ x ≤ 255) → 0 ≤ l.foldl (fun n x => n * 256 + x) n ∧ l.foldl (fun n x => n * 256 + x) n < (n + 1) * 256 ^ l.length := by
    intro l
    induction l with
    | nil => intro n hn _; simp; omega
    | cons a r ih =>
      intro n hn hr
      have ha := hr a (by simp)
      have := ih (n * 256 + a) (by omega) (fun x hx => hr x (by simp [hx]))
      refine ⟨this.1, Int.lt_of_lt_of_le this.2 ?_⟩
      rw [List.length_cons, Int.pow_succ]
      have e : (n + 1) * (256 ^ r.length * 256) = ((n + 1) * 256) * 256 ^ r.length := by
        rw [Int.mul_comm (256 ^ r.length) 256, ← Int.mul_assoc]
      rw [e]
      exact Int.mul_le_mul_of_nonneg_right (by omega) (Int.pow_nonneg (by omega))
  have := this l 0 (by omega) h
  simpa [be] using this

set_option maxHeartbeats 400000 in
theorem be_any (A : Option Addr) (bs : List Int) (n c : Nat) (w : World) (hn : n = bs.length) (h : Rd w A 1 n (bts bs)) (hb : ∀ x ∈ bs, 0 ≤ x ∧ x ≤ 255) (hl : n ≤ 4) :
    Calls Tryd.prog 46 #[.slice A n c] w fun e w' => e = .returned (.int .i64 (be bs)) ∧ w = w' := by
  subst hn
  go_enter Tryd.func46, Tryd.ntmps46
  go_wp2
  go_loop [3, 8] (fun n i => ∃ k : Nat, k ≤ bs.length ∧ i = .int .i64 k ∧ n = .int .i64 (be (bs.take k))) (fun _ i => bs.length - (intOf i).toNat)
  case atStart => exact ⟨0, Nat.zero_le _, rfl, rfl⟩
  case round =>
    obtain ⟨k, hk, rfl, rfl⟩ := hrel
    by_cases hlt : k < bs.length
    · obtain ⟨b, o, rfl, hbl, hc⟩ := h.2 (by omega)
      have hc1 := hc k (.int .u8 bs[k]) (by simp [bts, hlt])
      have hbb := hb bs[k] (List.getElem_mem _)
      obtain ⟨x, hx⟩ : ∃ x, bs[k] = x := ⟨_, rfl⟩
      rw [hx] at hc1 hbb
      have HX := Lib.hid hx
      have hj := be_bd (bs.take k) (fun y hy => hb y (List.mem_of_mem_take hy))
      have hl3 : (bs.take k).length ≤ 3 := by rw [List.length_take]; omega
      have hj3 : be (bs.take k) < 16777216 := Int.lt_of_lt_of_le hj.2 (by
        generalize (bs.take k).length = q at hl3
        match q, hl3 with
        | 0, _ => decide
        | 1, _ => decide
        | 2, _ => decide
        | 3, _ => decide)
      have hj0 := hj.1
      obtain ⟨J, hJ⟩ : ∃ J, be (bs.take k) = J := ⟨_, rfl⟩
      rw [hJ] at hj3 hj0 ⊢
      have HJ := Lib.hid hJ
      clear hc hx hJ hj hl3
      go_wp2
      refine ⟨⟨k + 1, by omega, by go_num, val_int ?_⟩, by simp [intOf]; omega⟩
      rw [or_byte J x hj0 hj3 hbb.1 hbb.2, List.take_succ_eq_append_getElem hlt, HX.out, be_snoc, HJ.out]
    · go_wp2
      go_ret
      exact ⟨ret_int (by rw [List.take_of_length_le (by omega)]), rfl⟩
end Go.Proofs.YtdcgminjamofmaaDoor
