/- Stations as texts, in plain Lean: the text of a station, its three words, that Atoi reads what Itoa writes, the words of a text that came in, and that a station's text is its alone. No program in sight. -/
import Derived.Lib.SplitLaws
import Derived.Lib.AtoiAll
import Derived.Lib.ItoaNum
import Derived.Lib.SlicesS
namespace Go.Proofs.YtjdmkgnlakonbaaGreatDoor
open Go.Lib

def wordL : List (List UInt8) := [[115, 111, 117, 116, 104], [101, 97, 115, 116], [110, 111, 114, 116, 104], [119, 101, 115, 116], [108, 111, 119, 101, 114, 108, 101, 102, 116], [108, 111, 119, 101, 114, 114, 105, 103, 104, 116], [117, 112, 112, 101, 114, 114, 105, 103, 104, 116], [117, 112, 112, 101, 114, 108, 101, 102, 116]]
def wordW (k : Nat) : List UInt8 := wordL.getD k []
def overL : List UInt8 := [111, 118, 101, 114]
def underL : List UInt8 := [117, 110, 100, 101, 114]
def ouL (o : Bool) : List UInt8 := if o then overL else underL
def bsOf (l : List UInt8) : ByteArray := ⟨l.toArray⟩
theorem bsOf_data (l : List UInt8) : (bsOf l).data.toList = l := by simp [bsOf]
theorem bsOf_self (s : ByteArray) : bsOf s.data.toList = s := by simp [bsOf]
theorem bsOf_inj {a b : List UInt8} (h : bsOf a = bsOf b) : a = b := by rw [← bsOf_data a, h, bsOf_data]
theorem bsOf_append (a b : List UInt8) : bsOf a ++ bsOf b = bsOf (a ++ b) := by
  apply ByteArray.ext
  simp [bsOf]
theorem bsOf_size (a : List UInt8) : (bsOf a).size = a.length := by simp [bsOf, ByteArray.size]
theorem bs_ext {a b : ByteArray} (h : a.data.toList = b.data.toList) : a = b := by rw [← bsOf_self a, h, bsOf_self]
/-- Is it a station? -/
def goodSt (k : Nat) (a : Int) : Prop := k ≤ 7 ∧ 1 ≤ a ∧ a ≤ 512
instance (k : Nat) (a : Int) : Decidable (goodSt k a) := by unfold goodSt; infer_instance
def txtL (k : Nat) (a : Int) (o : Bool) : List UInt8 := wordW k ++ (32 :: (itoa a ++ 32 :: ouL o))
def txtB (k : Nat) (a : Int) (o : Bool) : ByteArray := if goodSt k a then bsOf (txtL k a o) else ByteArray.empty

theorem index_sp {a : List UInt8} (h : (32 : UInt8) ∉ a) (r : List UInt8) : index (a ++ 32 :: r) [32] = (a.length : Int) := by
  induction a with
  | nil => unfold index; simp [List.isPrefixOf]
  | cons c l ih =>
    have hc : c ≠ 32 := fun e => h (e ▸ List.mem_cons_self)
    have ih := ih fun hm => h (List.mem_cons_of_mem _ hm)
    rw [List.cons_append, index, ih]
    have e1 : ([32] : List UInt8).isPrefixOf (c :: (l ++ 32 :: r)) = false := by simp [List.isPrefixOf, Ne.symm hc]
    rw [e1]
    have e2 : (((l.length : Nat) : Int) == -1) = false := by rw [beq_eq_false_iff_ne]; omega
    rw [e2]
    simp
theorem index_nosp {a : List UInt8} (h : (32 : UInt8) ∉ a) : index a [32] = -1 := by
  induction a with
  | nil => rfl
  | cons c l ih =>
    have hc : c ≠ 32 := fun e => h (e ▸ List.mem_cons_self)
    have ih := ih fun hm => h (List.mem_cons_of_mem _ hm)
    rw [index, ih]
    have e1 : ([32] : List UInt8).isPrefixOf (c :: l) = false := by simp [List.isPrefixOf, Ne.symm hc]
    rw [e1]
    rfl
theorem split3 {a b c : List UInt8} (ha : (32 : UInt8) ∉ a) (hb : (32 : UInt8) ∉ b) : splitK [32] 0 2 (a ++ 32 :: (b ++ 32 :: c)) = [a, b, c] := by
  have n1 : ((((a.length : Nat) : Int)) == -1) = false := by rw [beq_eq_false_iff_ne]; omega
  have n2 : ((((b.length : Nat) : Int)) == -1) = false := by rw [beq_eq_false_iff_ne]; omega
  rw [splitK, index_sp ha, n1]
  simp only [Bool.false_eq_true, if_false, Int.toNat_natCast, Nat.add_zero, List.take_left']
  have d1 : (a ++ 32 :: (b ++ 32 :: c)).drop (a.length + [(32 : UInt8)].length) = b ++ 32 :: c := by
    rw [← List.drop_drop, List.drop_left]; rfl
  rw [d1, splitK, index_sp hb, n2]
  simp only [Bool.false_eq_true, if_false, Int.toNat_natCast, Nat.add_zero, List.take_left']
  have d2 : (b ++ 32 :: c).drop (b.length + [(32 : UInt8)].length) = c := by
    rw [← List.drop_drop, List.drop_left]; rfl
  rw [d2]
  rfl
theorem count3 {a b c : List UInt8} (ha : (32 : UInt8) ∉ a) (hb : (32 : UInt8) ∉ b) (hc : (32 : UInt8) ∉ c) : count (a ++ 32 :: (b ++ 32 :: c)) [32] = 2 := by
  rw [count_one]
  have e1 := List.count_eq_zero.2 ha
  have e2 := List.count_eq_zero.2 hb
  have e3 := List.count_eq_zero.2 hc
  simp [List.count_append, e1, e2, e3]
def spB : ByteArray := ⟨#[32]⟩
theorem map_bs {l : List ByteArray} {m : List (List UInt8)} (h : l.map (·.data.toList) = m) : l = m.map bsOf := by
  subst h
  induction l with
  | nil => rfl
  | cons x r ih => rw [List.map_cons, List.map_cons, bsOf_self, ← ih]
/-- Split at " " of three words. -/
theorem splitB3 {a b c : List UInt8} (ha : (32 : UInt8) ∉ a) (hb : (32 : UInt8) ∉ b) (hc : (32 : UInt8) ∉ c) :
    countB (bsOf (a ++ 32 :: (b ++ 32 :: c))) spB = 2 ∧ splitB spB 0 2 (bsOf (a ++ 32 :: (b ++ 32 :: c))) = [bsOf a, bsOf b, bsOf c] := by
  refine ⟨?_, ?_⟩
  · show count (bsOf _).data.toList spB.data.toList = 2
    rw [bsOf_data]; exact count3 ha hb hc
  · have h := splitB_data spB 0 2 (bsOf (a ++ 32 :: (b ++ 32 :: c)))
    rw [bsOf_data] at h
    have h2 : splitK spB.data.toList 0 2 (a ++ 32 :: (b ++ 32 :: c)) = [a, b, c] := split3 ha hb
    rw [h2] at h
    exact map_bs h
theorem splitB_empty : countB ByteArray.empty spB = 0 := by decide
/-- The digits of a number below 1000. -/
def dig3 (u : Nat) : List UInt8 := if u < 10 then [UInt8.ofNat (48 + u)] else if u < 100 then [UInt8.ofNat (48 + u / 10), UInt8.ofNat (48 + u % 10)] else [UInt8.ofNat (48 + u / 10 / 10), UInt8.ofNat (48 + u / 10 % 10), UInt8.ofNat (48 + u % 10)]
theorem dec_dig3 {u : Nat} (h : u < 1000) : decDigits u = dig3 u := by
  unfold dig3
  by_cases h1 : u < 10
  · rw [if_pos h1, decDigits, dif_pos h1]
  · rw [if_neg h1, decDigits, dif_neg h1]
    by_cases h2 : u < 100
    · rw [if_pos h2, decDigits, dif_pos (by omega)]; rfl
    · rw [if_neg h2, decDigits, dif_neg (by omega), decDigits, dif_pos (by omega)]; rfl
theorem itoa_dig {a : Int} (h0 : 1 ≤ a) (h1 : a ≤ 512) : itoa a = dig3 a.toNat := by
  unfold itoa
  rw [if_neg (by omega), dec_dig3 (by omega)]
theorem dig_all : ∀ u : Fin 513, (32 : UInt8) ∉ dig3 u.val ∧ (dig3 u.val).length ≤ 3 ∧ atoiAll (dig3 u.val) = .ok (u.val : Int) := by decide +kernel
theorem itoa_facts {a : Int} (h0 : 1 ≤ a) (h1 : a ≤ 512) : (32 : UInt8) ∉ itoa a ∧ (itoa a).length ≤ 3 ∧ atoiAll (itoa a) = .ok a := by
  rw [itoa_dig h0 h1]
  have := dig_all ⟨a.toNat, by omega⟩
  refine ⟨this.1, this.2.1, ?_⟩
  have e : ((a.toNat : Nat) : Int) = a := Int.toNat_of_nonneg (by omega)
  exact this.2.2.trans (congrArg _ e)
theorem word_facts {k : Nat} (h : k ≤ 7) : (32 : UInt8) ∉ wordW k ∧ (wordW k).length ≤ 10 := by
  have hall : ∀ y : Fin 8, (32 : UInt8) ∉ wordW y.val ∧ (wordW y.val).length ≤ 10 := by decide
  exact hall ⟨k, by omega⟩
theorem ou_facts (o : Bool) : (32 : UInt8) ∉ ouL o ∧ (ouL o).length ≤ 5 := by cases o <;> decide
theorem idx_word {k : Nat} (h : k ≤ 7) : idxOfS (wordL.map bsOf) (bsOf (wordW k)) = k := by
  have hlen : (wordL.map bsOf).length = 8 := rfl
  have hget : ∀ j, j ≤ 7 → (wordL.map bsOf).getD j ByteArray.empty = bsOf (wordW j) := by
    intro j hj
    match j, hj with
    | 0, _ | 1, _ | 2, _ | 3, _ | 4, _ | 5, _ | 6, _ | 7, _ => rfl
  have hne : ∀ i j : Fin 8, i.val < j.val → wordW i.val ≠ wordW j.val := by decide
  unfold idxOfS
  rw [idxFromS_hit (bsOf (wordW k)) _ k 0 (by rw [hlen]; omega) (hget k h) (fun j hj => by
    rw [hget j (by omega)]
    intro e
    exact hne ⟨j, by omega⟩ ⟨k, by omega⟩ hj (bsOf_inj e))]
  simp
theorem idx_range (x : ByteArray) : -1 ≤ idxOfS (wordL.map bsOf) x ∧ idxOfS (wordL.map bsOf) x ≤ 7 := by
  have key : ∀ (zs : List ByteArray) (i : Nat), idxFromS zs x i = -1 ∨ (i : Int) ≤ idxFromS zs x i ∧ idxFromS zs x i < i + zs.length := by
    intro zs
    induction zs with
    | nil => intro i; exact .inl rfl
    | cons z r ih =>
      intro i
      unfold idxFromS
      by_cases h : z = x
      · rw [if_pos h]; refine .inr ⟨Int.le_refl _, ?_⟩; simp; omega
      · rw [if_neg h]
        rcases ih (i + 1) with e | ⟨e1, e2⟩
        · exact .inl e
        · refine .inr ⟨by omega, ?_⟩
          simp only [List.length_cons]
          omega
  have h := key (wordL.map bsOf) 0
  have hlen : (wordL.map bsOf).length = 8 := rfl
  unfold idxOfS
  rw [hlen] at h
  omega
/-- All that Parse asks of the text of a station. -/
theorem txt_facts {k : Nat} {a : Int} {o : Bool} (h : goodSt k a) :
    countB (txtB k a o) spB = 2 ∧ splitB spB 0 2 (txtB k a o) = [bsOf (wordW k), bsOf (itoa a), bsOf (ouL o)] ∧ idxOfS (wordL.map bsOf) (bsOf (wordW k)) = k ∧ atoiAll (bsOf (itoa a)).data.toList = .ok a ∧ (bsOf (itoa a)).size ≤ 3 := by
  have hk := word_facts h.1
  have ha := itoa_facts h.2.1 h.2.2
  have ho := ou_facts o
  have hs := splitB3 hk.1 ha.1 ho.1
  unfold txtB
  rw [if_pos h, bsOf_data, bsOf_size]
  exact ⟨hs.1, hs.2, idx_word h.1, ha.2.2, ha.2.1⟩
theorem txt_ne {k : Nat} {a : Int} {o : Bool} (h : goodSt k a) : txtB k a o ≠ ByteArray.empty := by
  intro e
  have h1 := (txt_facts (o := o) h).1
  rw [e] at h1
  revert h1; decide
theorem txt_size (k : Nat) (a : Int) (o : Bool) : (txtB k a o).size ≤ 20 := by
  unfold txtB
  split
  · rename_i h
    have hk := word_facts h.1
    have ha := itoa_facts h.2.1 h.2.2
    have ho := ou_facts o
    rw [bsOf_size]
    unfold txtL
    simp only [List.length_append, List.length_cons]
    omega
  · simp
theorem ou_over (o : Bool) : ((bsOf (ouL o)).toList == (bsOf overL).toList) = o := by
  cases o with
  | true => exact (bytes_beq_iff _ _).2 rfl
  | false => exact (bytes_beq_false_iff _ _).2 fun e => absurd (bsOf_inj e) (by decide)
/-- "x under" with its last five bytes cut off, and "over" behind. -/
theorem txt_cut {k : Nat} {a : Int} (h : goodSt k a) : (txtB k a false).extract 0 ((txtB k a false).size - 5) ++ bsOf overL = txtB k a true := by
  apply bs_ext
  unfold txtB
  rw [if_pos h, if_pos h]
  have e : txtL k a false = (wordW k ++ (32 :: (itoa a ++ [32]))) ++ underL := by simp [txtL, ouL]
  have e2 : txtL k a true = (wordW k ++ (32 :: (itoa a ++ [32]))) ++ overL := by simp [txtL, ouL]
  rw [e, e2, bsOf_size]
  generalize wordW k ++ (32 :: (itoa a ++ [32])) = p
  have hl : (p ++ underL).length - 5 = p.length := by simp [underL]
  rw [hl]
  simp [bsOf]
end Go.Proofs.YtjdmkgnlakonbaaGreatDoor
namespace Go.Proofs.YtjdmkgnlakonbaaGreatDoor
open Go.Lib

theorem splitB_le (sep : ByteArray) : ∀ (k : Nat) (s x : ByteArray), x ∈ splitB sep 0 k s → x.size ≤ s.size
  | 0, s, x, h => by
    rw [splitB_zero, List.mem_singleton] at h
    rw [h]; exact Nat.le_refl _
  | k + 1, s, x, h => by
    unfold splitB at h
    split at h
    · rw [List.mem_singleton] at h
      rw [h]; exact Nat.le_refl _
    · rcases List.mem_cons.1 h with rfl | h
      · rw [ByteArray.size_extract]; omega
      · have := splitB_le sep k _ x h
        rw [ByteArray.size_extract] at this
        omega
/-- The words of a text: there is a first one; there are three where there are two spaces. -/
theorem words_first (s : ByteArray) : ∃ a r, splitB spB 0 (countB s spB) s = a :: r ∧ r.length = countB s spB ∧ (a :: r).length = countB s spB + 1 ∧ ∀ x ∈ a :: r, x.size ≤ s.size := by
  have h := splitB_all spB (by decide) 0 (countB s spB) s rfl
  have hs := splitB_le spB (countB s spB) s
  cases e : splitB spB 0 (countB s spB) s with
  | nil => rw [e] at h; cases h
  | cons a r =>
    rw [e] at h hs
    exact ⟨a, r, rfl, by simpa using h, h, hs⟩
theorem txt_inj {k k' : Nat} {a a' : Int} {o o' : Bool} (h : goodSt k a) (h' : goodSt k' a') (e : txtB k a o = txtB k' a' o') : k = k' ∧ a = a' ∧ o = o' := by
  obtain ⟨_, f2, f3, f4, _⟩ := txt_facts (o := o) h
  obtain ⟨_, g2, g3, g4, _⟩ := txt_facts (o := o') h'
  rw [e, g2] at f2
  simp only [List.cons.injEq, and_true] at f2
  obtain ⟨e1, e2, e3⟩ := f2
  rw [e1, f3] at g3
  rw [e2, f4] at g4
  refine ⟨by omega, by injection g4, ?_⟩
  have := ou_over o
  rw [← e3, ou_over o'] at this
  exact this.symm
/-- What Parse returns. -/
def ParseIs (s : ByteArray) (k : Nat) (a : Int) (o : Bool) (er : Int) : Prop :=
  (er = 0 ∧ goodSt k a ∧ s = txtB k a o) ∨ (er = 4 ∧ k = 0 ∧ a = 0 ∧ o = false ∧ ∀ k' a' o', goodSt k' a' → s ≠ txtB k' a' o')
theorem parse_count {s : ByteArray} (h : countB s spB ≠ 2) : ∀ k a o, goodSt k a → s ≠ txtB k a o := by
  rintro k a o hg rfl
  exact h (txt_facts hg).1
theorem parse_word {s x y z : ByteArray} (hw : splitB spB 0 2 s = [x, y, z]) (h : idxOfS (wordL.map bsOf) x < 0) : ∀ k a o, goodSt k a → s ≠ txtB k a o := by
  rintro k a o hg rfl
  obtain ⟨_, f2, f3, _⟩ := txt_facts (o := o) hg
  rw [f2] at hw
  simp only [List.cons.injEq, and_true] at hw
  rw [hw.1] at f3
  omega
theorem parse_text {s x y z : ByteArray} {k : Nat} {v : Int} {o : Bool} (hw : splitB spB 0 2 s = [x, y, z]) (hx : idxOfS (wordL.map bsOf) x = k) (hy : ∀ a, atoiAll y.data.toList = .ok a → v = a) (hz : (z.toList == (bsOf overL).toList) = o) (hne : txtB k v o ≠ s) : ∀ k a o, goodSt k a → s ≠ txtB k a o := by
  rintro k' a' o' hg rfl
  obtain ⟨_, f2, f3, f4, _⟩ := txt_facts (o := o') hg
  rw [f2] at hw
  simp only [List.cons.injEq, and_true] at hw
  obtain ⟨rfl, rfl, rfl⟩ := hw
  have e1 : k = k' := by omega
  have e2 := hy _ f4
  have e3 : o' = o := by rw [← hz, ou_over]
  subst e1 e2 e3
  exact hne rfl
theorem txt_good {k : Nat} {a : Int} {o : Bool} {s : ByteArray} (h : txtB k a o = s) (hs : countB s spB = 2) : goodSt k a := by
  unfold txtB at h
  split at h
  · assumption
  · subst h
    rw [splitB_empty] at hs; cases hs
end Go.Proofs.YtjdmkgnlakonbaaGreatDoor
