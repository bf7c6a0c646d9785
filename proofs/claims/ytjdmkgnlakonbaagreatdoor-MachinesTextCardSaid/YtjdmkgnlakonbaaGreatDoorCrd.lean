/- The contract of places.creased. -/
import Derived.Test.YtjdmkgnlakonbaaGreatDoorKey
import Derived.Test.YtjdmkgnlakonbaaGreatDoorKnd
import Derived.Test.YtjdmkgnlakonbaaGreatDoorSp2
namespace Go.Proofs.YtjdmkgnlakonbaaGreatDoor
open Go.RowKit

section
variable {κ : Type} [DecidableEq κ]
theorem idxM_eq (p : κ) : ∀ (l : List (κ × Value)) (n : Nat), idxM p l n = ((idxM p l 0).map fun r => (r.1 + n, r.2)) := by
  intro l
  induction l with
  | nil => intro n; rfl
  | cons q l ih =>
    intro n
    unfold idxM
    by_cases h : p = q.1
    · simp [h]
    · rw [if_neg h, if_neg h, ih (n + 1), ih (0 + 1)]
      cases idxM p l 0 with
      | none => rfl
      | some r => simp; omega
theorem getM_cons (p : κ) (q : κ × Value) (l : List (κ × Value)) : getM p (q :: l) = if p = q.1 then some q.2 else getM p l := by
  unfold getM
  conv => lhs; unfold idxM
  by_cases h : p = q.1
  · simp [h]
  · rw [if_neg h, if_neg h, idxM_eq]
    cases idxM p l 0 <;> rfl
theorem putM_cons (p : κ) (v : Value) (q : κ × Value) (l : List (κ × Value)) : putM p v (q :: l) = if p = q.1 then (p, v) :: l else q :: putM p v l := by
  unfold putM
  conv => lhs; unfold idxM
  by_cases h : p = q.1
  · simp [h]
  · rw [if_neg h, if_neg h, idxM_eq]
    cases idxM p l 0 <;> simp
theorem getM_put (p q : κ) (v : Value) : ∀ l : List (κ × Value), getM p (putM q v l) = if p = q then some v else getM p l := by
  intro l
  induction l with
  | nil =>
    have e : putM q v ([] : List (κ × Value)) = [(q, v)] := rfl
    rw [e, getM_cons]
  | cons r l ih =>
    rw [putM_cons]
    by_cases h : q = r.1
    · rw [if_pos h, getM_cons, getM_cons]
      by_cases hp : p = q
      · simp [hp]
      · have : p ≠ r.1 := fun e => hp (e.trans h.symm)
        simp [hp, this]
    · rw [if_neg h, getM_cons, getM_cons, ih]
      by_cases hp : p = r.1
      · have : p ≠ q := fun e => h (e.symm.trans hp)
        simp [hp]
        intro e; exact absurd (hp.trans e) this
      · simp [hp]
end

/-- The set of creases as a map. -/
def crM (l : List Cr) : List ((Int × Int) × Value) := l.foldl (fun m r => putM (r.c, r.e) (.bool true) m) []
theorem crM_snoc (l : List Cr) (i : Nat) (h : i < l.length) : crM (l.take (i + 1)) = putM (l[i].c, l[i].e) (.bool true) (crM (l.take i)) := by
  unfold crM
  rw [List.take_succ_eq_append_getElem h, List.foldl_append]; rfl
theorem crM_get (l : List Cr) (c e : Int) : (getM (c, e) (crM l)).getD (.bool false) = .bool (isCr l c e) := by
  have key : ∀ (l : List Cr) (m : List ((Int × Int) × Value)), getM (c, e) (l.foldl (fun m r => putM (r.c, r.e) (.bool true) m) m) = if isCr l c e then some (.bool true) else getM (c, e) m := by
    intro l
    induction l with
    | nil => intro m; simp [isCr]
    | cons r l ih =>
      intro m
      rw [List.foldl_cons, ih, getM_put]
      unfold isCr
      rw [List.any_cons]
      by_cases h : r.c = c ∧ r.e = e
      · simp [h.1, h.2]
      · have h' : ¬ ((c, e) = (r.c, r.e)) := fun x => h (by simp at x; exact ⟨x.1.symm, x.2.symm⟩)
        rw [if_neg h']
        have h2 : (decide (r.c = c) && decide (r.e = e)) = false := by
          simp only [Bool.and_eq_false_iff, decide_eq_false_iff_not]
          by_cases hc : r.c = c
          · right; exact fun he => h ⟨hc, he⟩
          · left; exact hc
        rw [h2, Bool.false_or]
  unfold crM
  rw [key]
  cases isCr l c e with
  | true => rfl
  | false => rfl
theorem Bx.mapped {κ : Type} {K : κ → Value} {w wr w' : World} {l : List (Nat × Array Value × TypeId)} {M : Nat} {m : List (κ × Value)} (h : Bx w l wr) (hk : MpOk K wr M m) (hg : wr.grownBy w' (some M)) (hM : w.heap.size ≤ M) : Bx w l w' := by
  obtain ⟨es, clock, hb, _⟩ := hk
  refine ⟨h.below.grown hg h.below.size (fun k hk => by injection hk with hk; omega), fun i g cs t hi => ?_, h.lo, h.inj⟩
  have hgb := h.blk i g cs t hi
  refine (hg.block g (h.lt i hi) ?_).trans hgb
  intro e
  injection e with e
  subst e
  rw [hgb] at hb
  cases hb

/-- The call returns a map in new memory that holds m. -/
def MapRet {κ : Type} (K : κ → Value) (m : List (κ × Value)) (w : World) (e : Ending) (w' : World) : Prop := ∃ M, e = .returned (.map (some M)) ∧ w.heap.size ≤ M ∧ MpOk K w' M m ∧ Below w.heap.size w w'

set_option maxRecDepth 100000 in
set_option maxHeartbeats 4000000 in
theorem creased_ok (a b : Int) (A : Option Addr) (l : List Cr) (n cc : Nat) (w : World) (hn : n = l.length) (h : Rd w A 3 n (crs l)) (hl : n ≤ 1000000) :
    Calls Tryz.prog 153 #[.agg #[.int .i64 a, .int .i64 b, .slice A n cc]] w (MapRet unK (crM l) w) := by
  have HRD := Lib.hid h
  have HN := Lib.hid hn
  have H := (Bx.start w).new #[.int .i64 a, .int .i64 b, .slice A n cc] 40 rfl
  clear hn h
  go_enter Tryz.func153, Tryz.ntmps153
  go_upto_region 1 with fail
  obtain ⟨W, hW⟩ : ∃ W, W = w.alloc (.cells #[.int .i64 a, .int .i64 b, .slice A n cc] 40) := ⟨_, rfl⟩
  rw [← hW] at H ⊢
  obtain ⟨N, hN⟩ : ∃ N, N = w.heap.size := ⟨_, rfl⟩
  rw [← hN] at H ⊢
  have HNN := Lib.hid hN
  clear hW hN
  obtain ⟨⟨a0, a1, a2⟩, _⟩ := blk3 (H.blk 0 _ _ _ rfl)
  have hmm : (Instr.makeMap 258 (some (.int .i64 n))).run Tryz.prog W = .ok (.map (some W.heap.size)) (W.alloc (.map #[] 0)) := by first | rfl | simp [Instr.makeMap]
  go_upto_region 2 with fail
  obtain ⟨M, hM⟩ : ∃ M, M = W.heap.size := ⟨_, rfl⟩
  rw [← hM]
  have hMl : w.heap.size ≤ M := by have := H.below.size; omega
  have hK := mp_made unK W
  rw [← hM] at hK
  have H2 := H.other (.map #[] 0)
  obtain ⟨W2, hW2⟩ : ∃ W', W' = W.alloc (.map #[] 0) := ⟨_, rfl⟩
  rw [← hW2] at hK H2 ⊢
  clear hmm hM hW2 a0 a1 a2 H
  obtain ⟨⟨a0, a1, a2⟩, _⟩ := blk3 (H2.blk 0 _ _ _ rfl)
  go_wp2_with fail
  clear a0 a1 a2
  go_loopw [13] (fun i wr => ∃ k : Nat, k ≤ n ∧ i = .int .i64 k ∧ Bx w [(N, #[.int .i64 a, .int .i64 b, .slice A n cc], 40)] wr ∧ MpOk unK wr M (crM (l.take k))) (fun i _ => n - (intOf i).toNat)
  case atStart => exact ⟨0, by omega, rfl, H2, hK⟩
  case round =>
    obtain ⟨k, hk, rfl, Hr, Kr⟩ := hrel
    by_cases hlt : k < n
    · have hkl : k < l.length := by have := HN.out; omega
      have hrd := HRD.out.below Hr.below
      rw [HN.out] at hrd
      obtain ⟨bb, o, hA, hbl, c0, c1, c2⟩ := rd_cr hrd k hkl
      have hsn := crM_snoc l k hkl
      obtain ⟨r, hr⟩ : ∃ r, l[k] = r := ⟨_, rfl⟩
      rw [hr] at c0 c1 c2 hsn
      have HSN := Lib.hid hsn
      have q1 : (k : Int) < (n : Int) := by omega
      have Kr2 := Kr.below ((Below.refl wr.heap.size wr).alloc (Nat.le_refl _) (.cells #[.int .i64 r.c, .int .u8 r.e, .int .u8 r.k] 107)) Kr.lt
      have Hr2 := Hr.other (.cells #[.int .i64 r.c, .int .u8 r.e, .int .u8 r.k] 107)
      clear hrd hsn hr
      subst hA
      go_wp2_with (at_mapUpdate; refine wpList_mp_put unit_keyT Tryz.underlying258 _ rfl _ _ _ rfl M (crM (l.take k)) (r.c, r.e) (.bool true) rfl rfl rfl Kr2 ?_; intro w9 hk9 hg9)
      exact ⟨⟨k + 1, by omega, by go_num, Hr2.mapped Kr2 hg9 hMl, by rw [HSN.out]; exact hk9⟩, by simp [intOf]; omega⟩
    · have q1 : ¬ (k : Int) < (n : Int) := by omega
      have hkn : k = l.length := by have := HN.out; omega
      go_wp2_with fail
      go_ret
      refine ⟨M, rfl, hMl, ?_, Hr.below⟩
      rw [hkn, List.take_length] at Kr
      exact Kr
end Go.Proofs.YtjdmkgnlakonbaaGreatDoor
