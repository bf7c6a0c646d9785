/- The contract of patterns.Kind at an edge that there is. -/
import Derived.Test.YtjdmkgnlakonbaaGreatDoorBx
import Derived.Test.YtjdmkgnlakonbaaGreatDoorPat4
namespace Go.Proofs.YtjdmkgnlakonbaaGreatDoor
open Go.RowKit

/-- The kind of a crease; 0 if there is none. -/
def kindF (l : List Cr) (c e : Int) : Int := match l.find? fun r => decide (r.c = c) && decide (r.e = e) with
  | some r => r.k
  | none => 0
theorem ordU_z {c e c' e' : Int} : ordU c e c' e' = 0 ↔ c = c' ∧ e = e' := by
  unfold ordU
  split
  · rename_i h; constructor
    · intro h2; exact ⟨h, by omega⟩
    · rintro ⟨_, h2⟩; omega
  · rename_i h; constructor
    · intro h2; exact absurd (by omega) h
    · rintro ⟨h2, _⟩; exact absurd h2 h
theorem kind_find {l : List Cr} {c e : Int} {i : Nat} {is : Bool} (hf : FindAt l c e i is) (ha : l.Pairwise fun r q => ordU r.c r.e q.c q.e < 0) :
    (is = true → ∃ hi : i < l.length, kindF l c e = l[i].k) ∧ (is = false → kindF l c e = 0) := by
  obtain ⟨h1, h2, h3, h4⟩ := hf
  constructor
  · intro his
    obtain ⟨r, hr, h0⟩ := h4.1 his
    obtain ⟨hi, hri⟩ := List.getElem?_eq_some_iff.1 hr
    refine ⟨hi, ?_⟩
    unfold kindF
    have hz := ordU_z.1 h0
    have hfind : l.find? (fun r => decide (r.c = c) && decide (r.e = e)) = some l[i] := by
      rw [List.find?_eq_some_iff_getElem]
      refine ⟨by rw [hri]; simp [hz.1, hz.2], i, hi, rfl, fun k hk => ?_⟩
      have hlt := h2 k (by omega) hk
      simp only [Bool.not_eq_true', Bool.and_eq_false_iff, decide_eq_false_iff_not]
      by_cases hc : l[k].c = c
      · right; intro he; have := ordU_z.2 ⟨hc, he⟩; omega
      · left; exact hc
    rw [hfind]
  · intro his
    unfold kindF
    have hfind : l.find? (fun r => decide (r.c = c) && decide (r.e = e)) = none := by
      rw [List.find?_eq_none]
      intro r hr hp
      simp only [Bool.and_eq_true, decide_eq_true_eq] at hp
      obtain ⟨k, hk, rfl⟩ := List.mem_iff_getElem.1 hr
      have h0 : ordU l[k].c l[k].e c e = 0 := ordU_z.2 hp
      have hik : i ≤ k := by
        by_cases h : k < i
        · have := h2 k hk h; omega
        · omega
      have hil : i < l.length := by omega
      have hi0 : ordU l[i].c l[i].e c e = 0 := by
        rcases Nat.lt_or_eq_of_le hik with h | h
        · have h5 := List.pairwise_iff_getElem.1 ha i k hil hk h
          rw [hp.1, hp.2] at h5
          have := h3 i hil (Nat.le_refl _)
          omega
        · subst h; exact h0
      have : is = true := h4.2 ⟨l[i], by simp, hi0⟩
      rw [his] at this; cases this
    rw [hfind]

set_option maxRecDepth 100000 in
set_option maxHeartbeats 2000000 in
theorem kind_ok (a b : Int) (A : Option Addr) (l : List Cr) (n cc : Nat) (id e c' : Int) (w : World) (hn : n = l.length) (h : Rd w A 3 n (crs l)) (hp : OkPat a b l) (hQ : Qt w) (hnm : nameI a b id e = (c', e, 0)) (hc : 0 ≤ c' ∧ c' ≤ 1024) (he : 0 ≤ e ∧ e ≤ 255) :
    Calls Tryz.prog 176 #[.agg #[.int .i64 a, .int .i64 b, .slice A n cc], .int .i64 id, .int .u8 e] w (RetBelow (.tuple #[.int .u8 (kindF l c' e), .int .i64 0]) w) := by
  have HAT := Lib.hid fun w h hQ => at_ok a b A l n cc id e c' w hn h hp hQ hnm hc he
  have HKF := Lib.hid fun i is (hf : FindAt l c' e i is) => kind_find hf hp.asc
  have HRD := Lib.hid h
  have HN := Lib.hid hn
  have HQ := Lib.hid hQ
  have H := (Bx.start w).new #[.int .i64 a, .int .i64 b, .slice A n cc] 40 rfl
  have hlen : l.length ≤ 1000000 := hp.len
  clear hn h hp hQ hnm hc he
  go_enter Tryz.func176, Tryz.ntmps176
  go_upto_region 1 with fail
  obtain ⟨W, hW⟩ : ∃ W, W = w.alloc (.cells #[.int .i64 a, .int .i64 b, .slice A n cc] 40) := ⟨_, rfl⟩
  rw [← hW] at H ⊢
  obtain ⟨N, hN⟩ : ∃ N, N = w.heap.size := ⟨_, rfl⟩
  rw [← hN] at H ⊢
  clear hW hN
  obtain ⟨⟨a0, a1, a2⟩, _⟩ := blk3 (H.blk 0 _ _ _ rfl)
  go_wp2_with fail
  refine (HAT.out _ (HRD.out.below H.below) (HQ.out.below H.below)).mono ?_
  rintro ee w2 ⟨hb, i, is, hfi, rfl⟩
  have H2 := H.call hb
  obtain ⟨k1, k2⟩ := HKF.out i is hfi
  clear a0 a1 a2 hb H
  have l0 := H2.lt 0 rfl
  obtain ⟨⟨a0, a1, a2⟩, _⟩ := blk3 (H2.blk 0 _ _ _ rfl)
  cases is
  · have hk := k2 rfl
    have HK := Lib.hid hk
    clear k1 k2 hk hfi
    go_wp2_with fail
    go_ret2
    exact ⟨by rw [HK.out]; rfl, (H2.other _).below⟩
  · obtain ⟨hi, hk⟩ := k1 rfl
    have HK := Lib.hid hk
    have hrd := HRD.out.below H2.below
    rw [HN.out] at hrd
    obtain ⟨bb, o, hA, hbl, c0, c1, c2⟩ := rd_cr hrd i hi
    have q1 : (i : Int) < (n : Int) := by have := HN.out; omega
    obtain ⟨r, hr⟩ : ∃ r, l[i] = r := ⟨_, rfl⟩
    rw [hr] at c0 c1 c2 HK
    clear k1 k2 hk hfi hrd hr
    subst hA
    go_wp2_with fail
    go_ret2
    exact ⟨by rw [HK.out]; rfl, (H2.other _).below⟩
end Go.Proofs.YtjdmkgnlakonbaaGreatDoor
