/- Contracts of sheets.Neighbour and Name at valid sheets. -/
import Derived.Test.YtjdmkgnlakonbaaGreatDoorShe
namespace Go.Proofs.YtjdmkgnlakonbaaGreatDoor
open Go.RowKit

def nbI (a b i e : Int) : Int × Int :=
  if hasI a b i = false then (0, 7)
  else if (nbr (i / 4 % a) (i / 4 / a) (i % 4) e).2.2.2 = 0 then idI a b (nbr (i / 4 % a) (i / 4 / a) (i % 4) e).1 (nbr (i / 4 % a) (i / 4 / a) (i % 4) e).2.1 (nbr (i / 4 % a) (i / 4 / a) (i % 4) e).2.2.1
  else (0, 1)
theorem nbr_bd (x y q e : Int) : 0 ≤ (nbr x y q e).2.2.1 ∧ (nbr x y q e).2.2.1 ≤ 3 := by
  have h := nxt_bd q.toNat e.toNat
  unfold nbr
  split
  · exact ⟨by decide, by decide⟩
  · split
    · exact ⟨h.2.2.2.2.1, h.2.2.2.2.2⟩
    · exact ⟨by decide, by decide⟩

set_option maxHeartbeats 1000000 in
theorem sheetNeighbour_any (a b i e : Int) (w : World) (hs : okS a b = true) (he : 0 ≤ e) (hQ : Qt w) :
    Calls Tryz.prog 136 #[.agg #[.int .i64 a, .int .i64 b], .int .i64 i, .int .u8 e] w (RetBelow (intV (nbI a b i e)) w) := by
  obtain ⟨R, hR⟩ : ∃ R, nbI a b i e = R := ⟨_, rfl⟩
  rw [hR]
  have HR := Lib.hid hR
  have HS := Lib.hid hs
  have hn1 : (w.alloc (.cells #[.int .i64 a, .int .i64 b] 37)).heap[w.heap.size]? = some (.cells #[.int .i64 a, .int .i64 b] 37 (0, 0)) := heap_alloc_new w _
  have hb1 : Below w.heap.size w (w.alloc (.cells #[.int .i64 a, .int .i64 b] 37)) := (Below.refl _ _).alloc (Nat.le_refl _) _
  have hz1 : w.heap.size < (w.alloc (.cells #[.int .i64 a, .int .i64 b] 37)).heap.size := by simp
  clear hR hs
  go_enter Tryz.func136, Tryz.ntmps136
  go_upto_region 1 with fail
  obtain ⟨W, hW⟩ : ∃ W, W = w.alloc (.cells #[.int .i64 a, .int .i64 b] 37) := ⟨_, rfl⟩
  rw [← hW] at hn1 hb1 hz1 ⊢
  obtain ⟨N, hN⟩ : ∃ N, N = w.heap.size := ⟨_, rfl⟩
  rw [← hN] at hn1 hz1 ⊢
  have N1 := Lib.hid hn1
  obtain ⟨⟨x0, x1⟩, _⟩ := blk2 hn1
  clear hW hn1 hN
  go_wp2_with fail
  refine (sheetCell_any a b i _ HS.out).mono ?_
  rintro e' w2 ⟨rfl, hb2⟩
  have hb2' : Below w.heap.size w w2 := hb1.trans (hb2.mono hb1.size)
  have M1 := Lib.hid (kept hb2 N1.out hz1)
  have hz2 : N < w2.heap.size := Nat.lt_of_lt_of_le hz1 hb2.size
  have hs2 := hb2'.size
  clear x0 x1 hb2 N1
  cases hi : hasI a b i
  · have hc : cellI a b i = (0, 0, 0, 7) := by unfold cellI; rw [hi]; rfl
    have hr : R = (0, 7) := by rw [← HR.out]; unfold nbI; rw [if_pos hi]
    rw [hc]
    unfold cellV
    have HRR := Lib.hid hr
    clear hc hr hi
    dsimp only
    go_wp2_with fail
    go_ret2
    exact ⟨by rw [HRR.out]; rfl, (hb2'.alloc hs2 _)⟩
  · have hc : cellI a b i = (i / 4 % a, i / 4 / a, i % 4, 0) := by unfold cellI; rw [hi]; rfl
    have hi4 : 0 ≤ i % 4 ∧ i % 4 ≤ 3 := by omega
    have hr : R = if (nbr (i / 4 % a) (i / 4 / a) (i % 4) e).2.2.2 = 0 then idI a b (nbr (i / 4 % a) (i / 4 / a) (i % 4) e).1 (nbr (i / 4 % a) (i / 4 / a) (i % 4) e).2.1 (nbr (i / 4 % a) (i / 4 / a) (i % 4) e).2.2.1 else (0, 1) := by
      rw [← HR.out]; unfold nbI; rw [if_neg (by rw [hi]; simp)]
    rw [hc]
    unfold cellV
    obtain ⟨cx, hcx⟩ : ∃ cx, cx = i / 4 % a := ⟨_, rfl⟩
    obtain ⟨cy, hcy⟩ : ∃ cy, cy = i / 4 / a := ⟨_, rfl⟩
    obtain ⟨cq, hcq⟩ : ∃ cq, cq = i % 4 := ⟨_, rfl⟩
    rw [← hcx, ← hcy, ← hcq] at hr ⊢
    rw [← hcq] at hi4
    have hbq := nbr_bd cx cy cq e
    obtain ⟨⟨nx, ny, nq, ne⟩, hn⟩ : ∃ n, nbr cx cy cq e = n := ⟨_, rfl⟩
    rw [hn] at hr hbq
    have HRR := Lib.hid hr
    have HNB := Lib.hid hn
    dsimp only at hbq
    clear hc hr hi hn hcx hcy hcq
    dsimp only
    go_wp2_with fail
    have hQ2 := Lib.hid (hQ.below (hb2'.alloc hs2 (.cells #[.int .i64 cx, .int .i64 cy, .int .u8 cq] 90)))
    refine (neighbour_any cx cy cq e _ hi4.1 he hQ2.out).mono ?_
    rintro e' w3 ⟨rfl, hb3⟩
    rw [HNB.out]
    unfold cellV
    dsimp only
    have hb3' : Below w.heap.size w w3 := (hb2'.alloc hs2 _).trans (hb3.mono (by simp; omega))
    have P1 := Lib.hid (kept hb3 ((Below.heap_alloc _ _ _ hz2).trans M1.out) (by simp; omega))
    have hs3 := hb3'.size
    have hz3 : N < w3.heap.size := by have := hb3.size; simp at this; omega
    obtain ⟨⟨v0, v1⟩, _⟩ := blk2 P1.out
    clear hb3 M1
    by_cases hne : ne = 0
    · subst hne
      go_wp2_with fail
      refine (id_any a b nx ny nq _ HS.out (by omega)).mono ?_
      rintro e' w4 ⟨rfl, hb4⟩
      have hb4' : Below w.heap.size w w4 := (hb3'.alloc hs3 _).trans (hb4.mono (by simp; omega))
      obtain ⟨⟨id, ie⟩, hid⟩ : ∃ r, idI a b nx ny nq = r := ⟨_, rfl⟩
      have hfin : R = (id, ie) := by rw [HRR.out]; exact hid
      rw [hid]
      unfold intV
      dsimp only
      have HF := Lib.hid hfin
      clear hfin hid v0 v1
      go_wp2_with fail
      go_ret2
      exact ⟨by rw [HF.out]; rfl, hb4'⟩
    · have hfin : R = (0, 1) := by rw [HRR.out]; exact if_neg hne
      have hb : (ne != 0) = true := by simpa using hne
      have HF := Lib.hid hfin
      clear hfin hne v0 v1
      go_wp2_with fail
      go_ret2
      exact ⟨by rw [HF.out]; rfl, hb3'.alloc hs3 _⟩

/-- The name of an edge: the lesser id, the edge, the error code. -/
def nameI (a b i e : Int) : Int × Int × Int := if (nbI a b i e).2 = 0 then (min i (nbI a b i e).1, e, 0) else (0, 0, (nbI a b i e).2)
def unitV (u : Int × Int × Int) : Value := .tuple #[.agg #[.int .i64 u.1, .int .u8 u.2.1], .int .i64 u.2.2]

set_option maxHeartbeats 1000000 in
theorem name_any (a b i e : Int) (w : World) (hs : okS a b = true) (he : 0 ≤ e) (hQ : Qt w) :
    Calls Tryz.prog 149 #[.agg #[.int .i64 a, .int .i64 b], .int .i64 i, .int .u8 e] w (RetBelow (unitV (nameI a b i e)) w) := by
  obtain ⟨R, hR⟩ : ∃ R, nameI a b i e = R := ⟨_, rfl⟩
  rw [hR]
  have HR := Lib.hid hR
  have HS := Lib.hid hs
  obtain ⟨n1, n2⟩ := new2 w (.cells #[.int .i64 a, .int .i64 b] 37) (.cells #[.int .i64 0, .int .u8 0] 109)
  have hb1 : Below w.heap.size w ((w.alloc (.cells #[.int .i64 a, .int .i64 b] 37)).alloc (.cells #[.int .i64 0, .int .u8 0] 109)) := ((Below.refl _ _).alloc (Nat.le_refl _) _).alloc (by simp) _
  have hz1 : w.heap.size + 1 < ((w.alloc (.cells #[.int .i64 a, .int .i64 b] 37)).alloc (.cells #[.int .i64 0, .int .u8 0] 109)).heap.size := by simp
  clear hR hs
  go_enter Tryz.func149, Tryz.ntmps149
  go_upto_region 1 with fail
  obtain ⟨W, hW⟩ : ∃ W, W = (w.alloc (.cells #[.int .i64 a, .int .i64 b] 37)).alloc (.cells #[.int .i64 0, .int .u8 0] 109) := ⟨_, rfl⟩
  rw [← hW] at n1 n2 hb1 hz1 ⊢
  obtain ⟨N, hN⟩ : ∃ N, N = w.heap.size := ⟨_, rfl⟩
  rw [← hN] at n1 n2 hz1 ⊢
  have HNN := Lib.hid hN
  have N2 := Lib.hid n2
  obtain ⟨⟨x0, x1⟩, _⟩ := blk2 n1
  clear hW n1 n2 hN
  go_wp2_with fail
  refine (sheetNeighbour_any a b i e _ HS.out he (hQ.below hb1)).mono ?_
  rintro e' w2 ⟨rfl, hb2⟩
  have hb2' : Below w.heap.size w w2 := hb1.trans (hb2.mono hb1.size)
  have M2 := Lib.hid (kept hb2 N2.out hz1)
  obtain ⟨⟨r0, r1⟩, z0, z1⟩ := blk2 M2.out
  obtain ⟨⟨id, ie⟩, hid⟩ : ∃ r, nbI a b i e = r := ⟨_, rfl⟩
  rw [hid]
  unfold intV
  dsimp only
  have HID := Lib.hid hid
  have h9 := HNN.out
  clear x0 x1 hb2 N2 hid
  by_cases hne : ie = 0
  · subst hne
    by_cases hmi : id < i
    · have hfin : R = (id, e, 0) := by rw [← HR.out]; unfold nameI; rw [HID.out, if_pos rfl, Int.min_eq_right (by omega)]
      have HF := Lib.hid hfin
      clear hfin h9
      go_wp2_with fail
      refine bodyPost_ret (v := unitV (id, e, 0)) (by simp [results, Tryz.results149, go_sem, r0, r1, unitV]) rfl ⟨by rw [HF.out], ?_⟩
      have h9 := HNN.out
      exact (hb2'.setCell (by simp; omega) _).setCell (by simp; omega) _
    · have hfin : R = (i, e, 0) := by rw [← HR.out]; unfold nameI; rw [HID.out, if_pos rfl, Int.min_eq_left (by omega)]
      have HF := Lib.hid hfin
      clear hfin h9
      go_wp2_with fail
      refine bodyPost_ret (v := unitV (i, e, 0)) (by simp [results, Tryz.results149, go_sem, r0, r1, unitV]) rfl ⟨by rw [HF.out], ?_⟩
      have h9 := HNN.out
      exact (hb2'.setCell (by simp; omega) _).setCell (by simp; omega) _
  · have hfin : R = (0, 0, ie) := by rw [← HR.out]; unfold nameI; rw [HID.out, if_neg hne]
    have hb : (ie != 0) = true := by simpa using hne
    have HF := Lib.hid hfin
    clear hfin h9 hne
    go_wp2_with fail
    refine bodyPost_ret (v := unitV (0, 0, ie)) (by simp [results, Tryz.results149, go_sem, r0, r1, unitV]) rfl ⟨by rw [HF.out], ?_⟩
    have h9 := HNN.out
    exact (hb2'.setCell (by simp; omega) _).setCell (by simp; omega) _
end Go.Proofs.YtjdmkgnlakonbaaGreatDoor
