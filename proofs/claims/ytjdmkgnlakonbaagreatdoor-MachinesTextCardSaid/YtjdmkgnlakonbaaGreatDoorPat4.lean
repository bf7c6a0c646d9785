/- Contracts of package patterns: at, Empty; what Set makes of the list of creases. -/
import Derived.Test.YtjdmkgnlakonbaaGreatDoorPat3
namespace Go.Proofs.YtjdmkgnlakonbaaGreatDoor
open Go.RowKit

def AtRet (l : List Cr) (c e : Int) (w : World) (en : Ending) (w' : World) : Prop :=
  Below w.heap.size w w' ∧ ∃ i is, FindAt l c e i is ∧ en = .returned (.tuple #[.agg #[.int .i64 c, .int .u8 e], .int .i64 ((i : Nat) : Int), .bool is, .int .i64 0])

set_option maxHeartbeats 2000000 in
set_option maxRecDepth 100000 in
theorem at_ok (a b : Int) (A : Option Addr) (l : List Cr) (n cc : Nat) (id e c' : Int) (w : World) (hn : n = l.length) (h : Rd w A 3 n (crs l)) (hp : OkPat a b l) (hQ : Qt w) (hnm : nameI a b id e = (c', e, 0)) (hc : 0 ≤ c' ∧ c' ≤ 1024) (he : 0 ≤ e ∧ e ≤ 255) :
    Calls Tryz.prog 226 #[.agg #[.int .i64 a, .int .i64 b, .slice A n cc], .int .i64 id, .int .u8 e] w (AtRet l c' e w) := by
  have HN := Lib.hid hn
  have HRD := Lib.hid h
  have HP := Lib.hid hp
  have HNM := Lib.hid hnm
  have hlen : n ≤ 1000000 := by have := hp.len; omega
  obtain ⟨n1, n2⟩ := new2 w (.cells #[.int .i64 a, .int .i64 b, .slice A n cc] 40) (.cells #[.int .i64 0, .int .u8 0] 109)
  have hb1 : Below w.heap.size w ((w.alloc (.cells #[.int .i64 a, .int .i64 b, .slice A n cc] 40)).alloc (.cells #[.int .i64 0, .int .u8 0] 109)) := ((Below.refl _ _).alloc (Nat.le_refl _) _).alloc (by simp) _
  have hz1 : w.heap.size + 1 < ((w.alloc (.cells #[.int .i64 a, .int .i64 b, .slice A n cc] 40)).alloc (.cells #[.int .i64 0, .int .u8 0] 109)).heap.size := by simp
  clear hn h hp hnm
  go_enter Tryz.func226, Tryz.ntmps226
  go_upto_region 1 with fail
  obtain ⟨W, hW⟩ : ∃ W, W = (w.alloc (.cells #[.int .i64 a, .int .i64 b, .slice A n cc] 40)).alloc (.cells #[.int .i64 0, .int .u8 0] 109) := ⟨_, rfl⟩
  rw [← hW] at n1 n2 hb1 hz1 ⊢
  obtain ⟨N, hN⟩ : ∃ N, N = w.heap.size := ⟨_, rfl⟩
  rw [← hN] at n1 n2 hz1 ⊢
  have HNN := Lib.hid hN
  have N1 := Lib.hid n1
  have N2 := Lib.hid n2
  obtain ⟨⟨x0, x1, x2⟩, _⟩ := blk3 n1
  clear hW n1 n2 hN
  go_wp2_with fail
  refine (pcheck_ok a b A l n cc _ HN.out (HRD.out.below hb1) HP.out (hQ.below hb1)).mono ?_
  rintro e' w2 ⟨rfl, hb2⟩
  have hb2' : Below w.heap.size w w2 := hb1.trans (hb2.mono hb1.size)
  have M1 := Lib.hid (kept hb2 N1.out (by omega))
  have M2 := Lib.hid (kept hb2 N2.out hz1)
  obtain ⟨⟨y0, y1, y2⟩, _⟩ := blk3 M1.out
  have hz2 : N + 1 < w2.heap.size := Nat.lt_of_lt_of_le hz1 hb2.size
  clear x0 x1 x2 hb2 N1 N2
  go_wp2_with fail
  refine (name_any a b id e _ HP.out.sheet he.1 (hQ.below hb2')).mono ?_
  rintro e' w3 ⟨rfl, hb3⟩
  rw [HNM.out]
  unfold unitV
  dsimp only
  have hb3' : Below w.heap.size w w3 := hb2'.trans (hb3.mono hb2'.size)
  have P1 := Lib.hid (kept hb3 M1.out (by omega))
  have P2 := Lib.hid (kept hb3 M2.out hz2)
  obtain ⟨⟨z0, z1, z2⟩, _⟩ := blk3 P1.out
  have hz3 : N + 1 < w3.heap.size := Nat.lt_of_lt_of_le hz2 hb3.size
  have hz3' : N < w3.heap.size := by omega
  have hs3 := hb3'.size
  clear y0 y1 y2 hb3 M1 M2
  go_wp2_with fail
  have hb4 : Below w.heap.size w (w3.alloc (.cells #[.int .i64 c', .int .u8 e] 109)) := hb3'.alloc hs3 _
  refine (find_any A l n cc c' e _ HN.out (HRD.out.below hb4) HP.out.fit HP.out.asc hlen hc he).mono ?_
  rintro e' w5 ⟨hb5, i, is, hat, rfl⟩
  have HAT := Lib.hid hat
  have hb5' : Below w.heap.size w w5 := hb4.trans (hb5.mono hb4.size)
  have Q2 : w5.heap[N + 1]? = some (.cells #[.int .i64 0, .int .u8 0] 109 (0, 0)) := kept hb5 ((Below.heap_alloc _ _ _ hz3).trans P2.out) (by simp; omega)
  have Q3 : w5.heap[w3.heap.size]? = some (.cells #[.int .i64 c', .int .u8 e] 109 (0, 0)) := kept hb5 (heap_alloc_new w3 _) (by simp)
  obtain ⟨⟨r0, r1⟩, v0, v1⟩ := blk2 Q2
  obtain ⟨⟨s0, s1⟩, _⟩ := blk2 Q3
  clear hat hb5 Q2 Q3 z0 z1 z2
  go_wp2_with fail
  refine bodyPost_ret (v := .tuple #[.agg #[.int .i64 c', .int .u8 e], .int .i64 ((i : Nat) : Int), .bool is, .int .i64 0]) (by simp [results, Tryz.results226, go_sem, r0, r1]) rfl ⟨?_, i, is, HAT.out, rfl⟩
  have h9 := HNN.out
  exact (hb5'.setCell (by simp; omega) _).setCell (by simp; omega) _

set_option maxHeartbeats 1000000 in
theorem empty_any (a b : Int) (w : World) (hs : okS a b = true) :
    Calls Tryz.prog 29 #[.agg #[.int .i64 a, .int .i64 b]] w (RetBelow (.tuple #[.agg #[.int .i64 a, .int .i64 b, .slice none 0 0], .int .i64 0]) w) := by
  have HS := Lib.hid hs
  obtain ⟨n1, n2⟩ := new2 w (.cells #[.int .i64 a, .int .i64 b] 37) (.cells #[.int .i64 0, .int .i64 0, .slice none 0 0] 40)
  have hb1 : Below w.heap.size w ((w.alloc (.cells #[.int .i64 a, .int .i64 b] 37)).alloc (.cells #[.int .i64 0, .int .i64 0, .slice none 0 0] 40)) := ((Below.refl _ _).alloc (Nat.le_refl _) _).alloc (by simp) _
  have hz1 : w.heap.size + 1 < ((w.alloc (.cells #[.int .i64 a, .int .i64 b] 37)).alloc (.cells #[.int .i64 0, .int .i64 0, .slice none 0 0] 40)).heap.size := by simp
  clear hs
  go_enter Tryz.func29, Tryz.ntmps29
  go_upto_region 1 with fail
  obtain ⟨W, hW⟩ : ∃ W, W = (w.alloc (.cells #[.int .i64 a, .int .i64 b] 37)).alloc (.cells #[.int .i64 0, .int .i64 0, .slice none 0 0] 40) := ⟨_, rfl⟩
  rw [← hW] at n1 n2 hb1 hz1 ⊢
  obtain ⟨N, hN⟩ : ∃ N, N = w.heap.size := ⟨_, rfl⟩
  rw [← hN] at n1 n2 hz1 ⊢
  have HNN := Lib.hid hN
  obtain ⟨⟨x0, x1⟩, _⟩ := blk2 n1
  have N1 := Lib.hid n1
  have N2 := Lib.hid n2
  clear hW n1 n2 hN
  go_wp2_with fail
  refine (sheetCheck_any a b _).mono ?_
  rintro e' w2 ⟨rfl, hb2⟩
  rw [HS.out, ec_t]
  have hb2' : Below w.heap.size w w2 := hb1.trans (hb2.mono hb1.size)
  obtain ⟨⟨y0, y1⟩, _⟩ := blk2 (kept hb2 N1.out (by omega))
  obtain ⟨⟨r0, r1, r2⟩, v0, v1, v2⟩ := blk3 (kept hb2 N2.out hz1)
  clear x0 x1 hb2
  go_wp2_with fail
  refine bodyPost_ret (v := .tuple #[.agg #[.int .i64 a, .int .i64 b, .slice none 0 0], .int .i64 0]) (by simp [results, Tryz.results29, go_sem, r0, r1, r2]) rfl ⟨rfl, ?_⟩
  have h9 := HNN.out
  exact ((hb2'.setCell (by simp; omega) _).setCell (by simp; omega) _).setCell (by simp; omega) _

/-- The creases behind Set. -/
def setL (l : List Cr) (i : Nat) (is : Bool) (r : Cr) : List Cr := l.take i ++ r :: l.drop (if is then i + 1 else i)
theorem ordU_neg (c e c' e' : Int) : ordU c' e' c e = - ordU c e c' e' := by
  unfold ordU
  repeat' split
  all_goals omega
theorem ordU_zero {c e c' e' : Int} (h : ordU c e c' e' = 0) : c = c' ∧ e = e' := by
  unfold ordU at h
  split at h <;> omega
theorem ordU_tr {a b c a' b' c' : Int} (h1 : ordU a a' b b' < 0) (h2 : ordU b b' c c' < 0) : ordU a a' c c' < 0 := by
  unfold ordU at *
  repeat' split at h1
  all_goals repeat' split at h2
  all_goals repeat' split
  all_goals omega
theorem okPat_set {a b : Int} {l : List Cr} {i : Nat} {is : Bool} {r : Cr} (hp : OkPat a b l) (hat : FindAt l r.c r.e i is) (hk : isK r.k = true) (hnm : nameI a b r.c r.e = (r.c, r.e, 0)) (hf : r.fit) (hl : l.length < 1000000) :
    OkPat a b (setL l i is r) ∧ (setL l i is r).length ≤ l.length + 1 := by
  obtain ⟨hi, h1, h2, h3⟩ := hat
  have hlen : (setL l i is r).length ≤ l.length + 1 := by
    unfold setL
    cases is <;> simp <;> omega
  have hmem : ∀ q ∈ setL l i is r, q = r ∨ q ∈ l := by
    intro q hq
    unfold setL at hq
    rcases List.mem_append.1 hq with h | h
    · exact .inr (List.mem_of_mem_take h)
    · rcases List.mem_cons.1 h with h | h
      · exact .inl h
      · exact .inr (List.mem_of_mem_drop h)
  refine ⟨⟨hp.sheet, fun q hq => ?_, fun q hq => ?_, fun q hq => ?_, ?_, by omega⟩, hlen⟩
  · rcases hmem q hq with rfl | h
    · exact hk
    · exact hp.kind q h
  · rcases hmem q hq with rfl | h
    · exact hnm
    · exact hp.name q h
  · rcases hmem q hq with rfl | h
    · exact hf
    · exact hp.fit q h
  · have hlo : ∀ q ∈ l.take i, ordU q.c q.e r.c r.e < 0 := by
      intro q hq
      obtain ⟨k, hk', rfl⟩ := List.mem_iff_getElem.1 hq
      rw [List.length_take] at hk'
      rw [List.getElem_take]
      exact h1 k (by omega) (by omega)
    have hhi : ∀ q ∈ l.drop (if is then i + 1 else i), ordU r.c r.e q.c q.e < 0 := by
      intro q hq
      obtain ⟨k, hk', rfl⟩ := List.mem_iff_getElem.1 hq
      rw [List.length_drop] at hk'
      rw [List.getElem_drop]
      rw [ordU_neg]
      cases is with
      | true =>
        simp only [if_true] at hk' ⊢
        obtain ⟨x, hx, hx0⟩ := h3.1 rfl
        obtain ⟨hil, rfl⟩ := List.getElem?_eq_some_iff.1 hx
        have h4 := List.pairwise_iff_getElem.1 hp.asc i (i + 1 + k) hil (by omega) (by omega)
        have := ordU_mono2 h4 r.c r.e (by omega)
        omega
      | false =>
        have hne : ∀ x, l[i]? = some x → ordU x.c x.e r.c r.e ≠ 0 := fun x hx h0 => by have := h3.2 ⟨x, hx, h0⟩; cases this
        simp only [Bool.false_eq_true, if_false] at hk' ⊢
        have hil : i < l.length := by omega
        have h5 := h2 i hil (Nat.le_refl _)
        have h6 := hne l[i] (List.getElem?_eq_getElem hil)
        rcases Nat.eq_zero_or_pos k with h0 | h0
        · subst h0
          simp only [Nat.add_zero]
          omega
        · have h4 := List.pairwise_iff_getElem.1 hp.asc i (i + k) hil (by omega) (by omega)
          have := ordU_mono2 h4 r.c r.e h5
          omega
    unfold setL
    refine List.pairwise_append.2 ⟨hp.asc.sublist (List.take_sublist _ _), List.pairwise_cons.2 ⟨hhi, hp.asc.sublist (List.drop_sublist _ _)⟩, fun q hq q' hq' => ?_⟩
    rcases List.mem_cons.1 hq' with rfl | hq'
    · exact hlo q hq
    · exact ordU_tr (hlo q hq) (hhi q' hq')
end Go.Proofs.YtjdmkgnlakonbaaGreatDoor
