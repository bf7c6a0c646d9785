/- Contracts of package patterns: Check of a valid pattern. -/
import Derived.Test.YtjdmkgnlakonbaaGreatDoorPat
namespace Go.Proofs.YtjdmkgnlakonbaaGreatDoor
open Go.RowKit

/-- A valid pattern. -/
structure OkPat (a b : Int) (l : List Cr) : Prop where
  sheet : okS a b = true
  kind : ∀ r ∈ l, isK r.k = true
  name : ∀ r ∈ l, nameI a b r.c r.e = (r.c, r.e, 0)
  fit : ∀ r ∈ l, r.fit
  asc : l.Pairwise fun r q => ordU r.c r.e q.c q.e < 0
  len : l.length ≤ 1000000

set_option maxHeartbeats 4000000 in
theorem pcheck_ok (a b : Int) (A : Option Addr) (l : List Cr) (n c : Nat) (w : World) (hn : n = l.length) (h : Rd w A 3 n (crs l)) (hp : OkPat a b l) (hQ : Qt w) :
    Calls Tryz.prog 94 #[.agg #[.int .i64 a, .int .i64 b, .slice A n c]] w (RetBelow (.int .i64 0) w) := by
  have HN := Lib.hid hn
  have HRD := Lib.hid h
  have HP := Lib.hid hp
  have hlen : n ≤ 1000000 := by have := hp.len; omega
  have hn1 : (w.alloc (.cells #[.int .i64 a, .int .i64 b, .slice A n c] 40)).heap[w.heap.size]? = some (.cells #[.int .i64 a, .int .i64 b, .slice A n c] 40 (0, 0)) := heap_alloc_new w _
  have hb1 : Below w.heap.size w (w.alloc (.cells #[.int .i64 a, .int .i64 b, .slice A n c] 40)) := (Below.refl _ _).alloc (Nat.le_refl _) _
  have hz1 : w.heap.size < (w.alloc (.cells #[.int .i64 a, .int .i64 b, .slice A n c] 40)).heap.size := by simp
  clear hn h hp
  go_enter Tryz.func94, Tryz.ntmps94
  go_upto_region 1 with fail
  obtain ⟨W, hW⟩ : ∃ W, W = w.alloc (.cells #[.int .i64 a, .int .i64 b, .slice A n c] 40) := ⟨_, rfl⟩
  rw [← hW] at hn1 hb1 hz1 ⊢
  obtain ⟨N, hN⟩ : ∃ N, N = w.heap.size := ⟨_, rfl⟩
  rw [← hN] at hn1 hz1 ⊢
  have N1 := Lib.hid hn1
  obtain ⟨⟨x0, x1, x2⟩, _⟩ := blk3 hn1
  clear hW hn1 hN
  go_wp2_with fail
  refine (sheetCheck_any a b _).mono ?_
  rintro e w2 ⟨rfl, hb2⟩
  rw [HP.out.sheet, ec_t]
  have hb2' : Below w.heap.size w w2 := hb1.trans (hb2.mono hb1.size)
  have M1 := Lib.hid (kept hb2 N1.out hz1)
  obtain ⟨⟨y0, y1, y2⟩, _⟩ := blk3 M1.out
  have hz2 : N < w2.heap.size := Nat.lt_of_lt_of_le hz1 hb2.size
  clear x0 x1 x2 hb2 N1
  go_wp2_with fail
  refine (kindsOk_any A l n c _ HN.out (HRD.out.below hb2') HP.out.kind hlen).mono ?_
  rintro e w3 ⟨rfl, hb3⟩
  have hb3' : Below w.heap.size w w3 := hb2'.trans (hb3.mono hb2'.size)
  have P1 := Lib.hid (kept hb3 M1.out hz2)
  obtain ⟨⟨z0, z1, z2⟩, _⟩ := blk3 P1.out
  have hz3 : N < w3.heap.size := Nat.lt_of_lt_of_le hz2 hb3.size
  clear y0 y1 y2 hb3 M1
  go_wp2_with fail
  go_loopw [5, 6, 7, 21] (fun _ _ _ i wr => ∃ k : Nat, k ≤ n ∧ i = .int .i64 k ∧ wr.heap[N]? = some (.cells #[.int .i64 a, .int .i64 b, .slice A n c] 40 (0, 0)) ∧ N < wr.heap.size ∧ Below w.heap.size w wr) (fun _ _ _ i _ => n - (intOf i).toNat)
  case atStart => exact ⟨0, by omega, rfl, P1.out, hz3, hb3'⟩
  case round =>
    obtain ⟨k, hk, rfl, hbk, hNr, hbr⟩ := hrel
    have HBK := Lib.hid hbk
    obtain ⟨⟨g0, g1, g2⟩, _⟩ := blk3 hbk
    have hsr := hbr.size
    clear z0 z1 z2 hbk
    by_cases hlt : k < n
    · have hkl : k < l.length := by have := HN.out; omega
      have hrd := HRD.out.below hbr
      rw [HN.out] at hrd
      obtain ⟨bb, o, rfl, hbl, c0, c1, c2⟩ := rd_cr hrd k hkl
      have hnm := HP.out.name l[k] (List.getElem_mem _)
      have hft := HP.out.fit l[k] (List.getElem_mem _)
      obtain ⟨r, hr⟩ : ∃ r, l[k] = r := ⟨_, rfl⟩
      rw [hr] at c0 c1 c2 hnm hft
      have HNM := Lib.hid hnm
      have he0 : 0 ≤ r.e := hft.2.1.1
      clear hr hnm hrd hft
      have q1 : (k : Int) < (n : Int) := by omega
      go_wp2_with fail
      have hQ2 := hQ.below (hbr.alloc hsr (.cells #[.int .i64 r.c, .int .u8 r.e, .int .u8 r.k] 107))
      refine (name_any a b r.c r.e _ HP.out.sheet he0 hQ2).mono ?_
      rintro e w4 ⟨rfl, hb4⟩
      rw [HNM.out]
      unfold unitV
      dsimp only
      have hs4 := hb4.size
      simp only [World.size_alloc] at hs4
      have hb4' : Below w.heap.size w w4 := (hbr.alloc hsr _).trans (hb4.mono (by simp; omega))
      have m1 : w4.heap[wr.heap.size]? = some (.cells #[.int .i64 r.c, .int .u8 r.e, .int .u8 r.k] 107 (0, 0)) := kept hb4 (heap_alloc_new wr _) (by simp)
      have m2 : w4.heap[N]? = some (.cells #[.int .i64 a, .int .i64 b, .slice (some ⟨bb, o, none⟩) n c] 40 (0, 0)) := kept hb4 ((Below.heap_alloc _ _ _ hNr).trans HBK.out) (by simp; omega)
      have k1 : (w4.alloc (.cells #[.int .i64 r.c, .int .u8 r.e] 109)).heap[wr.heap.size]? = some (.cells #[.int .i64 r.c, .int .u8 r.e, .int .u8 r.k] 107 (0, 0)) := (Below.heap_alloc _ _ _ (by omega)).trans m1
      have k2 : (w4.alloc (.cells #[.int .i64 r.c, .int .u8 r.e] 109)).heap[w4.heap.size]? = some (.cells #[.int .i64 r.c, .int .u8 r.e] 109 (0, 0)) := heap_alloc_new _ _
      have k3 : (w4.alloc (.cells #[.int .i64 r.c, .int .u8 r.e] 109)).heap[N]? = some (.cells #[.int .i64 a, .int .i64 b, .slice (some ⟨bb, o, none⟩) n c] 40 (0, 0)) := (Below.heap_alloc _ _ _ (by omega)).trans m2
      have hb5 : Below w.heap.size w (w4.alloc (.cells #[.int .i64 r.c, .int .u8 r.e] 109)) := hb4'.alloc hb4'.size _
      have hN5 : N < (w4.alloc (.cells #[.int .i64 r.c, .int .u8 r.e] 109)).heap.size := by simp; omega
      go_upto_region 10 with fail
      obtain ⟨V, hV⟩ : ∃ V, V = w4.alloc (.cells #[.int .i64 r.c, .int .u8 r.e] 109) := ⟨_, rfl⟩
      rw [← hV] at k1 k2 k3 hb5 hN5 ⊢
      obtain ⟨p1, hp1⟩ : ∃ p1, p1 = wr.heap.size := ⟨_, rfl⟩
      obtain ⟨p2, hp2⟩ : ∃ p2, p2 = w4.heap.size := ⟨_, rfl⟩
      rw [← hp1] at k1 ⊢
      rw [← hp2] at k2 ⊢
      obtain ⟨⟨f0, f1, f2⟩, _⟩ := blk3 k1
      obtain ⟨⟨u0, u1⟩, _⟩ := blk2 k2
      have K3 := Lib.hid k3
      clear hV hp1 hp2 k1 k2 k3 m1 m2 c0 c1 c2 g0 g1 g2 hb4 hb4'
      go_region_held3 (fun w' => w'.cell? ⟨p2, 0, none⟩ = some (.int .i64 r.c) ∧ w'.cell? ⟨p2, 1, none⟩ = some (.int .u8 r.e) ∧ w'.cell? ⟨p1, 0, none⟩ = some (.int .i64 r.c) ∧ w'.cell? ⟨p1, 1, none⟩ = some (.int .u8 r.e) ∧ w'.cell? ⟨p1, 2, none⟩ = some (.int .u8 r.k))
        (first | exact ⟨u0, u1, f0, f1, f2⟩ | exact ⟨below_cell (undrew hb6) u0, below_cell (undrew hb6) u1, below_cell (undrew hb6) f0, below_cell (undrew hb6) f1, below_cell (undrew hb6) f2⟩ | go_keep)
        (first | (go_at_call 150; (with_reducible refine (unit_any _ _ _ _).mono ?_); rintro e w6 ⟨rfl, hb6⟩) | fail)
      have hb7 := undrew hb6
      have K6 := Lib.hid (kept hb7 K3.out hN5)
      have hb6' : Below w.heap.size w w6 := hb5.trans (hb7.mono hb5.size)
      have hN6 : N < w6.heap.size := Nat.lt_of_lt_of_le hN5 hb7.size
      clear u0 u1 f0 f1 f2 hb6 hb7
      go_wp2_with fail
      go_roundw
      case rel => exact ⟨k + 1, by omega, by go_num, K6.out, hN6, hb6'⟩
      case measure => simp [intOf]; omega
    · have q1 : ¬ (k : Int) < (n : Int) := by omega
      clear hlt
      go_wp2_with fail
      obtain ⟨wo, rfl⟩ : ∃ wo : World, wo = wr := ⟨_, rfl⟩
      go_loopw [8] (fun s8 wr => ∃ i : Nat, 1 ≤ i ∧ (i ≤ n ∨ i = 1) ∧ s8 = .int .i64 i ∧ wr.heap[N]? = some (.cells #[.int .i64 a, .int .i64 b, .slice A n c] 40 (0, 0)) ∧ N < wr.heap.size ∧ Below w.heap.size w wr) (fun s8 _ => n + 1 - (intOf s8).toNat)
      case atStart => exact ⟨1, by omega, by omega, rfl, HBK.out, hNr, hbr⟩
      case round =>
        obtain ⟨i, hi1, hi2, rfl, hbk2, hNr2, hbr2⟩ := hrel
        have HBK2 := Lib.hid hbk2
        obtain ⟨⟨d0, d1, d2⟩, _⟩ := blk3 hbk2
        clear g0 g1 g2 hbk2
        by_cases hlt : i < n
        · obtain ⟨p, hp⟩ : ∃ p, i = p + 1 := ⟨i - 1, by omega⟩
          have hil : i < l.length := by have := HN.out; omega
          have hpl : p < l.length := by omega
          have hrd := HRD.out.below hbr2
          have hlenE := HN.out
          rw [hlenE] at hrd
          obtain ⟨bb, o, hA, hbl, c0, c1, c2⟩ := rd_cr hrd i hil
          obtain ⟨bb', o', hA', _, e0, e1, e2⟩ := rd_cr hrd p hpl
          obtain ⟨rfl, rfl⟩ : bb = bb' ∧ o = o' := by rw [hA] at hA'; simpa using hA'
          have hft := HP.out.fit l[i] (List.getElem_mem _)
          have hft' := HP.out.fit l[p] (List.getElem_mem _)
          have hord := List.pairwise_iff_getElem.1 HP.out.asc p i hpl hil (by omega)
          obtain ⟨x, hx⟩ : ∃ x, l[i] = x := ⟨_, rfl⟩
          obtain ⟨y, hy⟩ : ∃ y, l[p] = y := ⟨_, rfl⟩
          rw [hx] at c0 c1 c2 hft hord
          rw [hy] at e0 e1 e2 hft' hord
          obtain ⟨O, hO⟩ : ∃ O, ordU y.c y.e x.c x.e = O := ⟨_, rfl⟩
          rw [hO] at hord
          have HOO := Lib.hid hO
          have hf1 := hft.1
          have hf2 := hft.2.1
          have hf3 := hft'.1
          have hf4 := hft'.2.1
          have HPP := Lib.hid hp
          have w1 : (i : Int) < (n : Int) := by omega
          have w2' : IntKind.i64.wrap ((i : Int) - 1) = (p : Int) := by rw [IntWalk.i64_in _ (by omega)]; omega
          have w3' : (p : Int) < (n : Int) := by omega
          have w4' : (0 : Int) ≤ (p : Int) := by omega
          have w5 : (0 : Int) ≤ (i : Int) := by omega
          have hdo : decide (0 ≤ O) = false := by simp; omega
          clear hrd hlenE hA' hx hy hO hp hft hft'
          subst hA
          go_wp2_with fail
          go_region_held3 (fun w' => w'.cell? ⟨N, 2, none⟩ = some (.slice (some ⟨bb, o, none⟩) n c) ∧ w'.cell? ⟨bb, o + i * 3, none⟩ = some (.int .i64 x.c) ∧ w'.cell? ⟨bb, o + i * 3 + 1, none⟩ = some (.int .u8 x.e) ∧ w'.cell? ⟨bb, o + i * 3 + 2, none⟩ = some (.int .u8 x.k) ∧ w'.cell? ⟨bb, o + p * 3, none⟩ = some (.int .i64 y.c) ∧ w'.cell? ⟨bb, o + p * 3 + 1, none⟩ = some (.int .u8 y.e) ∧ w'.cell? ⟨bb, o + p * 3 + 2, none⟩ = some (.int .u8 y.k))
            (first | exact ⟨d2, c0, c1, c2, e0, e1, e2⟩ | go_keep)
            (first
              | (go_at_call 150; (with_reducible refine (unit_any _ _ _ _).mono ?_); rintro e w6 ⟨rfl, hb6⟩; have hbr2 := hbr2.trans ((undrew hb6).mono hbr2.size); have HBK2 := Lib.hid (kept (undrew hb6) HBK2.out hNr2); have hNr2 := Nat.lt_of_lt_of_le hNr2 (undrew hb6).size; have d2 := below_cell (undrew hb6) d2; have c0 := below_cell (undrew hb6) c0; have c1 := below_cell (undrew hb6) c1; have c2 := below_cell (undrew hb6) c2; have e0 := below_cell (undrew hb6) e0; have e1 := below_cell (undrew hb6) e1; have e2 := below_cell (undrew hb6) e2)
              | (go_at_call 150; (with_reducible refine (unit_any _ _ _ _).mono ?_); rintro e w6 ⟨rfl, hb6⟩; have hbr2 := hbr2.trans (hb6.mono hbr2.size); have HBK2 := Lib.hid (kept hb6 HBK2.out hNr2); have hNr2 := Nat.lt_of_lt_of_le hNr2 hb6.size; have d2 := below_cell hb6 d2; have c0 := below_cell hb6 c0; have c1 := below_cell hb6 c1; have c2 := below_cell hb6 c2; have e0 := below_cell hb6 e0; have e1 := below_cell hb6 e1; have e2 := below_cell hb6 e2)
              | (go_at_call 151; (with_reducible refine (order_any y.c y.e x.c x.e _ hf3 hf1 hf4 hf2).mono ?_); rintro e w6 ⟨rfl, hb6⟩; rw [HOO.out]; have hbr2 := hbr2.trans (hb6.mono hbr2.size); have HBK2 := Lib.hid (kept hb6 HBK2.out hNr2); have hNr2 := Nat.lt_of_lt_of_le hNr2 hb6.size; have d2 := below_cell hb6 d2; have c0 := below_cell hb6 c0; have c1 := below_cell hb6 c1; have c2 := below_cell hb6 c2; have e0 := below_cell hb6 e0; have e1 := below_cell hb6 e1; have e2 := below_cell hb6 e2)
              | fail)
          all_goals
            go_wp2_with fail
            go_roundw
            case rel => exact ⟨i + 1, by omega, by omega, by go_num, HBK2.out, hNr2, hbr2⟩
            case measure => simp [intOf]; omega
        · have q2 : ¬ (i : Int) < (n : Int) := by omega
          go_wp2_with fail
          go_ret
          exact ⟨rfl, hbr2⟩
end Go.Proofs.YtjdmkgnlakonbaaGreatDoor
