/- Contracts of package patterns: the search for a crease. -/
import Derived.Test.YtjdmkgnlakonbaaGreatDoorPat2
namespace Go.Proofs.YtjdmkgnlakonbaaGreatDoor
open Go.RowKit

set_option maxHeartbeats 1000000 in
theorem findCmp_any (r : Cr) (c e : Int) (w : World) (hr : r.fit) (hc : 0 ≤ c ∧ c ≤ 1024) (he : 0 ≤ e ∧ e ≤ 255) :
    Calls Tryz.prog 312 #[.agg #[.int .i64 r.c, .int .u8 r.e, .int .u8 r.k], .agg #[.int .i64 c, .int .u8 e]] w (RetBelow (.int .i64 (ordU r.c r.e c e)) w) := by
  obtain ⟨R, hR⟩ : ∃ R, ordU r.c r.e c e = R := ⟨_, rfl⟩
  rw [hR]
  have HR := Lib.hid hR
  have hf1 := hr.1
  have hf2 := hr.2.1
  obtain ⟨n1, n2⟩ := new2 w (.cells #[.int .i64 r.c, .int .u8 r.e, .int .u8 r.k] 107) (.cells #[.int .i64 c, .int .u8 e] 109)
  have hb1 : Below w.heap.size w ((w.alloc (.cells #[.int .i64 r.c, .int .u8 r.e, .int .u8 r.k] 107)).alloc (.cells #[.int .i64 c, .int .u8 e] 109)) := ((Below.refl _ _).alloc (Nat.le_refl _) _).alloc (by simp) _
  clear hR hr
  go_enter Tryz.func312, Tryz.ntmps312
  go_upto_region 1 with fail
  obtain ⟨W, hW⟩ : ∃ W, W = (w.alloc (.cells #[.int .i64 r.c, .int .u8 r.e, .int .u8 r.k] 107)).alloc (.cells #[.int .i64 c, .int .u8 e] 109) := ⟨_, rfl⟩
  rw [← hW] at n1 n2 hb1 ⊢
  obtain ⟨N, hN⟩ : ∃ N, N = w.heap.size := ⟨_, rfl⟩
  rw [← hN] at n1 n2 ⊢
  obtain ⟨⟨x0, x1, x2⟩, _⟩ := blk3 n1
  obtain ⟨⟨y0, y1⟩, _⟩ := blk2 n2
  clear hW n1 n2 hN
  go_region_held3 (fun w' => w'.cell? ⟨N, 0, none⟩ = some (.int .i64 r.c) ∧ w'.cell? ⟨N, 1, none⟩ = some (.int .u8 r.e) ∧ w'.cell? ⟨N, 2, none⟩ = some (.int .u8 r.k) ∧ w'.cell? ⟨N + 1, 0, none⟩ = some (.int .i64 c) ∧ w'.cell? ⟨N + 1, 1, none⟩ = some (.int .u8 e))
    (first | exact ⟨x0, x1, x2, y0, y1⟩ | go_keep)
    (first
      | (go_at_call 150; (with_reducible refine (unit_any _ _ _ _).mono ?_); rintro e' w6 ⟨rfl, hb6⟩; have hb1 := hb1.trans ((undrew hb6).mono hb1.size); have x0 := below_cell (undrew hb6) x0; have x1 := below_cell (undrew hb6) x1; have x2 := below_cell (undrew hb6) x2; have y0 := below_cell (undrew hb6) y0; have y1 := below_cell (undrew hb6) y1)
      | (go_at_call 151; (with_reducible refine (order_any r.c r.e c e _ hf1 hc hf2 he).mono ?_); rintro e' w6 ⟨rfl, hb6⟩; rw [HR.out]; have hb1 := hb1.trans (hb6.mono hb1.size); have x0 := below_cell hb6 x0; have x1 := below_cell hb6 x1; have x2 := below_cell hb6 x2; have y0 := below_cell hb6 y0; have y1 := below_cell hb6 y1)
      | fail)
  all_goals
    go_wp2_with fail
    go_ret
    exact ⟨rfl, hb1⟩

/-- Where a unit stands among creases. -/
def FindAt (l : List Cr) (c e : Int) (i : Nat) (is : Bool) : Prop :=
  i ≤ l.length ∧ (∀ k (hk : k < l.length), k < i → ordU l[k].c l[k].e c e < 0) ∧ (∀ k (hk : k < l.length), i ≤ k → 0 ≤ ordU l[k].c l[k].e c e) ∧ (is = true ↔ ∃ r, l[i]? = some r ∧ ordU r.c r.e c e = 0)
def FindRet (l : List Cr) (c e : Int) (w : World) (en : Ending) (w' : World) : Prop :=
  Below w.heap.size w w' ∧ ∃ i is, FindAt l c e i is ∧ en = .returned (.tuple #[.int .i64 ((i : Nat) : Int), .bool is])
theorem ordU_mono {a b : Cr} (h : ordU a.c a.e b.c b.e < 0) (c e : Int) (hb : ordU b.c b.e c e < 0) : ordU a.c a.e c e < 0 := by
  unfold ordU at *
  repeat' split at h
  all_goals repeat' split at hb
  all_goals repeat' split
  all_goals omega
theorem ordU_mono2 {a b : Cr} (h : ordU a.c a.e b.c b.e < 0) (c e : Int) (ha : 0 ≤ ordU a.c a.e c e) : 0 < ordU b.c b.e c e := by
  unfold ordU at *
  repeat' split at h
  all_goals repeat' split at ha
  all_goals repeat' split
  all_goals omega

set_option maxHeartbeats 2000000 in
set_option maxRecDepth 100000 in
theorem binCr_any (A : Option Addr) (l : List Cr) (n cc : Nat) (c e : Int) (w : World) (hn : n = l.length) (h : Rd w A 3 n (crs l)) (hf : ∀ r ∈ l, r.fit) (ha : l.Pairwise fun r q => ordU r.c r.e q.c q.e < 0) (hl : n ≤ 1000000) (hc : 0 ≤ c ∧ c ≤ 1024) (he : 0 ≤ e ∧ e ≤ 255) :
    Calls Tryz.prog 311 #[.slice A n cc, .agg #[.int .i64 c, .int .u8 e], .func (.func 312) #[] #[]] w (FindRet l c e w) := by
  have HN := Lib.hid hn
  have HRD := Lib.hid h
  have HF := Lib.hid hf
  have HA := Lib.hid ha
  have hn1 : (w.alloc (.cells #[.int .i64 c, .int .u8 e] 109)).heap[w.heap.size]? = some (.cells #[.int .i64 c, .int .u8 e] 109 (0, 0)) := heap_alloc_new w _
  have hb1 : Below w.heap.size w (w.alloc (.cells #[.int .i64 c, .int .u8 e] 109)) := (Below.refl _ _).alloc (Nat.le_refl _) _
  have hz1 : w.heap.size < (w.alloc (.cells #[.int .i64 c, .int .u8 e] 109)).heap.size := by simp
  clear hn h hf ha
  go_enter Tryz.func311, Tryz.ntmps311
  go_upto_region 1 with fail
  obtain ⟨W, hW⟩ : ∃ W, W = w.alloc (.cells #[.int .i64 c, .int .u8 e] 109) := ⟨_, rfl⟩
  rw [← hW] at hn1 hb1 hz1 ⊢
  obtain ⟨N, hN⟩ : ∃ N, N = w.heap.size := ⟨_, rfl⟩
  rw [← hN] at hn1 hz1 ⊢
  have N1 := Lib.hid hn1
  clear hW hn1 hN
  go_wp2_with fail
  go_loopw [9, 10, 11] (fun x y _ wr => ∃ i j : Nat, i ≤ j ∧ j ≤ n ∧ x = .int .i64 i ∧ y = .int .i64 j ∧ wr.heap[N]? = some (.cells #[.int .i64 c, .int .u8 e] 109 (0, 0)) ∧ N < wr.heap.size ∧ Below w.heap.size w wr ∧ Hid (∀ k (hk : k < l.length), k < i → ordU l[k].c l[k].e c e < 0) ∧ Hid (∀ k (hk : k < l.length), j ≤ k → 0 ≤ ordU l[k].c l[k].e c e)) (fun x y _ _ => (intOf y).toNat - (intOf x).toNat)
  case atStart => exact ⟨0, n, by omega, by omega, rfl, rfl, N1.out, hz1, hb1, Lib.hid (fun k hk hk' => by omega), Lib.hid (fun k hk hk' => by have := HN.out; omega)⟩
  case round =>
    obtain ⟨i, j, hij, hjn, rfl, rfl, hbk, hNr, hbr, H1, H2⟩ := hrel
    have HBK := Lib.hid hbk
    obtain ⟨⟨u0, u1⟩, _⟩ := blk2 hbk
    have hrd := HRD.out.below hbr
    have hlen := HN.out
    rw [hlen] at hrd
    clear hbk
    by_cases hlt : i < j
    · obtain ⟨m, hm⟩ : ∃ m, m = (i + j) / 2 := ⟨_, rfl⟩
      have hml : m < l.length := by omega
      obtain ⟨bb, o, hA, hbl, c0, c1, c2⟩ := rd_cr hrd m hml
      have hft := HF.out l[m] (List.getElem_mem _)
      obtain ⟨r, hr⟩ : ∃ r, l[m] = r := ⟨_, rfl⟩
      rw [hr] at c0 c1 c2 hft
      have HR := Lib.hid hr
      have HM := Lib.hid hm
      have HFT := Lib.hid hft
      have q1 : (i : Int) < (j : Int) := by omega
      have q2 : ((i : Int) + (j : Int)) / 2 = (m : Int) := by omega
      have q3 : (m : Int) < (n : Int) := by omega
      have q4 : i ≤ m := by omega
      have q5 : m < j := by omega
      clear hr hm hrd hlen hft
      subst hA
      go_wp2_with fail
      go_still_tail 6, (by kernel_rfl)
      change wpList _ _ _ _ _ wr.drew
      go_wp2_with fail
      refine (findCmp_any r c e _ HFT.out hc he).mono ?_
      rintro e' w2 ⟨rfl, hb2'⟩
      have hb2 := undrew hb2'
      have hbel2 : Below w.heap.size w w2 := hbr.trans (hb2.mono hbr.size)
      have K2 := Lib.hid (kept hb2 HBK.out hNr)
      have hN2 : N < w2.heap.size := Nat.lt_of_lt_of_le hNr hb2.size
      obtain ⟨O, hO⟩ : ∃ O, ordU r.c r.e c e = O := ⟨_, rfl⟩
      rw [hO]
      have HO := Lib.hid hO
      clear c0 c1 c2 u0 u1 hb2 hb2' q2 hO
      by_cases hJ : O < 0
      · have HJ := Lib.hid hJ
        have hd : decide (O < 0) = true := by simpa using hJ
        go_wp2_with fail
        go_roundw
        case rel =>
          refine ⟨m + 1, j, by omega, by omega, by go_num, rfl, K2.out, hN2, hbel2, Lib.hid (fun k hk hki => ?_), H2⟩
          rcases Nat.lt_or_ge k m with h' | h'
          · have h3 := List.pairwise_iff_getElem.1 HA.out k m hk hml h'
            rw [HR.out] at h3
            exact ordU_mono h3 c e (by rw [HO.out]; exact hJ)
          · obtain rfl : k = m := by omega
            rw [HR.out, HO.out]
            exact hJ
        case measure => simp [intOf]; omega
      · have hd : decide (O < 0) = false := by simpa using hJ
        go_wp2_with fail
        go_roundw
        case rel =>
          refine ⟨i, m, by omega, by omega, rfl, rfl, K2.out, hN2, hbel2, H1, Lib.hid (fun k hk hki => ?_)⟩
          rcases Nat.lt_or_ge m k with h' | h'
          · have h3 := List.pairwise_iff_getElem.1 HA.out m k hml hk h'
            rw [HR.out] at h3
            have h4 := ordU_mono2 h3 c e (by rw [HO.out]; omega)
            omega
          · obtain rfl : k = m := by omega
            rw [HR.out, HO.out]
            omega
        case measure => simp [intOf]; omega
    · obtain rfl : i = j := by omega
      have q1 : ¬ (i : Int) < (i : Int) := by omega
      by_cases hi : i < n
      · have hil : i < l.length := by omega
        obtain ⟨bb, o, hA, hbl, c0, c1, c2⟩ := rd_cr hrd i hil
        have hft := HF.out l[i] (List.getElem_mem _)
        obtain ⟨r, hr⟩ : ∃ r, l[i] = r := ⟨_, rfl⟩
        rw [hr] at c0 c1 c2 hft
        have HR := Lib.hid hr
        have HFT := Lib.hid hft
        have q2 : decide ((i : Int) < (n : Int)) = true := by simp; omega
        have q3 : (i : Int) < (n : Int) := by omega
        clear hr hrd hlen hft
        subst hA
        go_wp2_with fail
        go_region_held3 (fun w' => w'.cell? ⟨bb, o + i * 3, none⟩ = some (.int .i64 r.c) ∧ w'.cell? ⟨bb, o + i * 3 + 1, none⟩ = some (.int .u8 r.e) ∧ w'.cell? ⟨bb, o + i * 3 + 2, none⟩ = some (.int .u8 r.k) ∧ w'.cell? ⟨N, 0, none⟩ = some (.int .i64 c) ∧ w'.cell? ⟨N, 1, none⟩ = some (.int .u8 e))
          (first | exact ⟨c0, c1, c2, u0, u1⟩ | go_keep)
          (first
            | (go_at_call 312; (with_reducible refine (findCmp_any r c e _ HFT.out hc he).mono ?_); rintro e' w6 ⟨rfl, hb6⟩; have hbr := hbr.trans ((undrew hb6).mono hbr.size); have c0 := below_cell (undrew hb6) c0; have c1 := below_cell (undrew hb6) c1; have c2 := below_cell (undrew hb6) c2; have u0 := below_cell (undrew hb6) u0; have u1 := below_cell (undrew hb6) u1)
            | fail)
        all_goals
          go_wp2_with fail
          go_ret2
          refine ⟨hbr, i, ordU r.c r.e c e == 0, ⟨by omega, H1.out, H2.out, ?_⟩, rfl⟩
          rw [List.getElem?_eq_getElem hil, HR.out]
          simp
      · have q2 : decide ((i : Int) < (n : Int)) = false := by simp; omega
        have hln : l.length ≤ i := by omega
        have hln2 : i ≤ l.length := by omega
        clear hlen hrd
        go_wp2_with fail
        go_quiet (fail)
        go_wp2_with fail
        go_ret2
        refine ⟨below_drewN hbr _, i, false, ⟨hln2, H1.out, H2.out, ?_⟩, rfl⟩
        rw [List.getElem?_eq_none hln]
        simp

set_option maxHeartbeats 1000000 in
theorem find_any (A : Option Addr) (l : List Cr) (n cc : Nat) (c e : Int) (w : World) (hn : n = l.length) (h : Rd w A 3 n (crs l)) (hf : ∀ r ∈ l, r.fit) (ha : l.Pairwise fun r q => ordU r.c r.e q.c q.e < 0) (hl : n ≤ 1000000) (hc : 0 ≤ c ∧ c ≤ 1024) (he : 0 ≤ e ∧ e ≤ 255) :
    Calls Tryz.prog 257 #[.slice A n cc, .agg #[.int .i64 c, .int .u8 e]] w (FindRet l c e w) := by
  have hb := binCr_any A l n cc c e (w.alloc (.cells #[.int .i64 c, .int .u8 e] 109)) hn (h.alloc _) hf ha hl hc he
  have HB := Lib.hid hb
  clear hb hn h hf ha
  go_enter Tryz.func257, Tryz.ntmps257
  go_wp2_with fail
  refine HB.out.mono ?_
  rintro e' w2 ⟨hb2, i, is, hat, rfl⟩
  have HAT := Lib.hid hat
  clear hat
  go_wp2_with fail
  go_ret2
  exact ⟨((Below.refl _ _).alloc (Nat.le_refl _) _).trans (hb2.mono (by simp)), i, is, HAT.out, rfl⟩
end Go.Proofs.YtjdmkgnlakonbaaGreatDoor
