/- Contracts of what journals.Merge calls, without the stable sort: slices.Grow, Concat, ContainsFunc, IsSortedFunc at records. -/
import Derived.Test.YtdcgminjamofmaaDoorConcat
import Derived.Test.YtdcgminjamofmaaDoorClip
namespace Go.Proofs.YtdcgminjamofmaaDoor
open Go.RowKit

/-- The cells of a slice, as append asks for them. -/
theorem Rd.allK {w : World} {a : Addr} {n sz : Nat} {xs : List Value} (h : Rd w (some a) sz n xs) : ∀ j u, xs[j]? = some u → w.cell? (a.add j) = some u := by
  intro j u hu
  have hj := (List.getElem?_eq_some_iff.1 hu).1
  have hl := h.1
  have hn : 0 < n := by
    rcases Nat.eq_zero_or_pos n with h0 | h0
    · subst h0; omega
    · exact h0
  obtain ⟨b, o, e, _, hc⟩ := h.2 hn
  cases e
  have hadd : (⟨b, o, none⟩ : Addr).add j = ⟨b, o + j, none⟩ := by unfold Addr.add; split <;> simp_all
  rw [hadd]
  exact hc j u hu

/-- append of a slice that may be nil, of elements of any number of cells. -/
theorem run_append_rdK {P : Program} (w : World) (base : Nat) (t ty e : TypeId) (i : TypeInfo) (z : Value) (size bytes : Nat) (ht : P.underlying t = some (.slice e)) (hi : P.info? e = some i) (hz : i.zero = some z)
    (hsize : i.size = size) (hby : i.bytes = bytes) (hzs : z.cells.size = size) (hs : 0 < size) (v : Value) (n : Nat) (xs : List Value) (hown : w.ownsRow base e size v n xs) (A : Option Addr) (m c : Nat) (news : List Value) (h1 : ∀ u ∈ news, u.oneCell' = true) (hR : Rd w A size m news) (hA : A = none → m = 0)
    (h63 : n + m ≤ 1000000000000) (hbytes : bytes ≤ 100) (hbase : base ≤ w.heap.size) :
    ∃ v' w', (Builtin.append_ #[t, t] ty #[v, .slice A m c]).run P w = .ok v' w' ∧ w'.ownsRow base e size v' (n + m) (xs ++ news) ∧ w.grownBy w' v.ownBlock := by
  cases A with
  | none =>
    have hm := hA rfl
    subst hm
    have hl : news = [] := by
      have := hR.1
      rw [Nat.zero_mul] at this
      exact List.length_eq_zero_iff.1 this
    subst hl
    rw [List.append_nil, Nat.add_zero]
    refine ⟨v, w, ?_, hown, grown_refl _ _⟩
    rcases hown.2 with ⟨rfl, rfl⟩ | ⟨g, cap, cur, rfl, _, _, hnc, _⟩
    · simp [Builtin.append_, run_underlying ht, sizeOf, typeInfo, hi, Builtin.lenOf, Builtin.firstCells]
    · exact run_append_none w t ty e i ht hi _ n cap c hnc
  | some a =>
    obtain ⟨v', w', hr, h2, h3, _⟩ := run_append_own_at (P := P) w base t ty e i z size bytes ht hi hz hsize hby hzs hs v n xs hown a m c news hR.1 hR.allK h1 (by unfold maxLen; omega) (by
      have : (n + m) * bytes ≤ (n + m) * 100 := Nat.mul_le_mul_left _ hbytes
      omega) hbase
    exact ⟨v', w', hr, h2, h3⟩

set_option maxHeartbeats 1000000 in
set_option maxRecDepth 100000 in
theorem grow_recs (n : Nat) (w : World) (hn : n ≤ 1000000000) :
    Calls Tryd.prog 48 #[.slice none 0 0, .int .i64 n] w (OwnRet 37 4 0 [] w) := by
  obtain ⟨i0, hi0, hz0, hz1, hz2⟩ := info_parts rec_info
  go_enter Tryd.func48, Tryd.ntmps48
  by_cases h0 : n = 0
  · subst h0
    go_wp2_with fail
    go_ret
    exact ⟨_, rfl, World.ownsRow_nil _ _ _ _, Below.refl _ _⟩
  · have hr := Lib.run_append_nil_zeros (P := Tryd.prog) w 24 3 24 37 i0 _ .i64 .i64 Tryd.underlying24 Tryd.underlying3 hi0 hz0 n (by omega) (by omega) (by omega) (by rw [hz2]; omega)
    have hge := grownCap_ge w n 0 37
    have hcm := grownCap_le_maxLen w n 0 37 (by simp [maxLen]; omega)
    obtain ⟨C, hC⟩ : ∃ C, grownCap w n 0 37 = C := ⟨_, rfl⟩
    rw [hC] at hr hge hcm
    have HR := Lib.hid hr
    have hnp : (0 : Int) < (n : Int) := by omega
    unfold maxLen at hcm
    clear hr hC
    go_wp2_with (at_builtin; refine Lib.wpList_append_run _ rfl _ _ _ _ rfl _ _ rfl rfl _ _ HR.out ?_)
    go_wp2_with fail
    go_ret
    refine ⟨_, rfl, own_none (cs := Builtin.zeroCells (Value.agg #[.int .i64 0, .int .u8 0, .int .i64 0, .int .i64 0]).cells n ++ Builtin.zeroCells (Value.agg #[.int .i64 0, .int .u8 0, .int .i64 0, .int .i64 0]).cells (C - n)) (n := 0) (Nat.le_refl _) (heap_alloc_new w.drew _) (Nat.zero_le _) (by unfold maxLen; exact hcm) ?_, (Below.refl _ _).drew.alloc (Nat.le_refl _) _⟩
    rw [Array.size_append, size_zeroCells, size_zeroCells]
    have e4 : (Value.agg #[.int .i64 0, .int .u8 0, .int .i64 0, .int .i64 0]).cells.size = 4 := rfl
    rw [e4]
    omega

theorem recs_app (a b : List Rec) : recs (a ++ b) = recs a ++ recs b := by simp [recs]

set_option maxHeartbeats 2000000 in
set_option maxRecDepth 100000 in
theorem concat_recs (sb so : Nat) (A1 A2 : Option Addr) (l1 l2 : List Rec) (n1 n2 c1 c2 cc : Nat) (w : World) (hs : sb < w.heap.size) (h1 : w.cell? ⟨sb, so, none⟩ = some (.slice A1 n1 c1)) (h2 : w.cell? ⟨sb, so + 1, none⟩ = some (.slice A2 n2 c2))
    (r1 : Rd w A1 4 n1 (recs l1)) (r2 : Rd w A2 4 n2 (recs l2)) (a1 : A1 = none → n1 = 0) (a2 : A2 = none → n2 = 0) (b1 : n1 ≤ 100000000) (b2 : n2 ≤ 100000000) :
    Calls Tryd.prog 34 #[.slice (some ⟨sb, so, none⟩) 2 cc] w (OwnRet 37 4 (n1 + n2) (recs (l1 ++ l2)) w) := by
  obtain ⟨i0, hi0, hz0, hz1, hz2⟩ := info_parts rec_info
  have R1 := Lib.hid r1
  have R2 := Lib.hid r2
  have A1' := Lib.hid a1
  have A2' := Lib.hid a2
  clear r1 r2 a1 a2
  go_enter Tryd.func34, Tryd.ntmps34
  go_wp2_with fail
  refine wp_loop_rounds 3 ?_
  rw [rounds_succ]
  go_wp2_with fail
  rw [rounds_succ]
  go_wp2_with fail
  rw [rounds_succ]
  go_wp2_with fail
  have hgr := grow_recs (n1 + n2) w (by omega)
  rw [Int.natCast_add] at hgr
  refine hgr.mono ?_
  clear hgr
  rintro e w1 ⟨v1, rfl, hown1, hb1⟩
  have e1 := below_cell hb1 h1
  have e2 := below_cell hb1 h2
  have hs1 : sb < w1.heap.size := Nat.lt_of_lt_of_le hs hb1.size
  obtain ⟨v2, w2, hr2, hown2, hg2⟩ := run_append_rdK (P := Tryd.prog) w1 w.heap.size 24 24 37 i0 _ 4 32 Tryd.underlying24 hi0 hz0 hz1 hz2 rfl (by omega) v1 0 [] hown1 A1 n1 c1 (recs l1) (recs_one _) (R1.out.below hb1) A1'.out (by omega) (by omega) hb1.size
  have hb2 : Below w.heap.size w w2 := hb1.grown hg2 hb1.size (fun q hq => (hown1.lt q hq).1)
  have e3 : w2.cell? ⟨sb, so + 1, none⟩ = some (.slice A2 n2 c2) := below_cell hb2 h2
  obtain ⟨v3, w3, hr3, hown3, hg3⟩ := run_append_rdK (P := Tryd.prog) w2 w.heap.size 24 24 37 i0 _ 4 32 Tryd.underlying24 hi0 hz0 hz1 hz2 rfl (by omega) v2 _ _ hown2 A2 n2 c2 (recs l2) (recs_one _) (R2.out.below hb2) A2'.out (by omega) (by omega) hb2.size
  have hb3 : Below w.heap.size w w3 := hb2.grown hg3 hb2.size (fun q hq => (hown2.lt q hq).1)
  have HR2 := Lib.hid hr2
  have HR3 := Lib.hid hr3
  have HO3 := Lib.hid hown3
  clear hr2 hr3 hown1 hown2 hown3 hg2 hg3 h1 h2
  go_wp2_with fail
  refine wp_loop_rounds 3 ?_
  rw [rounds_succ]
  go_wp2_with (at_builtin; refine Lib.wpList_append_run _ rfl _ _ _ _ rfl _ _ rfl rfl _ _ HR2.out ?_)
  clear HR2
  go_wp2_with fail
  rw [rounds_succ]
  go_wp2_with (at_builtin; refine Lib.wpList_append_run _ rfl _ _ _ _ rfl _ _ rfl rfl _ _ HR3.out ?_)
  go_wp2_with fail
  rw [rounds_succ]
  go_wp2_with fail
  go_ret
  refine ⟨_, rfl, ?_, hb3⟩
  have := HO3.out
  rw [Nat.zero_add, List.nil_append, ← recs_app] at this
  exact this

set_option maxHeartbeats 1000000 in
theorem bad_any (r : Rec) (w : World) (hk : 0 ≤ r.k ∧ r.k ≤ 255) :
    Calls Tryd.prog 36 #[.agg #[.int .i64 r.t, .int .u8 r.k, .int .i64 r.j, .int .i64 r.v]] w (RetBelow (.bool (!r.ok)) w) := by
  cases hro : r.ok
  · have hch : chk r.t r.k r.j r.v = 1 := by unfold chk; rw [if_neg]; unfold Rec.ok at hro; simp [hro]
    have HC := Lib.hid hch
    clear hch hro
    go_enter Tryd.func36, Tryd.ntmps36
    go_wp2_with fail
    refine (check_any _ _ _ _ _ hk.1 hk.2).mono ?_
    rintro e w2 ⟨rfl, hb2⟩
    rw [HC.out]
    go_wp2_with fail
    go_ret
    exact ⟨rfl, ((Below.refl _ _).alloc (Nat.le_refl _) _).trans (hb2.mono (by simp))⟩
  · have hch : chk r.t r.k r.j r.v = 0 := by unfold chk; rw [if_pos]; exact hro
    have HC := Lib.hid hch
    clear hch hro
    go_enter Tryd.func36, Tryd.ntmps36
    go_wp2_with fail
    refine (check_any _ _ _ _ _ hk.1 hk.2).mono ?_
    rintro e w2 ⟨rfl, hb2⟩
    rw [HC.out]
    go_wp2_with fail
    go_ret
    exact ⟨rfl, ((Below.refl _ _).alloc (Nat.le_refl _) _).trans (hb2.mono (by simp))⟩

/-- The place of the first record that is not valid, or -1. -/
def IdxRet (l : List Rec) (w : World) (e : Ending) (w' : World) : Prop :=
  ((l.all Rec.ok = true ∧ e = .returned (.int .i64 (-1))) ∨ (l.all Rec.ok = false ∧ ∃ k : Nat, e = .returned (.int .i64 k))) ∧ Below w.heap.size w w'

set_option maxHeartbeats 1000000 in
theorem index_bad (A : Option Addr) (l : List Rec) (n c : Nat) (w : World) (hn : n = l.length) (h : Rd w A 4 n (recs l)) (hf : ∀ r ∈ l, r.fit) (hl : n ≤ 1000000000000) :
    Calls Tryd.prog 49 #[.slice A n c, .func (.func 36) #[] #[]] w (IdxRet l w) := by
  subst hn
  go_enter Tryd.func49, Tryd.ntmps49
  go_wp2_with fail
  go_loopw [5, 8] (fun _ i wr => ∃ k : Nat, k ≤ l.length ∧ i = .int .i64 k ∧ (l.take k).all Rec.ok = true ∧ Below w.heap.size w wr) (fun _ i _ => l.length - (intOf i).toNat)
  case atStart => exact ⟨0, by omega, rfl, rfl, Below.refl _ _⟩
  case round =>
    obtain ⟨k, hk, rfl, hok, hbr⟩ := hrel
    have HK := Lib.hid hok
    clear hok
    by_cases hlt : k < l.length
    · obtain ⟨b, o, rfl, hbl, c0, c1, c2, c3⟩ := rd_rec (h.below hbr) k hlt
      have hfit := hf l[k] (List.getElem_mem _)
      obtain ⟨r, hr⟩ : ∃ r, l[k] = r := ⟨_, rfl⟩
      rw [hr] at c0 c1 c2 c3 hfit
      have HX := Lib.hid hr
      clear hr
      go_wp2_with fail
      refine (bad_any r _ hfit.2.1).mono ?_
      rintro e w2 ⟨rfl, hb2⟩
      have hb2' : Below w.heap.size w w2 := hbr.trans (hb2.mono hbr.size)
      cases hro : r.ok
      · have HR := Lib.hid hro
        clear hro
        go_wp2_with fail
        go_ret
        refine ⟨.inr ⟨?_, k, rfl⟩, hb2'⟩
        rw [List.all_eq_false]
        exact ⟨r, by rw [← HX.out]; exact List.getElem_mem _, by simp [HR.out]⟩
      · have HR := Lib.hid hro
        clear hro
        go_wp2_with fail
        go_roundw
        case rel => exact ⟨k + 1, by omega, by go_num, ok_step hlt HX.out HK.out HR.out, hb2'⟩
        case measure => simp [intOf]; omega
    · obtain rfl : k = l.length := by omega
      go_wp2_with fail
      go_ret
      refine ⟨.inl ⟨?_, rfl⟩, hbr⟩
      have := HK.out
      rwa [List.take_length] at this

set_option maxHeartbeats 1000000 in
theorem contains_bad (A : Option Addr) (l : List Rec) (n c : Nat) (w : World) (hn : n = l.length) (h : Rd w A 4 n (recs l)) (hf : ∀ r ∈ l, r.fit) (hl : n ≤ 1000000000000) :
    Calls Tryd.prog 35 #[.slice A n c, .func (.func 36) #[] #[]] w (RetBelow (.bool (!l.all Rec.ok)) w) := by
  have hix := index_bad A l n c w hn h hf hl
  have HIX := Lib.hid hix
  clear hix hn h hf
  go_enter Tryd.func35, Tryd.ntmps35
  go_wp2_with fail
  refine HIX.out.mono ?_
  rintro e w2 ⟨⟨hok, rfl⟩ | ⟨hok, k, rfl⟩, hb2⟩
  · have HK := Lib.hid hok
    clear hok
    go_wp2_with fail
    go_ret
    exact ⟨by rw [HK.out]; rfl, hb2⟩
  · have HK := Lib.hid hok
    clear hok
    have hk0 : (0 : Int) ≤ (k : Int) := by omega
    go_wp2_with fail
    go_ret
    exact ⟨by rw [HK.out]; rfl, hb2⟩

set_option maxHeartbeats 1000000 in
theorem early_any (a b : Rec) (w : World) :
    Calls Tryd.prog 38 #[.agg #[.int .i64 a.t, .int .u8 a.k, .int .i64 a.j, .int .i64 a.v], .agg #[.int .i64 b.t, .int .u8 b.k, .int .i64 b.j, .int .i64 b.v]] w (RetBelow (.int .i64 (cmpI a.t b.t)) w) := by
  go_enter Tryd.func38, Tryd.ntmps38
  go_wp2_with fail
  refine (cmp_any _ _ _).mono ?_
  rintro e w2 ⟨rfl, rfl⟩
  go_wp2_with fail
  go_ret
  exact ⟨rfl, ((Below.refl _ _).alloc (Nat.le_refl _) _).alloc (by simp) _⟩
end Go.Proofs.YtdcgminjamofmaaDoor
