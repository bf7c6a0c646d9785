/- Contract of journals.next: the ways that end in an error of its own. -/
import Derived.Test.YtdcgminjamofmaaDoorNext
namespace Go.Proofs.YtdcgminjamofmaaDoor
open Go.RowKit

set_option maxHeartbeats 1000000 in
set_option maxRecDepth 100000 in
theorem next_early (w0 w : World) (po pn base : Nat) (v : Value) (l : List JobS) (now : Int) (s : Nat → Addr) (r : Rec) (hin : NextIn w0 w po pn base v l now) (hS : Sent w0 s)
    (hk : 0 ≤ r.k ∧ r.k ≤ 255) (hok : r.ok = true) (ht : r.t < now) :
    Calls Tryd.prog 24 #[.pointer (some ⟨po, 0, none⟩), .pointer (some ⟨pn, 0, none⟩), .agg #[.int .i64 r.t, .int .u8 r.k, .int .i64 r.j, .int .i64 r.v]] w (RetBelow (.iface 125 (.pointer (some (s 0)))) w) := by
  have hch : chk r.t r.k r.j r.v = 0 := by unfold chk; rw [if_pos]; exact hok
  have HC := Lib.hid hch
  have HOK := Lib.hid (okRec_iff.1 hok)
  have hco := one_cell hin.bo
  have hcn := one_cell hin.bn
  have hg := (hS.below hin.old).v0
  have hlt : decide (r.t < now) = true := by simpa using ht
  have HIN := Lib.hid hin
  have hol : po < w.heap.size := by have := hin.hsize; have := hin.hpn; have := hin.hbase; omega
  have hnl : pn < w.heap.size := by have := hin.hsize; have := hin.hbase; omega
  clear hch hok hin ht
  obtain ⟨t, k, j, x⟩ := r
  dsimp only at *
  obtain ⟨A, c, hv⟩ : ∃ A c, v = .slice A l.length c := by
    rcases HIN.out.own.2 with ⟨h, h0⟩ | ⟨g, cap, cur, h, _⟩
    · exact ⟨none, 0, by rw [h0]; exact h⟩
    · exact ⟨_, _, h⟩
  subst hv
  have HRD := Lib.hid (Rd.of_own HIN.out.own)
  go_enter Tryd.func24, Tryd.ntmps24
  go_wp2_with fail
  have hb0 := (Below.refl w.heap.size w).alloc (Nat.le_refl _) (.cells #[.int .i64 t, .int .u8 k, .int .i64 j, .int .i64 x] 37)
  go_region_held3 (fun w' => w'.cell? ⟨w.heap.size, 0, none⟩ = some (.int .i64 t) ∧ w'.cell? ⟨w.heap.size, 1, none⟩ = some (.int .u8 k) ∧ w'.cell? ⟨w.heap.size, 2, none⟩ = some (.int .i64 j) ∧ w'.cell? ⟨w.heap.size, 3, none⟩ = some (.int .i64 x) ∧ w'.cell? ⟨pn, 0, none⟩ = some (.int .i64 now))
    (first | exact ⟨(box4 (below_of_drew hb2)).1, (box4 (below_of_drew hb2)).2.1, (box4 (below_of_drew hb2)).2.2.1, (box4 (below_of_drew hb2)).2.2.2, below_cell (hb0.trans ((below_of_drew hb2).mono (by simp))) hcn⟩ | exact ⟨(box4 ((Below.refl _ _).drew)).1, (box4 ((Below.refl _ _).drew)).2.1, (box4 ((Below.refl _ _).drew)).2.2.1, (box4 ((Below.refl _ _).drew)).2.2.2, below_cell hb0.drew hcn⟩)
    (first | (go_at_call 23; refine (check_any _ _ _ _ _ hk.1 hk.2).mono ?_; rintro e w2 ⟨rfl, hb2⟩; rw [HC.out]))
  obtain ⟨d0, d1, d2, d3⟩ := box4 (below_of_drew hb2)
  have hb4 : Below w.heap.size w w2 := hb0.trans ((below_of_drew hb2).mono (by simp))
  have hs2 : w.heap.size < w2.heap.size := by have := hb2.size; simp at this; omega
  have hco2 := below_cell hb4 hco
  have hcn2 := below_cell hb4 hcn
  have hg2 := below_cell hb4 hg
  clear hg
  clear hco hcn hb0 hb2
  go_wp2_with fail
  go_ret
  exact ⟨rfl, hb4⟩

set_option maxHeartbeats 1000000 in
set_option maxRecDepth 100000 in
theorem next_there (w0 w : World) (po pn base : Nat) (v : Value) (l : List JobS) (now : Int) (s : Nat → Addr) (r : Rec) (hin : NextIn w0 w po pn base v l now) (hS : Sent w0 s)
    (hk : 0 ≤ r.k ∧ r.k ≤ 255) (hok : r.ok = true) (ht : now ≤ r.t) (hl : l.length ≤ 1000000000)
    (hs : ∀ i k (hi : i < l.length) (hk : k < l.length), i < k → l[i].job < l[k].job) (hk1 : r.k = 1) (hf : foundAt l r.j (insPos l r.j) = true) :
    Calls Tryd.prog 24 #[.pointer (some ⟨po, 0, none⟩), .pointer (some ⟨pn, 0, none⟩), .agg #[.int .i64 r.t, .int .u8 r.k, .int .i64 r.j, .int .i64 r.v]] w (RetBelow (.iface 125 (.pointer (some (s 1)))) w) := by
  have hch : chk r.t r.k r.j r.v = 0 := by unfold chk; rw [if_pos]; exact hok
  have HC := Lib.hid hch
  have HOK := Lib.hid (okRec_iff.1 hok)
  have hco := one_cell hin.bo
  have hcn := one_cell hin.bn
  have hg := (hS.below hin.old).v1
  have hlt : decide (r.t < now) = false := by simpa using ht
  have HIN := Lib.hid hin
  have HS := Lib.hid hs
  have HF := Lib.hid hf
  clear hs hf
  have hol : po < w.heap.size := by have := hin.hsize; have := hin.hpn; have := hin.hbase; omega
  have hnl : pn < w.heap.size := by have := hin.hsize; have := hin.hbase; omega
  clear hch hok hin ht
  obtain ⟨t, k, j, x⟩ := r
  dsimp only at *
  subst hk1
  obtain ⟨A, c, hv⟩ : ∃ A c, v = .slice A l.length c := by
    rcases HIN.out.own.2 with ⟨h, h0⟩ | ⟨g, cap, cur, h, _⟩
    · exact ⟨none, 0, by rw [h0]; exact h⟩
    · exact ⟨_, _, h⟩
  subst hv
  have HRD := Lib.hid (Rd.of_own HIN.out.own)
  go_enter Tryd.func24, Tryd.ntmps24
  go_wp2_with fail
  have hb0 := (Below.refl w.heap.size w).alloc (Nat.le_refl _) (.cells #[.int .i64 t, .int .u8 1, .int .i64 j, .int .i64 x] 37)
  go_region_held3 (fun w' => w'.cell? ⟨w.heap.size, 0, none⟩ = some (.int .i64 t) ∧ w'.cell? ⟨w.heap.size, 1, none⟩ = some (.int .u8 1) ∧ w'.cell? ⟨w.heap.size, 2, none⟩ = some (.int .i64 j) ∧ w'.cell? ⟨w.heap.size, 3, none⟩ = some (.int .i64 x) ∧ w'.cell? ⟨pn, 0, none⟩ = some (.int .i64 now))
    (first | exact ⟨(box4 (below_of_drew hb2)).1, (box4 (below_of_drew hb2)).2.1, (box4 (below_of_drew hb2)).2.2.1, (box4 (below_of_drew hb2)).2.2.2, below_cell (hb0.trans ((below_of_drew hb2).mono (by simp))) hcn⟩ | exact ⟨(box4 ((Below.refl _ _).drew)).1, (box4 ((Below.refl _ _).drew)).2.1, (box4 ((Below.refl _ _).drew)).2.2.1, (box4 ((Below.refl _ _).drew)).2.2.2, below_cell hb0.drew hcn⟩)
    (first | (go_at_call 23; refine (check_any _ _ _ _ _ hk.1 hk.2).mono ?_; rintro e w2 ⟨rfl, hb2⟩; rw [HC.out]))
  obtain ⟨d0, d1, d2, d3⟩ := box4 (below_of_drew hb2)
  have hb4 : Below w.heap.size w w2 := hb0.trans ((below_of_drew hb2).mono (by simp))
  have hs2 : w.heap.size < w2.heap.size := by have := hb2.size; simp at this; omega
  have hco2 := below_cell hb4 hco
  have hcn2 := below_cell hb4 hcn
  have hg2 := below_cell hb4 hg
  clear hg
  clear hco hcn hb0 hb2
  go_wp2_with fail
  go_region_held3 (fun w' => w'.cell? ⟨w.heap.size, 2, none⟩ = some (.int .i64 j) ∧ w'.cell? ⟨po, 0, none⟩ = some (.slice A l.length c))
    (first | exact ⟨below_cell (below_of_drew hb5) d2, below_cell (below_of_drew hb5) hco2⟩ | exact ⟨d2, hco2⟩)
    (first | (go_at_call 40; refine (bin_any A l l.length c j _ rfl ?_ (by omega) HS.out).mono ?_; exact (HRD.out.below hb4).drew; rintro e w3 ⟨rfl, hb5⟩; rw [HF.out]))
  have hb6 : Below w2.heap.size w2 w3 := below_of_drew hb5
  have hb7 : Below w.heap.size w w3 := hb4.trans (hb6.mono (by omega))
  have hs3 : w.heap.size < w3.heap.size := by have := hb6.size; omega
  have e0 := below_cell hb6 d0
  have e1 := below_cell hb6 d1
  have e2 := below_cell hb6 d2
  have e3 := below_cell hb6 d3
  have hco3 := below_cell hb6 hco2
  have hcn3 := below_cell hb6 hcn2
  have hg3 := below_cell hb6 hg2
  clear hg2
  clear hco2 hcn2 d0 d1 d2 d3 hb5
  go_wp2_with fail
  go_ret
  exact ⟨rfl, hb7⟩

set_option maxHeartbeats 1000000 in
set_option maxRecDepth 100000 in
theorem next_none (w0 w : World) (po pn base : Nat) (v : Value) (l : List JobS) (now : Int) (s : Nat → Addr) (r : Rec) (hin : NextIn w0 w po pn base v l now) (hS : Sent w0 s)
    (hk : 0 ≤ r.k ∧ r.k ≤ 255) (hok : r.ok = true) (ht : now ≤ r.t) (hl : l.length ≤ 1000000000)
    (hs : ∀ i k (hi : i < l.length) (hk : k < l.length), i < k → l[i].job < l[k].job) (_hk1 : (r.k == 1) = false) (_hk2 : (r.k != 1) = true) (hf : foundAt l r.j (insPos l r.j) = false) :
    Calls Tryd.prog 24 #[.pointer (some ⟨po, 0, none⟩), .pointer (some ⟨pn, 0, none⟩), .agg #[.int .i64 r.t, .int .u8 r.k, .int .i64 r.j, .int .i64 r.v]] w (RetBelow (.iface 125 (.pointer (some (s 2)))) w) := by
  have hch : chk r.t r.k r.j r.v = 0 := by unfold chk; rw [if_pos]; exact hok
  have HC := Lib.hid hch
  have HOK := Lib.hid (okRec_iff.1 hok)
  have hco := one_cell hin.bo
  have hcn := one_cell hin.bn
  have hg := (hS.below hin.old).v2
  have hlt : decide (r.t < now) = false := by simpa using ht
  have HIN := Lib.hid hin
  have HS := Lib.hid hs
  have HF := Lib.hid hf
  clear hs hf
  have hol : po < w.heap.size := by have := hin.hsize; have := hin.hpn; have := hin.hbase; omega
  have hnl : pn < w.heap.size := by have := hin.hsize; have := hin.hbase; omega
  clear hch hok hin ht
  obtain ⟨t, k, j, x⟩ := r
  dsimp only at *
  obtain ⟨A, c, hv⟩ : ∃ A c, v = .slice A l.length c := by
    rcases HIN.out.own.2 with ⟨h, h0⟩ | ⟨g, cap, cur, h, _⟩
    · exact ⟨none, 0, by rw [h0]; exact h⟩
    · exact ⟨_, _, h⟩
  subst hv
  have HRD := Lib.hid (Rd.of_own HIN.out.own)
  go_enter Tryd.func24, Tryd.ntmps24
  go_wp2_with fail
  have hb0 := (Below.refl w.heap.size w).alloc (Nat.le_refl _) (.cells #[.int .i64 t, .int .u8 k, .int .i64 j, .int .i64 x] 37)
  go_region_held3 (fun w' => w'.cell? ⟨w.heap.size, 0, none⟩ = some (.int .i64 t) ∧ w'.cell? ⟨w.heap.size, 1, none⟩ = some (.int .u8 k) ∧ w'.cell? ⟨w.heap.size, 2, none⟩ = some (.int .i64 j) ∧ w'.cell? ⟨w.heap.size, 3, none⟩ = some (.int .i64 x) ∧ w'.cell? ⟨pn, 0, none⟩ = some (.int .i64 now))
    (first | exact ⟨(box4 (below_of_drew hb2)).1, (box4 (below_of_drew hb2)).2.1, (box4 (below_of_drew hb2)).2.2.1, (box4 (below_of_drew hb2)).2.2.2, below_cell (hb0.trans ((below_of_drew hb2).mono (by simp))) hcn⟩ | exact ⟨(box4 ((Below.refl _ _).drew)).1, (box4 ((Below.refl _ _).drew)).2.1, (box4 ((Below.refl _ _).drew)).2.2.1, (box4 ((Below.refl _ _).drew)).2.2.2, below_cell hb0.drew hcn⟩)
    (first | (go_at_call 23; refine (check_any _ _ _ _ _ hk.1 hk.2).mono ?_; rintro e w2 ⟨rfl, hb2⟩; rw [HC.out]))
  obtain ⟨d0, d1, d2, d3⟩ := box4 (below_of_drew hb2)
  have hb4 : Below w.heap.size w w2 := hb0.trans ((below_of_drew hb2).mono (by simp))
  have hs2 : w.heap.size < w2.heap.size := by have := hb2.size; simp at this; omega
  have hco2 := below_cell hb4 hco
  have hcn2 := below_cell hb4 hcn
  have hg2 := below_cell hb4 hg
  clear hg
  clear hco hcn hb0 hb2
  go_wp2_with fail
  go_region_held3 (fun w' => w'.cell? ⟨w.heap.size, 2, none⟩ = some (.int .i64 j) ∧ w'.cell? ⟨po, 0, none⟩ = some (.slice A l.length c))
    (first | exact ⟨below_cell (below_of_drew hb5) d2, below_cell (below_of_drew hb5) hco2⟩ | exact ⟨d2, hco2⟩)
    (first | (go_at_call 40; refine (bin_any A l l.length c j _ rfl ?_ (by omega) HS.out).mono ?_; exact (HRD.out.below hb4).drew; rintro e w3 ⟨rfl, hb5⟩; rw [HF.out]))
  have hb6 : Below w2.heap.size w2 w3 := below_of_drew hb5
  have hb7 : Below w.heap.size w w3 := hb4.trans (hb6.mono (by omega))
  have hs3 : w.heap.size < w3.heap.size := by have := hb6.size; omega
  have e0 := below_cell hb6 d0
  have e1 := below_cell hb6 d1
  have e2 := below_cell hb6 d2
  have e3 := below_cell hb6 d3
  have hco3 := below_cell hb6 hco2
  have hcn3 := below_cell hb6 hcn2
  have hg3 := below_cell hb6 hg2
  clear hg2
  clear hco2 hcn2 d0 d1 d2 d3 hb5
  go_wp2_with fail
  go_ret
  exact ⟨rfl, hb7⟩

set_option maxHeartbeats 1000000 in
set_option maxRecDepth 100000 in
theorem next_zero (w0 w : World) (po pn base : Nat) (v : Value) (l : List JobS) (now : Int) (s : Nat → Addr) (r : Rec) (hin : NextIn w0 w po pn base v l now) (hS : Sent w0 s)
    (hk : 0 ≤ r.k ∧ r.k ≤ 255) (hok : r.ok = true) (ht : now ≤ r.t) (hl : l.length ≤ 1000000000)
    (hs : ∀ i k (hi : i < l.length) (hk : k < l.length), i < k → l[i].job < l[k].job) (hk1 : r.k = 1) (_hx : (r.v == 0) = true) (hf : foundAt l r.j (insPos l r.j) = false) :
    Calls Tryd.prog 24 #[.pointer (some ⟨po, 0, none⟩), .pointer (some ⟨pn, 0, none⟩), .agg #[.int .i64 r.t, .int .u8 r.k, .int .i64 r.j, .int .i64 r.v]] w (RetBelow (.iface 125 (.pointer (some (s 3)))) w) := by
  have hch : chk r.t r.k r.j r.v = 0 := by unfold chk; rw [if_pos]; exact hok
  have HC := Lib.hid hch
  have HOK := Lib.hid (okRec_iff.1 hok)
  have hco := one_cell hin.bo
  have hcn := one_cell hin.bn
  have hg := (hS.below hin.old).v3
  have hlt : decide (r.t < now) = false := by simpa using ht
  have HIN := Lib.hid hin
  have HS := Lib.hid hs
  have HF := Lib.hid hf
  clear hs hf
  have hol : po < w.heap.size := by have := hin.hsize; have := hin.hpn; have := hin.hbase; omega
  have hnl : pn < w.heap.size := by have := hin.hsize; have := hin.hbase; omega
  clear hch hok hin ht
  obtain ⟨t, k, j, x⟩ := r
  dsimp only at *
  subst hk1
  obtain ⟨A, c, hv⟩ : ∃ A c, v = .slice A l.length c := by
    rcases HIN.out.own.2 with ⟨h, h0⟩ | ⟨g, cap, cur, h, _⟩
    · exact ⟨none, 0, by rw [h0]; exact h⟩
    · exact ⟨_, _, h⟩
  subst hv
  have HRD := Lib.hid (Rd.of_own HIN.out.own)
  go_enter Tryd.func24, Tryd.ntmps24
  go_wp2_with fail
  have hb0 := (Below.refl w.heap.size w).alloc (Nat.le_refl _) (.cells #[.int .i64 t, .int .u8 1, .int .i64 j, .int .i64 x] 37)
  go_region_held3 (fun w' => w'.cell? ⟨w.heap.size, 0, none⟩ = some (.int .i64 t) ∧ w'.cell? ⟨w.heap.size, 1, none⟩ = some (.int .u8 1) ∧ w'.cell? ⟨w.heap.size, 2, none⟩ = some (.int .i64 j) ∧ w'.cell? ⟨w.heap.size, 3, none⟩ = some (.int .i64 x) ∧ w'.cell? ⟨pn, 0, none⟩ = some (.int .i64 now))
    (first | exact ⟨(box4 (below_of_drew hb2)).1, (box4 (below_of_drew hb2)).2.1, (box4 (below_of_drew hb2)).2.2.1, (box4 (below_of_drew hb2)).2.2.2, below_cell (hb0.trans ((below_of_drew hb2).mono (by simp))) hcn⟩ | exact ⟨(box4 ((Below.refl _ _).drew)).1, (box4 ((Below.refl _ _).drew)).2.1, (box4 ((Below.refl _ _).drew)).2.2.1, (box4 ((Below.refl _ _).drew)).2.2.2, below_cell hb0.drew hcn⟩)
    (first | (go_at_call 23; refine (check_any _ _ _ _ _ hk.1 hk.2).mono ?_; rintro e w2 ⟨rfl, hb2⟩; rw [HC.out]))
  obtain ⟨d0, d1, d2, d3⟩ := box4 (below_of_drew hb2)
  have hb4 : Below w.heap.size w w2 := hb0.trans ((below_of_drew hb2).mono (by simp))
  have hs2 : w.heap.size < w2.heap.size := by have := hb2.size; simp at this; omega
  have hco2 := below_cell hb4 hco
  have hcn2 := below_cell hb4 hcn
  have hg2 := below_cell hb4 hg
  clear hg
  clear hco hcn hb0 hb2
  go_wp2_with fail
  go_region_held3 (fun w' => w'.cell? ⟨w.heap.size, 2, none⟩ = some (.int .i64 j) ∧ w'.cell? ⟨po, 0, none⟩ = some (.slice A l.length c))
    (first | exact ⟨below_cell (below_of_drew hb5) d2, below_cell (below_of_drew hb5) hco2⟩ | exact ⟨d2, hco2⟩)
    (first | (go_at_call 40; refine (bin_any A l l.length c j _ rfl ?_ (by omega) HS.out).mono ?_; exact (HRD.out.below hb4).drew; rintro e w3 ⟨rfl, hb5⟩; rw [HF.out]))
  have hb6 : Below w2.heap.size w2 w3 := below_of_drew hb5
  have hb7 : Below w.heap.size w w3 := hb4.trans (hb6.mono (by omega))
  have hs3 : w.heap.size < w3.heap.size := by have := hb6.size; omega
  have e0 := below_cell hb6 d0
  have e1 := below_cell hb6 d1
  have e2 := below_cell hb6 d2
  have e3 := below_cell hb6 d3
  have hco3 := below_cell hb6 hco2
  have hcn3 := below_cell hb6 hcn2
  have hg3 := below_cell hb6 hg2
  clear hg2
  clear hco2 hcn2 d0 d1 d2 d3 hb5
  go_wp2_with fail
  go_ret
  exact ⟨rfl, hb7⟩

end Go.Proofs.YtdcgminjamofmaaDoor
