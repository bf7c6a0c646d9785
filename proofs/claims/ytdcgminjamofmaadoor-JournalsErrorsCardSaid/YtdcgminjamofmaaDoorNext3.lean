/- Contract of journals.next: the ways that go on to do. -/
import Derived.Test.YtdcgminjamofmaaDoorDo2
namespace Go.Proofs.YtdcgminjamofmaaDoor
open Go.RowKit

theorem jobAt_drew {w : World} {b o : Nat} {j : JobS} (h : JobAt w b o j) : JobAt w.drew b o j := ⟨h.lt, h.c0, h.c1, h.c2, h.c3, h.c4, h.c5, h.fz⟩

set_option maxHeartbeats 1000000 in
set_option maxRecDepth 100000 in
theorem next_do_err (w0 w : World) (po pn base : Nat) (v : Value) (l : List JobS) (now : Int) (s : Nat → Addr) (r : Rec) (hin : NextIn w0 w po pn base v l now) (hS : Sent w0 s)
    (hk : 0 ≤ r.k ∧ r.k ≤ 255) (hok : r.ok = true) (ht : now ≤ r.t) (hl : l.length ≤ 1000000000)
    (hs : ∀ i k (hi : i < l.length) (hk : k < l.length), i < k → l[i].job < l[k].job) (_hk1 : (r.k == 1) = false) (_hk2 : (r.k != 1) = true) (hk26 : 2 ≤ r.k ∧ r.k ≤ 6) (jb : JobS) (hjb : l[insPos l r.j]? = some jb) (hinv : ∀ q ∈ l, q.inv) (hf : foundAt l r.j (insPos l r.j) = true) (p : Nat) (hp : doS jb r.k r.v = .inl p) :
    Calls Tryd.prog 24 #[.pointer (some ⟨po, 0, none⟩), .pointer (some ⟨pn, 0, none⟩), .agg #[.int .i64 r.t, .int .u8 r.k, .int .i64 r.j, .int .i64 r.v]] w (RetBelow (.iface 125 (.pointer (some (s p)))) w) := by
  have hch : chk r.t r.k r.j r.v = 0 := by unfold chk; rw [if_pos]; exact hok
  have HC := Lib.hid hch
  have HOK := Lib.hid (okRec_iff.1 hok)
  have hco := one_cell hin.bo
  have hcn := one_cell hin.bn
  have hlt : decide (r.t < now) = false := by simpa using ht
  have HIN := Lib.hid hin
  have HS := Lib.hid hs
  have HF := Lib.hid hf
  have HINV := Lib.hid hinv
  have HP := Lib.hid hp
  have HJB := Lib.hid hjb
  clear hs hf hinv hp hjb
  have hol : po < w.heap.size := by have := hin.hsize; have := hin.hpn; have := hin.hbase; omega
  have hnl : pn < w.heap.size := by have := hin.hsize; have := hin.hbase; omega
  clear hch hok hin ht
  obtain ⟨t, k, j, x⟩ := r
  dsimp only at *
  obtain ⟨A, c, hv⟩ : ∃ A c, v = .slice A l.length c := by
    rcases HIN.out.own.2 with ⟨h, h0⟩ | ⟨g, cap, cur, h, _⟩
    · exact ⟨none, 0, by rw [h0]; exact h⟩
    · exact ⟨_, _, h⟩
  subst hv
  have HRD := Lib.hid (Rd.of_own HIN.out.own)
  go_enter Tryd.func24, Tryd.ntmps24
  go_wp2_with fail
  have hb0 := (Below.refl w.heap.size w).alloc (Nat.le_refl _) (.cells #[.int .i64 t, .int .u8 k, .int .i64 j, .int .i64 x] 37)
  go_region_held3 (fun w' => w'.cell? ⟨w.heap.size, 0, none⟩ = some (.int .i64 t) ∧ w'.cell? ⟨w.heap.size, 1, none⟩ = some (.int .u8 k) ∧ w'.cell? ⟨w.heap.size, 2, none⟩ = some (.int .i64 j) ∧ w'.cell? ⟨w.heap.size, 3, none⟩ = some (.int .i64 x) ∧ w'.cell? ⟨pn, 0, none⟩ = some (.int .i64 now))
    (first | exact ⟨(box4 (below_of_drew hb2)).1, (box4 (below_of_drew hb2)).2.1, (box4 (below_of_drew hb2)).2.2.1, (box4 (below_of_drew hb2)).2.2.2, below_cell (hb0.trans ((below_of_drew hb2).mono (by simp))) hcn⟩ | exact ⟨(box4 ((Below.refl _ _).drew)).1, (box4 ((Below.refl _ _).drew)).2.1, (box4 ((Below.refl _ _).drew)).2.2.1, (box4 ((Below.refl _ _).drew)).2.2.2, below_cell hb0.drew hcn⟩)
    (first | (go_at_call 23; refine (check_any _ _ _ _ _ hk.1 hk.2).mono ?_; rintro e w2 ⟨rfl, hb2⟩; rw [HC.out]))
  obtain ⟨d0, d1, d2, d3⟩ := box4 (below_of_drew hb2)
  have hb4 : Below w.heap.size w w2 := hb0.trans ((below_of_drew hb2).mono (by simp))
  have hs2 : w.heap.size < w2.heap.size := by have := hb2.size; simp at this; omega
  have hco2 := below_cell hb4 hco
  have hcn2 := below_cell hb4 hcn
  clear hco hcn hb0 hb2
  go_wp2_with fail
  go_region_held3 (fun w' => w'.cell? ⟨w.heap.size, 2, none⟩ = some (.int .i64 j) ∧ w'.cell? ⟨po, 0, none⟩ = some (.slice A l.length c))
    (first | exact ⟨below_cell (below_of_drew hb5) d2, below_cell (below_of_drew hb5) hco2⟩ | exact ⟨d2, hco2⟩)
    (first | (go_at_call 40; refine (bin_any A l l.length c j _ rfl ?_ (by omega) HS.out).mono ?_; exact (HRD.out.below hb4).drew; rintro e w3 ⟨rfl, hb5⟩; rw [HF.out]))
  have hb6 : Below w2.heap.size w2 w3 := below_of_drew hb5
  have hb7 : Below w.heap.size w w3 := hb4.trans (hb6.mono (by omega))
  have hs3 : w.heap.size < w3.heap.size := by have := hb6.size; omega
  have e0 := below_cell hb6 d0
  have e1 := below_cell hb6 d1
  have e2 := below_cell hb6 d2
  have e3 := below_cell hb6 d3
  have hco3 := below_cell hb6 hco2
  have hcn3 := below_cell hb6 hcn2
  clear hco2 hcn2 d0 d1 d2 d3 hb5
  go_wp2_with fail
  obtain ⟨hil, hje⟩ := List.getElem?_eq_some_iff.1 HJB.out
  obtain ⟨g, hA⟩ : ∃ g, A = some ⟨g, 0, none⟩ := by
    obtain ⟨g, cap, h, _⟩ := HIN.out.own.form (by omega)
    exact ⟨g, by injection h⟩
  subst hA
  have hin3 := HIN.out.kept hb7
  have hja := jobAt_of_own hin3.own (insPos l j) hil
  rw [hje] at hja
  have hjv : jb.inv := by rw [← hje]; exact HINV.out _ (List.getElem_mem _)
  have HJE := Lib.hid hje
  clear hje
  have HJ := Lib.hid hja
  have HI3 := Lib.hid hin3
  have hol3 : po < w3.heap.size := by omega
  have hnl3 : pn < w3.heap.size := by omega
  have hS3 := Lib.hid (hS.below hin3.old)
  have hii : ((insPos l j : Nat) : Int) < (l.length : Int) := by omega
  have hge : (0 : Int) ≤ ((insPos l j : Nat) : Int) := by omega
  clear hin3 hja
  go_region_held3 (fun w' => w'.cell? ⟨w.heap.size, 0, none⟩ = some (.int .i64 t) ∧ w'.cell? ⟨w.heap.size, 1, none⟩ = some (.int .u8 k) ∧ w'.cell? ⟨w.heap.size, 2, none⟩ = some (.int .i64 j) ∧ w'.cell? ⟨w.heap.size, 3, none⟩ = some (.int .i64 x) ∧ w'.cell? ⟨po, 0, none⟩ = some (.slice (some ⟨g, 0, none⟩) l.length c))
    (first | exact ⟨below_cell hb9 e0, below_cell hb9 e1, below_cell hb9 e2, below_cell hb9 e3, below_cell hb9 hco3⟩ | exact ⟨e0, e1, e2, e3, hco3⟩)
    (first | (go_at_call 44; refine (do_err _ g (insPos l j * 6) jb s ?_ ?_ hjv t k j x hk26 (by have := HOK.out; omega) p HP.out).mono ?_; exact hS3.out.below (Below.refl _ _).drew; exact jobAt_drew HJ.out; rintro e w4 ⟨rfl, hb8⟩; have hb9 : Below w3.heap.size w3 w4 := below_of_drew hb8))
  have hb10 : Below w.heap.size w w4 := hb7.trans (hb9.mono (by omega))
  clear e0 e1 e2 e3 hco3 hcn3
  go_wp2
  go_ret
  exact ⟨rfl, hb10⟩

set_option maxHeartbeats 1000000 in
set_option maxRecDepth 100000 in
theorem next_do_ok (w0 w : World) (po pn base : Nat) (v : Value) (l : List JobS) (now : Int) (r : Rec) (hin : NextIn w0 w po pn base v l now)
    (hk : 0 ≤ r.k ∧ r.k ≤ 255) (hok : r.ok = true) (ht : now ≤ r.t) (hl : l.length ≤ 1000000000)
    (hs : ∀ i k (hi : i < l.length) (hk : k < l.length), i < k → l[i].job < l[k].job) (_hk1 : (r.k == 1) = false) (_hk2 : (r.k != 1) = true) (hk26 : 2 ≤ r.k ∧ r.k ≤ 6) (jb : JobS) (hjb : l[insPos l r.j]? = some jb) (hinv : ∀ q ∈ l, q.inv) (hf : foundAt l r.j (insPos l r.j) = true) (j' : JobS) (hp : doS jb r.k r.v = .inr j') :
    Calls Tryd.prog 24 #[.pointer (some ⟨po, 0, none⟩), .pointer (some ⟨pn, 0, none⟩), .agg #[.int .i64 r.t, .int .u8 r.k, .int .i64 r.j, .int .i64 r.v]] w (NextDone w0 po pn base (l.set (insPos l r.j) j') r.t) := by
  have hch : chk r.t r.k r.j r.v = 0 := by unfold chk; rw [if_pos]; exact hok
  have HC := Lib.hid hch
  have HOK := Lib.hid (okRec_iff.1 hok)
  have hco := one_cell hin.bo
  have hcn := one_cell hin.bn
  have hlt : decide (r.t < now) = false := by simpa using ht
  have HIN := Lib.hid hin
  have HS := Lib.hid hs
  have HF := Lib.hid hf
  have HINV := Lib.hid hinv
  have HP := Lib.hid hp
  have HJB := Lib.hid hjb
  clear hs hf hinv hp hjb
  have hol : po < w.heap.size := by have := hin.hsize; have := hin.hpn; have := hin.hbase; omega
  have hnl : pn < w.heap.size := by have := hin.hsize; have := hin.hbase; omega
  clear hch hok hin ht
  obtain ⟨t, k, j, x⟩ := r
  dsimp only at *
  obtain ⟨A, c, hv⟩ : ∃ A c, v = .slice A l.length c := by
    rcases HIN.out.own.2 with ⟨h, h0⟩ | ⟨g, cap, cur, h, _⟩
    · exact ⟨none, 0, by rw [h0]; exact h⟩
    · exact ⟨_, _, h⟩
  subst hv
  have HRD := Lib.hid (Rd.of_own HIN.out.own)
  go_enter Tryd.func24, Tryd.ntmps24
  go_wp2_with fail
  have hb0 := (Below.refl w.heap.size w).alloc (Nat.le_refl _) (.cells #[.int .i64 t, .int .u8 k, .int .i64 j, .int .i64 x] 37)
  go_region_held3 (fun w' => w'.cell? ⟨w.heap.size, 0, none⟩ = some (.int .i64 t) ∧ w'.cell? ⟨w.heap.size, 1, none⟩ = some (.int .u8 k) ∧ w'.cell? ⟨w.heap.size, 2, none⟩ = some (.int .i64 j) ∧ w'.cell? ⟨w.heap.size, 3, none⟩ = some (.int .i64 x) ∧ w'.cell? ⟨pn, 0, none⟩ = some (.int .i64 now))
    (first | exact ⟨(box4 (below_of_drew hb2)).1, (box4 (below_of_drew hb2)).2.1, (box4 (below_of_drew hb2)).2.2.1, (box4 (below_of_drew hb2)).2.2.2, below_cell (hb0.trans ((below_of_drew hb2).mono (by simp))) hcn⟩ | exact ⟨(box4 ((Below.refl _ _).drew)).1, (box4 ((Below.refl _ _).drew)).2.1, (box4 ((Below.refl _ _).drew)).2.2.1, (box4 ((Below.refl _ _).drew)).2.2.2, below_cell hb0.drew hcn⟩)
    (first | (go_at_call 23; refine (check_any _ _ _ _ _ hk.1 hk.2).mono ?_; rintro e w2 ⟨rfl, hb2⟩; rw [HC.out]))
  obtain ⟨d0, d1, d2, d3⟩ := box4 (below_of_drew hb2)
  have hb4 : Below w.heap.size w w2 := hb0.trans ((below_of_drew hb2).mono (by simp))
  have hs2 : w.heap.size < w2.heap.size := by have := hb2.size; simp at this; omega
  have hco2 := below_cell hb4 hco
  have hcn2 := below_cell hb4 hcn
  clear hco hcn hb0 hb2
  go_wp2_with fail
  go_region_held3 (fun w' => w'.cell? ⟨w.heap.size, 2, none⟩ = some (.int .i64 j) ∧ w'.cell? ⟨po, 0, none⟩ = some (.slice A l.length c))
    (first | exact ⟨below_cell (below_of_drew hb5) d2, below_cell (below_of_drew hb5) hco2⟩ | exact ⟨d2, hco2⟩)
    (first | (go_at_call 40; refine (bin_any A l l.length c j _ rfl ?_ (by omega) HS.out).mono ?_; exact (HRD.out.below hb4).drew; rintro e w3 ⟨rfl, hb5⟩; rw [HF.out]))
  have hb6 : Below w2.heap.size w2 w3 := below_of_drew hb5
  have hb7 : Below w.heap.size w w3 := hb4.trans (hb6.mono (by omega))
  have hs3 : w.heap.size < w3.heap.size := by have := hb6.size; omega
  have e0 := below_cell hb6 d0
  have e1 := below_cell hb6 d1
  have e2 := below_cell hb6 d2
  have e3 := below_cell hb6 d3
  have hco3 := below_cell hb6 hco2
  have hcn3 := below_cell hb6 hcn2
  clear hco2 hcn2 d0 d1 d2 d3 hb5
  go_wp2_with fail
  obtain ⟨hil, hje⟩ := List.getElem?_eq_some_iff.1 HJB.out
  obtain ⟨g, hA⟩ : ∃ g, A = some ⟨g, 0, none⟩ := by
    obtain ⟨g, cap, h, _⟩ := HIN.out.own.form (by omega)
    exact ⟨g, by injection h⟩
  subst hA
  have hin3 := HIN.out.kept hb7
  have hja := jobAt_of_own hin3.own (insPos l j) hil
  rw [hje] at hja
  have hjv : jb.inv := by rw [← hje]; exact HINV.out _ (List.getElem_mem _)
  have HJE := Lib.hid hje
  clear hje
  have HJ := Lib.hid hja
  have HI3 := Lib.hid hin3
  have hol3 : po < w3.heap.size := by omega
  have hnl3 : pn < w3.heap.size := by omega
  have hii : ((insPos l j : Nat) : Int) < (l.length : Int) := by omega
  have hge : (0 : Int) ≤ ((insPos l j : Nat) : Int) := by omega
  clear hin3 hja
  have hgb := (HIN.out.own.lt g rfl)
  have hng1 : some w.heap.size ≠ some g := fun e => by injection e; omega
  have hng2 : some po ≠ some g := fun e => by injection e; have := HIN.out.hpn; have := HIN.out.hbase; omega
  have hng3 : some pn ≠ some g := fun e => by injection e; have := HIN.out.hbase; omega
  go_region_held3 (fun w' => w'.cell? ⟨w.heap.size, 0, none⟩ = some (.int .i64 t) ∧ w'.cell? ⟨w.heap.size, 1, none⟩ = some (.int .u8 k) ∧ w'.cell? ⟨w.heap.size, 2, none⟩ = some (.int .i64 j) ∧ w'.cell? ⟨w.heap.size, 3, none⟩ = some (.int .i64 x) ∧ w'.cell? ⟨po, 0, none⟩ = some (.slice (some ⟨g, 0, none⟩) l.length c))
    (first | exact ⟨hgr.cell (a := ⟨w.heap.size, 0, none⟩) e0 hng1, hgr.cell (a := ⟨w.heap.size, 1, none⟩) e1 hng1, hgr.cell (a := ⟨w.heap.size, 2, none⟩) e2 hng1, hgr.cell (a := ⟨w.heap.size, 3, none⟩) e3 hng1, hgr.cell (a := ⟨po, 0, none⟩) hco3 hng2⟩ | exact ⟨e0, e1, e2, e3, hco3⟩)
    (first | (go_at_call 44; refine (do_ok _ g (insPos l j * 6) jb j' ?_ hjv t k j x hk26 (by have := HOK.out; omega) HP.out).mono ?_; exact jobAt_drew HJ.out; rintro e w4 hd; have hod := own_done (HI3.out.own.drew) hil (by rw [HJE.out]; exact hd); obtain ⟨rfl, _⟩ := hd; have hgr := hod.2; have HO4 := Lib.hid hod.1; clear hod))
  have f0 := hgr.cell (a := ⟨w.heap.size, 0, none⟩) e0 hng1
  have fo : w4.heap[po]? = some (.cells #[.slice (some ⟨g, 0, none⟩) l.length c] 26 (0, 0)) := (hgr.block po hol3 hng2).trans HI3.out.bo
  have fn : w4.heap[pn]? = some (.cells #[.int .i64 now] 3 (0, 0)) := (hgr.block pn hnl3 hng3).trans HI3.out.bn
  have hold4 : Below w0.heap.size w0 w4 := HI3.out.old.trans ⟨hgr.os, hgr.tape, hgr.output, hgr.size, fun q hq => hgr.block q (by have := HI3.out.old.size; show q < w3.heap.size; omega) (fun e => by injection e with e; have := HIN.out.hpo; have := HIN.out.hpn; have := HIN.out.hbase; omega)⟩
  have hsz4 : base ≤ w4.heap.size := by have := hgr.size; have h3 : w3.drew.heap.size = w3.heap.size := rfl; have := HI3.out.hsize; omega
  have hr := one_cell fn
  have hr2 : w4.frozen? ⟨pn, 0, none⟩ = false := by simp [World.frozen?, fn]
  have FO := Lib.hid fo
  have FN := Lib.hid fn
  clear e0 e1 e2 e3 hco3 hcn3 fo fn hgr
  go_wp2
  go_ret
  have hown4 := HO4.out
  rw [List.length_set] at hown4
  have k1 := HIN.out.hpo
  have k2 := HIN.out.hpn
  have k3 := HIN.out.hbase
  refine ⟨rfl, .slice (some ⟨g, 0, none⟩) l.length c, ⟨hold4.setCell (p := ⟨pn, 0, none⟩) (by show _ ≤ pn; omega) _, k1, k2, k3, by simpa [World.setCell] using hsz4, ?_, cells_set_one FN.out, ?_⟩⟩
  · rw [cells_set_far (by omega)]
    exact FO.out
  · rw [List.length_set]
    exact ownsRow_setCell_below hown4 (a := ⟨pn, 0, none⟩) k3 _
end Go.Proofs.YtdcgminjamofmaaDoor
