/- Contract of journals.next: an Order that is done. -/
import Derived.Test.YtdcgminjamofmaaDoorNext1
namespace Go.Proofs.YtdcgminjamofmaaDoor
open Go.RowKit

/-- The list with a job put in. -/
def insL (l : List JobS) (i : Nat) (j : JobS) : List JobS := l.take i ++ [j] ++ l.drop i
/-- next has done a record: the list is l', the time is t. -/
def NextDone (w0 : World) (po pn base : Nat) (l' : List JobS) (t : Int) (e : Ending) (w' : World) : Prop := e = .returned .nilIface ∧ ∃ v', NextIn w0 w' po pn base v' l' t

/-- Insert, called by next. -/
def InsDone (w0 W : World) (po pn base : Nat) (v : Value) (l' : List JobS) (now : Int) (e : Ending) (w' : World) : Prop :=
  ∃ g c, e = .returned (.slice (some ⟨g, 0, none⟩) l'.length c) ∧ Below w0.heap.size w0 w' ∧ base ≤ w'.heap.size ∧ w'.heap[po]? = some (.cells #[v] 26 (0, 0)) ∧ w'.heap[pn]? = some (.cells #[.int .i64 now] 3 (0, 0)) ∧
    w'.ownsRow base 32 6 (.slice (some ⟨g, 0, none⟩) l'.length c) l'.length (jobsC l') ∧ W.grownBy w' v.ownBlock
theorem ins_call (w0 W : World) (po pn base : Nat) (v : Value) (l : List JobS) (now : Int) (i vb : Nat) (j : JobS) (hin : NextIn w0 W po pn base v l now) (hi : i ≤ l.length) (hl : l.length ≤ 1000000000)
    (hv : W.heap[vb]? = some (.cells j.cells.toArray 32 (0, 0))) (hvg : v.ownBlock ≠ some vb) :
    Calls Tryd.prog 43 #[v, .int .i64 i, .slice (some ⟨vb, 0, none⟩) 1 1] W (InsDone w0 W po pn base v (insL l i j) now) := by
  refine (ins_any base i vb v l j W hin.own hv hvg hi hl hin.hsize).mono ?_
  rintro e w' ⟨v', rfl, hown, hg⟩
  have hlen : (insL l i j).length = l.length + 1 := by unfold insL; simp; omega
  rw [← hlen] at hown
  change w'.ownsRow base _ 6 v' _ (jobsC (insL l i j)) at hown
  obtain ⟨g, c, rfl, _, _⟩ := hown.form (by omega)
  have hlt := hin.own.lt
  have h1 := hin.hpn
  have h2 := hin.hbase
  have h3 := hin.hsize
  have h4 := hin.hpo
  refine ⟨g, c, rfl, ?_, Nat.le_trans h3 hg.size, (hg.block po (by omega) ?_).trans hin.bo, (hg.block pn (by omega) ?_).trans hin.bn, hown, hg⟩
  · exact hin.old.trans ⟨hg.os, hg.tape, hg.output, hg.size, fun k hk => hg.block k (by have := hin.old.size; omega) (fun e => by have := (hlt k e.symm).1; omega)⟩
  · intro e
    have := (hlt po e.symm).1
    omega
  · intro e
    have := (hlt pn e.symm).1
    omega
theorem cells_set_one {w : World} {g : Nat} {v u : Value} {t : TypeId} (h : w.heap[g]? = some (.cells #[v] t (0, 0))) : (w.setCell ⟨g, 0, none⟩ u).heap[g]? = some (.cells #[u] t (0, 0)) := by
  simp [World.setCell, Array.getElem?_modify, h]
theorem cells_set_far {w : World} {g k : Nat} {u : Value} (h : k ≠ g) : (w.setCell ⟨g, 0, none⟩ u).heap[k]? = w.heap[k]? := Below.heap_setCell w ⟨g, 0, none⟩ u k h
theorem next_fin {w0 w4 : World} {po pn base : Nat} {v v' : Value} {l' : List JobS} {now t : Int} (h1 : w0.heap.size ≤ po) (h2 : po < pn) (h3 : pn < base) (hb : Below w0.heap.size w0 w4) (hs : base ≤ w4.heap.size)
    (hbo : w4.heap[po]? = some (.cells #[v] 26 (0, 0))) (hbn : w4.heap[pn]? = some (.cells #[.int .i64 now] 3 (0, 0))) (hown : w4.ownsRow base 32 6 v' l'.length (jobsC l')) :
    NextIn w0 ((w4.setCell ⟨po, 0, none⟩ v').setCell ⟨pn, 0, none⟩ (.int .i64 t)) po pn base v' l' t := by
  refine ⟨(hb.setCell (p := ⟨po, 0, none⟩) h1 _).setCell (p := ⟨pn, 0, none⟩) (by show _ ≤ pn; omega) _, h1, h2, h3, by simpa [World.setCell] using hs, ?_, ?_, ?_⟩
  · rw [cells_set_far (by omega)]
    exact cells_set_one hbo
  · exact cells_set_one (by rw [cells_set_far (by omega)]; exact hbn)
  · exact ownsRow_setCell_below (ownsRow_setCell_below hown (a := ⟨po, 0, none⟩) (by show po < base; omega) _) (a := ⟨pn, 0, none⟩) h3 _
theorem own_not_old {w : World} {base : Nat} {e : TypeId} {sz : Nat} {v : Value} {n : Nat} {xs : List Value} (h : w.ownsRow base e sz v n xs) : some w.heap.size ≠ v.ownBlock := fun he => by have := (h.lt _ he.symm).2; omega
theorem own_not_new {w : World} {base : Nat} {e : TypeId} {sz : Nat} {v : Value} {n : Nat} {xs : List Value} (h : w.ownsRow base e sz v n xs) : v.ownBlock ≠ some w.heap.size := fun he => by have := (h.lt _ he).2; omega

set_option maxHeartbeats 1000000 in
set_option maxRecDepth 100000 in
theorem next_order (w0 w : World) (po pn base : Nat) (v : Value) (l : List JobS) (now : Int) (r : Rec) (hin : NextIn w0 w po pn base v l now)
    (hk : 0 ≤ r.k ∧ r.k ≤ 255) (hok : r.ok = true) (ht : now ≤ r.t) (hl : l.length ≤ 1000000000)
    (hs : ∀ i k (hi : i < l.length) (hk : k < l.length), i < k → l[i].job < l[k].job) (hk1 : r.k = 1) (_hx : (r.v == 0) = false) (hf : foundAt l r.j (insPos l r.j) = false) :
    Calls Tryd.prog 24 #[.pointer (some ⟨po, 0, none⟩), .pointer (some ⟨pn, 0, none⟩), .agg #[.int .i64 r.t, .int .u8 r.k, .int .i64 r.j, .int .i64 r.v]] w (NextDone w0 po pn base (insL l (insPos l r.j) ⟨r.j, r.v, 0, 0, 0, false⟩) r.t) := by
  have hch : chk r.t r.k r.j r.v = 0 := by unfold chk; rw [if_pos]; exact hok
  have HC := Lib.hid hch
  have HOK := Lib.hid (okRec_iff.1 hok)
  have hco := one_cell hin.bo
  have hcn := one_cell hin.bn
  have hlt : decide (r.t < now) = false := by simpa using ht
  have HIN := Lib.hid hin
  have HS := Lib.hid hs
  have HF := Lib.hid hf
  clear hs hf
  have hol : po < w.heap.size := by have := hin.hsize; have := hin.hpn; have := hin.hbase; omega
  have hnl : pn < w.heap.size := by have := hin.hsize; have := hin.hbase; omega
  clear hch hok hin ht
  obtain ⟨t, k, j, x⟩ := r
  dsimp only at *
  subst hk1
  obtain ⟨A, c, hv⟩ : ∃ A c, v = .slice A l.length c := by
    rcases HIN.out.own.2 with ⟨h, h0⟩ | ⟨g, cap, cur, h, _⟩
    · exact ⟨none, 0, by rw [h0]; exact h⟩
    · exact ⟨_, _, h⟩
  subst hv
  have HRD := Lib.hid (Rd.of_own HIN.out.own)
  go_enter Tryd.func24, Tryd.ntmps24
  go_wp2_with fail
  have hb0 := (Below.refl w.heap.size w).alloc (Nat.le_refl _) (.cells #[.int .i64 t, .int .u8 1, .int .i64 j, .int .i64 x] 37)
  go_region_held3 (fun w' => w'.cell? ⟨w.heap.size, 0, none⟩ = some (.int .i64 t) ∧ w'.cell? ⟨w.heap.size, 1, none⟩ = some (.int .u8 1) ∧ w'.cell? ⟨w.heap.size, 2, none⟩ = some (.int .i64 j) ∧ w'.cell? ⟨w.heap.size, 3, none⟩ = some (.int .i64 x) ∧ w'.cell? ⟨pn, 0, none⟩ = some (.int .i64 now))
    (first | exact ⟨(box4 (below_of_drew hb2)).1, (box4 (below_of_drew hb2)).2.1, (box4 (below_of_drew hb2)).2.2.1, (box4 (below_of_drew hb2)).2.2.2, below_cell (hb0.trans ((below_of_drew hb2).mono (by simp))) hcn⟩ | exact ⟨(box4 ((Below.refl _ _).drew)).1, (box4 ((Below.refl _ _).drew)).2.1, (box4 ((Below.refl _ _).drew)).2.2.1, (box4 ((Below.refl _ _).drew)).2.2.2, below_cell hb0.drew hcn⟩)
    (first | (go_at_call 23; refine (check_any _ _ _ _ _ hk.1 hk.2).mono ?_; rintro e w2 ⟨rfl, hb2⟩; rw [HC.out]))
  obtain ⟨d0, d1, d2, d3⟩ := box4 (below_of_drew hb2)
  have hb4 : Below w.heap.size w w2 := hb0.trans ((below_of_drew hb2).mono (by simp))
  have hs2 : w.heap.size < w2.heap.size := by have := hb2.size; simp at this; omega
  have hco2 := below_cell hb4 hco
  have hcn2 := below_cell hb4 hcn
  clear hco hcn hb0 hb2
  go_wp2_with fail
  go_region_held3 (fun w' => w'.cell? ⟨w.heap.size, 2, none⟩ = some (.int .i64 j) ∧ w'.cell? ⟨po, 0, none⟩ = some (.slice A l.length c))
    (first | exact ⟨below_cell (below_of_drew hb5) d2, below_cell (below_of_drew hb5) hco2⟩ | exact ⟨d2, hco2⟩)
    (first | (go_at_call 40; refine (bin_any A l l.length c j _ rfl ?_ (by omega) HS.out).mono ?_; exact (HRD.out.below hb4).drew; rintro e w3 ⟨rfl, hb5⟩; rw [HF.out]))
  have hb6 : Below w2.heap.size w2 w3 := below_of_drew hb5
  have hb7 : Below w.heap.size w w3 := hb4.trans (hb6.mono (by omega))
  have hs3 : w.heap.size < w3.heap.size := by have := hb6.size; omega
  have e0 := below_cell hb6 d0
  have e1 := below_cell hb6 d1
  have e2 := below_cell hb6 d2
  have e3 := below_cell hb6 d3
  have hco3 := below_cell hb6 hco2
  have hcn3 := below_cell hb6 hcn2
  clear hco2 hcn2 d0 d1 d2 d3 hb5
  go_wp2_with fail
  have hin3 := HIN.out.kept hb7
  have hfo3 : w3.frozen? ⟨po, 0, none⟩ = false := by simp [World.frozen?, hin3.bo]
  have HI3 := Lib.hid hin3
  have hpl : insPos l j ≤ l.length := (List.takeWhile_prefix _).length_le
  have hol3 : po < w3.heap.size := by omega
  have hnn1 : ¬ (po = pn) := by have := HIN.out.hpn; omega
  have hnn2 : ¬ (pn = po) := by omega
  have hnn3 : ¬ (w.heap.size = po) := by omega
  have hnn4 : ¬ (po = w.heap.size) := by omega
  clear hin3
  go_region_with (first | (go_at_call 43; refine (ins_call w0 _ po pn base _ l now (insPos l j) w3.heap.size ⟨j, x, 0, 0, 0, false⟩ ?_ hpl hl ?_ (own_not_new HI3.out.own)).mono ?_; exact HI3.out.kept (((Below.refl _ _).alloc (Nat.le_refl _) _).drew); exact heap_alloc_new w3 _; rintro e w4 ⟨g4, c4, rfl, hb8, hbs4, hbo4, hbn4, hown4, hgr4⟩; have HO4 := Lib.hid hown4; clear hown4; have HBO := Lib.hid hbo4; have HBN := Lib.hid hbn4; have hq := one_cell hbo4; have hq2 : w4.frozen? ⟨po, 0, none⟩ = false := (by simp [World.frozen?, hbo4]); have hr := one_cell hbn4; have hr2 : w4.frozen? ⟨pn, 0, none⟩ = false := (by simp [World.frozen?, hbn4]); have hr5 : w4.cell? ⟨w.heap.size, 0, none⟩ = some (.int .i64 t) := hgr4.cell (by exact (World.cell?_alloc_lt w3 _ ⟨w.heap.size, 0, none⟩ hs3).trans e0) (own_not_old HIN.out.own); clear hbo4 hbn4))
  all_goals go_wp2_with fail
  all_goals go_ret
  all_goals exact ⟨rfl, _, next_fin HIN.out.hpo HIN.out.hpn HIN.out.hbase hb8 hbs4 HBO.out HBN.out HO4.out⟩

end Go.Proofs.YtdcgminjamofmaaDoor
