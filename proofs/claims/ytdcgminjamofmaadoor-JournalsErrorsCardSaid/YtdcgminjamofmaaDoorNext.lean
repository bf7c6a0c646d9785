/- Contract of journals.next: the refusals that come first. -/
import Derived.Test.YtdcgminjamofmaaDoorJobD
import Derived.Test.YtdcgminjamofmaaDoorIns2
import Derived.Deep.RegionWith
import Derived.Deep.RegionHeld3
namespace Go.Proofs.YtdcgminjamofmaaDoor
open Go.RowKit

/-- What next needs of memory: the list behind po, the time behind pn, nothing of it old. -/
structure NextIn (w0 w : World) (po pn base : Nat) (v : Value) (l : List JobS) (now : Int) : Prop where
  old : Below w0.heap.size w0 w
  hpo : w0.heap.size ≤ po
  hpn : po < pn
  hbase : pn < base
  hsize : base ≤ w.heap.size
  bo : w.heap[po]? = some (.cells #[v] 26 (0, 0))
  bn : w.heap[pn]? = some (.cells #[.int .i64 now] 3 (0, 0))
  own : w.ownsRow base 32 6 v l.length (jobsC l)

theorem NextIn.kept {w0 w w' : World} {po pn base : Nat} {v : Value} {l : List JobS} {now : Int} (h : NextIn w0 w po pn base v l now) (hb : Below w.heap.size w w') : NextIn w0 w' po pn base v l now :=
  ⟨h.old.trans (hb.mono h.old.size), h.hpo, h.hpn, h.hbase, Nat.le_trans h.hsize hb.size, (hb.block _ (by have := h.hsize; have := h.hpn; have := h.hbase; omega)).trans h.bo, (hb.block _ (by have := h.hsize; have := h.hbase; omega)).trans h.bn, own_keep h.own (Nat.le_refl _) hb⟩

theorem below_of_drew {B : Nat} {w w' : World} (h : Below B w.drew w') : Below B w w' := ⟨h.os, h.tape, h.output, h.size, h.block⟩
theorem one_cell {w : World} {g : Nat} {v : Value} {t : TypeId} (h : w.heap[g]? = some (.cells #[v] t (0, 0))) : w.cell? ⟨g, 0, none⟩ = some v := by
  rw [cell_of_row w g 0 #[v] t (0, 0) h]; rfl

set_option maxHeartbeats 1000000 in
set_option maxRecDepth 100000 in
theorem next_arg1 (w : World) (po pn : Nat) (r : Rec) (hk : 0 ≤ r.k ∧ r.k ≤ 255) (x : Addr) (hg : w.cell? ⟨0, 0, none⟩ = some (.iface 125 (.pointer (some x)))) (hok : r.ok = false) :
    Calls Tryd.prog 24 #[.pointer (some ⟨po, 0, none⟩), .pointer (some ⟨pn, 0, none⟩), .agg #[.int .i64 r.t, .int .u8 r.k, .int .i64 r.j, .int .i64 r.v]] w (RetBelow (.iface 125 (.pointer (some x))) w) := by
  have hch : chk r.t r.k r.j r.v = 1 := by unfold chk; rw [if_neg]; unfold Rec.ok at hok; simp [hok]
  have HC := Lib.hid hch
  have hgl := World.block_lt_of_cell? w _ hg
  dsimp only at hgl
  clear hch hok
  go_enter Tryd.func24, Tryd.ntmps24
  go_wp2_with fail
  refine wp_region_held_drew (S := fun _ => True) (by kernel_rfl) trivial (fun _ => ?_)
  refine wpAnyH_ready (rs := [0]) (by kernel_rfl) (by simp) (AllReadyH.cons rfl (fun K hK => ?_) AllReadyH.nil)
  go_simp
  refine hK.out _ _ trivial (fun _ => ?_)
  clear hK K
  refine wpAnyH_ready (rs := [1]) (by kernel_rfl) (by simp) (AllReadyH.cons rfl (fun K hK => ?_) AllReadyH.nil)
  go_simp
  refine (check_any _ _ _ _ _ hk.1 hk.2).mono ?_
  rintro e w2 ⟨rfl, hb2⟩
  rw [HC.out]
  refine hK.out _ _ trivial (fun _ => ?_)
  clear hK K
  refine wpAnyH_ready (rs := [2]) (by kernel_rfl) (by simp) (AllReadyH.cons rfl (fun K hK => ?_) AllReadyH.nil)
  go_simp
  refine hK.out _ _ trivial (fun _ => ?_)
  clear hK K
  refine wpAnyH_ready (rs := [3]) (by kernel_rfl) (by simp) (AllReadyH.cons rfl (fun K hK => ?_) AllReadyH.nil)
  go_simp
  refine hK.out _ _ trivial (fun _ => ?_)
  clear hK K
  refine wpAnyH_take (i := 4) (v := undef) rfl (by kernel_rfl) (by kernel_rfl) (by kernel_rfl) (fun _ _ _ h => h) (Or.inr ⟨by rfl, rfl⟩) trivial ?_
  refine wpAnyH_take (i := 5) (v := undef) rfl (by kernel_rfl) (by kernel_rfl) (by kernel_rfl) (fun _ _ _ h => h) (Or.inr ⟨by rfl, rfl⟩) trivial ?_
  refine wpAnyH_take (i := 6) (v := undef) rfl (by kernel_rfl) (by kernel_rfl) (by kernel_rfl) (fun _ _ _ h => h) (Or.inr ⟨by rfl, rfl⟩) trivial ?_
  refine wpAnyH_take (i := 7) (v := undef) rfl (by kernel_rfl) (by kernel_rfl) (by kernel_rfl) (fun _ _ _ h => h) (Or.inr ⟨by rfl, rfl⟩) trivial ?_
  refine wpAnyH_take (i := 8) (v := undef) rfl (by kernel_rfl) (by kernel_rfl) (by kernel_rfl) (fun _ _ _ h => h) (Or.inr ⟨by rfl, rfl⟩) trivial ?_
  refine wpAnyH_take (i := 9) (v := undef) rfl (by kernel_rfl) (by kernel_rfl) (by kernel_rfl) (fun _ _ _ h => h) (Or.inr ⟨by rfl, rfl⟩) trivial ?_
  refine wpAnyH_ready (rs := [10]) (by kernel_rfl) (by simp) (AllReadyH.cons rfl (fun K hK => ?_) AllReadyH.nil)
  go_simp
  refine hK.out _ _ trivial (fun _ => ?_)
  clear hK K
  refine wpAnyH_done (by kernel_rfl) ?_ _
  have hb3 := (Below.refl w.heap.size w).alloc (Nat.le_refl _) (.cells #[.int .i64 r.t, .int .u8 r.k, .int .i64 r.j, .int .i64 r.v] 37)
  have hb4 : Below w.heap.size w w2 := hb3.trans ((below_of_drew hb2).mono (by simp))
  have hg2 := below_cell hb4 hg
  clear hb3 hb2
  go_wp2_with fail
  go_ret
  exact ⟨rfl, hb4⟩
end Go.Proofs.YtdcgminjamofmaaDoor
