/- Contract of journals.Record.block. -/
import Derived.Test.YtdcgminjamofmaaDoorLeaf
namespace Go.Proofs.YtdcgminjamofmaaDoor
open Go.RowKit

def head10 (t k j v : Int) : List Int := [k, j / 256, j % 256, t / 16777216, t / 65536 % 256, t / 256 % 256, t % 256, v / 65536, v / 256 % 256, v % 256]
def blk (t k j v : Int) : List Int := head10 t k j v ++ [jsum (head10 t k j v) / 256, jsum (head10 t k j v) % 256]

theorem byte_info : (Tryd.prog.info? 5).map (fun i => (i.zero, i.size, i.bytes)) = some (some (.int .u8 0), 1, 1) := by kernel_rfl

theorem jsum_bd (l : List Int) : 0 ≤ jsum l ∧ jsum l ≤ 65535 := by unfold jsum; omega
theorem head10_bd {t k j v : Int} (ht : 0 ≤ t ∧ t ≤ 1000000000) (hk : 0 ≤ k ∧ k ≤ 255) (hj : 0 ≤ j ∧ j ≤ 65535) (hv : 0 ≤ v ∧ v ≤ 16777215) : ∀ x ∈ head10 t k j v, 0 ≤ x ∧ x ≤ 255 := by
  intro x hx
  simp only [head10, List.mem_cons, List.not_mem_nil, or_false] at hx
  rcases hx with h | h | h | h | h | h | h | h | h | h <;> subst h <;> omega
set_option maxHeartbeats 400000 in
theorem block_any (t k j v : Int) (w : World) (ht : 0 ≤ t ∧ t ≤ 1000000000) (hk : 0 ≤ k ∧ k ≤ 255) (hj : 0 ≤ j ∧ j ≤ 65535) (hv : 0 ≤ v ∧ v ≤ 16777215) :
    Calls Tryd.prog 28 #[.agg #[.int .i64 t, .int .u8 k, .int .i64 j, .int .i64 v]] w (OwnRet 5 1 12 (bts (blk t k j v)) w) := by
  obtain ⟨i0, hi0, hz0, hz1, hz2⟩ := info_parts byte_info
  go_enter Tryd.func28, Tryd.ntmps28
  go_wp2_with fail
  refine (sum_any _ (head10 t k j v) 10 10 _ rfl ?_ (head10_bd ht hk hj hv) (by omega)).mono ?_
  · exact rd_new (bts (head10 t k j v)) 10 1 rfl (by simp)
  rintro e w' ⟨rfl, hw⟩
  have hs := jsum_bd (head10 t k j v)
  have hown : w'.ownsRow w.heap.size 5 1 (.slice (some ⟨w.heap.size + 1, 0, none⟩) 10 10) 10 (bts (head10 t k j v)) := by
    rw [← hw]; exact own_new _ 1 10 (bts (head10 t k j v)) (by simp) (by simp [maxLen]) rfl (by simp)
  have hbel : Below w.heap.size w w' := by
    rw [← hw]; repeat' (first | exact Below.refl _ _ | refine Below.alloc ?_ (by simp) _)
  clear hw
  have hsz := hbel.size
  obtain ⟨s, hse⟩ : ∃ s, jsum (head10 t k j v) = s := ⟨_, rfl⟩
  rw [hse] at hs ⊢
  have HS := Lib.hid hse
  have HO := Lib.hid hown
  clear hse hown
  go_wp2_with (at_builtin; refine wpList_append_own _ rfl _ _ 39 rfl w.heap.size 5 i0 (.int .u8 0) 1 1 Tryd.underlying39 hi0 hz0 hz1 hz2 rfl (by decide) _ _ _ rfl (HO.out.alloc _) ⟨w'.heap.size, 0, none⟩ 2 2 [.int .u8 (s / 256), .int .u8 (s % 256)] rfl rfl ?c1 ?c2 ?c3 ?c4 ?c5 ?_)
  case c1 => exact cells_new _ _ _
  case c2 => simp [Value.oneCell']
  case c3 => simp [maxLen]
  case c4 => omega
  case c5 => simp; omega
  intro v' w1 hown' hgrow hnil
  go_wp2
  go_ret
  refine ⟨v', rfl, ?_, ?_⟩
  · rw [← HS.out] at hown'
    exact hown'
  · exact (hbel.alloc hsz _).grown hgrow (by simp; omega) (by simp [Value.ownBlock])
end Go.Proofs.YtdcgminjamofmaaDoor
