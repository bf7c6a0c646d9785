/- Contract of journals.Append. -/
import Derived.Test.YtdcgminjamofmaaDoorConcat
import Derived.Test.YtdcgminjamofmaaDoorClip
import Derived.Test.YtdcgminjamofmaaDoorRead2
import Derived.Deep.RegionWith
namespace Go.Proofs.YtdcgminjamofmaaDoor
open Go.RowKit

def AppRet (l : List Int) (r : Rec) (w : World) (e : Ending) (w' : World) : Prop :=
  (r.ok = true ∧ ∃ A, e = .returned (.tuple #[.slice A (l.length / 12 * 12 + 12) (l.length / 12 * 12 + 12), .int .i64 0]) ∧ Rd w' A 1 (l.length / 12 * 12 + 12) (bts (l.take (l.length / 12 * 12) ++ r.blk)) ∧ Below w.heap.size w w') ∨
  (r.ok = false ∧ e = .returned (.tuple #[.slice none 0 0, .int .i64 1]) ∧ Below w.heap.size w w')

theorem Rd.takeB {w : World} {A : Option Addr} {n k : Nat} {l : List Int} (h : Rd w A 1 n (bts l)) (hk : k ≤ n) : Rd w A 1 k (bts (l.take k)) := by
  have := h.take hk
  rw [Nat.mul_one] at this
  unfold bts at this ⊢
  rw [List.map_take]
  exact this

set_option maxHeartbeats 4000000 in
set_option maxRecDepth 100000 in
theorem append_any (A : Option Addr) (l : List Int) (n c : Nat) (r : Rec) (w : World) (hn : n = l.length) (h : Rd w A 1 n (bts l)) (hA : A = none → n = 0) (hnc : n ≤ c) (hl : n ≤ 1000000) (hcm : c ≤ 9223372036854775807) (hr : r.fit) :
    Calls Tryd.prog 21 #[.slice A n c, .agg #[.int .i64 r.t, .int .u8 r.k, .int .i64 r.j, .int .i64 r.v]] w (AppRet l r w) := by
  subst hn
  have HH := Lib.hid h
  have HA := Lib.hid hA
  clear h hA
  go_enter Tryd.func21, Tryd.ntmps21
  go_wp2_with fail
  refine (check_any _ _ _ _ _ hr.2.1.1 hr.2.1.2).mono ?_
  rintro e w2 ⟨rfl, hb2⟩
  obtain ⟨d0, d1, d2, d3⟩ := box4 hb2
  have hs2 := hb2.size
  simp only [World.size_alloc] at hs2
  have hbel2 : Below w.heap.size w w2 := ((Below.refl _ _).alloc (Nat.le_refl _) _).trans (hb2.mono (by simp))
  cases hro : r.ok
  · have hch : chk r.t r.k r.j r.v = 1 := by unfold chk; rw [if_neg]; unfold Rec.ok at hro; simp [hro]
    rw [hch]
    have HR := Lib.hid hro
    clear hch hro
    go_wp2_with fail
    go_ret2
    exact .inr ⟨HR.out, rfl, hbel2⟩
  · have hch : chk r.t r.k r.j r.v = 0 := by unfold chk; rw [if_pos]; exact hro
    rw [hch]
    have hall := okRec_iff.1 hro
    have HR := Lib.hid hro
    obtain ⟨k, hk⟩ : ∃ k, l.length / 12 * 12 = k := ⟨_, rfl⟩
    have hkl : k ≤ l.length := by omega
    have hdiv : (l.length : Int) / 12 * 12 = (k : Int) := by omega
    have q6 : (l.length : Int).tdiv 12 = (l.length : Int) / 12 := Int.tdiv_eq_ediv_of_nonneg (by omega)
    have q7 : IntKind.i64.wrap ((l.length : Int) / 12) = (l.length : Int) / 12 := IntWalk.i64_in _ (by omega)
    have q8 : IntKind.i64.wrap ((l.length : Int) / 12 * 12) = (k : Int) := by rw [hdiv]; exact IntWalk.i64_in _ (by omega)
    have q9 : (k : Int) ≤ (c : Int) := by omega
    have hblk := block_any r.t r.k r.j r.v w2 (by omega) (by omega) (by omega) (by omega)
    have HBLK := Lib.hid hblk
    have HK := Lib.hid hk
    have HRD := Lib.hid ((HH.out.takeB hkl).below hbel2)
    clear hch hro hblk hk HH
    go_upto_region 4 with fail
    go_cut [4, 5] (fun s4 s5 wx => ∃ A', s4 = .slice A' (k + 12) (k + 12) ∧ s5 = .int .i64 0 ∧ Rd wx A' 1 (k + 12) (bts (l.take k ++ r.blk)) ∧ Below w.heap.size w wx)
    case first =>
      have q10 : (0 : Int) ≤ (k : Int) := by omega
      have q11 : IntKind.i64.wrap (k : Int) = (k : Int) := IntWalk.i64_in _ (by omega)
      have hkA : A = none → k = 0 := fun e => by have := HA.out e; omega
      have hcc : ∀ (w3 : World) (g3 cap3 : Nat), w3.ownsRow w2.drew.heap.size 5 1 (.slice (some ⟨g3, 0, none⟩) 12 cap3) 12 (bts (blk r.t r.k r.j r.v)) → Below w2.drew.heap.size w2.drew w3 →
          Calls Tryd.prog 33 #[.slice (some ⟨w3.heap.size, 0, none⟩) 2 2] (w3.alloc (.cells #[.slice A k c, .slice (some ⟨g3, 0, none⟩) 12 cap3] 39)) (OwnRet 5 1 (k + 12) (bts (l.take k ++ blk r.t r.k r.j r.v)) (w3.alloc (.cells #[.slice A k c, .slice (some ⟨g3, 0, none⟩) 12 cap3] 39))) := by
        intro w3 g3 cap3 ho hb
        exact concat_two w3.heap.size 0 A (some ⟨g3, 0, none⟩) (l.take k) (blk r.t r.k r.j r.v) k 12 c cap3 2 _ (by simp) (by rw [cell_of_row _ _ _ _ _ _ (heap_alloc_new w3 _)]; rfl) (by rw [cell_of_row _ _ _ _ _ _ (heap_alloc_new w3 _)]; rfl) ((HRD.out.below (undrew hb)).alloc _) ((Rd.of_own ho).alloc _) hkA (by simp) (by omega) (by omega)
      have HCC := Lib.hid hcc
      clear hcc
      go_region_with (first | (go_at_call 28; (with_reducible refine (block_any r.t r.k r.j r.v _ (by omega) (by omega) (by omega) (by omega)).mono ?_); rintro e w3 ⟨v3, rfl, hown3, hb3⟩; obtain ⟨g3, cap3, rfl, hg3, hlt3⟩ := hown3.form (by omega)) | (go_at_call 33; (with_reducible refine (HCC.out w3 g3 cap3 hown3 hb3).mono ?_); rintro e w4 ⟨v4, rfl, hown4, hb4⟩; obtain ⟨A4, c4, rfl, hn4, hm4⟩ := own_form hown4) | (go_at_call 32; (with_reducible refine (clip_bytes A4 _ c4 _ hn4 hm4).mono ?_); rintro e w5 ⟨rfl, rfl⟩))
      all_goals go_wp2_with fail
      all_goals go_meet
      all_goals
        refine ⟨A4, rfl, rfl, Rd.of_own hown4, ?_⟩
        have hb5 := undrew hb3
        have hb6 : Below w.heap.size w w3 := hbel2.trans (hb5.mono hbel2.size)
        have hs6 := hb6.size
        exact (hb6.alloc hs6 _).trans (hb4.mono (by simp; omega))
    case rest =>
      obtain ⟨A', rfl, rfl, hrd, hbx⟩ := hcut
      go_wp2_with fail
      go_ret2
      refine .inl ⟨HR.out, A', ?_, ?_, hbx⟩
      · rw [HK.out]; rfl
      · rw [HK.out]; exact hrd
end Go.Proofs.YtdcgminjamofmaaDoor
