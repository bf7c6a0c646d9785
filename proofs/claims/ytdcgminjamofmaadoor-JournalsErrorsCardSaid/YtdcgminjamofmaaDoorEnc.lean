/- Contract of journals.Encode. -/
import Derived.Test.YtdcgminjamofmaaDoorRecs
import Derived.Test.YtdcgminjamofmaaDoorBase2
namespace Go.Proofs.YtdcgminjamofmaaDoor
open Go.RowKit

def EncRet (l : List Rec) (w : World) (e : Ending) (w' : World) : Prop :=
  (l.all Rec.ok = true ∧ ∃ g, e = .returned (.tuple #[.slice (some ⟨g, 0, none⟩) (l.length * 12) (l.length * 12), .int .i64 0]) ∧ w'.ownsRow w.heap.size 5 1 (.slice (some ⟨g, 0, none⟩) (l.length * 12) (l.length * 12)) (l.length * 12) (bts (encs l)) ∧ Below w.heap.size w w') ∨
  (l.all Rec.ok = false ∧ e = .returned (.tuple #[.slice none 0 0, .int .i64 1]) ∧ Below w.heap.size w w')

def EncRel (l : List Rec) (w : World) (k : Nat) (v : Value) (wr : World) : Prop :=
  (l.take k).all Rec.ok = true ∧ v = .slice (some ⟨w.heap.size, 0, none⟩) (k * 12) (l.length * 12) ∧ wr.ownsRow w.heap.size 5 1 (.slice (some ⟨w.heap.size, 0, none⟩) (k * 12) (l.length * 12)) (k * 12) (bts (encs (l.take k))) ∧ Below w.heap.size w wr ∧ w.heap.size < wr.heap.size

theorem encs_step {l : List Rec} {k : Nat} (hk : k < l.length) {r : Rec} (hr : l[k] = r) : bts (encs (l.take (k + 1))) = bts (encs (l.take k)) ++ bts (blk r.t r.k r.j r.v) := by
  rw [List.take_succ_eq_append_getElem hk, hr]
  simp [bts, encs, Rec.blk]
theorem ok_step {l : List Rec} {k : Nat} (hk : k < l.length) {r : Rec} (hr : l[k] = r) (h : (l.take k).all Rec.ok = true) (h' : r.ok = true) : (l.take (k + 1)).all Rec.ok = true := by
  rw [List.take_succ_eq_append_getElem hk, hr, List.all_append, h]
  simp [h']

set_option maxHeartbeats 1000000 in
theorem encode_any (A : Option Addr) (l : List Rec) (n c : Nat) (w : World) (hn : n = l.length) (h : Rd w A 4 n (recs l)) (hf : ∀ r ∈ l, r.fit) (hl : n ≤ 1000000000000) :
    Calls Tryd.prog 15 #[.slice A n c] w (EncRet l w) := by
  subst hn
  obtain ⟨i0, hi0, hz0, hz1, hz2⟩ := info_parts byte_info
  go_enter Tryd.func15, Tryd.ntmps15
  go_wp2_with (at_make; refine wpList_make_own _ rfl _ _ 39 rfl w.heap.size 5 i0 (.int .u8 0) 1 Tryd.underlying39 hi0 hz0 hz1 _ _ _ (l.length * 12) rfl rfl (by omega) ?c1 ?c2 ?c3 ?_)
  case c1 => rw [hz2]; omega
  case c2 => simp [maxLen]; omega
  case c3 => exact Nat.le_refl _
  intro w1 hown hgrow
  have hr0 : EncRel l w 0 (.slice (some ⟨w.heap.size, 0, none⟩) 0 (l.length * 12)) w1 := ⟨rfl, rfl, by simpa [bts, encs] using hown, (Below.refl _ _).grown hgrow (Nat.le_refl _) (by simp), hown.lt _ rfl |>.2⟩
  clear hown hgrow
  go_wp2
  go_loopw [4, 14] (fun v i wr => ∃ k : Nat, k ≤ l.length ∧ i = .int .i64 k ∧ EncRel l w k v wr) (fun _ i _ => l.length - (intOf i).toNat)
  case atStart => exact ⟨0, by omega, rfl, hr0⟩
  case round =>
    obtain ⟨k, hk, rfl, hok, rfl, hown, hbel, hsz⟩ := hrel
    by_cases hlt : k < l.length
    · have hh := h.below hbel
      obtain ⟨b, o, rfl, hbl, c0, c1, c2, c3⟩ := rd_rec hh k hlt
      have hfit := hf l[k] (List.getElem_mem _)
      obtain ⟨r, hr⟩ : ∃ r, l[k] = r := ⟨_, rfl⟩
      rw [hr] at c0 c1 c2 c3 hfit
      have HX := Lib.hid hr
      have HO := Lib.hid hown
      clear hr hown
      go_wp2_with fail
      refine (check_any _ _ _ _ _ hfit.2.1.1 hfit.2.1.2).mono ?_
      rintro e w2 ⟨rfl, hb2⟩
      obtain ⟨d0, d1, d2, d3⟩ := box4 hb2
      have hs2 := hb2.size
      simp only [World.size_alloc] at hs2
      have hbel2 : Below w.heap.size w w2 := (hbel.alloc (by omega) _).trans (hb2.mono (by simp; omega))
      cases hro : r.ok
      · have hch : chk r.t r.k r.j r.v = 1 := by unfold chk; rw [if_neg]; unfold Rec.ok at hro; simp [hro]
        rw [hch]
        have HR := Lib.hid hro
        clear hch hro
        go_wp2
        go_ret2
        refine .inr ⟨?_, rfl, hbel2⟩
        rw [List.all_eq_false]
        exact ⟨r, by rw [← HX.out]; exact List.getElem_mem _, by simp [HR.out]⟩
      · have hch : chk r.t r.k r.j r.v = 0 := by unfold chk; rw [if_pos]; exact hro
        rw [hch]
        have hall := okRec_iff.1 hro
        have HR := Lib.hid hro
        clear hch hro
        go_wp2_with fail
        refine (block_any _ _ _ _ _ (by omega) (by omega) (by omega) (by omega)).mono ?_
        rintro e w3 ⟨v3, rfl, hown3, hb3⟩
        obtain ⟨g3, cap3, rfl, hg3, hlt3⟩ := hown3.form (by omega)
        have HO3 := Lib.hid hown3
        have hs3 := hb3.size
        have hbel3 : Below w.heap.size w w3 := hbel2.trans (hb3.mono (by omega))
        have HO2 := Lib.hid (own_keep (HO.out.alloc (.cells #[.int .i64 r.t, .int .u8 r.k, .int .i64 r.j, .int .i64 r.v] 37)) (Nat.le_refl _) hb2)
        have HO1 := Lib.hid (own_keep HO2.out (Nat.le_refl _) hb3)
        clear hown3 d0 d1 d2 d3 c0 c1 c2 c3
        go_wp2_with (at_builtin; refine wpList_append_fits _ rfl _ _ 39 rfl w.heap.size 5 i0 1 Tryd.underlying39 hi0 hz1 w.heap.size (k * 12) (l.length * 12) _ rfl HO1.out ⟨g3, 0, none⟩ 12 cap3 _ rfl HO3.out.1 (HO3.out.cells rfl) (ints_oneCell _ _) ?c1 ?_)
        case c1 => omega
        intro w4 hown4 hg4
        have HO4 := Lib.hid hown4
        clear hown4
        go_wp2
        go_roundw
        case rel =>
          have e12 : k * 12 + 12 = (k + 1) * 12 := by omega
          rw [e12]
          refine ⟨k + 1, by omega, by go_num, ok_step hlt HX.out hok HR.out, rfl, ?_, ?_, ?_⟩
          · have h4 := HO4.out
            rw [e12, ← encs_step hlt HX.out] at h4
            exact h4
          · exact hbel3.grown hg4 (by omega) (by simp)
          · have := hg4.size
            omega
        case measure => simp [intOf]; omega
    · go_wp2
      go_ret2
      have e : k = l.length := by omega
      subst e
      rw [List.take_length] at hok hown
      exact .inl ⟨hok, _, rfl, hown, hbel⟩
end Go.Proofs.YtdcgminjamofmaaDoor
