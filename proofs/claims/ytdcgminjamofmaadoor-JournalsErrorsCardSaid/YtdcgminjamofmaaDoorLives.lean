/- crimplaw42.lives returns true. -/
import Derived.Test.YtdcgminjamofmaaDoorJobs
import Derived.Test.YtdcgminjamofmaaDoorEnc
import Derived.Laws.BytesArg
namespace Go.Proofs.YtdcgminjamofmaaDoor
open Go.RowKit

theorem ex_fit (x : Int) (h : 0 ≤ x ∧ x ≤ 10) : ∀ r ∈ exRecs x, r.fit := by
  intro r hr
  simp only [exRecs, List.mem_cons, List.not_mem_nil, or_false] at hr
  rcases hr with h | h | h | h | h | h <;> subst h <;> unfold Rec.fit <;> dsimp only <;> omega
theorem ex1 : replay (exRecs 1) = ([⟨1, 10, 11, 11, 10, true⟩], 6, 0) := by kernel_rfl
theorem ex2 : (replay (exRecs 2)).2 = (3, 6) := by kernel_rfl
theorem ex2' : ∃ l, replay (exRecs 2) = (l, 3, 6) := ⟨(replay (exRecs 2)).1, by rw [← ex2]⟩
def one : List Rec := [⟨5, 1, 300, 1000⟩]
theorem enc1 : encs one = [1, 1, 44, 0, 0, 0, 5, 0, 3, 232, 9, 213] := by kernel_rfl
theorem str1 : strOfNums [1, 1, 44, 0, 0, 0, 5, 0, 3, 232, 9, 213] = ⟨#[1, 1, 44, 0, 0, 0, 5, 0, 3, 232, 9, 213]⟩ := by kernel_rfl
theorem ok1 : one.all Rec.ok = true := by kernel_rfl
theorem one_fit : ∀ r ∈ one, r.fit := by
  intro r hr
  simp only [one, List.mem_cons, List.not_mem_nil, or_false] at hr
  subst hr
  unfold Rec.fit
  dsimp only
  omega

theorem enc_ok {l : List Rec} {w w' : World} {e : Ending} (h : EncRet l w e w') (ho : l.all Rec.ok = true) : ∃ g, e = .returned (.tuple #[.slice (some ⟨g, 0, none⟩) (l.length * 12) (l.length * 12), .int .i64 0]) ∧ w'.ownsRow w.heap.size 5 1 (.slice (some ⟨g, 0, none⟩) (l.length * 12) (l.length * 12)) (l.length * 12) (bts (encs l)) ∧ Below w.heap.size w w' := by
  rcases h with ⟨_, h⟩ | ⟨hno, _⟩
  · exact h
  · rw [ho] at hno; cases hno
theorem bts_at (bs : List Int) (i : Nat) (hi : i < bs.length) : (bts bs)[i]? = some (.int .u8 (bs.getD i 0)) := by
  unfold bts
  simp [List.getD, hi]

set_option maxHeartbeats 1000000 in
theorem lives_any (w : World) (s : Nat → Addr) (hS : Sent w s) : Calls Tryd.prog 14 #[] w (RetBelow (.bool true) w) := by
  go_enter Tryd.func14, Tryd.ntmps14
  go_wp2_with fail
  refine (encode_any _ one 1 1 _ rfl ?_ one_fit (by omega)).mono ?_
  · exact rd_new (recs one) 1 4 rfl rfl
  intro e w1 hret
  obtain ⟨g, rfl, hown, hb1⟩ := enc_ok hret ok1
  have hb1' : Below w.heap.size w w1 := ((Below.refl _ _).alloc (Nat.le_refl _) _).trans (hb1.mono (by simp))
  have e12 : one.length * 12 = 12 := rfl
  rw [e12] at hown ⊢
  have hrd := Rd.of_own hown
  have HRD := Lib.hid hrd
  clear hown hrd e12 hb1
  go_wp2_with fail
  refine (example_any 1 _).mono ?_
  rintro e w2 ⟨A2, rfl, hrd2, hb2⟩
  have hb2' : Below w.heap.size w w2 := hb1'.trans (hb2.mono hb1'.size)
  have HRD2 := Lib.hid (HRD.out.below hb2)
  go_wp2_with fail
  refine (replay_any A2 (exRecs 1) 6 6 w2 s rfl hrd2 (ex_fit 1 (by omega)) (by omega) (hS.below hb2')).mono ?_
  rintro e w3 ⟨A3, c3, rfl, hown3, hb3⟩
  rw [ex1] at hown3 ⊢
  have hb3' : Below w.heap.size w w3 := hb2'.trans (hb3.mono hb2'.size)
  have hrd3 := Rd.of_own hown3
  have HR3 := Lib.hid hrd3
  have HRD3 := Lib.hid (HRD2.out.below hb3)
  clear hown3 hrd3 hrd2
  go_wp2_with fail
  refine (example_any 2 _).mono ?_
  rintro e w4 ⟨A4, rfl, hrd4, hb4⟩
  have hb4' : Below w.heap.size w w4 := hb3'.trans (hb4.mono hb3'.size)
  go_wp2_with fail
  obtain ⟨l5, hl5⟩ := ex2'
  refine (replay_any A4 (exRecs 2) 6 6 w4 s rfl hrd4 (ex_fit 2 (by omega)) (by omega) (hS.below hb4')).mono ?_
  rintro e w5 ⟨A5, c5, rfl, hown5, hb5⟩
  rw [hl5] at hown5 ⊢
  have hb5' : Below w.heap.size w w5 := hb4'.trans (hb5.mono hb4'.size)
  have hr3 := (HR3.out.below hb4).below hb5
  have hr1 := (HRD3.out.below hb4).below hb5
  obtain ⟨bg, bo, hbg, _, hcells⟩ := hr1.2 (by omega)
  obtain ⟨rfl, rfl⟩ : g = bg ∧ 0 = bo := by simpa using hbg
  have hcv := run_convert_bytes_arg (P := Tryd.prog) w5 39 5 Tryd.underlying39 Tryd.underlying5 g 0 12 12 (encs one) rfl (fun i hi => hcells i _ (bts_at (encs one) i hi)) 9 Tryd.underlying9
  rw [enc1, str1] at hcv
  have HR5 := Lib.hid hr3
  clear hr3 hr1 hcells hown5 hl5 hrd4
  go_wp2_with fail
  refine (jobs_same A3 _ [⟨1, 10, 11, 11, 10, true⟩] 1 1 _ rfl (HR5.out.alloc _) ?_ (by omega)).mono ?_
  · exact rd_new (jobsC [⟨1, 10, 11, 11, 10, true⟩]) 1 6 rfl rfl
  rintro e w6 ⟨rfl, hb6⟩
  have hb6' : Below w.heap.size w w6 := (hb5'.alloc hb5'.size _).trans (hb6.mono (by simp; have := hb5'.size; omega))
  go_wp2_with fail
  go_ret
  exact ⟨rfl, hb6'⟩
end Go.Proofs.YtdcgminjamofmaaDoor
