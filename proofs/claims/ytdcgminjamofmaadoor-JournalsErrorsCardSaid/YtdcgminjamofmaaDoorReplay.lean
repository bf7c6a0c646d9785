/- Contract of journals.Replay. -/
import Derived.Test.YtdcgminjamofmaaDoorRep
namespace Go.Proofs.YtdcgminjamofmaaDoor
open Go.RowKit

def replayS (l : List JobS) (now : Int) (i : Nat) : List Rec → List JobS × Nat × Int
  | [] => (l, i, 0)
  | r :: rs => match nextS l now r with
    | .inl p => (l, i, errNo p)
    | .inr l' => replayS l' r.t (i + 1) rs
def replay (rs : List Rec) : List JobS × Nat × Int := replayS [] 0 0 rs

theorem nextS_err {l : List JobS} {now : Int} {r : Rec} {p : Nat} (h : nextS l now r = .inl p) : p < 5 := by
  have hd : ∀ jb k v q, doS jb k v = .inl q → q < 5 := by
    intro jb k v q hq
    unfold doS at hq
    repeat' split at hq
    all_goals cases hq
    all_goals omega
  unfold nextS at h
  repeat' split at h
  all_goals first | (cases h; done) | (cases h; omega) | skip
  all_goals (rename_i hq; cases h; exact hd _ _ _ _ hq)

def ReplayRet (rs : List Rec) (w : World) (e : Ending) (w' : World) : Prop :=
  ∃ A c, e = .returned (.tuple #[.slice A (replay rs).1.length (replay rs).1.length, .int .i64 (replay rs).2.1, .int .i64 (replay rs).2.2]) ∧
    w'.ownsRow w.heap.size 32 6 (.slice A (replay rs).1.length c) (replay rs).1.length (jobsC (replay rs).1) ∧ Below w.heap.size w w'

def ReplayRel (rs : List Rec) (w : World) (k : Nat) (wr : World) : Prop :=
  ∃ v l now, NextIn w wr w.heap.size (w.heap.size + 1) (w.heap.size + 2) v l now ∧ JInv l k ∧ replay rs = replayS l now k (rs.drop k)

theorem own_base {w : World} {b b' : Nat} {e : TypeId} {sz : Nat} {v : Value} {n : Nat} {xs : List Value} (h : w.ownsRow b e sz v n xs) (hb : b' ≤ b) : w.ownsRow b' e sz v n xs := by
  refine ⟨h.1, ?_⟩
  rcases h.2 with hn | ⟨g, cap, cur, r1, r2, r3⟩
  · exact .inl hn
  · exact .inr ⟨g, cap, cur, r1, by omega, r3⟩
theorem own_form {w : World} {b : Nat} {e : TypeId} {sz : Nat} {v : Value} {n : Nat} {xs : List Value} (h : w.ownsRow b e sz v n xs) : ∃ A c, v = .slice A n c ∧ n ≤ c ∧ c ≤ maxLen := by
  rcases h.2 with ⟨rfl, h0⟩ | ⟨g, cap, cur, r1, _, _, r2, r3, _⟩
  · exact ⟨none, 0, by rw [h0], by omega, by simp [maxLen]⟩
  · exact ⟨_, cap, r1, r2, r3⟩

set_option maxHeartbeats 1000000 in
theorem replay_any (A : Option Addr) (rs : List Rec) (n c : Nat) (w : World) (s : Nat → Addr) (hn : n = rs.length) (h : Rd w A 4 n (recs rs)) (hf : ∀ r ∈ rs, r.fit) (hl : n ≤ 1000000000) (hS : Sent w s) :
    Calls Tryd.prog 11 #[.slice A n c] w (ReplayRet rs w) := by
  subst hn
  go_enter Tryd.func11, Tryd.ntmps11
  go_wp2
  have hr0 : ReplayRel rs w 0 ((w.alloc (.cells #[.slice none 0 0] 26)).alloc (.cells #[.int .i64 0] 3)) := by
    refine ⟨.slice none 0 0, [], 0, ⟨?_, Nat.le_refl _, by omega, by omega, by simp, ?_, ?_, World.ownsRow_nil _ _ _ _⟩, ⟨.nil, by simp, by simp⟩, by simp [replay]⟩
    · repeat' (first | exact Below.refl _ _ | refine Below.alloc ?_ (by simp) _)
    · rw [Below.heap_alloc _ _ _ (by simp)]
      exact heap_alloc_new w _
    · have := heap_alloc_new (w.alloc (.cells #[.slice none 0 0] 26)) (.cells #[.int .i64 0] 3)
      simpa using this
  go_loopw [12] (fun i wr => ∃ k : Nat, k ≤ rs.length ∧ i = .int .i64 k ∧ ReplayRel rs w k wr) (fun i _ => rs.length - (intOf i).toNat)
  case atStart => exact ⟨0, by omega, rfl, hr0⟩
  case round =>
    clear hr0
    obtain ⟨k, hk, rfl, v, l, now, hin, hj, hrep⟩ := hrel
    have HIN := Lib.hid hin
    have HJ := Lib.hid hj
    have HREP := Lib.hid hrep
    have hbel := hin.old
    have hco := one_cell hin.bo
    have hsz := hin.hsize
    clear hin hj hrep
    by_cases hlt : k < rs.length
    · have hh := h.below hbel
      obtain ⟨b, o, rfl, hbl, c0, c1, c2, c3⟩ := rd_rec hh k hlt
      have hfit := hf rs[k] (List.getElem_mem _)
      obtain ⟨r, hr⟩ : ∃ r, rs[k] = r := ⟨_, rfl⟩
      rw [hr] at c0 c1 c2 c3 hfit
      have HR := Lib.hid hr
      clear hr
      go_wp2_with fail
      have hb1 := (Below.refl wr.heap.size wr).alloc (Nat.le_refl _) (.cells #[.int .i64 r.t, .int .u8 r.k, .int .i64 r.j, .int .i64 r.v] 37)
      refine (next_any w _ w.heap.size (w.heap.size + 1) (w.heap.size + 2) v l now s r (HIN.out.kept hb1) hS hfit.2.1 k HJ.out (by omega)).mono ?_
      clear c0 c1 c2 c3 hco hh
      intro e w2 hret
      cases hx : nextS l now r with
      | inl p =>
        rw [hx] at hret
        obtain ⟨rfl, hb2⟩ := hret
        have hin2 := (HIN.out.kept hb1).kept hb2
        have hco2 := one_cell hin2.bo
        have hp := nextS_err hx
        have hS2 := Lib.hid (hS.below hin2.old)
        obtain ⟨A1, c1, rfl, hn1, hm1⟩ := own_form hin2.own
        have HIN2 := Lib.hid hin2
        have HX := Lib.hid hx
        clear hin2 hx hb1 hb2 h
        go_wp2_with fail
        refine (clip_jobs _ _ _ _ hn1 hm1).mono ?_
        rintro e w3 ⟨rfl, rfl⟩
        go_wp2_with fail
        refine (number_any s p hp _ hS2.out).mono ?_
        rintro e w3 ⟨rfl, hb3⟩
        go_wp2_with fail
        go_ret3
        have hfin : replay rs = (l, k, errNo p) := by
          rw [HREP.out, List.drop_eq_getElem_cons hlt, HR.out]
          unfold replayS
          rw [HX.out]
        refine ⟨A1, c1, ?_, ?_, HIN2.out.old.trans (hb3.mono HIN2.out.old.size)⟩
        · rw [hfin]
          rfl
        · rw [hfin]
          exact own_base (own_keep HIN2.out.own (Nat.le_refl _) hb3) (by omega)
      | inr l' =>
        rw [hx] at hret
        obtain ⟨rfl, v', hin2⟩ := hret
        have HIN2 := Lib.hid hin2
        have hj2 := Lib.hid (nextS_inv HJ.out hx)
        have HX := Lib.hid hx
        clear hin2 hx hb1 h
        go_wp2_with fail
        go_roundw
        case rel =>
          refine ⟨k + 1, by omega, by go_num, v', l', r.t, HIN2.out, hj2.out, ?_⟩
          rw [HREP.out, List.drop_eq_getElem_cons hlt, HR.out]
          conv => lhs; unfold replayS
          rw [HX.out]
        case measure => simp [intOf]; omega
    · obtain rfl : k = rs.length := by omega
      obtain ⟨A1, c1, rfl, hn1, hm1⟩ := own_form HIN.out.own
      go_wp2_with fail
      refine (clip_jobs _ _ _ _ hn1 hm1).mono ?_
      rintro e w3 ⟨rfl, rfl⟩
      go_wp2_with fail
      go_ret3
      have hfin : replay rs = (l, rs.length, 0) := by
        rw [HREP.out, List.drop_length]
        rfl
      refine ⟨A1, c1, ?_, ?_, HIN.out.old⟩
      · rw [hfin]
        rfl
      · rw [hfin]
        exact own_base HIN.out.own (by omega)
end Go.Proofs.YtdcgminjamofmaaDoor
