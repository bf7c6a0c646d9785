/- Contract of crimplaw42.replayed. -/
import Derived.Test.YtdcgminjamofmaaDoorTabAt
import Derived.Deep.DeepCutAuto
import Derived.Deep.CutBlock
namespace Go.Proofs.YtdcgminjamofmaaDoor
open Go.RowKit

def RepdRet (rs : List Rec) (w : World) (e : Ending) (w' : World) : Prop :=
  ∃ v, e = .returned (.tuple #[v, .int .i64 (repT T0 0 rs).2.1, .int .i64 (repT T0 0 rs).2.2]) ∧
    w'.ownsRow w.heap.size 32 6 v (outT (repT T0 0 rs).1).length (jobsC (outT (repT T0 0 rs).1)) ∧ Below w.heap.size w w'

def seen (x i : Nat) : Int := if x < i then x else -1
theorem repd_start (w : World) : TabAt w (((w.alloc (.cells #[.int .i64 1, .int .i64 2, .int .i64 300, .int .i64 65535] 3)).alloc (.cells #[.bool false, .bool false, .bool false, .bool false] 68)).alloc (.cells (tabC T0).toArray 69)) T0 := by
  have h1 : (w.alloc (.cells #[.int .i64 1, .int .i64 2, .int .i64 300, .int .i64 65535] 3)).heap.size = w.heap.size + 1 := World.size_alloc _ _
  generalize hw1 : w.alloc (.cells #[.int .i64 1, .int .i64 2, .int .i64 300, .int .i64 65535] 3) = w1 at *
  have h2 : (w1.alloc (.cells #[.bool false, .bool false, .bool false, .bool false] 68)).heap.size = w1.heap.size + 1 := World.size_alloc _ _
  generalize hw2 : w1.alloc (.cells #[.bool false, .bool false, .bool false, .bool false] 68) = w2 at *
  have b1 : Below w.heap.size w w1 := by rw [← hw1]; exact (Below.refl _ _).alloc (Nat.le_refl _) _
  have b2 : Below w.heap.size w w2 := by rw [← hw2]; exact b1.alloc (by omega) _
  refine ⟨rfl, ?_, ?_, ?_, b2.alloc (by omega) _⟩
  · rw [Below.heap_alloc _ _ _ (by omega), ← hw2, Below.heap_alloc _ _ _ (by omega), ← hw1]
    exact heap_alloc_new w _
  · rw [Below.heap_alloc _ _ _ (by omega), ← hw2, ← h1]
    exact heap_alloc_new w1 _
  · rw [← h1, ← h2]
    exact heap_alloc_new w2 _

set_option maxHeartbeats 0 in
set_option maxRecDepth 100000 in
theorem repd_any (A : Option Addr) (rs : List Rec) (n c : Nat) (w : World) (hn : n = rs.length) (h : Rd w A 4 n (recs rs)) (hf : ∀ r ∈ rs, r.ok = true ∧ inTab r.j) (hl : n ≤ 1000000000) :
    Calls Tryd.prog 12 #[.slice A n c] w (RepdRet rs w) := by
  subst hn
  go_enter Tryd.func12, Tryd.ntmps12
  go_upto_block 0 with fail
  go_cut [8, 9] (fun s8 s9 wx => ∃ T : Tab, ∃ n : Nat, ∃ e : Int, s8 = .int .i64 n ∧ s9 = .int .i64 e ∧ TabAt w wx T ∧ repT T0 0 rs = (T, n, e))
  case first =>
    go_wp2_with fail
    go_loopw [8, 9] (fun s8 s9 wr => ∃ T : Tab, ∃ k : Nat, k ≤ rs.length ∧ s8 = .int .i64 k ∧ s9 = .int .i64 0 ∧ TabAt w wr T ∧ TInv T ∧ repT T0 0 rs = repT T k (rs.drop k)) (fun s8 _ _ => rs.length - (intOf s8).toNat)
    case atStart => exact ⟨T0, 0, by omega, rfl, rfl, repd_start w, by intro j hj; simp [T0] at hj, rfl⟩
    case round =>
      obtain ⟨T, k, hk, rfl, rfl, hT, hI, hrep⟩ := hrel
      by_cases hlt : k < rs.length
      · obtain ⟨b, o, rfl, hbl, c0, c1, c2, c3⟩ := rd_rec (h.below hT.below) k hlt
        obtain ⟨hrok, hrin⟩ := hf rs[k] (List.getElem_mem _)
        obtain ⟨r, hr⟩ : ∃ r, rs[k] = r := ⟨_, rfl⟩
        rw [hr] at c0 c1 c2 c3 hrok hrin
        have HR := Lib.hid hr
        have HI := Lib.hid hI
        have HREP := Lib.hid hrep
        have HOK := Lib.hid hrok
        have HIN := Lib.hid hrin
        have HF := Lib.hid hf
        have HT := Lib.hid hT
        have HH := Lib.hid h
        have hTl := hT.lt
        clear hr hI hrep hrok hrin hf hT h
        go_upto_block 2 with fail
        go_cut [11, 12] (fun s11 _ wx => s11 = .int .i64 (ix r.j) ∧ Below (wr.alloc (.cells #[.int .i64 r.t, .int .u8 r.k, .int .i64 r.j, .int .i64 r.v] 37)).heap.size (wr.alloc (.cells #[.int .i64 r.t, .int .u8 r.k, .int .i64 r.j, .int .i64 r.v] 37)) wx)
        case first =>
          obtain ⟨W, hW⟩ : ∃ W, W = wr.alloc (.cells #[.int .i64 r.t, .int .u8 r.k, .int .i64 r.j, .int .i64 r.v] 37) := ⟨_, rfl⟩
          have hTW : TabAt w W T := by rw [hW]; exact HT.out.alloc _
          have hcj : W.cell? ⟨wr.heap.size, 2, none⟩ = some (.int .i64 r.j) := by rw [hW]; exact (box4 (Below.refl _ _)).2.2.1
          have HTW := Lib.hid hTW
          rw [← hW]
          have HW := Lib.hid hW
          clear hW hTW c0 c1 c2 c3
          go_wp2_with fail
          go_loopw [11, 12] (fun s11 s12 wx => ∃ i : Nat, i ≤ 4 ∧ s12 = .int .i64 i ∧ s11 = .int .i64 (seen (ix r.j) i) ∧ ∃ q, wx = W.drewN q) (fun _ s12 _ => 4 - (intOf s12).toNat)
          case atStart => exact ⟨0, by omega, rfl, rfl, 0, rfl⟩
          case round =>
            obtain ⟨i, hi, rfl, rfl, q, rfl⟩ := hrel
            by_cases hi4 : i < 4
            · have hcn := HTW.out.num hi4
              have htx := tab_ix HIN.out i hi4
              have hi4' : (i : Int) < 4 := by omega
              by_cases hix : i = ix r.j
              · have hb : (tabNo i == r.j) = true := by simpa using htx.2 hix
                have HIX := Lib.hid hix
                clear hix htx
                go_wp2_with fail
                go_quiet (fail)
                go_wp2_with fail
                refine ⟨⟨i + 1, by omega, by go_num, ?_, q + nq, rfl⟩, by simp [intOf]; omega⟩
                have hix := HIX.out
                unfold seen
                rw [if_pos (by omega), hix]
              · have hb : (tabNo i == r.j) = false := by simpa using fun hh => hix (htx.1 hh)
                clear htx
                go_wp2_with fail
                go_quiet (fail)
                go_wp2_with fail
                refine ⟨⟨i + 1, by omega, by go_num, ?_, q + nq, rfl⟩, by simp [intOf]; omega⟩
                congr 1
                unfold seen
                by_cases hh : ix r.j < i
                · rw [if_pos hh, if_pos (by omega)]
                · rw [if_neg hh, if_neg (by omega)]
            · go_wp2_with fail
              go_meet
              rw [← HW.out]
              refine ⟨?_, below_drewN (Below.refl _ _) _⟩
              have := ix_lt r.j
              unfold seen
              rw [if_pos (by omega)]
        case rest =>
          obtain ⟨rfl, hbx⟩ := hcut
          have hk4 := ix_lt r.j
          have hTc : TabAt w wc T := (HT.out.alloc _).keep hbx
          obtain ⟨d0, d1, d2, d3⟩ := box4 hbx
          have hsz := hbx.size
          rw [World.size_alloc] at hsz
          have hsz1 : wr.heap.size < wc.heap.size := by omega
          have hsz2 : w.heap.size + 1 < wc.heap.size := by omega
          have hsz3 : w.heap.size + 1 + 1 < wc.heap.size := by omega
          obtain ⟨ob, hob⟩ : ∃ ob, T.getD (ix r.j) none = ob := ⟨_, rfl⟩
          have ht := hTc.is hk4
          have j0 := hTc.job hk4 (f := 0) (by omega)
          have j1 := hTc.job hk4 (f := 1) (by omega)
          have j2 := hTc.job hk4 (f := 2) (by omega)
          have j3 := hTc.job hk4 (f := 3) (by omega)
          have j4 := hTc.job hk4 (f := 4) (by omega)
          have j5 := hTc.job hk4 (f := 5) (by omega)
          rw [hob] at ht j0 j1 j2 j3 j4 j5
          have z0 : wc.frozen? ⟨w.heap.size + 1, ix r.j, none⟩ = false := by simp [World.frozen?, hTc.there]
          have zj : ∀ q, wc.frozen? ⟨w.heap.size + 1 + 1, q, none⟩ = false := fun q => by simp [World.frozen?, hTc.jobs]
          have z1 := zj (ix r.j * 6)
          have z2 := zj (ix r.j * 6 + 1)
          have z3 := zj (ix r.j * 6 + 2)
          have z4 := zj (ix r.j * 6 + 3)
          have z5 := zj (ix r.j * 6 + 4)
          have z6 := zj (ix r.j * 6 + 5)
          have hTl2 := hTc.lt
          have hki : ((ix r.j : Nat) : Int) < 4 := by omega
          have hok := okRec_iff.1 HOK.out
          have HTC := Lib.hid hTc
          have HOB := Lib.hid hob
          have hgood : ∀ j' o, ob.isSome = true → jobStep ob r = .inr j' → ∃ T : Tab, ∃ k1 : Nat, k1 ≤ rs.length ∧ Value.int .i64 ((k : Int) + 1) = .int .i64 k1 ∧ Value.int .i64 0 = .int .i64 0 ∧ TabAt w ((put6 wc (w.heap.size + 1 + 1) (ix r.j * 6) j').alloc o) T ∧ TInv T ∧ repT T0 0 rs = repT T k1 (rs.drop k1) :=
            fun j' o ho hj => ⟨_, k + 1, by omega, by go_num, rfl, (hTc.put hk4 (by rw [hob]; exact ho) j').alloc o, HI.out.set (step_inv HOK.out (fun jb hjb => HI.out.get (hob.trans hjb)) hj), rep_ok HREP.out hlt HR.out (by rw [hob]; exact hj)⟩
          have hord : ∀ j' o, jobStep ob r = .inr j' → ∃ T : Tab, ∃ k1 : Nat, k1 ≤ rs.length ∧ Value.int .i64 ((k : Int) + 1) = .int .i64 k1 ∧ Value.int .i64 0 = .int .i64 0 ∧ TabAt w ((put6 (wc.setCell ⟨w.heap.size + 1, ix r.j, none⟩ (.bool true)) (w.heap.size + 1 + 1) (ix r.j * 6) j').alloc o) T ∧ TInv T ∧ repT T0 0 rs = repT T k1 (rs.drop k1) :=
            fun j' o hj => ⟨_, k + 1, by omega, by go_num, rfl, (hTc.order hk4 j' (Below.heap_setCell wc ⟨w.heap.size + 1, ix r.j, none⟩ _ _ (by show _ ≠ w.heap.size + 1; omega)) rfl (Below.heap_setCell wc ⟨w.heap.size + 1, ix r.j, none⟩ _ _ (by show _ ≠ w.heap.size + 1; omega)) (hTc.below.setCell (p := ⟨w.heap.size + 1, ix r.j, none⟩) (by show _ ≤ w.heap.size + 1; omega) _)).alloc o, HI.out.set (step_inv HOK.out (fun jb hjb => HI.out.get (hob.trans hjb)) hj), rep_ok HREP.out hlt HR.out (by rw [hob]; exact hj)⟩
          obtain ⟨kk, hkk⟩ : ∃ kk, ix r.j = kk := ⟨_, rfl⟩
          have HKK := Lib.hid hkk
          rw [hkk] at hgood hord ht j0 j1 j2 j3 j4 j5 z0 z1 z2 z3 z4 z5 z6 hki hk4 ⊢
          have HG := Lib.hid hgood
          have HO := Lib.hid hord
          clear hTc hob zj hkk c0 c1 c2 c3 hbx hgood hord
          cases ob with
          | none =>
            change wc.cell? _ = some (.bool false) at ht
            change wc.cell? ⟨_, kk * 6, none⟩ = some (.int .i64 0) at j0
            change wc.cell? _ = some (.int .i64 0) at j1
            change wc.cell? _ = some (.int .i64 0) at j2
            change wc.cell? _ = some (.int .i64 0) at j3
            change wc.cell? _ = some (.int .i64 0) at j4
            change wc.cell? _ = some (.bool false) at j5
            have herr : ∀ p, jobStep none r = .inl p → ∃ T : Tab, ∃ n : Nat, ∃ e : Int, Value.int .i64 k = .int .i64 n ∧ Value.int .i64 (errNo p) = .int .i64 e ∧ TabAt w (wc.alloc (.cells #[.int .i64 0, .int .i64 0, .int .i64 0, .int .i64 0, .int .i64 0, .bool false] 32)) T ∧ repT T0 0 rs = (T, n, e) :=
              fun p hp => ⟨T, k, errNo p, rfl, rfl, HTC.out.alloc _, rep_err HREP.out hlt HR.out (by rw [HOB.out]; exact hp)⟩
            have HERR := Lib.hid herr
            clear herr
            by_cases hk1 : r.k = 1
            · rw [hk1] at d1
              by_cases hv : r.v = 0
              · rw [hv] at d3
                have hs : jobStep none r = .inl 3 := by unfold jobStep; rw [if_pos hk1, if_pos hv]
                have HS := Lib.hid hs
                clear hs
                as_aux_lemma =>
                  go_wp2_with fail
                  go_meet
                  exact HERR.out 3 HS.out
              · have hs : jobStep none r = .inr ⟨r.j, r.v, 0, 0, 0, false⟩ := by unfold jobStep; rw [if_pos hk1]; dsimp only; rw [if_neg hv]
                have HS := Lib.hid hs
                have hvb : (r.v == 0) = false := by simpa using hv
                clear hs
                as_aux_lemma =>
                  go_wp2_with fail
                  exact ⟨HO.out ⟨r.j, r.v, 0, 0, 0, false⟩ _ HS.out, by simp [intOf]; omega⟩
            · have hkb : (r.k == 1) = false := by simpa using hk1
              have hkn : (r.k != 1) = true := by simpa using hk1
              have hs : jobStep none r = .inl 2 := by unfold jobStep; rw [if_neg hk1]
              have HS := Lib.hid hs
              clear hs
              as_aux_lemma =>
                go_wp2_with fail
                go_meet
                exact HERR.out 2 HS.out
          | some jb =>
            obtain ⟨J, C, P, F, U, D⟩ := jb
            change wc.cell? _ = some (.bool true) at ht
            change wc.cell? ⟨_, kk * 6, none⟩ = some (.int .i64 J) at j0
            change wc.cell? _ = some (.int .i64 C) at j1
            change wc.cell? _ = some (.int .i64 P) at j2
            change wc.cell? _ = some (.int .i64 F) at j3
            change wc.cell? _ = some (.int .i64 U) at j4
            change wc.cell? _ = some (.bool D) at j5
            have herr : ∀ p, jobStep (some ⟨J, C, P, F, U, D⟩) r = .inl p → ∃ T : Tab, ∃ n : Nat, ∃ e : Int, Value.int .i64 k = .int .i64 n ∧ Value.int .i64 (errNo p) = .int .i64 e ∧ TabAt w (wc.alloc (.cells #[.int .i64 J, .int .i64 C, .int .i64 P, .int .i64 F, .int .i64 U, .bool D] 32)) T ∧ repT T0 0 rs = (T, n, e) :=
              fun p hp => ⟨T, k, errNo p, rfl, rfl, HTC.out.alloc _, rep_err HREP.out hlt HR.out (by rw [HOB.out]; exact hp)⟩
            have HERR := Lib.hid herr
            clear herr
            obtain ⟨_, _, i1, i2, i3, i4⟩ := HI.out.get HOB.out
            dsimp only at i1 i2 i3 i4
            by_cases hk1 : r.k = 1
            · rw [hk1] at d1
              have hs : jobStep (some ⟨J, C, P, F, U, D⟩) r = .inl 1 := by unfold jobStep; rw [if_pos hk1]
              have HS := Lib.hid hs
              clear hs
              as_aux_lemma =>
                go_wp2_with fail
                go_meet
                exact HERR.out 1 HS.out
            have hst : jobStep (some ⟨J, C, P, F, U, D⟩) r = doS ⟨J, C, P, F, U, D⟩ r.k r.v := by unfold jobStep; rw [if_neg hk1]
            have HST := Lib.hid hst
            clear hst
            cases D with
            | true =>
              have hs : jobStep (some ⟨J, C, P, F, U, true⟩) r = .inl 3 := by
                rw [HST.out]; unfold doS; simp
              have hkb : (r.k == 1) = false := by simpa using hk1
              have hkn : (r.k != 1) = true := by simpa using hk1
              have HS := Lib.hid hs
              clear hs
              as_aux_lemma =>
                go_wp2_with fail
                go_meet
                exact HERR.out 3 HS.out
            | false =>
              have hk2 : r.k = 2 ∨ r.k = 3 ∨ r.k = 4 ∨ r.k = 5 ∨ r.k = 6 := by omega
              rcases hk2 with hk2 | hk2 | hk2 | hk2 | hk2
              · rw [hk2] at d1
                by_cases hc : P + r.v ≤ 1000000000
                · have hs : jobStep (some ⟨J, C, P, F, U, false⟩) r = .inr ⟨J, C, P + r.v, F, U, false⟩ := by rw [HST.out, hk2]; unfold doS; simp [hc]
                  have HS := Lib.hid hs
                  clear hs
                  as_aux_lemma =>
                    go_wp2_with fail
                    exact ⟨HG.out ⟨J, C, P + r.v, F, U, false⟩ _ rfl HS.out, by simp [intOf]; omega⟩
                · have hs : jobStep (some ⟨J, C, P, F, U, false⟩) r = .inl 4 := by rw [HST.out, hk2]; unfold doS; simp [hc]
                  have HS := Lib.hid hs
                  clear hs
                  as_aux_lemma =>
                    go_wp2_with fail
                    go_meet
                    exact HERR.out 4 HS.out
              · rw [hk2] at d1
                by_cases hc : r.v ≤ P - F
                · have hs : jobStep (some ⟨J, C, P, F, U, false⟩) r = .inr ⟨J, C, P - r.v, F, U, false⟩ := by rw [HST.out, hk2]; unfold doS; simp [hc]
                  have HS := Lib.hid hs
                  clear hs
                  as_aux_lemma =>
                    go_wp2_with fail
                    exact ⟨HG.out ⟨J, C, P - r.v, F, U, false⟩ _ rfl HS.out, by simp [intOf]; omega⟩
                · have hs : jobStep (some ⟨J, C, P, F, U, false⟩) r = .inl 3 := by rw [HST.out, hk2]; unfold doS; simp [hc]
                  have HS := Lib.hid hs
                  clear hs
                  as_aux_lemma =>
                    go_wp2_with fail
                    go_meet
                    exact HERR.out 3 HS.out
              · rw [hk2] at d1
                by_cases hc : r.v ≤ P - F
                · have hs : jobStep (some ⟨J, C, P, F, U, false⟩) r = .inr ⟨J, C, P, F + r.v, U, false⟩ := by rw [HST.out, hk2]; unfold doS; simp [hc]
                  have HS := Lib.hid hs
                  clear hs
                  as_aux_lemma =>
                    go_wp2_with fail
                    exact ⟨HG.out ⟨J, C, P, F + r.v, U, false⟩ _ rfl HS.out, by simp [intOf]; omega⟩
                · have hs : jobStep (some ⟨J, C, P, F, U, false⟩) r = .inl 3 := by rw [HST.out, hk2]; unfold doS; simp [hc]
                  have HS := Lib.hid hs
                  clear hs
                  as_aux_lemma =>
                    go_wp2_with fail
                    go_meet
                    exact HERR.out 3 HS.out
              · rw [hk2] at d1
                by_cases hc : r.v ≤ F - U
                · have hs : jobStep (some ⟨J, C, P, F, U, false⟩) r = .inr ⟨J, C, P, F, U + r.v, false⟩ := by rw [HST.out, hk2]; unfold doS; simp [hc]
                  have HS := Lib.hid hs
                  clear hs
                  as_aux_lemma =>
                    go_wp2_with fail
                    exact ⟨HG.out ⟨J, C, P, F, U + r.v, false⟩ _ rfl HS.out, by simp [intOf]; omega⟩
                · have hs : jobStep (some ⟨J, C, P, F, U, false⟩) r = .inl 3 := by rw [HST.out, hk2]; unfold doS; simp [hc]
                  have HS := Lib.hid hs
                  clear hs
                  as_aux_lemma =>
                    go_wp2_with fail
                    go_meet
                    exact HERR.out 3 HS.out
              · rw [hk2] at d1
                by_cases hc : C ≤ U
                · have hs : jobStep (some ⟨J, C, P, F, U, false⟩) r = .inr ⟨J, C, P, F, U, true⟩ := by rw [HST.out, hk2]; unfold doS; simp [hc]
                  have HS := Lib.hid hs
                  clear hs
                  as_aux_lemma =>
                    go_wp2_with fail
                    exact ⟨HG.out ⟨J, C, P, F, U, true⟩ _ rfl HS.out, by simp [intOf]; omega⟩
                · have hs : jobStep (some ⟨J, C, P, F, U, false⟩) r = .inl 3 := by rw [HST.out, hk2]; unfold doS; simp [hc]
                  have HS := Lib.hid hs
                  clear hs
                  as_aux_lemma =>
                    go_wp2_with fail
                    go_meet
                    exact HERR.out 3 HS.out
      · go_wp2_with fail
        go_meet
        exact ⟨T, k, 0, rfl, rfl, hT, rep_end hrep (by omega)⟩
  case rest =>
    obtain ⟨T, n, e, rfl, rfl, hT, hrep⟩ := hcut
    have HREP := Lib.hid hrep
    obtain ⟨i0, hi0, hz0, hz1, hz2⟩ := info_parts job_info
    clear h hf hrep
    go_wp2_with fail
    go_loopw [15, 16] (fun s15 s16 wr => ∃ i : Nat, i ≤ 4 ∧ s16 = .int .i64 i ∧ wr.ownsRow (w.heap.size + 3) 32 6 s15 (outT (T.take i)).length (jobsC (outT (T.take i))) ∧ TabAt w wr T) (fun _ s16 _ => 4 - (intOf s16).toNat)
    case atStart => exact ⟨0, by omega, rfl, by simpa [outT, jobsC] using World.ownsRow_nil _ _ _ _, hT⟩
    case round =>
      obtain ⟨i, hi, rfl, hown, hTr⟩ := hrel
      by_cases hi4 : i < 4
      · have hi4' : (i : Int) < 4 := by omega
        have hlen := hTr.len
        have ht := hTr.is hi4
        have j0 := hTr.job hi4 (f := 0) (by omega)
        have j1 := hTr.job hi4 (f := 1) (by omega)
        have j2 := hTr.job hi4 (f := 2) (by omega)
        have j3 := hTr.job hi4 (f := 3) (by omega)
        have j4 := hTr.job hi4 (f := 4) (by omega)
        have j5 := hTr.job hi4 (f := 5) (by omega)
        obtain ⟨ob, hob⟩ : ∃ ob, T.getD i none = ob := ⟨_, rfl⟩
        rw [hob] at ht j0 j1 j2 j3 j4 j5
        have hTl := hTr.lt
        have hstep : T.take (i + 1) = T.take i ++ [ob] := by
          rw [List.take_succ_eq_append_getElem (by omega), ← hob, List.getD_eq_getElem?_getD, List.getElem?_eq_getElem (by omega)]
          rfl
        have HST := Lib.hid hstep
        have HT := Lib.hid hTr
        have HO := Lib.hid hown
        have hol : (outT (T.take i)).length ≤ 4 := by
          unfold outT
          have := List.length_filterMap_le id (T.take i)
          rw [List.length_take] at this
          omega
        clear hT hob hstep hTr hown
        cases ob with
        | none =>
          change wr.cell? _ = some (.bool false) at ht
          go_wp2_with fail
          go_roundw
          case rel =>
            refine ⟨i + 1, by omega, by go_num, ?_, HT.out⟩
            rw [HST.out]
            simpa [outT] using HO.out
          case measure => simp [intOf]; omega
        | some jb =>
          obtain ⟨J, C, P, F, U, D⟩ := jb
          change wr.cell? _ = some (.bool true) at ht
          change wr.cell? ⟨_, i * 6, none⟩ = some (.int .i64 J) at j0
          change wr.cell? _ = some (.int .i64 C) at j1
          change wr.cell? _ = some (.int .i64 P) at j2
          change wr.cell? _ = some (.int .i64 F) at j3
          change wr.cell? _ = some (.int .i64 U) at j4
          change wr.cell? _ = some (.bool D) at j5
          obtain ⟨A1, c1, hv1, hc1, hm1⟩ := own_form HO.out
          subst hv1
          obtain ⟨N, hN⟩ : ∃ N, (outT (T.take i)).length = N := ⟨_, rfl⟩
          rw [hN] at hol hc1 HO ⊢
          have HN := Lib.hid hN
          clear hN
          go_wp2_with (at_builtin; refine wpList_append_own _ rfl _ _ 26 rfl (w.heap.size + 3) 32 i0 _ 6 48 Tryd.underlying26 hi0 hz0 hz1 hz2 rfl (by decide) _ _ _ rfl (by exact HO.out.alloc _) ⟨wr.heap.size, 0, none⟩ 1 1 (JobS.cells ⟨J, C, P, F, U, D⟩) rfl rfl (cells_new _ _ _) (by intro u hu; simp only [JobS.cells, List.mem_cons, List.not_mem_nil, or_false] at hu; rcases hu with h | h | h | h | h | h <;> subst h <;> rfl) (by simp [maxLen]; omega) (by omega) (by simp; omega) ?_)
          intro v' w1 hown' hgrow _
          have HO' := Lib.hid hown'
          clear hown'
          go_wp2_with fail
          go_roundw
          case rel =>
            refine ⟨i + 1, by omega, by go_num, ?_, (HT.out.alloc _).grown hgrow (fun q hq => by have := (HO.out.lt q hq).1; omega)⟩
            rw [HST.out]
            have e1 : outT (T.take i ++ [some ⟨J, C, P, F, U, D⟩]) = outT (T.take i) ++ [⟨J, C, P, F, U, D⟩] := by simp [outT]
            rw [e1, List.length_append, HN.out]
            have := HO'.out
            simpa [jobsC] using this
          case measure => simp [intOf]; omega
      · obtain rfl : i = 4 := by omega
        have hl := hTr.len
        have HO := Lib.hid hown
        clear hown
        go_wp2_with fail
        go_ret3
        unfold RepdRet
        rw [HREP.out]
        refine ⟨_, rfl, ?_, hTr.below⟩
        have := HO.out
        rw [List.take_of_length_le (by omega)] at this
        exact own_base this (by omega)
end Go.Proofs.YtdcgminjamofmaaDoor
