/- crimplaw42.JournalsApart returns true. -/
import Derived.Test.YtdcgminjamofmaaDoorOf
import Derived.Test.YtdcgminjamofmaaDoorPlain
namespace Go.Proofs.YtdcgminjamofmaaDoor
open Go.RowKit

theorem recOf_fit (now : Int) (x : RS) (hn : 0 ≤ now ∧ now ≤ 1000000) (hx : x.fit) : (recOf now x).fit ∧ (recOf now x).ok = true := by
  obtain ⟨⟨a1, a2⟩, ⟨a3, a4⟩, ⟨a5, a6⟩, _⟩ := hx
  have hj : 1 ≤ jobNo x.j ∧ jobNo x.j ≤ 65535 := by unfold jobNo; repeat' split <;> omega
  have hv : 0 ≤ (recOf now x).v ∧ (recOf now x).v ≤ 16777215 := by unfold recOf; dsimp only; repeat' split <;> omega
  refine ⟨⟨?_, ?_, ?_, ?_⟩, ?_⟩
  · show _ ≤ now ∧ now ≤ _; omega
  · show 0 ≤ 1 + x.k % 6 ∧ 1 + x.k % 6 ≤ _; omega
  · show _ ≤ jobNo x.j ∧ jobNo x.j ≤ _; omega
  · omega
  · refine okRec_iff.2 ⟨⟨by show 0 ≤ now; omega, by show now ≤ _; omega, by show 1 ≤ 1 + x.k % 6; omega, by show 1 + x.k % 6 ≤ 6; omega, hj.1, hj.2, hv.1, hv.2⟩, fun h => ?_⟩
    have h5 : x.k % 6 = 5 := by have : 1 + x.k % 6 = 6 := h; omega
    show (if x.k % 6 = 5 then 0 else _) = (0 : Int)
    rw [if_pos h5]
theorem ofL_all (now : Int) (l : List RS) (hn : 0 ≤ now) (hl : now + 49 * l.length ≤ 1000000) (hf : ∀ r ∈ l, r.fit) : ∀ r ∈ ofL now l, r.fit ∧ r.ok = true := by
  induction l generalizing now with
  | nil => intro r hr; cases hr
  | cons x l ih =>
    have hs := sq_bd x
    simp only [List.length_cons] at hl
    intro r hr
    simp only [ofL, List.mem_cons] at hr
    rcases hr with rfl | hr
    · exact recOf_fit _ x (by omega) (hf x (by simp))
    · exact ih (now + sq x) (by omega) (by omega) (fun q hq => hf q (by simp [hq])) r hr
theorem ofS_all (l : List RS) (hf : ∀ r ∈ l, r.fit) : ∀ r ∈ ofS l, r.fit ∧ r.ok = true := by
  have : (l.take 60).length ≤ 60 := by rw [List.length_take]; omega
  exact ofL_all 0 (l.take 60) (by omega) (by omega) (fun r hr => hf r (List.mem_of_mem_take hr))
theorem ofS_len (l : List RS) : (ofS l).length ≤ 60 := by unfold ofS; rw [ofL_len, List.length_take]; omega

theorem own_free {w : World} {base g n c sz : Nat} {e : TypeId} {xs : List Value} (h : w.ownsRow base e sz (.slice (some ⟨g, 0, none⟩) n c) n xs) : ∀ q, w.frozen? ⟨g, q, none⟩ = false := by
  intro q
  rcases h.2 with ⟨h0, _⟩ | ⟨g', cap, cur, hv, hbb, hgg, _⟩
  · simp at h0
  obtain ⟨rfl, rfl⟩ : g' = g ∧ cap = c := by simp at hv; exact ⟨hv.1.symm, hv.2.symm⟩
  simp [World.frozen?, hgg]

theorem rec_set4 (L : List Rec) (i : Nat) (hi : i < L.length) (b : Rec) :
    ((((recs L).set (i * 4) (.int .i64 b.t)).set (i * 4 + 1) (.int .u8 b.k)).set (i * 4 + 2) (.int .i64 b.j)).set (i * 4 + 3) (.int .i64 b.v) = recs (L.set i b) := by
  obtain ⟨a, ha⟩ : ∃ a, L[i] = a := ⟨_, rfl⟩
  have e0 := flat_set Rec.cells 4 rec_len L i 0 hi (by omega) ⟨b.t, a.k, a.j, a.v⟩ (.int .i64 b.t) (by rw [ha]; rfl)
  have e1 := flat_set Rec.cells 4 rec_len (L.set i ⟨b.t, a.k, a.j, a.v⟩) i 1 (by simpa using hi) (by omega) ⟨b.t, b.k, a.j, a.v⟩ (.int .u8 b.k) (by rw [List.getElem_set_self]; rfl)
  have e2 := flat_set Rec.cells 4 rec_len (L.set i ⟨b.t, b.k, a.j, a.v⟩) i 2 (by simpa using hi) (by omega) ⟨b.t, b.k, b.j, a.v⟩ (.int .i64 b.j) (by rw [List.getElem_set_self]; rfl)
  have e3 := flat_set Rec.cells 4 rec_len (L.set i ⟨b.t, b.k, b.j, a.v⟩) i 3 (by simpa using hi) (by omega) ⟨b.t, b.k, b.j, b.v⟩ (.int .i64 b.v) (by rw [List.getElem_set_self]; rfl)
  rw [List.set_set] at e1 e2 e3
  unfold recs
  rw [Nat.add_zero] at e0
  rw [← e0, ← e1, ← e2, ← e3]

theorem grown_tr {a b c : World} {r : Option Nat} (h : a.grownBy b r) (k : b.grownBy c r) : a.grownBy c r :=
  ⟨k.os.trans h.os, k.tape.trans h.tape, k.output.trans h.output, Nat.le_trans h.size k.size, fun i hi hne => (k.block i (Nat.lt_of_lt_of_le hi h.size) hne).trans (h.block i hi hne)⟩

theorem grown_refl (w : World) (r : Option Nat) : w.grownBy w r := ⟨rfl, rfl, rfl, Nat.le_refl _, fun _ _ _ => rfl⟩
theorem grown_drew {a b : World} {r : Option Nat} (h : a.grownBy b r) : a.grownBy b.drew r := ⟨h.os, h.tape, h.output, h.size, h.block⟩
theorem stored_tr {w0 w : World} {base g n cap sz : Nat} {e : TypeId} {xs : List Value} (h : w.ownsRow base e sz (.slice (some ⟨g, 0, none⟩) n cap) n xs) (hg : w0.grownBy w (some g)) (q : Nat) (u : Value) :
    (w.setCell ⟨g, q, none⟩ u).ownsRow base e sz (.slice (some ⟨g, 0, none⟩) n cap) n (xs.set q u) ∧ w0.grownBy (w.setCell ⟨g, q, none⟩ u) (some g) :=
  ⟨(h.stored q u).1, grown_tr hg (h.stored q u).2⟩
/-- Two neighbours of a row of records, exchanged. -/
theorem swap_own {w : World} {base g cap i : Nat} {L : List Rec} {a b : Rec} (hown : w.ownsRow base 37 4 (.slice (some ⟨g, 0, none⟩) L.length cap) L.length (recs L)) (hi : i + 1 < L.length) :
    (((((((((w.setCell ⟨g, i * 4, none⟩ (.int .i64 b.t)).setCell ⟨g, i * 4 + 1, none⟩ (.int .u8 b.k)).setCell ⟨g, i * 4 + 2, none⟩ (.int .i64 b.j)).setCell ⟨g, i * 4 + 3, none⟩ (.int .i64 b.v)).setCell ⟨g, (i + 1) * 4, none⟩ (.int .i64 a.t)).setCell ⟨g, (i + 1) * 4 + 1, none⟩ (.int .u8 a.k)).setCell ⟨g, (i + 1) * 4 + 2, none⟩ (.int .i64 a.j)).setCell ⟨g, (i + 1) * 4 + 3, none⟩ (.int .i64 a.v)).drew).ownsRow base 37 4 (.slice (some ⟨g, 0, none⟩) L.length cap) L.length (recs ((L.set i b).set (i + 1) a)) ∧
    w.grownBy (((((((((w.setCell ⟨g, i * 4, none⟩ (.int .i64 b.t)).setCell ⟨g, i * 4 + 1, none⟩ (.int .u8 b.k)).setCell ⟨g, i * 4 + 2, none⟩ (.int .i64 b.j)).setCell ⟨g, i * 4 + 3, none⟩ (.int .i64 b.v)).setCell ⟨g, (i + 1) * 4, none⟩ (.int .i64 a.t)).setCell ⟨g, (i + 1) * 4 + 1, none⟩ (.int .u8 a.k)).setCell ⟨g, (i + 1) * 4 + 2, none⟩ (.int .i64 a.j)).setCell ⟨g, (i + 1) * 4 + 3, none⟩ (.int .i64 a.v)).drew) (some g) := by
  have h1 := stored_tr hown (grown_refl w (some g)) (i * 4) (.int .i64 b.t)
  have h2 := stored_tr h1.1 h1.2 (i * 4 + 1) (.int .u8 b.k)
  have h3 := stored_tr h2.1 h2.2 (i * 4 + 2) (.int .i64 b.j)
  have h4 := stored_tr h3.1 h3.2 (i * 4 + 3) (.int .i64 b.v)
  have h5 := stored_tr h4.1 h4.2 ((i + 1) * 4) (.int .i64 a.t)
  have h6 := stored_tr h5.1 h5.2 ((i + 1) * 4 + 1) (.int .u8 a.k)
  have h7 := stored_tr h6.1 h6.2 ((i + 1) * 4 + 2) (.int .i64 a.j)
  have h8 := stored_tr h7.1 h7.2 ((i + 1) * 4 + 3) (.int .i64 a.v)
  clear h1 h2 h3 h4 h5 h6 h7
  rw [rec_set4 L i (by omega) b, rec_set4 (L.set i b) (i + 1) (by simpa using hi) a] at h8
  exact ⟨h8.1.drew, grown_drew h8.2⟩

theorem split_two {L : List Rec} {i : Nat} {a b : Rec} (hi : i + 1 < L.length) (ha : L[i] = a) (hb : L[i + 1] = b) :
    L = L.take i ++ a :: b :: L.drop (i + 2) ∧ (L.set i b).set (i + 1) a = L.take i ++ b :: a :: L.drop (i + 2) := by
  have e : L = L.take i ++ a :: b :: L.drop (i + 2) := by
    have h1 := List.drop_eq_getElem_cons (l := L) (i := i) (by omega)
    have h2 := List.drop_eq_getElem_cons (l := L) (i := i + 1) hi
    rw [ha] at h1
    rw [hb] at h2
    rw [← h2, ← h1, List.take_append_drop]
  refine ⟨e, ?_⟩
  have hl : (L.take i).length = i := by rw [List.length_take]; omega
  conv => lhs; rw [e]
  rw [List.set_append_right _ _ (by omega), hl, Nat.sub_self, List.set_cons_zero, List.set_append_right _ _ (by omega), hl, Nat.add_sub_cancel_left, List.set_cons_succ, List.set_cons_zero]

set_option maxHeartbeats 2000000 in
set_option maxRecDepth 100000 in
theorem apart_any (A : Option Addr) (l : List RS) (n c : Nat) (p : Int) (w : World) (s : Nat → Addr) (hS : Sent w s) (hn : n = l.length) (h : Rd w A 4 n (rss l)) (hf : ∀ r ∈ l, r.fit) (hl : n ≤ 9223372036854775807) (hp : 0 ≤ p ∧ p ≤ 255) :
    Calls Tryd.prog 4 #[.slice A n c, .int .u8 p] w (RetBelow (.bool true) w) := by
  have hall := ofS_all l hf
  have hlen := ofS_len l
  have hof := of_any A l n c w hn h hf hl
  obtain ⟨L, hL⟩ : ∃ L, ofS l = L := ⟨_, rfl⟩
  rw [hL] at hall hlen hof
  have HALL := Lib.hid hall
  have HOF := Lib.hid hof
  clear h hf hl hn hL hall hof
  go_enter Tryd.func4, Tryd.ntmps4
  go_wp2_with fail
  refine HOF.out.mono ?_
  rintro e w1 ⟨v, rfl, hown, hb1⟩
  clear HOF
  by_cases h2 : L.length < 2
  · obtain ⟨A1, c1, rfl, hn1, hm1⟩ := own_form hown
    have hS1 := hS.below hb1
    clear hown hm1 hn1
    go_wp2_with fail
    refine (lives_any _ s hS1).mono ?_
    rintro e w2 ⟨rfl, hb2⟩
    have hb3 : Below w.heap.size w w2 := hb1.trans (hb2.mono hb1.size)
    go_wp2_with fail
    go_ret
    exact ⟨rfl, hb3⟩
  · obtain ⟨g, cap, rfl, hg, hgl⟩ := hown.form (by omega)
    obtain ⟨i, hi⟩ : ∃ i : Nat, (p % ((L.length : Int) - 1)) = (i : Int) := ⟨(p % ((L.length : Int) - 1)).toNat, by have := Int.emod_nonneg p (show ((L.length : Int) - 1) ≠ 0 by omega); omega⟩
    have hil : i + 1 < L.length := by have := Int.emod_lt_of_pos p (show (0 : Int) < (L.length : Int) - 1 by omega); omega
    obtain ⟨_, _, hA, _, c0, c1, c2, c3⟩ := rd_rec (Rd.of_own hown) i (by omega)
    obtain ⟨rfl, rfl⟩ : g = _ ∧ 0 = _ := by simpa using hA
    obtain ⟨_, _, hA, _, d0, d1, d2, d3⟩ := rd_rec (Rd.of_own hown) (i + 1) hil
    obtain ⟨rfl, rfl⟩ : g = _ ∧ 0 = _ := by simpa using hA
    obtain ⟨a, ha⟩ : ∃ a, L[i] = a := ⟨_, rfl⟩
    obtain ⟨b, hb⟩ : ∃ b, L[i + 1] = b := ⟨_, rfl⟩
    simp only [ha, hb, Nat.zero_add] at c0 c1 c2 c3 d0 d1 d2 d3
    have hfz : ∀ q, w1.frozen? ⟨g, q, none⟩ = false := own_free hown
    have hfz0 := hfz ((i + 1) * 4)
    have HA := Lib.hid ha
    have HB := Lib.hid hb
    have HO := Lib.hid hown
    have HFZ := Lib.hid hfz
    clear ha hb hown hfz hA
    have hi1 : (0 : Int) ≤ (i : Int) + 1 := by omega
    have hi2 : (i : Int) + 1 < (L.length : Int) := by omega
    go_wp2_with fail
    rw [hi]
    have hst := HO.out.stored ((i + 1) * 4) (.int .i64 a.t)
    have hbelW : Below w.heap.size w (w1.setCell ⟨g, (i + 1) * 4, none⟩ (.int .i64 a.t)) := hb1.setCell (p := ⟨g, (i + 1) * 4, none⟩) hg _
    have hrs : (recs L).set ((i + 1) * 4) (.int .i64 a.t) = recs (L.set (i + 1) ⟨a.t, b.k, b.j, b.v⟩) :=
      (flat_set Rec.cells 4 rec_len L (i + 1) 0 hil (by omega) ⟨a.t, b.k, b.j, b.v⟩ (.int .i64 a.t) (by rw [HB.out]; rfl)).symm
    obtain ⟨W, hW⟩ : ∃ W, W = w1.setCell ⟨g, (i + 1) * 4, none⟩ (.int .i64 a.t) := ⟨_, rfl⟩
    rw [← hW] at hst hbelW ⊢
    rw [hrs] at hst
    obtain ⟨L1, hL1⟩ : ∃ L1, L1 = L.set (i + 1) ⟨a.t, b.k, b.j, b.v⟩ := ⟨_, rfl⟩
    have hl1 : L1.length = L.length := by rw [hL1, List.length_set]
    have hown1 : W.ownsRow w.heap.size 37 4 (.slice (some ⟨g, 0, none⟩) L1.length cap) L1.length (recs L1) := by rw [hl1, hL1]; exact hst.1
    have ha1 : L1[i]? = some a := by rw [hL1, List.getElem?_set_ne (by omega), List.getElem?_eq_getElem (by omega), HA.out]
    have hb1' : L1[i + 1]? = some ⟨a.t, b.k, b.j, b.v⟩ := by rw [hL1, List.getElem?_set_self hil]
    have hall1 : ∀ r ∈ L1, r.fit := by
      intro r hr
      rw [hL1] at hr
      have q1 := HALL.out a (by rw [← HA.out]; exact List.getElem_mem _)
      have q2 := HALL.out b (by rw [← HB.out]; exact List.getElem_mem _)
      rcases List.mem_or_eq_of_mem_set hr with hr | rfl
      · exact (HALL.out r hr).1
      · exact ⟨q1.1.1, q2.1.2⟩
    rw [← hl1]
    rw [← hl1] at hil hlen h2
    clear hL1 hl1 hrs hst hW c0 c1 c2 c3 d0 d1 d2 d3 hfz0 HA HB HO HFZ HALL hi1 hi2
    obtain ⟨b', hb'⟩ : ∃ b', b' = (⟨a.t, b.k, b.j, b.v⟩ : Rec) := ⟨_, rfl⟩
    rw [← hb'] at hb1'
    have htt : a.t = b'.t := by rw [hb']
    clear hb'
    have hia : L1[i] = a := (List.getElem?_eq_some_iff.1 ha1).2
    have hib : L1[i + 1] = b' := (List.getElem?_eq_some_iff.1 hb1').2
    obtain ⟨_, _, hA, _, c0, c1, c2, c3⟩ := rd_rec (Rd.of_own hown1) i (by omega)
    obtain ⟨rfl, rfl⟩ : g = _ ∧ 0 = _ := by simpa using hA
    obtain ⟨_, _, hA, _, d0, d1, d2, d3⟩ := rd_rec (Rd.of_own hown1) (i + 1) hil
    obtain ⟨rfl, rfl⟩ : g = _ ∧ 0 = _ := by simpa using hA
    simp only [hia, hib, Nat.zero_add] at c0 c1 c2 c3 d0 d1 d2 d3
    have hfz : ∀ q, W.frozen? ⟨g, q, none⟩ = false := own_free hown1
    have HO := Lib.hid hown1
    have HFZ := Lib.hid hfz
    have HIA := Lib.hid hia
    have HIB := Lib.hid hib
    have HTT := Lib.hid htt
    have HALL1 := Lib.hid hall1
    have HI := Lib.hid hi
    have hSW := Lib.hid (hS.below hbelW)
    have hWs := hbelW.size
    clear hown1 hfz hia hib hA htt hall1 ha1 hb1' hb1 hi
    have hi1 : (0 : Int) ≤ (i : Int) + 1 := by omega
    have hi2 : (i : Int) + 1 < (L1.length : Int) := by omega
    have hi3 : (i : Int) < (L1.length : Int) := by omega
    have hi4 : IntKind.i64.wrap ((i : Int) + 1) = (i : Int) + 1 := IntWalk.i64_in _ (by omega)
    have hi5 : ((i : Int) + 1).toNat = i + 1 := by omega
    by_cases hjj : a.j = b'.j
    · have hj1 : (a.j == b'.j) = true := by simpa using hjj
      have HJJ := Lib.hid hjj
      clear hjj
      go_quiet (fail)
      clear hi4 hi5
      go_wp2_with fail
      refine (lives_any _ s (hSW.out.below (below_drewN (Below.refl _ _) _))).mono ?_
      rintro e w2 ⟨rfl, hb2⟩
      have hb3 : Below w.heap.size w w2 := (below_drewN hbelW _).trans (hb2.mono hWs)
      go_wp2_with fail
      go_ret
      exact ⟨rfl, hb3⟩
    · have hj1 : (a.j == b'.j) = false := by simpa using hjj
      have HJJ := Lib.hid hjj
      clear hjj
      go_quiet (fail)
      clear hi4 hi5
      go_wp2_with fail
      refine (replay_any _ L1 L1.length cap _ s rfl (by exact Rd.of_own HO.out) HALL1.out (by omega) (by exact hSW.out.below (below_drewN (Below.refl _ _) _))).mono ?_
      rintro e w2 ⟨A2, cc2, rfl, hown2, hb2⟩
      obtain ⟨⟨la, na, ea⟩, hra⟩ : ∃ x, replay L1 = x := ⟨_, rfl⟩
      rw [hra] at hown2 ⊢
      dsimp only at hown2 ⊢
      have hb2' : Below W.heap.size W w2 := ⟨hb2.os, hb2.tape, hb2.output, hb2.size, hb2.block⟩
      have hown3 := own_keep HO.out (Nat.le_refl _) hb2'
      have hb3 : Below w.heap.size w w2 := hbelW.trans (hb2'.mono hWs)
      have hfz2 := own_free hown3
      have k0 := below_cell hb2' c0
      have k1 := below_cell hb2' c1
      have k2 := below_cell hb2' c2
      have k3 := below_cell hb2' c3
      have m0 := below_cell hb2' d0
      have m1 := below_cell hb2' d1
      have m2 := below_cell hb2' d2
      have m3 := below_cell hb2' d3
      have z0 := hfz2 (i * 4)
      have z1 := hfz2 (i * 4 + 1)
      have z2 := hfz2 (i * 4 + 2)
      have z3 := hfz2 (i * 4 + 3)
      have y0 := hfz2 ((i + 1) * 4)
      have y1 := hfz2 ((i + 1) * 4 + 1)
      have y2 := hfz2 ((i + 1) * 4 + 2)
      have y3 := hfz2 ((i + 1) * 4 + 3)
      have HO3 := Lib.hid hown3
      have HRA := Lib.hid hra
      have HO2 := Lib.hid hown2
      clear c0 c1 c2 c3 d0 d1 d2 d3 hown3 hfz2 hra hown2 hb2 hj1
      go_wp2_with fail
      have hi4 : IntKind.i64.wrap ((i : Int) + 1) = (i : Int) + 1 := IntWalk.i64_in _ (by omega)
      have hi5 : ((i : Int) + 1).toNat = i + 1 := by omega
      go_region
      clear hi4 hi5 k0 k1 k2 k3 m0 m1 m2 m3 z0 z1 z2 z3 y0 y1 y2 y3
      have hsw := swap_own (a := a) (b := b') HO3.out hil
      obtain ⟨W3, hW3⟩ : ∃ W3, W3 = (((((((((w2.setCell ⟨g, i * 4, none⟩ (.int .i64 b'.t)).setCell ⟨g, i * 4 + 1, none⟩ (.int .u8 b'.k)).setCell ⟨g, i * 4 + 2, none⟩ (.int .i64 b'.j)).setCell ⟨g, i * 4 + 3, none⟩ (.int .i64 b'.v)).setCell ⟨g, (i + 1) * 4, none⟩ (.int .i64 a.t)).setCell ⟨g, (i + 1) * 4 + 1, none⟩ (.int .u8 a.k)).setCell ⟨g, (i + 1) * 4 + 2, none⟩ (.int .i64 a.j)).setCell ⟨g, (i + 1) * 4 + 3, none⟩ (.int .i64 a.v)).drew) := ⟨_, rfl⟩
      rw [← hW3] at hsw ⊢
      clear hW3
      obtain ⟨hso, hsg⟩ := hsw
      obtain ⟨hsp, hsp2⟩ := split_two hil HIA.out HIB.out
      rw [hsp2] at hso
      have hl2 : (L1.take i ++ b' :: a :: L1.drop (i + 2)).length = L1.length := by rw [← hsp2]; simp
      have hgW : g < W.heap.size := (HO.out.lt g rfl).2
      have hb4 : Below w.heap.size w W3 := hb3.trans ⟨hsg.os, hsg.tape, hsg.output, hsg.size, fun q hq => hsg.block q (by have := hb3.size; omega) (fun e => by injection e; omega)⟩
      have hoa : W3.ownsRow W.heap.size 32 6 (.slice A2 la.length cc2) la.length (jobsC la) :=
        HO2.out.kept hsg (by
          rcases hq : (Value.slice A2 la.length cc2).ownBlock with _ | q
          · exact .inl rfl
          · refine .inr (fun e => ?_)
            injection e with e
            have := (HO2.out.lt q hq).1
            have h0 : (W.drewN nq).heap.size = W.heap.size := rfl
            omega)
      have hswap := replayS_swap [] 0 0 a b' (L1.take i) (L1.drop (i + 2)) (m := 0) ⟨.nil, by simp, by simp⟩ HJJ.out HTT.out
      dsimp only at hswap
      have hpl : (L1.take i).length = i := by rw [List.length_take]; omega
      rw [← hsp, hpl] at hswap
      change ((0 + i + 1 < (replay L1).2.1 ∨ 0 + i + 1 < (replay (L1.take i ++ b' :: a :: L1.drop (i + 2))).2.1 → replay L1 = replay (L1.take i ++ b' :: a :: L1.drop (i + 2))) ∧ ((replay L1).2.1 < 0 + i ↔ (replay (L1.take i ++ b' :: a :: L1.drop (i + 2))).2.1 < 0 + i)) at hswap
      obtain ⟨L2, hL2⟩ : ∃ L2, L2 = L1.take i ++ b' :: a :: L1.drop (i + 2) := ⟨_, rfl⟩
      rw [← hL2] at hswap hso hl2
      have hall2 : ∀ r ∈ L2, r.fit := by
        intro r hr
        refine HALL1.out r ?_
        rw [hsp]
        rw [hL2] at hr
        simp only [List.mem_append, List.mem_cons] at hr ⊢
        rcases hr with h | h | h | h
        · exact .inl h
        · exact .inr (.inr (.inl h))
        · exact .inr (.inl h)
        · exact .inr (.inr (.inr h))
      rw [HRA.out] at hswap
      have HSW := Lib.hid hswap
      have HSO := Lib.hid hso
      have HL2 := Lib.hid hl2
      have HALL2 := Lib.hid hall2
      have hSW3 := Lib.hid (hS.below hb4)
      have HOA := Lib.hid hoa
      have hnaL : na ≤ L1.length := by
        have h8 := (replayS_bd [] 0 0 L1).2
        have h9 : replay L1 = replayS [] 0 0 L1 := rfl
        rw [← h9, HRA.out] at h8
        dsimp only at h8
        omega
      clear hswap hso hl2 hall2 hoa hsp hsp2 hL2 hpl hsg HO2 HO3 HO
      go_wp2_with fail
      rw [← HL2.out]
      refine (replay_any _ L2 L2.length cap _ s rfl (by rw [HL2.out]; exact Rd.of_own HSO.out) HALL2.out (by rw [HL2.out]; omega) hSW3.out).mono ?_
      rintro e w4 ⟨A4, cc4, rfl, hown4, hb5⟩
      obtain ⟨⟨lb, nb, eb⟩, hrb⟩ : ∃ x, replay L2 = x := ⟨_, rfl⟩
      rw [hrb] at hown4 ⊢
      dsimp only at hown4 ⊢
      have hsw2 := HSW.out
      rw [hrb] at hsw2
      dsimp only at hsw2
      have hb6 : Below w.heap.size w w4 := hb4.trans (hb5.mono hb4.size)
      have hra4 := (Rd.of_own HOA.out).below hb5
      have hrb4 := Rd.of_own hown4
      have hSW4 := Lib.hid (hS.below hb6)
      have hnbL : nb ≤ L2.length := by
        have h8 := (replayS_bd [] 0 0 L2).2
        have h9 : replay L2 = replayS [] 0 0 L2 := rfl
        rw [← h9, hrb] at h8
        dsimp only at h8
        omega
      have HR4 := Lib.hid hra4
      have HRB4 := Lib.hid hrb4
      clear hown4 hra4 hrb4 hrb
      by_cases hbig : i + 1 < na ∨ i + 1 < nb
      · have he := hsw2.1 (by omega)
        simp only [Prod.mk.injEq] at he
        obtain ⟨rfl, rfl, rfl⟩ := he
        have hbig' : (i : Int) + 1 < (na : Int) := by omega
        clear hsw2 hbig
        go_wp2_with fail
        refine (jobs_same A2 A4 la la.length la.length _ rfl HR4.out HRB4.out ?_).mono ?_
        · have := (replay_inv L1).len
          rw [HRA.out] at this
          dsimp only at this
          omega
        rintro e w5 ⟨rfl, hb7⟩
        have hb8 : Below w.heap.size w w5 := hb6.trans (hb7.mono hb6.size)
        go_wp2_with fail
        refine (lives_any _ s (hSW4.out.below hb7)).mono ?_
        rintro e w6 ⟨rfl, hb9⟩
        have hb10 : Below w.heap.size w w6 := hb8.trans (hb9.mono hb8.size)
        go_wp2_with fail
        go_ret
        exact ⟨rfl, hb10⟩
      · have q1 : (na : Int) ≤ (i : Int) + 1 := by omega
        have q2 : (nb : Int) ≤ (i : Int) + 1 := by omega
        have q3 : (na : Int) < (i : Int) ↔ (nb : Int) < (i : Int) := by omega
        clear hsw2 hbig
        by_cases q4 : (na : Int) < (i : Int)
        · have q5 : (nb : Int) < (i : Int) := q3.1 q4
          clear q3
          go_wp2_with fail
          refine (lives_any _ s hSW4.out).mono ?_
          rintro e w6 ⟨rfl, hb9⟩
          have hb10 : Below w.heap.size w w6 := hb6.trans (hb9.mono hb6.size)
          go_wp2_with fail
          go_ret
          exact ⟨rfl, hb10⟩
        · have q5 : ¬ (nb : Int) < (i : Int) := fun h => q4 (q3.2 h)
          clear q3
          go_wp2_with fail
          refine (lives_any _ s hSW4.out).mono ?_
          rintro e w6 ⟨rfl, hb9⟩
          have hb10 : Below w.heap.size w w6 := hb6.trans (hb9.mono hb6.size)
          go_wp2_with fail
          go_ret
          exact ⟨rfl, hb10⟩
end Go.Proofs.YtdcgminjamofmaaDoor
