/- Contract of journals.Merge. -/
import Derived.Test.YtdcgminjamofmaaDoorStab
namespace Go.Proofs.YtdcgminjamofmaaDoor
open Go.RowKit

set_option maxHeartbeats 1000000 in
theorem stable_any (base g n cap cc : Nat) (D : List Rec) (w : World) (hn : n = D.length) (hl : n ≤ 100000000)
    (hown : w.ownsRow base 37 4 (.slice (some ⟨g, 0, none⟩) n cap) n (recs D)) :
    Calls Tryd.prog 39 #[.slice (some ⟨g, 0, none⟩) n cc, .func (.func 38) #[] #[]] w (SortRet base g n cap (srt Rec.t D) w) := by
  have H0 := Lib.hid (stableCmp_any base g n cap cc D w hn hl hown)
  clear hn hown
  go_enter Tryd.func39, Tryd.ntmps39
  go_wp2_with fail
  refine H0.out.mono ?_
  rintro e w2 ⟨rfl, hown2, hg2⟩
  have HO2 := Lib.hid hown2
  clear hown2
  go_wp2_with fail
  go_end0
  exact ⟨rfl, HO2.out, hg2⟩

/-- Whether the times do not descend. -/
def SortedRet (l : List Rec) (w : World) (e : Ending) (w' : World) : Prop :=
  ((AscT Rec.t l ∧ e = .returned (.bool true)) ∨ (¬ AscT Rec.t l ∧ e = .returned (.bool false))) ∧ Below w.heap.size w w'

theorem asc_drop {l : List Rec} {k : Nat} (hk : k + 1 < l.length) (h : AscT Rec.t (l.drop (k + 1))) (hle : l[k].t ≤ l[k + 1].t) : AscT Rec.t (l.drop k) := by
  rw [List.drop_eq_getElem_cons (show k < l.length by omega)]
  refine List.pairwise_cons.2 ⟨fun y hy => ?_, h⟩
  rw [List.drop_eq_getElem_cons hk] at h hy
  rcases List.mem_cons.1 hy with rfl | hy
  · exact hle
  · exact Int.le_trans hle ((List.pairwise_cons.1 h).1 y hy)

set_option maxHeartbeats 2000000 in
set_option maxRecDepth 100000 in
theorem sorted_any (A : Option Addr) (l : List Rec) (n c : Nat) (w : World) (hn : n = l.length) (h : Rd w A 4 n (recs l)) (hl : n ≤ 1000000000) :
    Calls Tryd.prog 37 #[.slice A n c, .func (.func 38) #[] #[]] w (SortedRet l w) := by
  have HN := Lib.hid hn
  have HR := Lib.hid h
  clear h
  go_enter Tryd.func37, Tryd.ntmps37
  by_cases h0 : n = 0
  · subst h0
    clear hn
    go_wp2_with fail
    refine wp_loop_rounds 1 ?_
    rw [rounds_succ]
    go_wp2_with fail
    go_ret
    refine ⟨.inl ⟨?_, rfl⟩, Below.refl _ _⟩
    have : l = [] := List.length_eq_zero_iff.1 HN.out.symm
    subst this
    exact List.Pairwise.nil
  · have hn1 : 1 ≤ n := by omega
    clear hn h0
    go_wp2_with fail
    go_loopw [5] (fun s5 wr => ∃ k : Nat, k + 1 ≤ n ∧ s5 = .int .i64 k ∧ AscT Rec.t (l.drop k) ∧ Below w.heap.size w wr) (fun s5 _ => (intOf s5).toNat)
    case atStart =>
      refine ⟨n - 1, by omega, by go_num, ?_, Below.refl _ _⟩
      have e : (l.drop (n - 1)).length = 1 := by rw [List.length_drop]; have := HN.out; omega
      obtain ⟨x, hx⟩ := List.length_eq_one_iff.1 e
      rw [hx]
      exact asc_one x
    case round =>
      obtain ⟨k, hk, rfl, hasc, hbr⟩ := hrel
      have HASC := Lib.hid hasc
      clear hasc
      by_cases hlt : 0 < k
      · obtain ⟨p, hp⟩ : ∃ p, k = p + 1 := ⟨k - 1, by omega⟩
        have hkl : k < l.length := by have := HN.out; omega
        have hpl : p < l.length := by omega
        have hrd := HR.out.below hbr
        have hlen := HN.out
        rw [hlen] at hrd
        obtain ⟨b, o, hA, hbl, c0, c1, c2, c3⟩ := rd_rec hrd k hkl
        obtain ⟨b', o', hA', _, d0, d1, d2, d3⟩ := rd_rec hrd p hpl
        obtain ⟨rfl, rfl⟩ : b = b' ∧ o = o' := by rw [hA] at hA'; simpa using hA'
        obtain ⟨x, hx⟩ : ∃ x, l[k] = x := ⟨_, rfl⟩
        obtain ⟨y, hy⟩ : ∃ y, l[p] = y := ⟨_, rfl⟩
        rw [hx] at c0 c1 c2 c3
        rw [hy] at d0 d1 d2 d3
        have HX := Lib.hid hx
        have HY := Lib.hid hy
        have HP := Lib.hid hp
        have e0 : (0 : Int) < (k : Int) := by omega
        have e1 : IntKind.i64.wrap ((k : Int) - 1) = (p : Int) := by rw [IntWalk.i64_in _ (by omega)]; omega
        have e2 : (k : Int) < (n : Int) := by omega
        have e3 : (p : Int) < (n : Int) := by omega
        have e4 : (0 : Int) ≤ (k : Int) := by omega
        have e5 : (0 : Int) ≤ (p : Int) := by omega
        clear hrd hlen hA' hx hy hp
        subst hA
        go_wp2_with fail
        go_still_tail 10, (by kernel_rfl)
        change wpList _ _ _ _ _ wr.drew
        go_wp2_with fail
        refine (early_any x y _).mono ?_
        rintro e w2 ⟨rfl, hb2⟩
        have hbr2 : Below w.heap.size w w2 := hbr.drew.trans (hb2.mono hbr.size)
        clear c0 c1 c2 c3 d0 d1 d2 d3 hb2
        by_cases hxy : x.t < y.t
        · rw [cmpI_lt hxy]
          have HXY := Lib.hid hxy
          clear hxy
          go_wp2_with fail
          go_ret
          refine ⟨.inr ⟨fun ha => ?_, rfl⟩, hbr2⟩
          have h3 := asc_get ha (i := p) (j := k) hpl hkl (by have := HP.out; omega)
          rw [HX.out, HY.out] at h3
          have := HXY.out
          omega
        · have hc : cmpI x.t y.t = 0 ∨ cmpI x.t y.t = 1 := by unfold cmpI; rw [if_neg hxy]; split <;> simp
          have hc0 : decide (cmpI x.t y.t < 0) = false := by rcases hc with hc | hc <;> rw [hc] <;> rfl
          have HXY := Lib.hid hxy
          clear hxy hc
          go_wp2_with fail
          go_roundw
          case rel =>
            refine ⟨p, by omega, rfl, ?_, hbr2⟩
            have hp := HP.out
            subst hp
            refine asc_drop hkl HASC.out ?_
            have := HXY.out
            rw [HX.out, HY.out]
            omega
          case measure => have := HP.out; simp [intOf]; omega
      · obtain rfl : k = 0 := by omega
        go_wp2_with fail
        go_ret
        refine ⟨.inl ⟨?_, rfl⟩, hbr⟩
        simpa using HASC.out

def MergeRet (a b : List Rec) (w : World) (e : Ending) (w' : World) : Prop :=
  Below w.heap.size w w' ∧
  (((a ++ b).all Rec.ok = false ∧ e = .returned (.tuple #[.slice none 0 0, .int .i64 1])) ∨
   ((a ++ b).all Rec.ok = true ∧ ¬ (AscT Rec.t a ∧ AscT Rec.t b) ∧ e = .returned (.tuple #[.slice none 0 0, .int .i64 6])) ∨
   ((a ++ b).all Rec.ok = true ∧ AscT Rec.t a ∧ AscT Rec.t b ∧ ∃ A, e = .returned (.tuple #[.slice A (a.length + b.length) (a.length + b.length), .int .i64 0]) ∧ Rd w' A 4 (a.length + b.length) (recs (mrg Rec.t a b))))

set_option maxHeartbeats 4000000 in
set_option maxRecDepth 100000 in
theorem merge_any (A B : Option Addr) (a b : List Rec) (na nb ca cb : Nat) (w : World) (hna : na = a.length) (hnb : nb = b.length) (hA : Rd w A 4 na (recs a)) (hB : Rd w B 4 nb (recs b)) (hAn : A = none → na = 0) (hBn : B = none → nb = 0) (ha : na ≤ 1000000) (hb : nb ≤ 1000000) (hf : ∀ r ∈ a ++ b, r.fit) :
    Calls Tryd.prog 22 #[.slice A na ca, .slice B nb cb] w (MergeRet a b w) := by
  have hcon := concat_recs w.heap.size 0 A B a b na nb ca cb 2 (w.alloc (.cells #[.slice A na ca, .slice B nb cb] 24)) (by simp) (by rw [cell_of_row _ _ _ _ _ _ (heap_alloc_new w _)]; rfl) (by rw [cell_of_row _ _ _ _ _ _ (heap_alloc_new w _)]; rfl) (hA.alloc _) (hB.alloc _) hAn hBn (by omega) (by omega)
  have HCON := Lib.hid hcon
  have HNA := Lib.hid hna
  have HNB := Lib.hid hnb
  have HA := Lib.hid hA
  have HB := Lib.hid hB
  have HF := Lib.hid hf
  clear hcon hna hnb hA hB hAn hBn hf
  go_enter Tryd.func22, Tryd.ntmps22
  go_wp2_with fail
  refine HCON.out.mono ?_
  rintro e w1 ⟨v, rfl, hown, hb1⟩
  have hbw1 : Below w.heap.size w w1 := ((Below.refl _ _).alloc (Nat.le_refl _) _).trans (hb1.mono (by simp))
  have hs1 := hb1.size
  simp only [World.size_alloc] at hs1
  obtain ⟨A1, c1, rfl, hn1, hm1⟩ := own_form hown
  obtain ⟨n, hn⟩ : ∃ n, n = na + nb := ⟨_, rfl⟩
  rw [← hn] at hown hn1 ⊢
  have HNN := Lib.hid hn
  have HO := Lib.hid hown
  clear hown hb1 HCON hn
  go_wp2_with fail
  refine (clip_recs A1 n c1 w1 hn1 hm1).mono ?_
  rintro e w2 ⟨rfl, rfl⟩
  clear hn1 hm1
  go_wp2_with fail
  refine (contains_bad A1 (a ++ b) n n w1 (by rw [List.length_append, HNN.out, HNA.out, HNB.out]) (Rd.of_own HO.out) HF.out (by have := HNN.out; omega)).mono ?_
  rintro e w2 ⟨rfl, hb2⟩
  have hbw2 : Below w.heap.size w w2 := hbw1.trans (hb2.mono hbw1.size)
  have HO2 := Lib.hid (own_keep HO.out (Nat.le_refl _) hb2)
  have HSA := Lib.hid (sorted_any A a na ca w2 HNA.out (HA.out.below hbw2) (by omega))
  cases hall : (a ++ b).all Rec.ok
  · have HALL := Lib.hid hall
    clear hall HSA
    go_wp2_with fail
    go_ret2
    exact ⟨hbw2, .inl ⟨HALL.out, rfl⟩⟩
  · have HALL := Lib.hid hall
    clear hall hb2
    go_wp2_with fail
    refine HSA.out.mono ?_
    rintro e w3 ⟨hs, hb3⟩
    have hbw3 : Below w.heap.size w w3 := hbw2.trans (hb3.mono hbw2.size)
    have HO3 := Lib.hid (own_keep HO2.out (Nat.le_refl _) hb3)
    have HSB := Lib.hid (sorted_any B b nb cb w3 HNB.out (HB.out.below hbw3) (by omega))
    clear HSA HO2 HO hb3
    rcases hs with ⟨hsa, rfl⟩ | ⟨hsa, rfl⟩
    · have HA1 := Lib.hid hsa
      clear hsa
      go_wp2_with fail
      refine HSB.out.mono ?_
      rintro e w4 ⟨hs, hb4⟩
      have hbw4 : Below w.heap.size w w4 := hbw3.trans (hb4.mono hbw3.size)
      have HO4 := Lib.hid (own_keep HO3.out (Nat.le_refl _) hb4)
      clear HSB HO3 hb4
      rcases hs with ⟨hsb, rfl⟩ | ⟨hsb, rfl⟩
      · have HB1 := Lib.hid hsb
        clear hsb
        have hnl : n = (a ++ b).length := by rw [List.length_append, HNN.out, HNA.out, HNB.out]
        have hnl2 : n = a.length + b.length := by rw [HNN.out, HNA.out, HNB.out]
        have HNL2 := Lib.hid hnl2
        rcases HO4.out.2 with ⟨hv, h0⟩ | ⟨g, cap, cur, hv, hg, _⟩
        · obtain rfl : A1 = none := by injection hv
          have hab : a ++ b = [] := List.length_eq_zero_iff.1 (by omega)
          subst h0
          have HAB := Lib.hid hab
          clear hab hnl hnl2 hv
          go_wp2_with fail
          refine (stable_zero none 0 (.func (.func 38) #[] #[]) w4).mono ?_
          rintro e w5 ⟨rfl, rfl⟩
          go_wp2_with fail
          go_ret2
          refine ⟨hbw4, .inr (.inr ⟨HALL.out, HA1.out, HB1.out, none, ?_, ?_⟩)⟩
          · rw [← HNL2.out]; rfl
          · have hab := HAB.out
            obtain ⟨rfl, rfl⟩ := List.append_eq_nil_iff.1 hab
            have e : mrg Rec.t ([] : List Rec) [] = [] := nil_mrg _
            rw [e]
            exact Rd.nil
        · obtain ⟨rfl, rfl⟩ : A1 = some ⟨g, 0, none⟩ ∧ c1 = cap := by simpa using hv
          have hst := stable_any (w.alloc (.cells #[.slice A na ca, .slice B nb cb] 24)).heap.size g n c1 n (a ++ b) w4 hnl (by have := HNN.out; omega) HO4.out
          rw [srt_two HA1.out HB1.out] at hst
          have HST := Lib.hid hst
          have hgw : w.heap.size ≤ g := by simp at hg; omega
          clear hst hnl hnl2 hv HO4
          go_wp2_with fail
          refine HST.out.mono ?_
          rintro e w5 ⟨rfl, hown5, hg5⟩
          have HO5 := Lib.hid hown5
          have hbw5 : Below w.heap.size w w5 := hbw4.grown hg5 hbw4.size (fun q hq => by injection hq with hq; omega)
          clear hown5 hg5
          go_wp2_with fail
          go_ret2
          refine ⟨hbw5, .inr (.inr ⟨HALL.out, HA1.out, HB1.out, some ⟨g, 0, none⟩, ?_, ?_⟩)⟩
          · rw [← HNL2.out]; rfl
          · rw [← HNL2.out]
            exact Rd.of_own HO5.out
      · have HB1 := Lib.hid hsb
        clear hsb
        go_wp2_with fail
        go_ret2
        exact ⟨hbw4, .inr (.inl ⟨HALL.out, fun h => HB1.out h.2, rfl⟩)⟩
    · have HA1 := Lib.hid hsa
      clear hsa HSB
      go_wp2_with fail
      go_ret2
      exact ⟨hbw3, .inr (.inl ⟨HALL.out, fun h => HA1.out h.1, rfl⟩)⟩
end Go.Proofs.YtdcgminjamofmaaDoor
