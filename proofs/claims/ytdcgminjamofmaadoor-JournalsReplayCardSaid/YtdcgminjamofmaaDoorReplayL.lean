/- crimplaw42.JournalsReplay returns true. -/
import Derived.Test.YtdcgminjamofmaaDoorRepd
import Derived.Test.YtdcgminjamofmaaDoorDinv
namespace Go.Proofs.YtdcgminjamofmaaDoor
open Go.RowKit

theorem recs_take (L : List Rec) (m : Nat) : (recs L).take (m * 4) = recs (L.take m) := by
  unfold recs
  rw [flat_take _ 4 rec_len]

set_option maxHeartbeats 4000000 in
set_option maxRecDepth 100000 in
theorem replaylaw_any (A : Option Addr) (l : List RS) (n c : Nat) (p : Int) (w : World) (s : Nat → Addr) (hS : Sent w s) (hn : n = l.length) (h : Rd w A 4 n (rss l)) (hf : ∀ r ∈ l, r.fit) (hl : n ≤ 9223372036854775807) (hp : 0 ≤ p ∧ p ≤ 255) :
    Calls Tryd.prog 3 #[.slice A n c, .int .u8 p] w (RetBelow (.bool true) w) := by
  have hall := ofS_all l hf
  have hin : ∀ r ∈ ofS l, inTab r.j := ofL_in _ _
  have hlen := ofS_len l
  have hof := of_any A l n c w hn h hf hl
  have htab := replay_tab l hf
  obtain ⟨L, hL⟩ : ∃ L, ofS l = L := ⟨_, rfl⟩
  rw [hL] at hall hlen hof hin htab
  have HALL := Lib.hid hall
  have HIN := Lib.hid hin
  have HOF := Lib.hid hof
  have HTAB := Lib.hid htab
  clear h hf hl hn hL hall hof hin htab
  go_enter Tryd.func3, Tryd.ntmps3
  go_wp2_with fail
  refine HOF.out.mono ?_
  rintro e w1 ⟨v, rfl, hown, hb1⟩
  clear HOF
  obtain ⟨A1, c1, rfl, hn1, hm1⟩ := own_form hown
  have HO1 := Lib.hid hown
  clear hown
  have hS1 := hS.below hb1
  go_wp2_with fail
  refine (replay_any A1 L L.length c1 w1 s rfl (Rd.of_own HO1.out) (fun r hr => (HALL.out r hr).1) (by omega) hS1).mono ?_
  rintro e w2 ⟨A2, c2, rfl, hown2, hb2⟩
  have hbw2 : Below w.heap.size w w2 := hb1.trans (hb2.mono hb1.size)
  have hinv := replay_inv L
  have hdin := replay_dinv L
  have hbd := replayS_bd [] 0 0 L
  have herr := replayS_err [] 0 0 L
  have htk := replayS_take [] 0 0 L
  change 0 ≤ (replay L).2.1 ∧ (replay L).2.1 ≤ _ at hbd
  change (replay L).2.2 = 0 ↔ (replay L).2.1 = _ at herr
  change ∀ m, _ → (0 + m ≤ (replay L).2.1 → (replay (L.take m)).2 = (0 + m, 0)) ∧ ((replay L).2.1 < 0 + m → replay (L.take m) = replay L) at htk
  obtain ⟨⟨la, na, ea⟩, hra⟩ : ∃ x, replay L = x := ⟨_, rfl⟩
  rw [hra] at hown2 hinv hdin hbd herr htk HTAB ⊢
  dsimp only at hown2 hinv hdin hbd herr htk ⊢
  have HR2 := Lib.hid (Rd.of_own hown2)
  have HRL := Lib.hid ((Rd.of_own HO1.out).below hb2)
  have HRA := Lib.hid hra
  have HINV := Lib.hid hinv
  have HDIN := Lib.hid hdin
  have HTK := Lib.hid htk
  have hla : la.length ≤ 60 := by have := hinv.len; omega
  clear hown2 hinv hdin htk hra herr
  go_wp2_with fail
  refine (repd_any A1 L L.length c1 w2 rfl HRL.out (fun r hr => ⟨(HALL.out r hr).2, HIN.out r hr⟩) (by omega)).mono ?_
  rintro e w3 ⟨v3, rfl, hown3, hb3⟩
  obtain ⟨⟨T, nb, eb⟩, hrt⟩ : ∃ x, repT T0 0 L = x := ⟨_, rfl⟩
  have ht := HTAB.out
  rw [hrt] at ht hown3 ⊢
  dsimp only at ht hown3 ⊢
  simp only [Prod.mk.injEq] at ht
  obtain ⟨rfl, rfl, rfl⟩ := ht
  obtain ⟨A3, c3, rfl, hn3, hm3⟩ := own_form hown3
  have hbw3 : Below w.heap.size w w3 := hbw2.trans (hb3.mono hbw2.size)
  have HR3 := Lib.hid (Rd.of_own hown3)
  have HR2' := Lib.hid (HR2.out.below hb3)
  have HRL' := Lib.hid (HRL.out.below hb3)
  obtain ⟨la, hlaa⟩ : ∃ la, outT T = la := ⟨_, rfl⟩
  rw [hlaa] at hla HINV HDIN HR3 HR2' hn3 HRA HTK ⊢
  clear hown3 hrt HTAB HR2 HRL hlaa
  go_wp2_with fail
  refine (jobs_same A2 A3 la la.length c3 w3 rfl HR2'.out HR3.out (by omega)).mono ?_
  rintro e w4 ⟨rfl, hb4⟩
  have hbw4 : Below w.heap.size w w4 := hbw3.trans (hb4.mono hbw3.size)
  have HR4 := Lib.hid (HR2'.out.below hb4)
  have HRL4 := Lib.hid (HRL'.out.below hb4)
  clear HR2' HR3 HRL'
  go_wp2_with fail
  go_loopw [12] (fun s12 wr => ∃ k : Nat, k ≤ la.length ∧ s12 = .int .i64 k ∧ Below w4.heap.size w4 wr) (fun s12 _ => la.length - (intOf s12).toNat)
  case atStart => exact ⟨0, by omega, rfl, Below.refl _ _⟩
  case round =>
    obtain ⟨k, hk, rfl, hbr⟩ := hrel
    by_cases hlt : k < la.length
    · obtain ⟨b, o, rfl, hbl, c0, c1', c2', c3', c4, c5⟩ := rd_job (HR4.out.below hbr) k hlt
      have hji := HINV.out.inv la[k] (List.getElem_mem _)
      have hjd := HDIN.out la[k] (List.getElem_mem _)
      obtain ⟨⟨J, C, P, F, U, D⟩, hj⟩ : ∃ j, la[k] = j := ⟨_, rfl⟩
      rw [hj] at c0 c1' c2' c3' c4 c5 hji hjd
      dsimp only at c0 c1' c2' c3' c4 c5
      obtain ⟨_, _, i1, i2, i3, i4⟩ := hji
      dsimp only at i1 i2 i3 i4
      unfold JobS.dinv at hjd
      dsimp only at hjd
      have hki : (k : Int) < (la.length : Int) := by omega
      clear hj
      cases D with
      | false =>
        clear hjd
        go_wp2_with fail
        go_roundw
        case rel => exact ⟨k + 1, by omega, by go_num, hbr.alloc hbr.size _⟩
        case measure => simp [intOf]; omega
      | true =>
        have hcu : ¬ U < C := by have := hjd rfl; omega
        clear hjd
        go_wp2_with fail
        go_roundw
        case rel => exact ⟨k + 1, by omega, by go_num, hbr.alloc hbr.size _⟩
        case measure => simp [intOf]; omega
    · have hki : ¬ (k : Int) < (la.length : Int) := by omega
      have hbwr : Below w.heap.size w wr := hbw4.trans (hbr.mono hbw4.size)
      have HRLr := Lib.hid (HRL4.out.below hbr)
      obtain ⟨m, hm⟩ : ∃ m : Nat, (p % ((L.length : Int) + 1)) = (m : Int) := ⟨(p % ((L.length : Int) + 1)).toNat, by have := Int.emod_nonneg p (show (L.length : Int) + 1 ≠ 0 by omega); omega⟩
      have hml : m ≤ L.length := by have := Int.emod_lt_of_pos p (show (0 : Int) < (L.length : Int) + 1 by omega); omega
      have htk := HTK.out m hml
      have hmc : (m : Int) ≤ (c1 : Int) := by omega
      have hrm := HRLr.out.take (k := m) hml
      rw [recs_take] at hrm
      have HRM := Lib.hid hrm
      have HM := Lib.hid hm
      have hSr := hS.below hbwr
      clear hrm htk
      go_wp2_with fail
      refine (replay_any A1 (L.take m) m c1 wr s (by rw [List.length_take]; omega) HRM.out (fun r hr => (HALL.out r (List.mem_of_mem_take hr)).1) (by omega) hSr).mono ?_
      rintro e w5 ⟨A5, c5', rfl, _, hb5⟩
      have hbw5 : Below w.heap.size w w5 := hbwr.trans (hb5.mono hbwr.size)
      have htk := HTK.out m hml
      obtain ⟨⟨lb, nb, eb⟩, hrb⟩ : ∃ x, replay (L.take m) = x := ⟨_, rfl⟩
      rw [hrb] at htk ⊢
      dsimp only at htk ⊢
      have hS5 := hS.below hbw5
      clear hrb hSr
      by_cases hmn : m ≤ na
      · have he := htk.1 (by omega)
        simp only [Prod.mk.injEq, Nat.zero_add] at he
        obtain ⟨rfl, rfl⟩ := he
        have hmi : (nb : Int) ≤ (na : Int) := by omega
        clear htk
        go_wp2_with fail
        refine (lives_any _ s hS5).mono ?_
        rintro e w6 ⟨rfl, hb6⟩
        have hbw6 : Below w.heap.size w w6 := hbw5.trans (hb6.mono hbw5.size)
        go_wp2_with fail
        go_ret
        exact ⟨rfl, hbw6⟩
      · have he := htk.2 (by omega)
        simp only [Prod.mk.injEq] at he
        obtain ⟨rfl, rfl, rfl⟩ := he
        have hmi : ¬ (m : Int) ≤ (nb : Int) := by omega
        clear htk
        go_wp2_with fail
        refine (lives_any _ s hS5).mono ?_
        rintro e w6 ⟨rfl, hb6⟩
        have hbw6 : Below w.heap.size w w6 := hbw5.trans (hb6.mono hbw5.size)
        go_wp2_with fail
        go_ret
        exact ⟨rfl, hbw6⟩
end Go.Proofs.YtdcgminjamofmaaDoor
