/- crimplaw42.JournalsScan returns true. -/
import Derived.Test.YtdcgminjamofmaaDoorNone
import Derived.Test.YtdcgminjamofmaaDoorScanP
namespace Go.Proofs.YtdcgminjamofmaaDoor
open Go.RowKit

set_option maxHeartbeats 4000000 in
set_option maxRecDepth 100000 in
theorem scanlaw_any (A : Option Addr) (bs : List Int) (n c : Nat) (rt : Bool) (w : World) (s : Nat → Addr) (hS : Sent w s) (hn : n = bs.length) (h : Rd w A 1 n (bts bs)) (hb : ∀ x ∈ bs, 0 ≤ x ∧ x ≤ 255) (hl : n ≤ 9223372036854775807) (hA : A = none → n = 0) :
    Calls Tryd.prog 6 #[.slice A n c, .bool rt] w (RetBelow (.bool true) w) := by
  subst hn
  obtain ⟨i0, hi0, hz0, hz1, hz2⟩ := info_parts byte_info
  go_enter Tryd.func6, Tryd.ntmps6
  by_cases h100 : 100 < bs.length
  · go_wp2_with fail
    refine (lives_any _ s hS).mono ?_
    rintro e w4 ⟨rfl, hb4⟩
    go_wp2_with fail
    go_ret
    exact ⟨rfl, hb4⟩
  · go_upto_region 3 with fail
    go_cut [5] from 21 to 23 (fun s5 wx => wx.ownsRow w.heap.size 5 1 s5 bs.length (bts bs) ∧ Below w.heap.size w wx)
    case first =>
      cases A with
      | none =>
        have HN := Lib.hid (hA rfl)
        clear hA h
        go_wp2_with (at_builtin; refine wpList_append_none rfl _ _ 39 rfl 5 i0 Tryd.underlying39 hi0 ⟨w.heap.size, 0, none⟩ 0 0 _ _ rfl rfl (Nat.le_refl _) HN.out ?_)
        go_wp2_with fail
        go_meet
        have hbs : bs = [] := List.length_eq_zero_iff.1 HN.out
        rw [hbs]
        exact ⟨own_new _ 1 0 [] (Nat.le_refl _) (by simp [maxLen]) rfl rfl, (Below.refl _ _).alloc (Nat.le_refl _) _⟩
      | some a =>
        have HH := Lib.hid h
        clear h
        have hbl : (bts bs).length = bs.length * 1 := by rw [bts_len]; omega
        have HBL := Lib.hid hbl
        clear hbl
        go_wp2_with (at_builtin; refine wpList_append_own _ rfl _ _ 39 rfl w.heap.size 5 i0 (.int .u8 0) 1 1 Tryd.underlying39 hi0 hz0 hz1 hz2 rfl (by decide) (.slice (some ⟨w.heap.size, 0, none⟩) 0 0) 0 [] rfl (own_new _ 1 0 [] (Nat.le_refl _) (by simp [maxLen]) rfl rfl) a bs.length c (bts bs) rfl HBL.out (HH.out.alloc _).all (bts_one _) (by simp [maxLen]; omega) (by omega) (by simp) ?_)
        intro v' w1 hown1 hg1 _
        have HO1 := Lib.hid hown1
        clear hown1
        go_wp2_with fail
        go_meet
        refine ⟨?_, ((Below.refl _ _).alloc (Nat.le_refl _) _).grown hg1 (by simp) (by simp [Value.ownBlock])⟩
        exact HO1.out
    case rest =>
      obtain ⟨hown, hb1⟩ := hcut
      obtain ⟨A5, c5, rfl, hn5, hm5⟩ := own_form hown
      have HO := Lib.hid hown
      clear hown h hA
      unfold maxLen at hm5
      go_upto_block 0 with fail
      go_cut [6, 7] from 24 to 53 (fun _ _ wx => ∃ E : List Int, wx.ownsRow w.heap.size 5 1 (.slice A5 bs.length c5) bs.length (bts E) ∧ E.length = bs.length ∧ (∀ x ∈ E, 0 ≤ x ∧ x ≤ 255) ∧ Below w.heap.size w wx)
      case first =>
        go_wp2_with fail
        go_loopw [6, 7] (fun s6 _ wr => ∃ k : Nat, s6 = .int .i64 (12 * (k : Int)) ∧ 12 * k ≤ bs.length ∧ ∃ E : List Int, wr.ownsRow w.heap.size 5 1 (.slice A5 bs.length c5) bs.length (bts E) ∧ E.length = bs.length ∧ (∀ x ∈ E, 0 ≤ x ∧ x ≤ 255) ∧ Below w.heap.size w wr) (fun s6 _ _ => bs.length - (intOf s6).toNat)
        case atStart => exact ⟨0, rfl, by omega, bs, HO.out, rfl, hb, hb1⟩
        case round =>
          obtain ⟨k, rfl, hk, E, hownE, hEl, hEb, hbE⟩ := hrel
          cases rt with
          | false =>
            have HOE := Lib.hid hownE
            have HEL := Lib.hid hEl
            clear hownE hEl
            go_wp2_with fail
            go_meet
            exact ⟨E, HOE.out, HEL.out, hEb, hbE⟩
          | true =>
            by_cases hk12 : 12 * k + 12 ≤ bs.length
            · obtain ⟨g, cap, hvv, hg, hgl⟩ := hownE.form (by omega)
              cases hvv
              have hr := Rd.of_own hownE
              have hsub := hr.sub (12 * k) 10 (by omega)
              have hsb := mem_sub hEb (12 * k) 10
              change Rd wr _ 1 10 (bts (sub E (12 * k) 10)) at hsub
              rw [Nat.zero_add] at hsub
              change ∀ x ∈ sub E (12 * k) 10, _ at hsb
              have hsl : (sub E (12 * k) 10).length = 10 := by simp [sub]; omega
              have hjb := jsum_bd (sub E (12 * k) 10)
              obtain ⟨J, hJ⟩ : ∃ J, jsum (sub E (12 * k) 10) = J := ⟨_, rfl⟩
              rw [hJ] at hjb
              have hrow : ∃ cs, wr.heap[g]? = some (.cells cs 5 (0, 0)) ∧ bs.length ≤ cs.size := by
                rcases hownE.2 with ⟨hh, _⟩ | ⟨g', cap', cur, hh, _, hgg, hnc, _, hcs, _⟩
                · cases hh
                · cases hh; exact ⟨cur, hgg, by omega⟩
              obtain ⟨cs, hcs, hcsl⟩ := hrow
              have hcell : ∀ q, q < bs.length → ∃ u, wr.cell? ⟨g, q, none⟩ = some u := fun q hq => ⟨cs[q]'(by omega), by rw [cell_of_row _ _ q _ _ _ hcs, Array.getElem?_eq_getElem (by omega)]⟩
              obtain ⟨v10, hv10⟩ := hcell (12 * k + 10) (by omega)
              obtain ⟨v11, hv11⟩ := hcell (12 * k + 11) (by omega)
              have hfz := own_free hownE
              have hz1 := hfz (12 * k + 10)
              have hz2 := hfz (12 * k + 11)
              have HOE := Lib.hid hownE
              have HEL := Lib.hid hEl
              have HSUB := Lib.hid hsub
              have HSB := Lib.hid hsb
              have HJ := Lib.hid hJ
              have hkk : 12 * (k : Int) + 12 ≤ (bs.length : Int) := by omega
              have hk1 : 12 * (k : Int) ≤ 12 * (k : Int) + 10 := by omega
              have hk2 : 12 * (k : Int) + 10 ≤ (c5 : Int) := by omega
              have hm1 : 0 ≤ 12 * (k : Int) + 10 := by omega
              have hm2 : 12 * (k : Int) + 10 < (bs.length : Int) := by omega
              have hm3 : 0 ≤ 12 * (k : Int) + 11 := by omega
              have hm4 : 12 * (k : Int) + 11 < (bs.length : Int) := by omega
              have hm5 : (12 * (k : Int) + 10).toNat = 12 * k + 10 := by omega
              have hm6 : (12 * (k : Int) + 11).toNat = 12 * k + 11 := by omega
              clear hownE hEl hsub hsb hJ hr hfz hcell
              go_wp2_with fail
              refine (lawsum_any (some ⟨g, 12 * k, none⟩) (sub E (12 * k) 10) 10 (c5 - 12 * k) wr hsl.symm HSUB.out HSB.out (by omega)).mono ?_
              rintro e w2 ⟨rfl, rfl⟩
              rw [HJ.out]
              have hj1 : IntKind.u8.wrap (J / 256) = J / 256 := IntWalk.u8_in _ (by omega)
              have hj2 : IntKind.u8.wrap (J % 256) = J % 256 := IntWalk.u8_in _ (by omega)
              go_wp2_with fail
              go_roundw
              case rel =>
                have h1 := (HOE.out.stored (12 * k + 10) (.int .u8 (J / 256))).1
                rw [bts_set] at h1
                have h2 := (h1.stored (12 * k + 11) (.int .u8 (J % 256))).1
                rw [bts_set] at h2
                exact ⟨k + 1, val_int (by omega), by omega, _, h2, by rw [List.length_set, List.length_set]; exact HEL.out, mem_set (mem_set hEb (by omega)) (by omega), (hbE.setCell (p := ⟨g, 12 * k + 10, none⟩) hg _).setCell (p := ⟨g, 12 * k + 11, none⟩) hg _⟩
              case measure => simp [intOf]; omega
            · have hkk : ¬ 12 * (k : Int) + 12 ≤ (bs.length : Int) := by omega
              have HOE := Lib.hid hownE
              have HEL := Lib.hid hEl
              clear hownE hEl
              go_wp2_with fail
              go_meet
              exact ⟨E, HOE.out, HEL.out, hEb, hbE⟩
      case rest =>
        obtain ⟨E, hownE, hEl, hEb, hbE⟩ := hcut
        have hrE := Rd.of_own hownE
        have HRE := Lib.hid hrE
        have HEL := Lib.hid hEl
        have HEB := Lib.hid hEb
        clear hownE hEl hEb hrE hb HO
        go_wp2_with fail
        refine (scan_any A5 E bs.length c5 wc HEL.out.symm HRE.out HEB.out hn5 (by omega) (by omega)).mono ?_
        rintro e w3 ⟨A3, A4, rfl, hr3, hr4, hb3⟩
        rw [HEL.out] at hr3 hr4 ⊢
        have hbw3 : Below w.heap.size w w3 := hbE.trans (hb3.mono hbE.size)
        have HRE3 := Lib.hid (HRE.out.below hb3)
        have HG := Lib.hid hr3
        have HD := Lib.hid hr4
        clear hr3 hr4 HRE
        obtain ⟨G, hG⟩ : ∃ G, scanG E (bs.length / 12) = G := ⟨_, rfl⟩
        obtain ⟨D, hD⟩ : ∃ D, scanD E (bs.length / 12) = D := ⟨_, rfl⟩
        rw [hG, hD]
        have HGG := Lib.hid hG
        have HDD := Lib.hid hD
        clear hG hD
        go_wp2_with fail
        go_loopw [10, 11, 12] (fun s10 s11 s12 wr => ∃ k : Nat, 12 * k ≤ bs.length ∧ s12 = .int .i64 (12 * (k : Int)) ∧ s10 = .int .i64 (scanG E k).length ∧ s11 = .int .i64 (scanD E k).length ∧ Below w3.heap.size w3 wr) (fun _ _ s12 _ => bs.length - (intOf s12).toNat)
        case atStart => exact ⟨0, by omega, rfl, rfl, rfl, Below.refl _ _⟩
        case round =>
          obtain ⟨k, hk, rfl, rfl, rfl, hbr⟩ := hrel
          by_cases hk12 : 12 * k + 12 ≤ bs.length
          · have hrE := HRE3.out.below hbr
            obtain ⟨b, o, rfl, hbl, _⟩ := hrE.2 (by omega)
            have hsub := hrE.sub (12 * k) 12 (by omega)
            have hsb := mem_sub HEB.out (12 * k) 12
            have hsl : (at12 E k).length = 12 := by have := HEL.out; simp [at12, sub]; omega
            change Rd wr _ 1 12 (bts (at12 E k)) at hsub
            change ∀ x ∈ at12 E k, _ at hsb
            obtain ⟨b0, b1, b2, b3, b4, b5, b6, b7, b8, b9, b10, b11, hB⟩ := list12 hsl
            rw [hB] at hsub hsb
            have HSUB := Lib.hid hsub
            have HB := Lib.hid hB
            obtain ⟨_, _, e, _, hc⟩ := hsub.2 (by omega)
            obtain ⟨rfl, rfl⟩ : b = _ ∧ o + 12 * k = _ := by simpa using e
            have x0 := hc 0 _ rfl
            have x1 := hc 1 _ rfl
            have x2 := hc 2 _ rfl
            have x3 := hc 3 _ rfl
            have x4 := hc 4 _ rfl
            have x5 := hc 5 _ rfl
            have x6 := hc 6 _ rfl
            have x7 := hc 7 _ rfl
            have x8 := hc 8 _ rfl
            have x9 := hc 9 _ rfl
            have x10 := hc 10 _ rfl
            have x11 := hc 11 _ rfl
            simp only [List.mem_cons, List.not_mem_nil, or_false, forall_eq_or_imp, forall_eq] at hsb
            obtain ⟨⟨l0, r0⟩, ⟨l1, r1⟩, ⟨l2, r2⟩, ⟨l3, r3⟩, ⟨l4, r4⟩, ⟨l5, r5⟩, ⟨l6, r6⟩, ⟨l7, r7⟩, ⟨l8, r8⟩, ⟨l9, r9⟩, ⟨l10, r10⟩, ⟨l11, r11⟩⟩ := hsb
            have hkk : 12 * (k : Int) + 12 ≤ (bs.length : Int) := by omega
            have hk1 : 12 * (k : Int) ≤ 12 * (k : Int) + 12 := by omega
            have hk2 : 12 * (k : Int) + 12 ≤ (c5 : Int) := by omega
            clear hrE hsub hB hc e hsl
            have hcn : ¬ c5 = 12 * k := by omega
            have e12 : 12 * k + 12 - 12 * k = 12 := by omega
            go_upto_region 16 with fail
            rw [e12]
            have hB0 : (o + 12 * k) = (o + 12 * k) + 0 := rfl
            obtain ⟨B, hBB⟩ : ∃ B, B = o + 12 * k := ⟨_, rfl⟩
            rw [← hBB] at x0 x1 x2 x3 x4 x5 x6 x7 x8 x9 x10 x11 ⊢
            have HBB := Lib.hid hBB
            have m1 : IntKind.i64.wrap (b3 * 256) = b3 * 256 := IntWalk.i64_in _ (by omega)
            have m2 : IntKind.i64.wrap (b3 * 256 + b4) = b3 * 256 + b4 := IntWalk.i64_in _ (by omega)
            have m3 : IntKind.i64.wrap ((b3 * 256 + b4) * 256) = (b3 * 256 + b4) * 256 := IntWalk.i64_in _ (by omega)
            have m4 : IntKind.i64.wrap ((b3 * 256 + b4) * 256 + b5) = (b3 * 256 + b4) * 256 + b5 := IntWalk.i64_in _ (by omega)
            have m5 : IntKind.i64.wrap (((b3 * 256 + b4) * 256 + b5) * 256) = ((b3 * 256 + b4) * 256 + b5) * 256 := IntWalk.i64_in _ (by omega)
            have m6 : IntKind.i64.wrap (((b3 * 256 + b4) * 256 + b5) * 256 + b6) = ((b3 * 256 + b4) * 256 + b5) * 256 + b6 := IntWalk.i64_in _ (by omega)
            have w3' : IntKind.i64.wrap b3 = b3 := IntWalk.i64_in _ (by omega)
            have w4' : IntKind.i64.wrap b4 = b4 := IntWalk.i64_in _ (by omega)
            have w5' : IntKind.i64.wrap b5 = b5 := IntWalk.i64_in _ (by omega)
            have w6' : IntKind.i64.wrap b6 = b6 := IntWalk.i64_in _ (by omega)
            clear hBB hB0 hkk hk1 hk2 hcn e12
            rw [Nat.add_zero] at x0
            go_quiet (fail)
            go_upto_region 17 with fail
            clear m1 m2 m3 m4 m5 m6 w3' w4' w5' w6'
            have hT0 : 0 ≤ ((b3 * 256 + b4) * 256 + b5) * 256 + b6 ∧ ((b3 * 256 + b4) * 256 + b5) * 256 + b6 ≤ 4294967295 := by omega
            obtain ⟨tm, htm⟩ : ∃ tm, ((b3 * 256 + b4) * 256 + b5) * 256 + b6 = tm := ⟨_, rfl⟩
            rw [htm] at hT0 ⊢
            obtain ⟨W, hW⟩ : ∃ W, W = wr.drewN nq := ⟨_, rfl⟩
            rw [← hW]
            have y0 : W.cell? ⟨b, B, none⟩ = some (.int .u8 b0) := by rw [hW]; exact x0
            have y1 : W.cell? ⟨b, B + 1, none⟩ = some (.int .u8 b1) := by rw [hW]; exact x1
            have y2 : W.cell? ⟨b, B + 2, none⟩ = some (.int .u8 b2) := by rw [hW]; exact x2
            have y7 : W.cell? ⟨b, B + 7, none⟩ = some (.int .u8 b7) := by rw [hW]; exact x7
            have y8 : W.cell? ⟨b, B + 8, none⟩ = some (.int .u8 b8) := by rw [hW]; exact x8
            have y9 : W.cell? ⟨b, B + 9, none⟩ = some (.int .u8 b9) := by rw [hW]; exact x9
            have y10 : W.cell? ⟨b, B + 10, none⟩ = some (.int .u8 b10) := by rw [hW]; exact x10
            have y11 : W.cell? ⟨b, B + 11, none⟩ = some (.int .u8 b11) := by rw [hW]; exact x11
            have hbW : b < W.heap.size := by rw [hW]; exact hbl
            have hbrW : Below w3.heap.size w3 W := by rw [hW]; exact below_drewN hbr _
            have m1 : IntKind.i64.wrap (b1 * 256) = b1 * 256 := IntWalk.i64_in _ (by omega)
            have m2 : IntKind.i64.wrap (b1 * 256 + b2) = b1 * 256 + b2 := IntWalk.i64_in _ (by omega)
            have m3 : IntKind.i64.wrap (b7 * 256) = b7 * 256 := IntWalk.i64_in _ (by omega)
            have m4 : IntKind.i64.wrap (b7 * 256 + b8) = b7 * 256 + b8 := IntWalk.i64_in _ (by omega)
            have m5 : IntKind.i64.wrap ((b7 * 256 + b8) * 256) = (b7 * 256 + b8) * 256 := IntWalk.i64_in _ (by omega)
            have m6 : IntKind.i64.wrap ((b7 * 256 + b8) * 256 + b9) = (b7 * 256 + b8) * 256 + b9 := IntWalk.i64_in _ (by omega)
            have w1' : IntKind.i64.wrap b1 = b1 := IntWalk.i64_in _ (by omega)
            have w2' : IntKind.i64.wrap b2 = b2 := IntWalk.i64_in _ (by omega)
            have w7' : IntKind.i64.wrap b7 = b7 := IntWalk.i64_in _ (by omega)
            have w8' : IntKind.i64.wrap b8 = b8 := IntWalk.i64_in _ (by omega)
            have w9' : IntKind.i64.wrap b9 = b9 := IntWalk.i64_in _ (by omega)
            have HL := Lib.hid (And.intro (And.intro l0 r0) (And.intro (And.intro l1 r1) (And.intro (And.intro l2 r2) (And.intro (And.intro l7 r7) (And.intro (And.intro l8 r8) (And.intro (And.intro l9 r9) (And.intro (And.intro l10 r10) (And.intro l11 r11))))))))
            have HTM := Lib.hid htm
            clear hW x0 x1 x2 x3 x4 x5 x6 x7 x8 x9 x10 x11 hbl hbr l0 r0 l1 r1 l2 r2 l3 r3 l4 r4 l5 r5 l6 r6 l7 r7 l8 r8 l9 r9 l10 r10 l11 r11 htm
            go_cut [15] from 93 to 123 (fun s15 wx => s15 = .pointer (some ⟨W.heap.size, 0, none⟩) ∧ ∃ q, wx = (W.alloc (.cells #[.int .i64 tm, .int .u8 b0, .int .i64 (b1 * 256 + b2), .int .i64 ((b7 * 256 + b8) * 256 + b9)] 37)).drewN q)
            case first =>
              go_region_held3 (fun w' => w'.cell? ⟨b, B, none⟩ = some (.int .u8 b0) ∧ w'.cell? ⟨b, B + 1, none⟩ = some (.int .u8 b1) ∧ w'.cell? ⟨b, B + 2, none⟩ = some (.int .u8 b2) ∧ w'.cell? ⟨b, B + 7, none⟩ = some (.int .u8 b7) ∧ w'.cell? ⟨b, B + 8, none⟩ = some (.int .u8 b8) ∧ w'.cell? ⟨b, B + 9, none⟩ = some (.int .u8 b9))
                (first | exact ⟨y0, y1, y2, y7, y8, y9⟩ | exact ⟨(World.cell?_alloc_lt W _ ⟨b, B, none⟩ hbW).trans y0, (World.cell?_alloc_lt W _ ⟨b, B + 1, none⟩ hbW).trans y1, (World.cell?_alloc_lt W _ ⟨b, B + 2, none⟩ hbW).trans y2, (World.cell?_alloc_lt W _ ⟨b, B + 7, none⟩ hbW).trans y7, (World.cell?_alloc_lt W _ ⟨b, B + 8, none⟩ hbW).trans y8, (World.cell?_alloc_lt W _ ⟨b, B + 9, none⟩ hbW).trans y9⟩ | go_keep) (fail)
              all_goals go_wp2_with fail
              all_goals go_meet
              all_goals exact ⟨rfl, 1, rfl⟩
            case rest =>
              obtain ⟨rfl, q, rfl⟩ := hcut
              obtain ⟨⟨l0, r0⟩, ⟨l1, r1⟩, ⟨l2, r2⟩, ⟨l7, r7⟩, ⟨l8, r8⟩, ⟨l9, r9⟩, ⟨l10, r10⟩, ⟨l11, r11⟩⟩ := HL.out
              have hX0 : IntKind.i64.wrap (b10 * 256) = b10 * 256 := IntWalk.i64_in _ (by omega)
              have hX1 : IntKind.i64.wrap (b10 * 256 + b11) = b10 * 256 + b11 := IntWalk.i64_in _ (by omega)
              have hX2 : IntKind.i64.wrap b10 = b10 := IntWalk.i64_in _ (by omega)
              have hX3 : IntKind.i64.wrap b11 = b11 := IntWalk.i64_in _ (by omega)
              have hjb : b1 * 256 + b2 ≤ 65535 := by omega
              have hvb : 0 ≤ (b7 * 256 + b8) * 256 + b9 ∧ (b7 * 256 + b8) * 256 + b9 ≤ 16777215 := by omega
              obtain ⟨V, hV⟩ : ∃ V, V = (W.alloc (.cells #[.int .i64 tm, .int .u8 b0, .int .i64 (b1 * 256 + b2), .int .i64 ((b7 * 256 + b8) * 256 + b9)] 37)).drewN q := ⟨_, rfl⟩
              have hrd : Rd V (some ⟨b, B, none⟩) 1 10 (bts [b0, b1, b2, b3, b4, b5, b6, b7, b8, b9]) := by
                have h1 := HRE3.out.below hbrW
                have h2 := h1.sub (12 * k) 10 (by omega)
                rw [← HBB.out] at h2
                have h3 : sub E (12 * k) 10 = [b0, b1, b2, b3, b4, b5, b6, b7, b8, b9] := by
                  have := HB.out
                  have e : sub E (12 * k) 10 = (at12 E k).take 10 := by unfold at12 sub; rw [List.take_take]; rfl
                  rw [e, this]
                  rfl
                change Rd W _ 1 10 (bts (sub E (12 * k) 10)) at h2
                rw [h3] at h2
                rw [hV]
                exact h2.alloc _
              have hbys : ∀ x ∈ [b0, b1, b2, b3, b4, b5, b6, b7, b8, b9], 0 ≤ x ∧ x ≤ 255 := by
                have h1 := mem_sub HEB.out (12 * k) 12
                change ∀ x ∈ at12 E k, _ at h1
                rw [HB.out] at h1
                intro x hx
                exact h1 x (List.mem_of_mem_take (i := 10) hx)
              obtain ⟨J, hJ⟩ : ∃ J, jsum [b0, b1, b2, b3, b4, b5, b6, b7, b8, b9] = J := ⟨_, rfl⟩
              have hcall : ∀ nn, Calls Tryd.prog 18 #[.slice (some ⟨b, B, none⟩) 10 (c5 - 12 * k)] (V.drewN nn) fun e w'' => e = .returned (.int .i64 J) ∧ ∃ m, w'' = V.drewN m := by
                intro nn
                refine (lawsum_any (some ⟨b, B, none⟩) [b0, b1, b2, b3, b4, b5, b6, b7, b8, b9] 10 (c5 - 12 * k) (V.drewN nn) rfl hrd hbys (by omega)).mono ?_
                rintro e w' ⟨rfl, rfl⟩
                rw [hJ]
                exact ⟨rfl, nn, rfl⟩
              have hgood : readOk (at12 E k) = ((J == b10 * 256 + b11) && decide (1 ≤ b0) && decide (b0 ≤ 6) && decide (0 < b1 * 256 + b2) && decide (tm ≤ 1000000000) && (b0 != 6 || (b7 * 256 + b8) * 256 + b9 == 0)) := by
                rw [HB.out, (readOk12 ..).1, hJ, HTM.out]
                exact good_eq hT0.1 hjb hvb
              have hrec : readRec (at12 E k) = ⟨tm, b0, b1 * 256 + b2, (b7 * 256 + b8) * 256 + b9⟩ := by rw [HB.out, (readOk12 ..).2, HTM.out]
              have z0 : V.cell? ⟨W.heap.size, 0, none⟩ = some (.int .i64 tm) := by rw [hV]; exact (box4 (Below.refl _ _)).1
              have z1 : V.cell? ⟨W.heap.size, 1, none⟩ = some (.int .u8 b0) := by rw [hV]; exact (box4 (Below.refl _ _)).2.1
              have z2 : V.cell? ⟨W.heap.size, 2, none⟩ = some (.int .i64 (b1 * 256 + b2)) := by rw [hV]; exact (box4 (Below.refl _ _)).2.2.1
              have z3 : V.cell? ⟨W.heap.size, 3, none⟩ = some (.int .i64 ((b7 * 256 + b8) * 256 + b9)) := by rw [hV]; exact (box4 (Below.refl _ _)).2.2.2
              have v10 : V.cell? ⟨b, B + 10, none⟩ = some (.int .u8 b10) := by rw [hV]; exact (World.cell?_alloc_lt W _ ⟨b, B + 10, none⟩ hbW).trans y10
              have v11 : V.cell? ⟨b, B + 11, none⟩ = some (.int .u8 b11) := by rw [hV]; exact (World.cell?_alloc_lt W _ ⟨b, B + 11, none⟩ hbW).trans y11
              have hbV : Below w3.heap.size w3 V := by rw [hV]; exact below_drewN (hbrW.alloc hbrW.size _) _
              rw [← hV]
              have hcc : (10 : Int) ≤ ((c5 - 12 * k : Nat) : Int) := by omega
              obtain ⟨X, hX⟩ : ∃ X, b10 * 256 + b11 = X := ⟨_, rfl⟩
              obtain ⟨jj, hjj⟩ : ∃ jj, b1 * 256 + b2 = jj := ⟨_, rfl⟩
              obtain ⟨vv, hvv⟩ : ∃ vv, (b7 * 256 + b8) * 256 + b9 = vv := ⟨_, rfl⟩
              rw [hX] at hX1
              rw [hX, hjj, hvv] at hgood
              rw [hjj, hvv] at hrec
              rw [hjj] at z2
              rw [hvv] at z3
              have HX := Lib.hid hX
              have HCALL := Lib.hid hcall
              have HGOOD := Lib.hid hgood
              have HREC := Lib.hid hrec
              obtain ⟨H0, hH0⟩ : ∃ H0, W.heap.size = H0 := ⟨_, rfl⟩
              rw [hH0] at z0 z1 z2 z3 ⊢
              obtain ⟨cc, hccc⟩ : ∃ cc, c5 - 12 * k = cc := ⟨_, rfl⟩
              rw [hccc] at HCALL hcc ⊢
              clear hV hrd hbys hJ hcall hgood hrec y0 y1 y2 y7 y8 y9 y10 y11 hbW hbrW HB HBB HTM HL hX hjj hvv hH0 hccc hjb hvb hT0 l0 r0 l1 r1 l2 r2 l7 r7 l8 r8 l9 r9 m1 m2 m3 m4 m5 m6 w1' w2' w7' w8' w9'
              go_upto_region 18 with fail
              go_cut [16] from 124 to 167 (fun s16 wx => s16 = .bool (readOk (at12 E k)) ∧ ∃ q, wx = V.drewN q)
              case first =>
                have hX1' : b10 * 256 + b11 = X := HX.out
                cases g0 : (J == X)
                · clear HREC
                  go_quiet (exact HCALL.out _)
                  go_wp2_with fail
                  go_meet
                  exact ⟨by rw [HGOOD.out, g0]; rfl, nq, rfl⟩
                · skip
                  cases g1 : decide (1 ≤ b0)
                  · clear HREC
                    go_quiet (exact HCALL.out _)
                    go_wp2_with fail
                    go_meet
                    exact ⟨by rw [HGOOD.out, g0, g1]; rfl, nq, rfl⟩
                  · skip
                    cases g2 : decide (b0 ≤ 6)
                    · clear HREC
                      go_quiet (exact HCALL.out _)
                      go_wp2_with fail
                      go_meet
                      exact ⟨by rw [HGOOD.out, g0, g1, g2]; rfl, nq, rfl⟩
                    · skip
                      cases g3 : decide (0 < jj)
                      · clear HREC
                        go_quiet (exact HCALL.out _)
                        go_wp2_with fail
                        go_meet
                        exact ⟨by rw [HGOOD.out, g0, g1, g2, g3]; rfl, nq, rfl⟩
                      · skip
                        cases g4 : decide (tm ≤ 1000000000)
                        · clear HREC
                          go_quiet (exact HCALL.out _)
                          go_wp2_with fail
                          go_meet
                          exact ⟨by rw [HGOOD.out, g0, g1, g2, g3, g4]; rfl, nq, rfl⟩
                        · skip
                          cases g5 : (b0 != 6)
                          · cases g6 : (vv == 0)
                            · go_quiet (exact HCALL.out _)
                              go_wp2_with fail
                              go_meet
                              exact ⟨by rw [HGOOD.out, g0, g1, g2, g3, g4, g5, g6]; rfl, nq, rfl⟩
                            · go_quiet (exact HCALL.out _)
                              go_wp2_with fail
                              go_meet
                              exact ⟨by rw [HGOOD.out, g0, g1, g2, g3, g4, g5, g6]; rfl, nq, rfl⟩
                          · go_quiet (exact HCALL.out _)
                            go_wp2_with fail
                            go_meet
                            exact ⟨by rw [HGOOD.out, g0, g1, g2, g3, g4, g5]; rfl, nq, rfl⟩
              case rest =>
                obtain ⟨rfl, q2, rfl⟩ := hcut
                have hkm : k < bs.length / 12 := by omega
                cases hgo : readOk (at12 E k)
                · have hget := scanD_get hkm hgo
                  rw [HDD.out] at hget
                  have hsb := scan_bad hgo
                  have hal := (List.getElem?_eq_some_iff.1 hget).1
                  have hRD := HD.out.below hbV
                  rw [HDD.out] at hRD
                  obtain ⟨bd, od, rfl, hbd, hcd⟩ := rd_num hRD hget
                  clear hRD
                  obtain ⟨a1, ha1⟩ : ∃ a1, (scanD E k).length = a1 := ⟨_, rfl⟩
                  rw [ha1] at hal hcd hget ⊢
                  have HSB := Lib.hid hsb
                  have HA1 := Lib.hid ha1
                  have hq1 : decide ((D.length : Int) ≤ (a1 : Int)) = false := by simp; omega
                  have hq2 : (12 * (k : Int)).tdiv 12 = (k : Int) := by rw [Int.tdiv_eq_ediv_of_nonneg (by omega)]; omega
                  have hq3 : (a1 : Int) < (D.length : Int) := by omega
                  have hq4 : 12 * (k : Int) / 12 = (k : Int) := by omega
                  have hq5 : IntKind.i64.wrap (k : Int) = (k : Int) := IntWalk.i64_in _ (by omega)
                  have hq6 : a1 ≤ 100 := by have := scan_len E k; omega
                  clear hgo hget hsb ha1
                  go_wp2_with fail
                  refine ⟨⟨k + 1, by omega, val_int (by omega), ?_, ?_, below_drewN hbV _⟩, by simp [intOf]; omega⟩
                  · rw [HSB.out.1]
                  · rw [HSB.out.2, List.length_append, HA1.out]
                    exact val_int (by simp)
                · have hget := scanG_get hkm hgo
                  rw [HGG.out, HREC.out] at hget
                  have hsg := scan_good hgo
                  obtain ⟨hal, hrr⟩ := List.getElem?_eq_some_iff.1 hget
                  have hRG := HG.out.below hbV
                  rw [HGG.out] at hRG
                  obtain ⟨bg, og, rfl, hbg, e0, e1, e2, e3⟩ := rd_rec hRG _ hal
                  rw [hrr] at e0 e1 e2 e3
                  dsimp only at e0 e1 e2 e3
                  clear hRG hrr
                  obtain ⟨a1, ha1⟩ : ∃ a1, (scanG E k).length = a1 := ⟨_, rfl⟩
                  rw [ha1] at hal e0 e1 e2 e3 hget ⊢
                  have HSG := Lib.hid hsg
                  have HA1 := Lib.hid ha1
                  have hq1 : decide ((G.length : Int) ≤ (a1 : Int)) = false := by simp; omega
                  have hq3 : (a1 : Int) < (G.length : Int) := by omega
                  have hq6 : a1 ≤ 100 := by have := scan_len E k; omega
                  clear hgo hget hsg ha1
                  go_wp2_with fail
                  go_quiet (fail)
                  go_wp2_with fail
                  refine ⟨⟨k + 1, by omega, val_int (by omega), ?_, ?_, below_drewN hbV _⟩, by simp [intOf]; omega⟩
                  · rw [HSG.out.1, List.length_append, HA1.out]
                    exact val_int (by simp)
                  · rw [HSG.out.2]
          · have hke : bs.length / 12 = k := by omega
            have hkk : ¬ 12 * (k : Int) + 12 ≤ (bs.length : Int) := by omega
            have hg1 : ((scanG E k).length : Int) = (G.length : Int) := by rw [← HGG.out, hke]
            have hd1 : ((scanD E k).length : Int) = (D.length : Int) := by rw [← HDD.out, hke]
            have hbw4 : Below w.heap.size w wr := hbw3.trans (hbr.mono hbw3.size)
            rw [hg1, hd1]
            clear hke hg1 hd1
            go_wp2_with fail
            refine (lives_any _ s (hS.below hbw4)).mono ?_
            rintro e w5 ⟨rfl, hb5⟩
            have hbw5 : Below w.heap.size w w5 := hbw4.trans (hb5.mono hbw4.size)
            go_wp2_with fail
            go_ret
            exact ⟨rfl, hbw5⟩
end Go.Proofs.YtdcgminjamofmaaDoor
