/- crimplaw42.JournalsDamage returns true. -/
import Derived.Test.YtdcgminjamofmaaDoorStep
import Derived.Test.YtdcgminjamofmaaDoorDam
namespace Go.Proofs.YtdcgminjamofmaaDoor
open Go.RowKit

theorem xor_ne {x c : Int} (hx : 0 ≤ x ∧ x ≤ 255) (hc : 0 ≤ c ∧ c ≤ 255) (h0 : ¬ c = 0) : (0 ≤ bits .xor .u8 x c ∧ bits .xor .u8 x c ≤ 255) ∧ x ≠ bits .xor .u8 x c := by
  rw [u8_xor x c hx.1 (by omega) hc.1 (by omega)]
  have hb : x.toNat ^^^ c.toNat < 2 ^ 8 := Nat.xor_lt_two_pow (by omega) (by omega)
  refine ⟨by omega, fun h => h0 ?_⟩
  have h1 : x.toNat ^^^ c.toNat = x.toNat := by omega
  have h2 : x.toNat ^^^ (x.toNat ^^^ c.toNat) = 0 := by rw [h1, Nat.xor_self]
  rw [← Nat.xor_assoc, Nat.xor_self, Nat.zero_xor] at h2
  omega
theorem bts_set (E : List Int) (i : Nat) (y : Int) : (bts E).set i (.int .u8 y) = bts (E.set i y) := by
  unfold bts
  rw [List.map_set]
theorem mem_set {E : List Int} {i : Nat} {y : Int} (h : ∀ x ∈ E, 0 ≤ x ∧ x ≤ 255) (hy : 0 ≤ y ∧ y ≤ 255) : ∀ x ∈ E.set i y, 0 ≤ x ∧ x ≤ 255 := by
  intro x hx
  rcases List.mem_or_eq_of_mem_set hx with hx | rfl
  · exact h x hx
  · exact hy
/-- Two bytes of a row exchanged. -/
theorem swap_bytes {w : World} {base g n i k : Nat} {E : List Int} {x y : Int} (h : w.ownsRow base 5 1 (.slice (some ⟨g, 0, none⟩) n n) n (bts E)) (hg : base ≤ g) {w0 : World} (hb : Below base w0 w) :
    ((w.setCell ⟨g, i, none⟩ (.int .u8 y)).setCell ⟨g, k, none⟩ (.int .u8 x)).ownsRow base 5 1 (.slice (some ⟨g, 0, none⟩) n n) n (bts ((E.set i y).set k x)) ∧ Below base w0 ((w.setCell ⟨g, i, none⟩ (.int .u8 y)).setCell ⟨g, k, none⟩ (.int .u8 x)) := by
  have h1 := (h.stored i (.int .u8 y)).1
  rw [bts_set] at h1
  have h2 := (h1.stored k (.int .u8 x)).1
  rw [bts_set] at h2
  exact ⟨h2, (hb.setCell (p := ⟨g, i, none⟩) hg _).setCell (p := ⟨g, k, none⟩) hg _⟩

set_option maxHeartbeats 4000000 in
set_option maxRecDepth 100000 in
theorem damage_any (A : Option Addr) (l : List RS) (n c : Nat) (p ch : Int) (w : World) (s : Nat → Addr) (hS : Sent w s) (hn : n = l.length) (h : Rd w A 4 n (rss l)) (hf : ∀ r ∈ l, r.fit) (hl : n ≤ 9223372036854775807) (hp : 0 ≤ p ∧ p ≤ 65535) (hch : 0 ≤ ch ∧ ch ≤ 255) :
    Calls Tryd.prog 5 #[.slice A n c, .int .u16 p, .int .u8 ch] w (RetBelow (.bool true) w) := by
  have hall := ofS_all l hf
  have hlen := ofS_len l
  have hof := of_any A l n c w hn h hf hl
  obtain ⟨L, hL⟩ : ∃ L, ofS l = L := ⟨_, rfl⟩
  rw [hL] at hall hlen hof
  have HALL := Lib.hid hall
  have HOF := Lib.hid hof
  clear h hf hl hn hL hall hof
  go_enter Tryd.func5, Tryd.ntmps5
  go_wp2_with fail
  refine HOF.out.mono ?_
  rintro e w1 ⟨v, rfl, hown, hb1⟩
  clear HOF
  obtain ⟨A1, c1, rfl, hn1, hm1⟩ := own_form hown
  have HO1 := Lib.hid hown
  clear hown
  go_wp2_with fail
  refine (encode_any A1 L L.length c1 w1 rfl (Rd.of_own HO1.out) (fun r hr => (HALL.out r hr).1) (by omega)).mono ?_
  rintro e w2 (⟨_, g, rfl, hown2, hb2⟩ | ⟨hbad, _⟩)
  · have hb3 : Below w.heap.size w w2 := hb1.trans (hb2.mono hb1.size)
    have HO2 := Lib.hid hown2
    clear hown2
    have hS2 := hS.below hb3
    by_cases h0 : L.length = 0
    · go_wp2_with fail
      refine (lives_any _ s hS2).mono ?_
      rintro e w4 ⟨rfl, hb4⟩
      have hb5 : Below w.heap.size w w4 := hb3.trans (hb4.mono hb3.size)
      go_wp2_with fail
      go_ret
      exact ⟨rfl, hb5⟩
    · obtain ⟨i, hi⟩ : ∃ i : Nat, (p % ((L.length : Int) * 12)) = (i : Int) := ⟨(p % ((L.length : Int) * 12)).toNat, by have := Int.emod_nonneg p (show (L.length : Int) * 12 ≠ 0 by omega); omega⟩
      have hil : i < L.length * 12 := by have := Int.emod_lt_of_pos p (show (0 : Int) < (L.length : Int) * 12 by omega); omega
      have hl12 : IntKind.i64.wrap (12 * (L.length : Int)) = 12 * (L.length : Int) := IntWalk.i64_in _ (by omega)
      have hne12 : ((L.length : Int) * 12 != 12 * (L.length : Int)) = false := by rw [show (L.length : Int) * 12 = 12 * (L.length : Int) by omega]; simp
      have hne0 : ((L.length : Int) == 0) = false := beq_false_of_ne (by omega)
      have hg : w1.heap.size ≤ g := by
        rcases HO2.out.2 with ⟨hh, _⟩ | ⟨g', _, _, hh, hgb, _⟩
        · cases hh
        · cases hh; exact hgb
      have hel : (encs L).length = L.length * 12 := encs_len L
      have hok : ∀ r ∈ L, r.ok = true := fun r hr => (HALL.out r hr).2
      have hbyte := encs_bytes hok
      obtain ⟨_, _, hA, hgl, hcell⟩ := (Rd.of_own HO2.out).2 (by omega)
      obtain ⟨rfl, rfl⟩ : g = _ ∧ 0 = _ := by simpa using hA
      have hat : ∀ q, q < L.length * 12 → w2.cell? ⟨g, q, none⟩ = some (.int .u8 ((encs L).getD q 0)) ∧ 0 ≤ (encs L).getD q 0 ∧ (encs L).getD q 0 ≤ 255 := by
        intro q hq
        have e : (encs L)[q]? = some ((encs L).getD q 0) := by rw [List.getD_eq_getElem?_getD, List.getElem?_eq_getElem (by omega)]; rfl
        have := hcell q (.int .u8 ((encs L).getD q 0)) (by unfold bts; rw [List.getElem?_map, e]; rfl)
        rw [Nat.zero_add] at this
        exact ⟨this, hbyte _ (List.mem_of_getElem? e)⟩
      have hfz := own_free HO2.out
      have HAT := Lib.hid hat
      have HFZ := Lib.hid hfz
      have HEL := Lib.hid hel
      have HOK := Lib.hid hok
      have HBY := Lib.hid hbyte
      have HI := Lib.hid hi
      have HS2 := Lib.hid hS2
      clear hat hfz hcell hA hel hok hbyte hS2
      have hi1 : (i : Int) < (L.length : Int) * 12 := by omega
      have hx := HAT.out i hil
      have hzx := HFZ.out i
      obtain ⟨x, hxe⟩ : ∃ x, (encs L).getD i 0 = x := ⟨_, rfl⟩
      rw [hxe] at hx
      obtain ⟨hxc, hx0, hx1⟩ := hx
      have HXE := Lib.hid hxe
      clear hxe
      go_upto_if 42 with fail

      rw [hi]
      clear hi hl12 hne12 hne0
      go_cut [11] (fun _ wx => ∃ E' : List Int, wx.ownsRow w1.heap.size 5 1 (.slice (some ⟨g, 0, none⟩) (L.length * 12) (L.length * 12)) (L.length * 12) (bts E') ∧ E'.length = L.length * 12 ∧ (∀ x ∈ E', 0 ≤ x ∧ x ≤ 255) ∧ scanG E' L.length = L.take (i / 12) ++ L.drop (i / 12 + 1) ∧ scanD E' L.length = [((i / 12 : Nat) : Int)] ∧ Below w1.heap.size w1 wx)
      case first =>
        by_cases hc0 : ch = 0
        · subst hc0
          by_cases hm : (i + 1) % 12 = 0
          · obtain ⟨j, rfl⟩ : ∃ j, i = j + 1 := ⟨i - 1, by omega⟩
            have hmb : (((j : Int) + 1 + 1) % 12 == 0) = true := by simp; omega
            have hy := HAT.out j (by omega)
            have hzy := HFZ.out j
            obtain ⟨y, hye⟩ : ∃ y, (encs L).getD j 0 = y := ⟨_, rfl⟩
            rw [hye] at hy
            obtain ⟨hyc, hy0, hy1⟩ := hy
            have hj1 : (j : Int) < (L.length : Int) * 12 := by omega
            have hj2 : (0 : Int) ≤ (j : Int) + 1 := by omega
            have hj3 : (j : Int) + 1 < (L.length : Int) * 12 := by omega
            have hj5 : ((j : Int) + 1).toNat = j + 1 := by omega
            have HYE := Lib.hid hye
            clear hye
            by_cases hxy : x = y
            · have hxyb : (x == y) = true := by simpa using hxy
              have HXY := Lib.hid hxy
              clear hxy
              go_wp2_with fail
              go_quiet (fail)
              go_wp2_with fail
              refine (lives_any _ s (HS2.out.below (below_drewN (Below.refl _ _) _))).mono ?_
              rintro e w4 ⟨rfl, hb4⟩
              have hb5 : Below w.heap.size w w4 := (below_drewN hb3 _).trans (hb4.mono hb3.size)
              go_wp2_with fail
              go_ret
              exact ⟨rfl, hb5⟩
            · have hxyb : (x == y) = false := by simpa using hxy
              have HXY := Lib.hid hxy
              clear hxy
              go_wp2_with fail
              go_quiet (fail)
              go_wp2_with fail
              go_region
              go_wp2_with fail
              go_meet
              have hd := encs_dam2 (i := j) HOK.out (by omega) (by omega) (by rw [HYE.out, HXE.out]; exact fun e => HXY.out e.symm)
              rw [HYE.out, HXE.out] at hd
              have hsw := swap_bytes (w := w2.drewN (nq + 1)) (i := j + 1) (k := j) (x := x) (y := y) (by exact HO2.out) hg (below_drewN hb2 _)
              rw [List.set_comm _ _ (by omega)] at hsw
              have hdv : (j + 1) / 12 = j / 12 := by omega
              rw [hdv]
              exact ⟨_, hsw.1, by rw [List.length_set, List.length_set]; exact HEL.out, mem_set (mem_set HBY.out ⟨hx0, hx1⟩) ⟨hy0, hy1⟩, hd.1, hd.2, hsw.2⟩
          · have hmb : (((i : Int) + 1) % 12 == 0) = false := by simp; omega
            have hy := HAT.out (i + 1) (by omega)
            have hzy := HFZ.out (i + 1)
            obtain ⟨y, hye⟩ : ∃ y, (encs L).getD (i + 1) 0 = y := ⟨_, rfl⟩
            rw [hye] at hy
            obtain ⟨hyc, hy0, hy1⟩ := hy
            have hj2 : (0 : Int) ≤ (i : Int) + 1 := by omega
            have hj3 : (i : Int) + 1 < (L.length : Int) * 12 := by omega
            have hj5 : ((i : Int) + 1).toNat = i + 1 := by omega
            have HYE := Lib.hid hye
            clear hye
            by_cases hxy : x = y
            · have hxyb : (x == y) = true := by simpa using hxy
              have HXY := Lib.hid hxy
              clear hxy
              go_wp2_with fail
              go_quiet (fail)
              go_wp2_with fail
              refine (lives_any _ s (HS2.out.below (below_drewN (Below.refl _ _) _))).mono ?_
              rintro e w4 ⟨rfl, hb4⟩
              have hb5 : Below w.heap.size w w4 := (below_drewN hb3 _).trans (hb4.mono hb3.size)
              go_wp2_with fail
              go_ret
              exact ⟨rfl, hb5⟩
            · have hxyb : (x == y) = false := by simpa using hxy
              have HXY := Lib.hid hxy
              clear hxy
              go_wp2_with fail
              go_quiet (fail)
              go_wp2_with fail
              go_region
              go_wp2_with fail
              go_meet
              have hd := encs_dam2 (i := i) HOK.out (by omega) (by omega) (by rw [HYE.out, HXE.out]; exact HXY.out)
              rw [HYE.out, HXE.out] at hd
              have hsw := swap_bytes (w := w2.drewN (nq + 1)) (i := i) (k := i + 1) (x := x) (y := y) (by exact HO2.out) hg (below_drewN hb2 _)
              exact ⟨_, hsw.1, by rw [List.length_set, List.length_set]; exact HEL.out, mem_set (mem_set HBY.out ⟨hy0, hy1⟩) ⟨hx0, hx1⟩, hd.1, hd.2, hsw.2⟩
        · have hcb : (ch == 0) = false := by simpa using hc0
          have hxor := xor_ne ⟨hx0, hx1⟩ hch hc0
          have HX := Lib.hid hxor
          clear hxor
          go_wp2_with fail
          go_meet
          have hst := (HO2.out.stored i (.int .u8 (bits BinOp.xor IntKind.u8 x ch))).1
          rw [bts_set] at hst
          have hd := encs_dam1 HOK.out (show i < 12 * L.length by omega) HX.out.1 (by rw [HXE.out]; exact HX.out.2)
          exact ⟨_, hst, by rw [List.length_set]; exact HEL.out, mem_set HBY.out HX.out.1, hd.1, hd.2, hb2.setCell (p := ⟨g, i, none⟩) hg _⟩
      case rest =>
        obtain ⟨E', hown', hel', hby', hG, hD, hbx⟩ := hcut
        go_wp2_with fail
        refine (scan_any (some ⟨g, 0, none⟩) E' (L.length * 12) (L.length * 12) wc hel'.symm (Rd.of_own hown') hby' (Nat.le_refl _) (by omega) (by omega)).mono ?_
        rintro e w4 ⟨A3, A4, rfl, hr3, hr4, hb4⟩
        rw [hel', Nat.mul_div_cancel _ (by omega), hG] at hr3
        rw [hel', Nat.mul_div_cancel _ (by omega), hD] at hr4
        rw [hel', Nat.mul_div_cancel _ (by omega), hG, hD]
        obtain ⟨R, hR⟩ : ∃ R, L.take (i / 12) ++ L.drop (i / 12 + 1) = R := ⟨_, rfl⟩
        have hRl : R.length = L.length - 1 := by rw [← hR, List.length_append, List.length_take, List.length_drop]; omega
        rw [hR] at hr3 ⊢
        have hRm : recs ((L.drop 0).take (i / 12)) ++ recs ((L.drop (i / 12 + 1)).take (L.length - (i / 12 + 1))) = recs R := by
          rw [List.drop_zero, ← hR, List.take_of_length_le (l := L.drop (i / 12 + 1)) (by rw [List.length_drop]; omega)]
          simp [recs]
        have hbw4 : Below w1.heap.size w1 w4 := hbx.trans (hb4.mono hbx.size)
        have hrL := (Rd.of_own HO1.out).below hbw4
        obtain ⟨g1, o1, rfl, hg1, _⟩ := hrL.2 (by omega)
        have hbw : Below w.heap.size w w4 := hb1.trans (hbw4.mono hb1.size)
        have hnull : ∃ b4 o4, A4 = some ⟨b4, o4, none⟩ ∧ b4 < w4.heap.size ∧ w4.cell? ⟨b4, o4, none⟩ = some (.int .i64 ((i / 12 : Nat) : Int)) := by
          obtain ⟨b4, o4, e, hb, hc⟩ := hr4.2 (by simp)
          exact ⟨b4, o4, e, hb, hc 0 _ rfl⟩
        obtain ⟨b4, o4, rfl, hb4l, hc4⟩ := hnull
        have HRL := Lib.hid hrL
        have HR3 := Lib.hid hr3
        have HRM := Lib.hid hRm
        have HS4 := Lib.hid (hS.below hbw)
        clear hrL hr3 hRm hR hown' hel' hby' hG hD hr4
        have hd1 : i / 12 < L.length := by omega
        have hdi : ((i / 12 : Nat) : Int) = (i : Int) / 12 := by omega
        obtain ⟨i0, hi0, hz0, hz1, hz2⟩ := info_parts rec_info
        go_upto_region 17 with fail
        go_cut [14] (fun s14 wx => wx.ownsRow w4.heap.size 37 4 s14 R.length (recs R) ∧ Below w4.heap.size w4 wx)
        case first =>
          have q1 : (0 : Int) ≤ (i : Int) / 12 := by omega
          have q2 : (i : Int) / 12 ≤ (c1 : Int) := by omega
          have q3 : (i : Int) / 12 + 1 ≤ (L.length : Int) := by omega
          have q4 : ((i : Int) / 12).toNat = i / 12 := by omega
          have q5 : ((i : Int) / 12 + 1).toNat = i / 12 + 1 := by omega
          have q6 : (i : Int).tdiv 12 = (i : Int) / 12 := Int.tdiv_eq_ediv_of_nonneg (by omega)
          have q7 : IntKind.i64.wrap ((i : Int) / 12) = (i : Int) / 12 := IntWalk.i64_in _ (by omega)
          have q9 : (0 : Int) ≤ (i : Int) / 12 + 1 := by omega
          have q8 : IntKind.i64.wrap ((i : Int) / 12 + 1) = (i : Int) / 12 + 1 := IntWalk.i64_in _ (by omega)
          have hN : ∀ W, Below w4.heap.size w4 W → ∀ a m, a + m ≤ L.length → ∀ j u, (recs ((L.drop a).take m))[j]? = some u → W.cell? ((⟨g1, o1 + a * 4, none⟩ : Addr).add j) = some u := by
            intro W hW a m ham j u hu
            have := (HRL.out.below hW).news a m ham j u
            rw [recs_sub] at this
            exact this hu
          have hN1 : ∀ W, Below w4.heap.size w4 W → ∀ j u, (recs (L.take (i / 12)))[j]? = some u → W.cell? ((⟨g1, o1, none⟩ : Addr).add j) = some u := fun W hW j u hu => by
            have := hN W hW 0 (i / 12) (by omega) j u (by rw [List.drop_zero]; exact hu)
            simpa using this
          obtain ⟨a2, ha2⟩ : ∃ a2 : Addr, (if c1 = i / 12 + 1 then some (⟨g1, o1, none⟩ : Addr) else some ⟨g1, o1 + (i / 12 + 1) * 4, none⟩) = some a2 := by split <;> exact ⟨_, rfl⟩
          have hN2 : ∀ W, Below w4.heap.size w4 W → ∀ j u, (recs (L.drop (i / 12 + 1)))[j]? = some u → W.cell? (a2.add j) = some u := fun W hW j u hu => by
            by_cases hcc : c1 = i / 12 + 1
            · rw [List.drop_of_length_le (by omega)] at hu
              simp [recs] at hu
            · rw [if_neg hcc] at ha2
              cases ha2
              exact hN W hW (i / 12 + 1) (L.length - (i / 12 + 1)) (by omega) j u (by rw [List.take_of_length_le (by rw [List.length_drop]; omega)]; exact hu)
          have s1 : (recs (L.take (i / 12))).length = i / 12 * 4 := by rw [recs_len, List.length_take, Nat.min_eq_left (by omega)]
          have s2 : (recs (L.drop (i / 12 + 1))).length = (L.length - (i / 12 + 1)) * 4 := by rw [recs_len, List.length_drop]
          have S1 := Lib.hid s1
          have S2 := Lib.hid s2
          have N1 := Lib.hid hN1
          have N2 := Lib.hid hN2
          have hsm1 : 0 + i / 12 ≤ maxLen := by simp [maxLen]; omega
          have hsm2 : 0 + i / 12 + (L.length - (i / 12 + 1)) ≤ maxLen := by simp [maxLen]; omega
          have SM1 := Lib.hid hsm1
          have SM2 := Lib.hid hsm2
          clear hN hN1 hN2 s1 s2 hsm1 hsm2
          go_region_law (first | (refine step_append_own rfl (.tmp 86) (.tmp 90) 24 rfl w4.heap.size 37 i0 _ 4 32 Tryd.underlying24 hi0 hz0 hz1 hz2 rfl (by decide) (.slice (some ⟨w4.heap.size, 0, none⟩) 0 0) 0 [] (by simp [Act.eval]) (World.ownsRow.drew (own_new _ 4 0 [] (Nat.le_refl _) (by simp [maxLen]) rfl rfl)) ⟨g1, o1, none⟩ (i / 12) c1 (recs (L.take (i / 12))) (by simp [Act.eval]) S1.out (N1.out _ (((Below.refl _ _).alloc (Nat.le_refl _) _).drew)) (recs_one _) SM1.out (by omega) (by simp) ?_; intro v5 w5 ho5 hg5) | (refine step_append_own rfl (.tmp 91) (.tmp 96) 24 rfl w4.heap.size 37 i0 _ 4 32 Tryd.underlying24 hi0 hz0 hz1 hz2 rfl (by decide) v5 (0 + i / 12) _ (by simp [Act.eval]) ho5 a2 (L.length - (i / 12 + 1)) (c1 - (i / 12 + 1)) (recs (L.drop (i / 12 + 1))) (by simp [Act.eval]) S2.out (N2.out _ ((((Below.refl _ _).alloc (Nat.le_refl _) _).drew).grown hg5 (by simp) (by simp [Value.ownBlock]))) (recs_one _) SM2.out (by omega) (by have := hg5.size; simp at this; omega) ?_; intro v6 w6 ho6 hg6))
          all_goals go_wp2_with fail
          all_goals go_meet
          all_goals
            have hg5' := hg5.size
            have hb5 : Below w4.heap.size w4 w5 := (((Below.refl _ _).alloc (Nat.le_refl _) _).drew).grown hg5 (by simp) (by simp [Value.ownBlock])
            refine ⟨?_, hb5.grown hg6 hb5.size (fun q hq => (ho5.lt q hq).1)⟩
            have hh := ho6
            rw [List.nil_append] at hh
            have e1 : recs (L.take (i / 12)) ++ recs (L.drop (i / 12 + 1)) = recs R := by
              have := HRM.out
              rw [List.drop_zero, List.take_of_length_le (l := L.drop (i / 12 + 1)) (by rw [List.length_drop]; omega)] at this
              exact this
            have e2 : 0 + i / 12 + (L.length - (i / 12 + 1)) = R.length := by omega
            rw [e1, e2] at hh
            exact hh
        case rest =>
          obtain ⟨hown5, hb5⟩ := hcut
          obtain ⟨A5, c5, rfl, hn5, hm5⟩ := own_form hown5
          have hbw5 : Below w.heap.size w wc := hbw.trans (hb5.mono hbw.size)
          have hc5 := below_cell hb5 hc4
          have hr3 := HR3.out.below hb5
          have hr5 := Rd.of_own hown5
          have HR3' := Lib.hid hr3
          have HR5 := Lib.hid hr5
          have hd2 : (((i / 12 : Nat) : Int) == (i : Int) / 12) = true := by simp
          unfold maxLen at hm5
          clear hown5 hr3 hr5 hc4
          rw [hRl] at hn5 ⊢
          have HRl := Lib.hid hRl
          clear hRl
          have hmm : ((L.length - 1 : Nat) : Int) ≤ (c5 : Int) := by omega
          go_wp2_with fail
          refine (records_same A3 A5 R (L.length - 1) (L.length - 1) _ HRl.out.symm (by have := HR3'.out; rw [HRl.out] at this; exact this) (by have := HR5.out; rw [HRl.out] at this; exact this) (by omega)).mono ?_
          rintro e w6 ⟨rfl, hb6⟩
          have hbw6 : Below w.heap.size w w6 := hbw5.trans (hb6.mono hbw5.size)
          go_wp2_with fail
          refine (lives_any _ s (hS.below hbw6)).mono ?_
          rintro e w7 ⟨rfl, hb7⟩
          have hbw7 : Below w.heap.size w w7 := hbw6.trans (hb7.mono hbw6.size)
          go_wp2_with fail
          go_ret
          exact ⟨rfl, hbw7⟩
  · exfalso
    rw [List.all_eq_false] at hbad
    obtain ⟨r, hr, hro⟩ := hbad
    exact hro (HALL.out r hr).2
end Go.Proofs.YtdcgminjamofmaaDoor
