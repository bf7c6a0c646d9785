/- crimplaw42.JournalsBlocks returns true. -/
import Derived.Test.YtdcgminjamofmaaDoorAppend
import Derived.Test.YtdcgminjamofmaaDoorScanP
namespace Go.Proofs.YtdcgminjamofmaaDoor
open Go.RowKit

theorem step_append_eq {P : Program} {w : World} {ops : Array Oper} {o : Oper} {a : Act} {K : Act → World → Prop} {Q : Exit → Act → World → Prop} {E : Prop} (hw : Region.wanted o (yielded ops a.tmps) = true) (s x : Operand) (t : TypeId)
    (ho : o.op = .call { callee := .builtin .append, args := #[s, x], argTypes := #[t, t] }) (vs vx : Value) (hs : a.eval s = vs) (hx : a.eval x = vx) (v' : Value) (w' : World)
    (hr : (Builtin.append_ #[t, t] o.type #[vs, vx]).run P w = .ok v' w') (h : K (a.put o.dst v') w') : if Region.wanted o (yielded ops a.tmps) = true then Oper.wp P o a w K Q else E := by
  rw [if_pos hw]
  exact Lib.wp_append_run w s x t t ho vs vx hs hx v' w' hr h
theorem conv_rd {w : World} {b o n c : Nat} {l : List Int} (h : Rd w (some ⟨b, o, none⟩) 1 n (bts l)) : (convert 39 9 (.slice (some ⟨b, o, none⟩) n c)).run Tryd.prog w = .ok (.string (strOfNums l)) w := by
  have hl : l.length = n := by have := h.1; rw [bts_len] at this; omega
  refine run_convert_bytes_arg (P := Tryd.prog) w 39 5 Tryd.underlying39 Tryd.underlying5 b o n c l hl (fun i hi => ?_) 9 Tryd.underlying9
  obtain ⟨b', o', e, _, hc⟩ := h.2 (by omega)
  obtain ⟨rfl, rfl⟩ : b = b' ∧ o = o' := by simpa using e
  exact hc i _ (bts_at l i (by omega))
theorem conv_own {w : World} {base n : Nat} {v : Value} {l : List Int} (h : w.ownsRow base 5 1 v n (bts l)) : (convert 39 9 v).run Tryd.prog w = .ok (.string (strOfNums l)) w := by
  have hl : l.length = n := by have := h.1; rw [bts_len] at this; omega
  rcases h.2 with ⟨rfl, rfl⟩ | ⟨g, cap, cur, rfl, _⟩
  · have : l = [] := List.length_eq_zero_iff.1 hl
    subst this
    exact run_convert_bytes_nil (P := Tryd.prog) w 39 5 Tryd.underlying39 Tryd.underlying5 0 0 9 Tryd.underlying9
  · refine run_convert_bytes_arg (P := Tryd.prog) w 39 5 Tryd.underlying39 Tryd.underlying5 g 0 n cap l hl (fun i hi => ?_) 9 Tryd.underlying9
    obtain ⟨b, o, e, _, hc⟩ := (Rd.of_own h).2 (by omega)
    obtain ⟨rfl, rfl⟩ : g = b ∧ 0 = o := by simpa using e
    exact hc i _ (bts_at l i (by omega))

set_option linter.unusedSimpArgs false in
set_option maxHeartbeats 4000000 in
set_option maxRecDepth 100000 in
theorem blocks_any (A : Option Addr) (l : List RS) (n c : Nat) (B C : Option Addr) (tl an : List Int) (nt ct na ca : Nat) (w : World) (s : Nat → Addr) (hS : Sent w s) (hn : n = l.length) (h : Rd w A 4 n (rss l)) (hf : ∀ r ∈ l, r.fit) (hl : n ≤ 9223372036854775807)
    (hnt : nt = tl.length) (hB : Rd w B 1 nt (bts tl)) (hBn : B = none → nt = 0) (htb : ∀ x ∈ tl, 0 ≤ x ∧ x ≤ 255) (hna : na = an.length) (hC : Rd w C 1 na (bts an)) (hab : ∀ x ∈ an, 0 ≤ x ∧ x ≤ 255) (hlt : nt ≤ 9223372036854775807) (hla : na ≤ 9223372036854775807) :
    Calls Tryd.prog 7 #[.slice A n c, .slice B nt ct, .slice C na ca] w (RetBelow (.bool true) w) := by
  have hall := ofS_all l hf
  have hlen := ofS_len l
  have hof := of_any A l n c w hn h hf hl
  obtain ⟨L, hL⟩ : ∃ L, ofS l = L := ⟨_, rfl⟩
  rw [hL] at hall hlen hof
  have HALL := Lib.hid hall
  have HOF := Lib.hid hof
  have HB := Lib.hid hB
  have HC := Lib.hid hC
  have HBN := Lib.hid hBn
  have HTB := Lib.hid htb
  have HAB := Lib.hid hab
  have HNT := Lib.hid hnt
  have HNA := Lib.hid hna
  clear h hf hl hn hL hall hof hB hC hBn htb hab hnt hna
  go_enter Tryd.func7, Tryd.ntmps7
  by_cases hbig : 11 < nt ∨ 100 < na
  · have key : ∀ {K : Prop}, K → K := id
    by_cases h1 : 11 < nt
    · have h1' : (11 : Int) < (nt : Int) := by omega
      go_wp2_with fail
      refine (lives_any _ s hS).mono ?_
      rintro e w4 ⟨rfl, hb4⟩
      go_wp2_with fail
      go_ret
      exact ⟨rfl, hb4⟩
    · have h1' : ¬ (11 : Int) < (nt : Int) := by omega
      have h2' : (100 : Int) < (na : Int) := by omega
      go_wp2_with fail
      refine (lives_any _ s hS).mono ?_
      rintro e w4 ⟨rfl, hb4⟩
      go_wp2_with fail
      go_ret
      exact ⟨rfl, hb4⟩
  · have h1 : nt ≤ 11 := by omega
    have h2 : na ≤ 100 := by omega
    have h1' : ¬ (11 : Int) < (nt : Int) := by omega
    have h2' : ¬ (100 : Int) < (na : Int) := by omega
    clear hbig hlt hla
    obtain ⟨i0, hi0, hz0, hz1, hz2⟩ := info_parts byte_info
    go_wp2_with fail
    refine HOF.out.mono ?_
    rintro e w1 ⟨v, rfl, hown, hb1⟩
    clear HOF
    obtain ⟨A1, c1, rfl, hn1, hm1⟩ := own_form hown
    have HO1 := Lib.hid hown
    have HR1 := Lib.hid (Rd.of_own hown)
    clear hown
    go_wp2_with fail
    go_loopw [8, 9] (fun s8 s9 wr => ∃ k : Nat, k ≤ L.length ∧ s9 = .int .i64 k ∧ wr.ownsRow w1.heap.size 5 1 s8 (k * 12) (bts (encs (L.take k))) ∧ Below w1.heap.size w1 wr) (fun _ s9 _ => L.length - (intOf s9).toNat)
    case atStart => exact ⟨0, by omega, rfl, World.ownsRow_nil _ _ _ _, Below.refl _ _⟩
    case round =>
      obtain ⟨k, hk, rfl, hown, hbr⟩ := hrel
      by_cases hlt : k < L.length
      · obtain ⟨b, o, rfl, hbl, c0, c1', c2, c3⟩ := rd_rec (HR1.out.below hbr) k hlt
        have hro := (HALL.out L[k] (List.getElem_mem _)).2
        obtain ⟨r, hr⟩ : ∃ r, L[k] = r := ⟨_, rfl⟩
        rw [hr] at c0 c1' c2 c3 hro
        have hall := okRec_iff.1 hro
        have HR := Lib.hid hr
        have HO := Lib.hid hown
        have hki : (k : Int) < (L.length : Int) := by omega
        have hsr := hbr.size
        clear hr hown
        go_wp2_with fail
        refine (lawblock_any r.t r.k r.j r.v wr (by omega) (by omega) (by omega) (by omega)).mono ?_
        rintro e w2 ⟨v2, rfl, hown2, hb2⟩
        obtain ⟨g2, cap2, rfl, hg2, hlt2⟩ := hown2.form (by omega)
        have HO2 := Lib.hid hown2
        have HO' := Lib.hid (own_keep HO.out (Nat.le_refl _) hb2)
        have hbr2 : Below w1.heap.size w1 w2 := hbr.trans (hb2.mono hsr)
        have hsr2 := hbr2.size
        clear hown2
        go_wp2_with (at_builtin; refine wpList_append_own _ rfl _ _ 39 rfl w1.heap.size 5 i0 (.int .u8 0) 1 1 Tryd.underlying39 hi0 hz0 hz1 hz2 rfl (by decide) _ _ _ rfl HO'.out ⟨g2, 0, none⟩ 12 cap2 (bts (blk r.t r.k r.j r.v)) rfl HO2.out.1 (HO2.out.cells rfl) (bts_one _) (by simp [maxLen]; omega) (by omega) hsr2 ?_)
        intro v' w3 hown3 hg3 _
        have HO3 := Lib.hid hown3
        clear hown3
        go_wp2_with fail
        go_roundw
        case rel =>
          refine ⟨k + 1, by omega, by go_num, ?_, hbr2.grown hg3 hsr2 (fun q hq => (HO'.out.lt q hq).1)⟩
          have := HO3.out
          rw [← encs_step hlt HR.out, show k * 12 + 12 = (k + 1) * 12 by omega] at this
          exact this
        case measure => simp [intOf]; omega
      · obtain rfl : k = L.length := by omega
        rw [List.take_length] at hown
        obtain ⟨A8, c8, rfl, hn8, hm8⟩ := own_form hown
        have HO8 := Lib.hid hown
        have HR1' := Lib.hid (HR1.out.below hbr)
        have hbwr : Below w.heap.size w wr := hb1.trans (hbr.mono hb1.size)
        clear hown
        go_wp2_with fail
        refine (encode_any A1 L L.length c1 wr rfl HR1'.out (fun r hr => (HALL.out r hr).1) (by omega)).mono ?_
        intro e w2 hret
        obtain ⟨g, rfl, hown2, hb2⟩ := enc_ok hret (by rw [List.all_eq_true]; exact fun r hr => (HALL.out r hr).2)
        have hbw2 : Below w.heap.size w w2 := hbwr.trans (hb2.mono hbwr.size)
        have HO2 := Lib.hid hown2
        have HO8' := Lib.hid (own_keep HO8.out (Nat.le_refl _) hb2)
        have cv1 := conv_own HO2.out
        have cv2 := conv_own HO8'.out
        have HC2 := Lib.hid (HC.out.below hbw2)
        clear hown2 hret
        go_wp2_with fail
        refine (sum_any C an na ca w2 HNA.out HC2.out HAB.out (by omega)).mono ?_
        rintro e w3 ⟨rfl, rfl⟩
        have hjb := jsum_bd an
        obtain ⟨J, hJ⟩ : ∃ J, jsum an = J := ⟨_, rfl⟩
        rw [hJ] at hjb ⊢
        have hJ1 : IntKind.i64.wrap J = J := IntWalk.i64_in _ (by omega)
        have HJ := Lib.hid hJ
        clear hJ cv1 cv2
        go_wp2_with fail
        refine (lawsum_any C an na ca w2 HNA.out HC2.out HAB.out (by omega)).mono ?_
        rintro e w3 ⟨rfl, rfl⟩
        rw [HJ.out]
        have hel : (encs L).length = L.length * 12 := encs_len L
        obtain ⟨v3, w3, hr3, ho3, hg3⟩ := run_append_rd (P := Tryd.prog) (w2.alloc (.cells #[] 5)) w2.heap.size 39 39 5 i0 _ Tryd.underlying39 hi0 hz0 hz1 hz2 rfl (.slice (some ⟨w2.heap.size, 0, none⟩) 0 0) 0 [] (own_new _ 1 0 [] (Nat.le_refl _) (by simp [maxLen]) rfl rfl) (some ⟨g, 0, none⟩) (L.length * 12) (L.length * 12) (encs L) ((Rd.of_own HO2.out).alloc _) (by simp) (by omega) (by simp)
        have hb3 : Below w2.heap.size w2 w3 := ((Below.refl _ _).alloc (Nat.le_refl _) _).grown hg3 (by simp) (by simp [Value.ownBlock])
        have hbw3 : Below w.heap.size w w3 := hbw2.trans (hb3.mono hbw2.size)
        obtain ⟨v4, w4, hr4, ho4, hg4⟩ := run_append_rd (P := Tryd.prog) w3 w2.heap.size 39 39 5 i0 _ Tryd.underlying39 hi0 hz0 hz1 hz2 rfl v3 _ _ ho3 B nt ct tl (HB.out.below hbw3) HBN.out (by omega) hb3.size
        have hb4 : Below w2.heap.size w2 w4 := hb3.grown hg4 hb3.size (fun q hq => (ho3.lt q hq).1)
        have ho4' : w4.ownsRow w2.heap.size 5 1 v4 (L.length * 12 + nt) (bts (encs L ++ tl)) := by
          have := ho4
          rw [Nat.zero_add, List.nil_append] at this
          simpa [bts] using this
        have HR3 := Lib.hid hr3
        have HR4 := Lib.hid hr4
        have HO4 := Lib.hid ho4'
        clear hr3 hr4 ho3 ho4 ho4' hg3 hg4 hb3 hbw3
        have hJJ : (J != J) = false := by simp
        go_wp2_with (at_builtin; first | refine Lib.wpList_append_run _ rfl _ _ _ _ rfl _ _ rfl rfl _ _ HR3.out ?_ | refine Lib.wpList_append_run _ rfl _ _ _ _ rfl _ _ rfl rfl _ _ HR4.out ?_)
        obtain ⟨A4, c4, rfl, hn4, hm4⟩ := own_form HO4.out
        unfold maxLen at hm4
        have hbw4 : Below w.heap.size w w4 := hbw2.trans (hb4.mono hbw2.size)
        have hdiv : (L.length * 12 + nt) / 12 = L.length := by omega
        have hok : ∀ r ∈ L, r.ok = true := fun r hr => (HALL.out r hr).2
        have hsc := scan_all (bs := encs L ++ tl) (L := L) (fun q hq => at12_encs hq tl) hok L.length (Nat.le_refl _)
        rw [List.take_length] at hsc
        have htl : (encs L ++ tl).length = L.length * 12 + nt := by rw [List.length_append, hel, HNT.out]
        have hby : ∀ x ∈ encs L ++ tl, 0 ≤ x ∧ x ≤ 255 := by
          intro x hx
          rcases List.mem_append.1 hx with hx | hx
          · exact encs_bytes hok x hx
          · exact HTB.out x hx
        have HSC := Lib.hid hsc
        have HTL := Lib.hid htl
        have HBY := Lib.hid hby
        clear hsc htl hby HR3 HR4 hel hok
        go_wp2_with fail
        refine (scan_any A4 (encs L ++ tl) (L.length * 12 + nt) c4 w4 HTL.out.symm (Rd.of_own HO4.out) HBY.out hn4 (by omega) hm4).mono ?_
        rintro e w5 ⟨A5, A6, rfl, hr5, hr6, hb5⟩
        rw [HTL.out, hdiv, HSC.out.1, HSC.out.2]
        rw [HTL.out, hdiv, HSC.out.1] at hr5
        have hbw5 : Below w.heap.size w w5 := hbw4.trans (hb5.mono hbw4.size)
        have HR5 := Lib.hid hr5
        have HRL5 := Lib.hid ((HR1'.out.below hb2).below (hb4.trans (hb5.mono hb4.size)))
        clear hr5 hr6
        go_wp2_with fail
        refine (records_same A5 A1 L L.length c1 w5 rfl HR5.out HRL5.out (by omega)).mono ?_
        rintro e w6 ⟨rfl, hb6⟩
        have hbw6 : Below w.heap.size w w6 := hbw5.trans (hb6.mono hbw5.size)
        have HO4' := Lib.hid (own_keep HO4.out (Nat.le_refl _) (hb5.trans (hb6.mono hb5.size)))
        have HO8'' := Lib.hid (own_keep HO8'.out (Nat.le_refl _) (hb4.trans ((hb5.trans (hb6.mono hb5.size)).mono hb4.size)))
        have hA4 : A4 = none → L.length * 12 + nt = 0 := by
          intro e4
          subst e4
          rcases HO4.out.2 with ⟨_, h0⟩ | ⟨g', _, _, hh, _⟩
          · exact h0
          · cases hh
        have HA4 := Lib.hid hA4
        clear hA4 HO4 HO8' HO8 HO2 HR1' HRL5 HR5 HR1 HO1
        go_wp2_with fail
        refine (append_any A4 (encs L ++ tl) (L.length * 12 + nt) c4 ⟨7, 4, 9, 1⟩ _ HTL.out.symm ((Rd.of_own HO4'.out).alloc _) HA4.out hn4 (by omega) hm4 (by unfold Rec.fit; dsimp only; omega)).mono ?_
        rintro e w8 (⟨_, A7, rfl, hr7, hb8⟩ | ⟨hbad, _⟩)
        · rw [HTL.out, hdiv] at hr7 ⊢
          have hX : (encs L ++ tl).take (L.length * 12) ++ Rec.blk ⟨7, 4, 9, 1⟩ = encs L ++ Rec.blk ⟨7, 4, 9, 1⟩ := by rw [List.take_left' (encs_len L)]
          rw [hX] at hr7
          have HR7 := Lib.hid hr7
          obtain ⟨b0, b1, b2, b3⟩ := box4 hb8
          have hs8 := hb8.size
          simp only [World.size_alloc] at hs8
          have hs8' : w6.heap.size < w8.heap.size := by omega
          have hbw8 : Below w.heap.size w w8 := (hbw6.alloc hbw6.size _).trans (hb8.mono (by simp; have := hbw6.size; omega))
          clear hr7 hX
          obtain ⟨b7, o7, hA7, _, _⟩ := HR7.out.2 (by omega)
          subst hA7
          have hcv : ∀ W, Below w8.heap.size w8 W → (convert 39 9 (.slice (some ⟨b7, o7, none⟩) (L.length * 12 + 12) (L.length * 12 + 12))).run Tryd.prog W = .ok (.string (strOfNums (encs L ++ Rec.blk ⟨7, 4, 9, 1⟩))) W := fun W hW => conv_rd (HR7.out.below hW)
          have ho8 := own_keep (HO8''.out.alloc (.cells #[.int .i64 7, .int .u8 4, .int .i64 9, .int .i64 1] 37)) (Nat.le_refl _) hb8
          have hA8 : A8 = none → L.length * 12 = 0 := by
            intro e8
            subst e8
            rcases ho8.2 with ⟨_, h0⟩ | ⟨g', _, _, hh, _⟩
            · exact h0
            · cases hh
          obtain ⟨v9, w9, hr9, ho9, hg9⟩ := run_append_rd (P := Tryd.prog) (w8.alloc (.cells #[] 5)).drew w8.heap.size 39 39 5 i0 _ Tryd.underlying39 hi0 hz0 hz1 hz2 rfl (.slice (some ⟨w8.heap.size, 0, none⟩) 0 0) 0 [] (World.ownsRow.drew (own_new _ 1 0 [] (Nat.le_refl _) (by simp [maxLen]) rfl rfl)) A8 (L.length * 12) c8 (encs L) ((Rd.of_own ho8).alloc _) hA8 (by omega) (by simp)
          have hb9 : Below w8.heap.size w8 w9 := (((Below.refl _ _).alloc (Nat.le_refl _) _).drew).grown hg9 (by simp) (by simp [Value.ownBlock])
          rw [Nat.zero_add, List.nil_append] at ho9
          have k0 := below_cell hb9 b0
          have k1 := below_cell hb9 b1
          have k2 := below_cell hb9 b2
          have k3 := below_cell hb9 b3
          have cv0 := hcv w8.drew (Below.refl _ _).drew
          have cv1 := hcv (w8.alloc (.cells #[] 5)).drew ((Below.refl _ _).alloc (Nat.le_refl _) _).drew
          have cv2 := hcv w9 hb9
          have hRB : ∀ (wB : World) (gB capB : Nat), wB.ownsRow w9.heap.size 5 1 (.slice (some ⟨gB, 0, none⟩) 12 capB) 12 (bts (blk 7 4 9 1)) → Below w9.heap.size w9 wB →
              ∃ v' w', (Builtin.append_ #[39, 39] 39 #[v9, .slice (some ⟨gB, 0, none⟩) 12 capB]).run Tryd.prog wB = .ok v' w' ∧ (convert 39 9 v').run Tryd.prog w' = .ok (.string (strOfNums (encs L ++ Rec.blk ⟨7, 4, 9, 1⟩))) w' ∧ Below w8.heap.size w8 w' := by
            intro wB gB capB hoB hbB
            have hb10 : Below w8.heap.size w8 wB := hb9.trans (hbB.mono hb9.size)
            have ho9' := own_keep ho9 (Nat.le_refl _) hbB
            obtain ⟨v', w', hr', ho', hg'⟩ := run_append_rd (P := Tryd.prog) wB w8.heap.size 39 39 5 i0 _ Tryd.underlying39 hi0 hz0 hz1 hz2 rfl v9 _ _ ho9' (some ⟨gB, 0, none⟩) 12 capB (blk 7 4 9 1) (Rd.of_own hoB) (by simp) (by omega) hb10.size
            refine ⟨v', w', hr', ?_, hb10.grown hg' hb10.size (fun q hq => (ho9'.lt q hq).1)⟩
            have e : bts (encs L) ++ bts (blk 7 4 9 1) = bts (encs L ++ Rec.blk ⟨7, 4, 9, 1⟩) := by simp [bts, Rec.blk]
            rw [e] at ho'
            exact conv_own ho'
          obtain ⟨X, hX⟩ : ∃ X, strOfNums (encs L ++ Rec.blk ⟨7, 4, 9, 1⟩) = X := ⟨_, rfl⟩
          rw [hX] at cv0 cv1 cv2
          simp only [hX] at hRB hcv
          have HRA := Lib.hid hr9
          have HRB := Lib.hid hRB
          have HCV := Lib.hid hcv
          clear hr9 ho9 hg9 hRB hcv ho8 hA8 HO8'' HR7 HO4' hX
          go_upto_region 18 with fail
          obtain ⟨M, hM⟩ : ∃ M, L.length * 12 + 12 = M := ⟨_, rfl⟩
          rw [hM] at cv0 cv1 cv2 HCV ⊢
          obtain ⟨N, hN⟩ : ∃ N, L.length * 12 = N := ⟨_, rfl⟩
          rw [hN] at HRA ⊢
          clear hM hN HA4 hn4 hm4 hdiv HSC HTL HBY hn8 hm8 hn1 hm1 HALL HC2 HJ hjb hJ1 hJJ HB HC HBN HTB HAB HNT HNA
          have hSA : ∀ W, Below w8.heap.size w8 W → (fun w' => w'.cell? ⟨w6.heap.size, 0, none⟩ = some (.int .i64 7) ∧ w'.cell? ⟨w6.heap.size, 1, none⟩ = some (.int .u8 4) ∧ w'.cell? ⟨w6.heap.size, 2, none⟩ = some (.int .i64 9) ∧ w'.cell? ⟨w6.heap.size, 3, none⟩ = some (.int .i64 1) ∧ (convert 39 9 (.slice (some ⟨b7, o7, none⟩) M M)).run Tryd.prog w' = .ok (.string X) w') W := fun W hW => ⟨below_cell hW b0, below_cell hW b1, below_cell hW b2, below_cell hW b3, HCV.out W hW⟩
          have HSA := Lib.hid hSA
          clear hSA cv0 cv1 cv2 k0 k1 k2 k3 HCV b0 b1 b2 b3
          refine wp_region_held_drew (S := (fun w' => w'.cell? ⟨w6.heap.size, 0, none⟩ = some (.int .i64 7) ∧ w'.cell? ⟨w6.heap.size, 1, none⟩ = some (.int .u8 4) ∧ w'.cell? ⟨w6.heap.size, 2, none⟩ = some (.int .i64 9) ∧ w'.cell? ⟨w6.heap.size, 3, none⟩ = some (.int .i64 1) ∧ (convert 39 9 (.slice (some ⟨b7, o7, none⟩) M M)).run Tryd.prog w' = .ok (.string X) w')) (by kernel_rfl) (HSA.out _ (Below.refl _ _).drew) (fun hS0 => ?_)
          refine wpAnyH_take (i := 0) (v := ?_) rfl (by kernel_rfl) (by kernel_rfl) (by kernel_rfl) (fun _ _ _ h => h) (Or.inl ⟨by rfl, ?_⟩) hS0 ?_
          rotate_left
          · intro w0 hSw
            (try dsimp only at hSw)
            go_split_ands
            go_simp
            try with_reducible rfl
          try simp only [Act.put, List.getElem_toArray, List.getElem_cons_zero, List.getElem_cons_succ, List.setIfInBounds_toArray, List.set_cons_zero, List.set_cons_succ]
          refine wpAnyH_take (i := 1) (v := ?_) rfl (by kernel_rfl) (by kernel_rfl) (by kernel_rfl) (fun _ _ _ h => h) (Or.inl ⟨by rfl, ?_⟩) hS0 ?_
          rotate_left
          · intro w0 hSw
            (try dsimp only at hSw)
            go_split_ands
            go_simp
            try with_reducible rfl
          try simp only [Act.put, List.getElem_toArray, List.getElem_cons_zero, List.getElem_cons_succ, List.setIfInBounds_toArray, List.set_cons_zero, List.set_cons_succ]
          refine wpAnyH_take (i := 2) (v := ?_) rfl (by kernel_rfl) (by kernel_rfl) (by kernel_rfl) (fun _ _ _ h => h) (Or.inl ⟨by rfl, ?_⟩) hS0 ?_
          rotate_left
          · intro w0 hSw
            (try dsimp only at hSw)
            go_split_ands
            go_simp
            try with_reducible rfl
          try simp only [Act.put, List.getElem_toArray, List.getElem_cons_zero, List.getElem_cons_succ, List.setIfInBounds_toArray, List.set_cons_zero, List.set_cons_succ]
          refine wpAnyH_take (i := 3) (v := ?_) rfl (by kernel_rfl) (by kernel_rfl) (by kernel_rfl) (fun _ _ _ h => h) (Or.inl ⟨by rfl, ?_⟩) hS0 ?_
          rotate_left
          · intro w0 hSw
            (try dsimp only at hSw)
            go_split_ands
            go_simp
            try with_reducible rfl
          try simp only [Act.put, List.getElem_toArray, List.getElem_cons_zero, List.getElem_cons_succ, List.setIfInBounds_toArray, List.set_cons_zero, List.set_cons_succ]
          refine wpAnyH_take (i := 4) (v := ?_) rfl (by kernel_rfl) (by kernel_rfl) (by kernel_rfl) (fun _ _ _ h => h) (Or.inl ⟨by rfl, ?_⟩) hS0 ?_
          rotate_left
          · intro w0 hSw
            (try dsimp only at hSw)
            go_split_ands
            go_simp
            try with_reducible rfl
          try simp only [Act.put, List.getElem_toArray, List.getElem_cons_zero, List.getElem_cons_succ, List.setIfInBounds_toArray, List.set_cons_zero, List.set_cons_succ]
          refine wpAnyH_take (i := 5) (v := ?_) rfl (by kernel_rfl) (by kernel_rfl) (by kernel_rfl) (fun _ _ _ h => h) (Or.inl ⟨by rfl, ?_⟩) hS0 ?_
          rotate_left
          · intro w0 hSw
            (try dsimp only at hSw)
            go_split_ands
            go_simp
            try with_reducible rfl
          try simp only [Act.put, List.getElem_toArray, List.getElem_cons_zero, List.getElem_cons_succ, List.setIfInBounds_toArray, List.set_cons_zero, List.set_cons_succ]
          refine wpAnyH_take (i := 6) (v := ?_) rfl (by kernel_rfl) (by kernel_rfl) (by kernel_rfl) (fun _ _ _ h => h) (Or.inl ⟨by rfl, ?_⟩) hS0 ?_
          rotate_left
          · intro w0 hSw
            (try dsimp only at hSw)
            go_split_ands
            go_simp
            try with_reducible rfl
          try simp only [Act.put, List.getElem_toArray, List.getElem_cons_zero, List.getElem_cons_succ, List.setIfInBounds_toArray, List.set_cons_zero, List.set_cons_succ]
          refine wpAnyH_take (i := 7) (v := ?_) rfl (by kernel_rfl) (by kernel_rfl) (by kernel_rfl) (fun _ _ _ h => h) (Or.inl ⟨by rfl, ?_⟩) hS0 ?_
          rotate_left
          · intro w0 hSw
            (try dsimp only at hSw)
            go_split_ands
            go_simp
            try with_reducible rfl
          try simp only [Act.put, List.getElem_toArray, List.getElem_cons_zero, List.getElem_cons_succ, List.setIfInBounds_toArray, List.set_cons_zero, List.set_cons_succ]
          refine wpAnyH_take (i := 8) (v := ?_) rfl (by kernel_rfl) (by kernel_rfl) (by kernel_rfl) (fun _ _ _ h => h) (Or.inl ⟨by rfl, ?_⟩) hS0 ?_
          rotate_left
          · intro w0 hSw
            (try dsimp only at hSw)
            go_split_ands
            go_simp
            try with_reducible rfl
          try simp only [Act.put, List.getElem_toArray, List.getElem_cons_zero, List.getElem_cons_succ, List.setIfInBounds_toArray, List.set_cons_zero, List.set_cons_succ]
          refine wpAnyH_take (i := 9) (v := ?_) rfl (by kernel_rfl) (by kernel_rfl) (by kernel_rfl) (fun _ _ _ h => h) (Or.inl ⟨by rfl, ?_⟩) hS0 ?_
          rotate_left
          · intro w0 hSw
            (try dsimp only at hSw)
            go_split_ands
            go_simp
            try with_reducible rfl
          try simp only [Act.put, List.getElem_toArray, List.getElem_cons_zero, List.getElem_cons_succ, List.setIfInBounds_toArray, List.set_cons_zero, List.set_cons_succ]
          refine wpAnyH_take (i := 10) (v := ?_) rfl (by kernel_rfl) (by kernel_rfl) (by kernel_rfl) (fun _ _ _ h => h) (Or.inl ⟨by rfl, ?_⟩) hS0 ?_
          rotate_left
          · intro w0 hSw
            (try dsimp only at hSw)
            go_split_ands
            go_simp
            try with_reducible rfl
          try simp only [Act.put, List.getElem_toArray, List.getElem_cons_zero, List.getElem_cons_succ, List.setIfInBounds_toArray, List.set_cons_zero, List.set_cons_succ]
          refine wpAnyH_take (i := 11) (v := ?_) rfl (by kernel_rfl) (by kernel_rfl) (by kernel_rfl) (fun _ _ _ h => h) (Or.inl ⟨by rfl, ?_⟩) hS0 ?_
          rotate_left
          · intro w0 hSw
            (try dsimp only at hSw)
            go_split_ands
            go_simp
            try with_reducible rfl
          try simp only [Act.put, List.getElem_toArray, List.getElem_cons_zero, List.getElem_cons_succ, List.setIfInBounds_toArray, List.set_cons_zero, List.set_cons_succ]
          refine wpAnyH_take (i := 13) (v := ?_) rfl (by kernel_rfl) (by kernel_rfl) (by kernel_rfl) (fun _ _ _ h => h) (Or.inl ⟨by rfl, ?_⟩) hS0 ?_
          rotate_left
          · intro w0 hSw
            (try dsimp only at hSw)
            go_split_ands
            go_simp
            try with_reducible rfl
          try simp only [Act.put, List.getElem_toArray, List.getElem_cons_zero, List.getElem_cons_succ, List.setIfInBounds_toArray, List.set_cons_zero, List.set_cons_succ]
          refine wpAnyH_take (i := 15) (v := ?_) rfl (by kernel_rfl) (by kernel_rfl) (by kernel_rfl) (fun _ _ _ h => h) (Or.inl ⟨by rfl, ?_⟩) hS0 ?_
          rotate_left
          · intro w0 hSw
            (try dsimp only at hSw)
            go_split_ands
            go_simp
            try with_reducible rfl
          try simp only [Act.put, List.getElem_toArray, List.getElem_cons_zero, List.getElem_cons_succ, List.setIfInBounds_toArray, List.set_cons_zero, List.set_cons_succ]
          refine wpAnyH_ready (rs := [12]) (by kernel_rfl) (by simp) (AllReadyH.cons rfl (fun K hK => ?_) AllReadyH.nil)
          go_simp
          refine hK.out _ _ (HSA.out _ ((Below.refl _ _).alloc (Nat.le_refl _) _).drew) (fun hS1 => ?_)
          clear hK K
          refine wpAnyH_ready (rs := [14]) (by kernel_rfl) (by simp) (AllReadyH.cons rfl (fun K hK => ?_) AllReadyH.nil)
          refine step_append_eq (by simp [Region.wanted, yielded]) (.tmp 114) (.tmp 115) 39 rfl _ _ (by simp [Act.eval]) (by simp [Act.eval]) _ _ HRA.out ?_
          refine hK.out _ _ (HSA.out _ hb9) (fun hS2 => ?_)
          clear hK K
          refine wpAnyH_ready (rs := [16]) (by kernel_rfl) (by simp) (AllReadyH.cons rfl (fun K hK => ?_) AllReadyH.nil)
          go_simp
          refine (lawblock_any 7 4 9 1 _ (by omega) (by omega) (by omega) (by omega)).mono ?_
          rintro e wB ⟨vB, rfl, hoB, hbB⟩
          obtain ⟨gB, capB, rfl, hgB, hltB⟩ := hoB.form (by omega)
          obtain ⟨v10, w10, hrB, cv5, hb10⟩ := HRB.out wB gB capB hoB hbB
          have HRBB := Lib.hid hrB
          clear hrB
          refine hK.out _ _ (HSA.out _ (hb9.trans (hbB.mono hb9.size))) (fun hS3 => ?_)
          clear hK K
          refine wpAnyH_ready (rs := [17]) (by kernel_rfl) (by simp) (AllReadyH.cons rfl (fun K hK => ?_) AllReadyH.nil)
          refine step_append_eq (by simp [Region.wanted, yielded]) (.tmp 116) (.tmp 118) 39 rfl _ _ (by simp [Act.eval]) (by simp [Act.eval]) _ _ HRBB.out ?_
          refine hK.out _ _ (HSA.out _ hb10) (fun hS4 => ?_)
          clear hK K
          refine wpAnyH_ready (rs := [18]) (by kernel_rfl) (by simp) (AllReadyH.cons rfl (fun K hK => ?_) AllReadyH.nil)
          go_simp
          refine hK.out _ _ (HSA.out _ hb10) (fun hS5 => ?_)
          clear hK K
          refine wpAnyH_take (i := 19) (v := ?_) rfl (by kernel_rfl) (by kernel_rfl) (by kernel_rfl) (fun _ _ _ h => h) (Or.inl ⟨by rfl, ?_⟩) hS5 ?_
          rotate_left
          · intro w0 hSw
            (try dsimp only at hSw)
            go_split_ands
            go_simp
            try with_reducible rfl
          try simp only [Act.put, List.getElem_toArray, List.getElem_cons_zero, List.getElem_cons_succ, List.setIfInBounds_toArray, List.set_cons_zero, List.set_cons_succ]
          refine wpAnyH_take (i := 20) (v := ?_) rfl (by kernel_rfl) (by kernel_rfl) (by kernel_rfl) (fun _ _ _ h => h) (Or.inl ⟨by rfl, ?_⟩) hS5 ?_
          rotate_left
          · intro w0 hSw
            (try dsimp only at hSw)
            go_split_ands
            go_simp
            try with_reducible rfl
          try simp only [Act.put, List.getElem_toArray, List.getElem_cons_zero, List.getElem_cons_succ, List.setIfInBounds_toArray, List.set_cons_zero, List.set_cons_succ]
          refine wpAnyH_take (i := 21) (v := ?_) rfl (by kernel_rfl) (by kernel_rfl) (by kernel_rfl) (fun _ _ _ h => h) (Or.inl ⟨by rfl, ?_⟩) hS5 ?_
          rotate_left
          · intro w0 hSw
            (try dsimp only at hSw)
            go_split_ands
            go_simp
            try with_reducible rfl
          try simp only [Act.put, List.getElem_toArray, List.getElem_cons_zero, List.getElem_cons_succ, List.setIfInBounds_toArray, List.set_cons_zero, List.set_cons_succ]
          refine wpAnyH_ready (rs := [22]) (by kernel_rfl) (by simp) (AllReadyH.cons rfl (fun K hK => ?_) AllReadyH.nil)
          go_simp
          refine (lives_any _ s (hS.below (hbw8.trans (hb10.mono hbw8.size)))).mono ?_
          rintro e wL ⟨rfl, hbL⟩
          refine hK.out _ _ (HSA.out _ (hb10.trans (hbL.mono hb10.size))) (fun hS6 => ?_)
          clear hK K
          refine wpAnyH_take (i := 23) (v := ?_) rfl (by kernel_rfl) (by kernel_rfl) (by kernel_rfl) (fun _ _ _ h => h) (Or.inl ⟨by rfl, ?_⟩) hS6 ?_
          rotate_left
          · intro w0 hSw
            (try dsimp only at hSw)
            go_split_ands
            go_simp
            try with_reducible rfl
          try simp only [Act.put, List.getElem_toArray, List.getElem_cons_zero, List.getElem_cons_succ, List.setIfInBounds_toArray, List.set_cons_zero, List.set_cons_succ]
          refine wpAnyH_take (i := 24) (v := ?_) rfl (by kernel_rfl) (by kernel_rfl) (by kernel_rfl) (fun _ _ _ h => h) (Or.inl ⟨by rfl, ?_⟩) hS6 ?_
          rotate_left
          · intro w0 hSw
            (try dsimp only at hSw)
            go_split_ands
            go_simp
            try with_reducible rfl
          try simp only [Act.put, List.getElem_toArray, List.getElem_cons_zero, List.getElem_cons_succ, List.setIfInBounds_toArray, List.set_cons_zero, List.set_cons_succ]
          refine wpAnyH_done (by kernel_rfl) ?_ _
          all_goals go_wp2_with fail
          all_goals go_ret
          all_goals
            have hbx : Below w.heap.size w w10 := hbw8.trans (hb10.mono hbw8.size)
            exact ⟨rfl, hbx.trans (hbL.mono hbx.size)⟩
        · exfalso
          revert hbad
          decide
end Go.Proofs.YtdcgminjamofmaaDoor
