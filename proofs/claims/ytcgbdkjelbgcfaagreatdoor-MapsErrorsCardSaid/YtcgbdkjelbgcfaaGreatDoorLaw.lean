/- MapsErrors: for every map the law returns true, where the table of quarters lies as the text lays it. -/
import Derived.Test.YtcgbdkjelbgcfaaGreatDoorPlanM
import Derived.Test.YtcgbdkjelbgcfaaGreatDoorTxt
import Derived.Test.YtcgbdkjelbgcfaaGreatDoorPtn2
import Derived.Test.YtcgbdkjelbgcfaaGreatDoorAft
import Derived.Test.YtcgbdkjelbgcfaaGreatDoorLiv2
namespace Go.Proofs.YtcgbdkjelbgcfaaGreatDoor
open Go.RowKit

def wv (b : Bool) : Int := if b then 1 else 0
theorem wv_t : wv true = 1 := rfl
theorem wv_f : wv false = 0 := rfl
def bigs (l : List Row) : Bool := l.any fun r => r.ks.any bigK
theorem bigs_snoc (l : List Row) (i : Nat) (h : i < l.length) : bigs (l.take (i + 1)) = (bigs (l.take i) || l[i].ks.any bigK) := by
  unfold bigs; rw [List.take_succ_eq_append_getElem h, List.any_append]; simp
theorem anyK_snoc (l : List Int) (i : Nat) (h : i < l.length) : (l.take (i + 1)).any bigK = ((l.take i).any bigK || bigK l[i]) := by
  rw [List.take_succ_eq_append_getElem h, List.any_append]; simp
theorem chkM_wide {W H : Int} {R U : List Row} (h : 1 ≤ W ∧ 1 ≤ H ∧ W ≤ 16 ∧ H ≤ 16) : chkM W H R U =
    if (((decide ((R.length : Int) = H) && decide ((U.length : Int) = H - 1)) && R.all fun r => decide ((r.ks.length : Int) = W - 1)) && U.all fun r => decide ((r.ks.length : Int) = W)) = true then wv (bigs (R ++ U)) else 5 := by
  have e1 : gridOk R H (W - 1) = (decide ((R.length : Int) = H) && R.all fun r => decide ((r.ks.length : Int) = W - 1)) := rfl
  have e2 : gridOk U (H - 1) W = (decide ((U.length : Int) = H - 1) && U.all fun r => decide ((r.ks.length : Int) = W)) := rfl
  unfold chkM
  rw [if_neg (fun hn => hn h), e1, e2]
  generalize decide ((R.length : Int) = H) = b1
  generalize decide ((U.length : Int) = H - 1) = b2
  generalize (R.all fun r => decide ((r.ks.length : Int) = W - 1)) = b3
  generalize (U.all fun r => decide ((r.ks.length : Int) = W)) = b4
  cases b1 <;> cases b2 <;> cases b3 <;> cases b4 <;> simp [wv, bigs]
theorem all_snoc (l : List Row) (p : Row → Bool) (i : Nat) (h : i < l.length) : (l.take (i + 1)).all p = ((l.take i).all p && p l[i]) := by
  rw [List.take_succ_eq_append_getElem h, List.all_append]; simp
/-- The law returns true, and old memory is as it was. -/
def LawRet (w : World) (e : Ending) (w' : World) : Prop := e = .returned (.bool true) ∧ Below w.heap.size w w'

set_option maxHeartbeats 8000000 in
set_option maxRecDepth 100000 in
theorem law_any (W H : Int) (RA UA : Option Addr) (R U : List Row) (cr cu : Nat) (w : World) (hR : RowsOk w RA R) (hU : RowsOk w UA U) (hQ : Qt w) (hRm : R.length ≤ maxLen) (hUm : U.length ≤ maxLen) (hRk : ∀ r ∈ R, r.ks.length ≤ maxLen) (hUk : ∀ r ∈ U, r.ks.length ≤ maxLen) :
    Calls Tryz.prog 3 #[.agg #[.int .i64 W, .int .i64 H, .slice RA R.length cr, .slice UA U.length cu]] w (LawRet w) := by
  unfold maxLen at hRm hUm hRk hUk
  have hn1 := heap_alloc_new w (.cells #[.int .i64 W, .int .i64 H, .slice RA R.length cr, .slice UA U.length cu] 24)
  have hb1 : Below w.heap.size w (w.alloc (.cells #[.int .i64 W, .int .i64 H, .slice RA R.length cr, .slice UA U.length cu] 24)) := (Below.refl _ _).alloc (Nat.le_refl _) _
  have HR := Lib.hid hR
  have HU := Lib.hid hU
  have HQ := Lib.hid hQ
  have HRK := Lib.hid hRk
  have HUK := Lib.hid hUk
  clear hR hU hQ hRk hUk
  go_enter Tryz.func3, Tryz.ntmps3
  go_upto_region 1 with fail
  obtain ⟨V, hV⟩ : ∃ V, V = w.alloc (.cells #[.int .i64 W, .int .i64 H, .slice RA R.length cr, .slice UA U.length cu] 24) := ⟨_, rfl⟩
  have hVs : V.heap.size = w.heap.size + 1 := by rw [hV]; simp
  rw [← hV] at hn1 hb1 ⊢
  obtain ⟨N, hN⟩ : ∃ N, N = w.heap.size := ⟨_, rfl⟩
  rw [← hN] at hn1 ⊢
  have N1 := Lib.hid hn1
  have hNV : N < V.heap.size := (Array.getElem?_eq_some_iff.1 hn1).1
  obtain ⟨⟨x0, x1, x2, x3⟩, _⟩ := blk4 hn1
  have HNN := Lib.hid hN
  have HB1 := Lib.hid hb1
  clear hV hN hn1 hVs hb1
  by_cases hr20 : R.length ≤ 20
  · by_cases hu20 : U.length ≤ 20
    · have s1 : ¬ (20 : Int) < (R.length : Int) := by omega
      have s2 : ¬ (20 : Int) < (U.length : Int) := by omega
      go_wp2_with fail
      go_loop [3, 4, 5] (fun s3 so _ => ∃ (y : Nat) (z3 : Int), y ≤ R.length ∧ so = .int .i64 y ∧ s3 = .int .i64 z3 ∧ Hid (z3 = wv (bigs (R.take y)) ∧ ∀ i (h : i < R.length), i < y → R[i].ks.length ≤ 20)) (fun _ so _ => 21 - (intOf so).toNat)
      case atStart => exact ⟨0, _, by omega, rfl, rfl, Lib.hid ⟨by simp [bigs, wv], fun i _ h => by omega⟩⟩
      case round =>
        obtain ⟨y, z3, hy, rfl, rfl, HY⟩ := hrel
        by_cases hlt : y < R.length
        · have q1 : (y : Int) < (R.length : Int) := by omega
          obtain ⟨b, o, hA, hbl, hc⟩ := HR.out.at' y hlt
          have hrow := HR.out.row R[y] (List.getElem_mem hlt)
          have hk := HRK.out R[y] (List.getElem_mem hlt)
          have hsn := bigs_snoc R y hlt
          have hnew : R[y].ks.length ≤ 20 → ∀ i (h : i < R.length), i < y + 1 → R[i].ks.length ≤ 20 := fun h20 i h hi => by
            rcases Nat.lt_or_ge i y with h1 | h1
            · exact HY.out.2 i h h1
            · obtain rfl : i = y := by omega
              exact h20
          obtain ⟨r, hr⟩ : ∃ r, R[y] = r := ⟨_, rfl⟩
          rw [hr] at hc hrow hk hsn hnew
          have HSN := Lib.hid hsn
          have HNEW := Lib.hid hnew
          have HROW := Lib.hid hrow
          have c1 : V.cell? ⟨b, o + y, none⟩ = some (.slice r.A r.ks.length r.c) := below_cell HB1.out hc
          rw [hA] at x2
          have q0 : (0 : Int) ≤ (y : Int) := by omega
          clear hA hbl hc hrow hsn hnew hr
          by_cases h20 : r.ks.length ≤ 20
          · have q2 : ¬ (20 : Int) < (r.ks.length : Int) := by omega
            go_wp2_with fail
            go_loop [3, 5] (fun s3 si => ∃ (x : Nat) (z5 : Int), x ≤ r.ks.length ∧ si = .int .i64 x ∧ s3 = .int .i64 z5 ∧ Hid (z5 = wv ((bigs (R.take y)) || (r.ks.take x).any bigK))) (fun _ si => 21 - (intOf si).toNat)
            case atStart => exact ⟨0, z3, by omega, rfl, rfl, Lib.hid (by rw [HY.out.1]; simp)⟩
            case round =>
              obtain ⟨x, z5, hx, rfl, rfl, HX5⟩ := hrel
              by_cases hlx : x < r.ks.length
              · have q3 : (x : Int) < (r.ks.length : Int) := by omega
                obtain ⟨b2, o2, hA2, hbl2, hc2⟩ := HROW.out.at' x hlx
                have hkd := HROW.out.kind _ (List.getElem_mem hlx)
                have hkn := anyK_snoc r.ks x hlx
                have c2 := below_cell HB1.out hc2
                obtain ⟨kv, hkv⟩ : ∃ kv, r.ks[x] = kv := ⟨_, rfl⟩
                rw [hkv] at hkd hkn c2
                have HKN := Lib.hid hkn
                rw [hA2] at c1
                have q4 : (0 : Int) ≤ (x : Int) := by omega
                clear hkv hkn hA2 hbl2 hc2
                by_cases hk2 : 2 < kv
                · as_aux_lemma =>
                    go_wp2_with fail
                    go_round
                    case rel => exact ⟨x + 1, 1, by omega, by go_num, rfl, Lib.hid (by rw [HKN.out]; simp [bigK, hk2, wv])⟩
                    case measure => simp [intOf]; omega
                · as_aux_lemma =>
                    go_wp2_with fail
                    go_round
                    case rel => exact ⟨x + 1, z5, by omega, by go_num, rfl, Lib.hid (by rw [HKN.out, HX5.out]; simp [bigK, hk2])⟩
                    case measure => simp [intOf]; omega
              · obtain rfl : x = r.ks.length := by omega
                as_aux_lemma =>
                  go_wp2_with fail
                  go_round
                  case rel => exact ⟨y + 1, z5, by omega, by go_num, rfl, Lib.hid ⟨by simp only [HX5.out, HSN.out, List.take_length], HNEW.out h20⟩⟩
                  case measure => simp [intOf]; omega
          · have q2 : (20 : Int) < (r.ks.length : Int) := by omega
            as_aux_lemma =>
              go_wp2_with (go_at_call 4; refine (lives_ok _).mono ?_; rintro e' w9 ⟨rfl, hb9⟩)
              go_ret
              exact ⟨rfl, HB1.out.trans (hb9.mono (by rw [← HNN.out]; omega))⟩
        · obtain rfl : y = R.length := by omega
          have q1 : ¬ ((R.length : Nat) : Int) < (R.length : Int) := by omega
          have HYR : Hid (z3 = wv (bigs R) ∧ ∀ r ∈ R, r.ks.length ≤ 20) := Lib.hid ⟨by rw [HY.out.1, List.take_length], fun r hr => by
            obtain ⟨i, hi, rfl⟩ := List.getElem_of_mem hr
            exact HY.out.2 i hi hi⟩
          clear HY hy hlt
          obtain ⟨zr, rfl⟩ : ∃ zr, zr = z3 := ⟨_, rfl⟩
          go_wp2_with fail
          go_loop [3, 6, 7] (fun s3 so _ => ∃ (y : Nat) (z3 : Int), y ≤ U.length ∧ so = .int .i64 y ∧ s3 = .int .i64 z3 ∧ Hid (z3 = wv (bigs R || bigs (U.take y)) ∧ ∀ i (h : i < U.length), i < y → U[i].ks.length ≤ 20)) (fun _ so _ => 21 - (intOf so).toNat)
          case atStart => exact ⟨0, _, by omega, rfl, rfl, Lib.hid ⟨by rw [HYR.out.1]; simp [bigs], fun i _ h => by omega⟩⟩
          case round =>
            obtain ⟨y, z3, hy, rfl, rfl, HY⟩ := hrel
            by_cases hlt : y < U.length
            · have q1 : (y : Int) < (U.length : Int) := by omega
              obtain ⟨b, o, hA, hbl, hc⟩ := HU.out.at' y hlt
              have hrow := HU.out.row U[y] (List.getElem_mem hlt)
              have hk := HUK.out U[y] (List.getElem_mem hlt)
              have hsn := bigs_snoc U y hlt
              have hnew : U[y].ks.length ≤ 20 → ∀ i (h : i < U.length), i < y + 1 → U[i].ks.length ≤ 20 := fun h20 i h hi => by
                rcases Nat.lt_or_ge i y with h1 | h1
                · exact HY.out.2 i h h1
                · obtain rfl : i = y := by omega
                  exact h20
              obtain ⟨r, hr⟩ : ∃ r, U[y] = r := ⟨_, rfl⟩
              rw [hr] at hc hrow hk hsn hnew
              have HSN := Lib.hid hsn
              have HNEW := Lib.hid hnew
              have HROW := Lib.hid hrow
              have c1 : V.cell? ⟨b, o + y, none⟩ = some (.slice r.A r.ks.length r.c) := below_cell HB1.out hc
              rw [hA] at x3
              have q0 : (0 : Int) ≤ (y : Int) := by omega
              clear hA hbl hc hrow hsn hnew hr
              by_cases h20 : r.ks.length ≤ 20
              · have q2 : ¬ (20 : Int) < (r.ks.length : Int) := by omega
                go_wp2_with fail
                go_loop [3, 7] (fun s3 si => ∃ (x : Nat) (z5 : Int), x ≤ r.ks.length ∧ si = .int .i64 x ∧ s3 = .int .i64 z5 ∧ Hid (z5 = wv ((bigs R || bigs (U.take y)) || (r.ks.take x).any bigK))) (fun _ si => 21 - (intOf si).toNat)
                case atStart => exact ⟨0, z3, by omega, rfl, rfl, Lib.hid (by rw [HY.out.1]; simp)⟩
                case round =>
                  obtain ⟨x, z5, hx, rfl, rfl, HX5⟩ := hrel
                  by_cases hlx : x < r.ks.length
                  · have q3 : (x : Int) < (r.ks.length : Int) := by omega
                    obtain ⟨b2, o2, hA2, hbl2, hc2⟩ := HROW.out.at' x hlx
                    have hkd := HROW.out.kind _ (List.getElem_mem hlx)
                    have hkn := anyK_snoc r.ks x hlx
                    have c2 := below_cell HB1.out hc2
                    obtain ⟨kv, hkv⟩ : ∃ kv, r.ks[x] = kv := ⟨_, rfl⟩
                    rw [hkv] at hkd hkn c2
                    have HKN := Lib.hid hkn
                    rw [hA2] at c1
                    have q4 : (0 : Int) ≤ (x : Int) := by omega
                    clear hkv hkn hA2 hbl2 hc2
                    by_cases hk2 : 2 < kv
                    · as_aux_lemma =>
                        go_wp2_with fail
                        go_round
                        case rel => exact ⟨x + 1, 1, by omega, by go_num, rfl, Lib.hid (by rw [HKN.out]; simp [bigK, hk2, wv])⟩
                        case measure => simp [intOf]; omega
                    · as_aux_lemma =>
                        go_wp2_with fail
                        go_round
                        case rel => exact ⟨x + 1, z5, by omega, by go_num, rfl, Lib.hid (by rw [HKN.out, HX5.out]; simp [bigK, hk2])⟩
                        case measure => simp [intOf]; omega
                  · obtain rfl : x = r.ks.length := by omega
                    as_aux_lemma =>
                      go_wp2_with fail
                      go_round
                      case rel => exact ⟨y + 1, z5, by omega, by go_num, rfl, Lib.hid ⟨by simp only [HX5.out, HSN.out, List.take_length, Bool.or_assoc], HNEW.out h20⟩⟩
                      case measure => simp [intOf]; omega
              · have q2 : (20 : Int) < (r.ks.length : Int) := by omega
                as_aux_lemma =>
                  go_wp2_with (go_at_call 4; refine (lives_ok _).mono ?_; rintro e' w9 ⟨rfl, hb9⟩)
                  go_ret
                  exact ⟨rfl, HB1.out.trans (hb9.mono (by rw [← HNN.out]; omega))⟩
            · obtain rfl : y = U.length := by omega
              have q1 : ¬ ((U.length : Nat) : Int) < (U.length : Int) := by omega
              have HYU : Hid (z3 = wv (bigs R || bigs U) ∧ ∀ r ∈ U, r.ks.length ≤ 20) := Lib.hid ⟨by rw [HY.out.1, List.take_length], fun r hr => by
                obtain ⟨i, hi, rfl⟩ := List.getElem_of_mem hr
                exact HY.out.2 i hi hi⟩
              clear HY hy hlt
              have HM : Hid (MapOk V RA UA R U) := Lib.hid ⟨HR.out.below HB1.out, HU.out.below HB1.out, by omega, by omega, fun r hr => by have := HYR.out.2 r hr; omega, fun r hr => by have := HYU.out.2 r hr; omega⟩
              have HZ3 : Hid (z3 = wv (bigs (R ++ U))) := Lib.hid (by rw [HYU.out.1]; simp [bigs])
              obtain ⟨Z, hZ⟩ : ∃ Z, chkM W H R U = Z := ⟨_, rfl⟩
              have HZ := Lib.hid hZ
              clear hZ q1
              go_upto_region 24 with fail
              obtain ⟨cb, hcb⟩ : ∃ cb, (!(decide (1 ≤ W) && decide (1 ≤ H) && decide (W ≤ 16) && decide (H ≤ 16))) = cb := ⟨_, rfl⟩
              have HCB := Lib.hid hcb
              clear hcb
              go_cut [115] from 98 to 115 (fun sb wx => sb = .bool cb ∧ V = wx)
              case first =>
                as_aux_lemma =>
                  by_cases h1 : W < 1
                  · go_wp2_with fail
                    go_meet
                    case rel => exact ⟨by rw [← HCB.out]; simp; omega, rfl⟩
                  · by_cases h2 : H < 1
                    · go_wp2_with fail
                      go_meet
                      case rel => exact ⟨by rw [← HCB.out]; simp; omega, rfl⟩
                    · by_cases h3 : 16 < W
                      · go_wp2_with fail
                        go_meet
                        case rel => exact ⟨by rw [← HCB.out]; simp; omega, rfl⟩
                      · by_cases h4 : 16 < H
                        · go_wp2_with fail
                          go_meet
                          case rel => exact ⟨by rw [← HCB.out]; simp; omega, rfl⟩
                        · go_wp2_with fail
                          go_meet
                          case rel => exact ⟨by rw [← HCB.out]; simp; omega, rfl⟩
              case rest =>
                obtain ⟨rfl, rfl⟩ := hcut
                go_upto_if 115 with fail
                go_cut [3, 8, 9, 10] from 116 to 171 (fun s3 _ _ _ wx => s3 = .int .i64 Z ∧ ∃ q, wx = V.drewN q)
                case first =>
                  cases cb
                  · have hc : 1 ≤ W ∧ 1 ≤ H ∧ W ≤ 16 ∧ H ≤ 16 := by have := HCB.out; simpa [and_assoc] using this
                    obtain ⟨h1, h2, h3, h4⟩ := hc
                    obtain ⟨g, hg⟩ : ∃ g, (decide ((R.length : Int) = H) && decide ((U.length : Int) = H - 1)) = g := ⟨_, rfl⟩
                    have HG := Lib.hid hg
                    clear hg
                    go_upto_region 26 with fail
                    go_cut [8] from 116 to 130 (fun s8 wx => s8 = .bool g ∧ V = wx)
                    case first =>
                      as_aux_lemma =>
                        have e1 : IntKind.i64.wrap (H - 1) = H - 1 := IntWalk.i64_in _ (by omega)
                        by_cases g1 : (R.length : Int) = H
                        · by_cases g2 : (U.length : Int) = H - 1
                          · have g2' : ((U.length : Int) == H - 1) = true := by simpa using g2
                            have g1' : ((R.length : Int) == H) = true := by simpa using g1
                            have GG := Lib.hid (And.intro g1 g2)
                            clear g1 g2
                            go_wp2_with fail
                            go_meet
                            case rel => exact ⟨by rw [← HG.out, decide_eq_true GG.out.1, decide_eq_true GG.out.2]; rfl, rfl⟩
                          · have g2' : ((U.length : Int) == H - 1) = false := by simpa using g2
                            have g1' : ((R.length : Int) == H) = true := by simpa using g1
                            have GG := Lib.hid (And.intro g1 g2)
                            clear g1 g2
                            go_wp2_with fail
                            go_meet
                            case rel => exact ⟨by rw [← HG.out, decide_eq_true GG.out.1, decide_eq_false GG.out.2]; rfl, rfl⟩
                        · have g1' : ((R.length : Int) == H) = false := by simpa using g1
                          have GG := Lib.hid g1
                          clear g1
                          go_wp2_with fail
                          go_meet
                          case rel => exact ⟨by rw [← HG.out, decide_eq_false GG.out]; rfl, rfl⟩
                    case rest =>
                      obtain ⟨rfl, rfl⟩ := hcut
                      have e1 : IntKind.i64.wrap (W - 1) = W - 1 := IntWalk.i64_in _ (by omega)
                      go_wp2_with fail
                      go_loopw [8, 9] (fun s8 so wr => ∃ (y q : Nat) (bb : Bool), y ≤ R.length ∧ so = .int .i64 y ∧ s8 = .bool bb ∧ Hid (bb = (g && (R.take y).all fun r => decide ((r.ks.length : Int) = W - 1))) ∧ wr = V.drewN q) (fun _ so _ => 21 - (intOf so).toNat)
                      case atStart => exact ⟨0, 0, g, by omega, rfl, rfl, Lib.hid (by simp), rfl⟩
                      case round =>
                        obtain ⟨y, q, bb, hy, rfl, rfl, HBB, rfl⟩ := hrel
                        by_cases hlt : y < R.length
                        · have q1 : (y : Int) < (R.length : Int) := by omega
                          have q0 : (0 : Int) ≤ (y : Int) := by omega
                          have hsn := all_snoc R (fun r => decide ((r.ks.length : Int) = W - 1)) y hlt
                          cases bb
                          · have HN : Hid (false = (g && (R.take (y + 1)).all fun r => decide ((r.ks.length : Int) = W - 1))) := Lib.hid (by rw [hsn, ← Bool.and_assoc, ← HBB.out]; rfl)
                            clear hsn
                            as_aux_lemma =>
                              go_wp2_with fail
                              go_quiet (fail)
                              go_wp2_with fail
                              go_roundw
                              case rel => exact ⟨y + 1, _, false, by omega, by go_num, rfl, HN, rfl⟩
                              case measure => simp [intOf]; omega
                          · obtain ⟨b, o, hA, hbl, hc⟩ := HR.out.at' y hlt
                            obtain ⟨r, hr⟩ : ∃ r, R[y] = r := ⟨_, rfl⟩
                            rw [hr] at hc hsn
                            have c1 : V.cell? ⟨b, o + y, none⟩ = some (.slice r.A r.ks.length r.c) := below_cell HB1.out hc
                            rw [hA] at x2
                            obtain ⟨tb, htb⟩ : ∃ tb, ((r.ks.length : Int) == W - 1) = tb := ⟨_, rfl⟩
                            have HN : Hid (tb = (g && (R.take (y + 1)).all fun r => decide ((r.ks.length : Int) = W - 1))) := Lib.hid (by rw [hsn, ← Bool.and_assoc, ← HBB.out, Bool.true_and, ← htb]; rfl)
                            clear hr hA hbl hc hsn
                            as_aux_lemma =>
                              go_wp2_with fail
                              go_quiet (fail)
                              go_wp2_with fail
                              go_roundw
                              case rel => exact ⟨y + 1, _, tb, by omega, by go_num, rfl, HN, rfl⟩
                              case measure => simp [intOf]; omega
                        · obtain rfl : y = R.length := by omega
                          have q1 : ¬ ((R.length : Nat) : Int) < (R.length : Int) := by omega
                          have HBR : Hid (bb = (g && R.all fun r => decide ((r.ks.length : Int) = W - 1))) := Lib.hid (by have := HBB.out; rwa [List.take_length] at this)
                          clear HBB hlt hy
                          obtain ⟨qr, rfl⟩ : ∃ qr, qr = q := ⟨_, rfl⟩
                          obtain ⟨bb, rfl⟩ : ∃ b', b' = bb := ⟨_, rfl⟩
                          go_wp2_with fail
                          go_loopw [8, 10] (fun s8 so wr => ∃ (y q : Nat) (bc : Bool), y ≤ U.length ∧ so = .int .i64 y ∧ s8 = .bool bc ∧ Hid (bc = (bb && (U.take y).all fun r => decide ((r.ks.length : Int) = W))) ∧ wr = V.drewN q) (fun _ so _ => 21 - (intOf so).toNat)
                          case atStart => exact ⟨0, qr, bb, by omega, rfl, rfl, Lib.hid (by simp), rfl⟩
                          case round =>
                            obtain ⟨y, q, bc, hy, rfl, rfl, HBB, rfl⟩ := hrel
                            by_cases hlt : y < U.length
                            · have q1 : (y : Int) < (U.length : Int) := by omega
                              have q0 : (0 : Int) ≤ (y : Int) := by omega
                              have hsn := all_snoc U (fun r => decide ((r.ks.length : Int) = W)) y hlt
                              cases bc
                              · have HN : Hid (false = (bb && (U.take (y + 1)).all fun r => decide ((r.ks.length : Int) = W))) := Lib.hid (by rw [hsn, ← Bool.and_assoc, ← HBB.out]; rfl)
                                clear hsn
                                as_aux_lemma =>
                                  go_wp2_with fail
                                  go_quiet (fail)
                                  go_wp2_with fail
                                  go_roundw
                                  case rel => exact ⟨y + 1, _, false, by omega, by go_num, rfl, HN, rfl⟩
                                  case measure => simp [intOf]; omega
                              · obtain ⟨b, o, hA, hbl, hc⟩ := HU.out.at' y hlt
                                obtain ⟨r, hr⟩ : ∃ r, U[y] = r := ⟨_, rfl⟩
                                rw [hr] at hc hsn
                                have c1 : V.cell? ⟨b, o + y, none⟩ = some (.slice r.A r.ks.length r.c) := below_cell HB1.out hc
                                rw [hA] at x3
                                obtain ⟨tb, htb⟩ : ∃ tb, ((r.ks.length : Int) == W) = tb := ⟨_, rfl⟩
                                have HN : Hid (tb = (bb && (U.take (y + 1)).all fun r => decide ((r.ks.length : Int) = W))) := Lib.hid (by rw [hsn, ← Bool.and_assoc, ← HBB.out, Bool.true_and, ← htb]; rfl)
                                clear hr hA hbl hc hsn
                                as_aux_lemma =>
                                  go_wp2_with fail
                                  go_quiet (fail)
                                  go_wp2_with fail
                                  go_roundw
                                  case rel => exact ⟨y + 1, _, tb, by omega, by go_num, rfl, HN, rfl⟩
                                  case measure => simp [intOf]; omega
                            · obtain rfl : y = U.length := by omega
                              have q1 : ¬ ((U.length : Nat) : Int) < (U.length : Int) := by omega
                              have HBU : Hid (bc = (bb && U.all fun r => decide ((r.ks.length : Int) = W))) := Lib.hid (by have := HBB.out; rwa [List.take_length] at this)
                              clear HBB hlt hy
                              have HF : Hid (Z = if bc = true then z3 else 5) := Lib.hid (by
                                rw [← HZ.out, chkM_wide ⟨h1, h2, h3, h4⟩, HG.out, ← HBR.out, ← HBU.out, HZ3.out])
                              cases bc
                              · as_aux_lemma =>
                                  go_wp2_with fail
                                  go_meet
                                  case rel => exact ⟨by rw [HF.out]; rfl, q, rfl⟩
                              · as_aux_lemma =>
                                  go_wp2_with fail
                                  go_meet
                                  case rel => exact ⟨by rw [HF.out]; rfl, q, rfl⟩
                  · have hc : ¬ (1 ≤ W ∧ 1 ≤ H ∧ W ≤ 16 ∧ H ≤ 16) := by
                      intro h
                      have := HCB.out
                      simp [h.1, h.2.1, h.2.2.1, h.2.2.2] at this
                    have hZ1 : Z = 1 := by rw [← HZ.out]; unfold chkM; rw [if_pos hc]
                    have HZ1 := Lib.hid hZ1
                    clear hc hZ1
                    as_aux_lemma =>
                      go_wp2_with fail
                      go_meet
                      case rel => exact ⟨by rw [HZ1.out], 0, rfl⟩
                case rest =>
                  obtain ⟨rfl, q, rfl⟩ := hcut
                  obtain ⟨D, hD⟩ : ∃ D, D = V.drewN q := ⟨_, rfl⟩
                  have B0 : Hid (Below V.heap.size V D) := Lib.hid (by rw [hD]; exact below_drewN (Below.refl _ _) q)
                  have N0 := Lib.hid (kept B0.out N1.out hNV)
                  have hV0 : V.heap.size ≤ D.heap.size := B0.out.size
                  rw [← hD]
                  have HMX : Hid (∀ w', Below V.heap.size V w' → MapOk w' RA UA R U) := Lib.hid fun w' h => HM.out.below h
                  have HBW : Hid (∀ w', Below V.heap.size V w' → Below w.heap.size w w') := Lib.hid fun w' h => HB1.out.trans (h.mono (by rw [← HNN.out]; omega))
                  have HQX : Hid (∀ w', Below V.heap.size V w' → Qt w') := Lib.hid fun w' h => HQ.out.below (HBW.out _ h)
                  clear x0 x1 x2 x3 hD s1 s2 hRm hUm
                  obtain ⟨⟨x0, x1, x2, x3⟩, _⟩ := blk4 N0.out
                  by_cases hz : Z = 0
                  · subst hz
                    go_wp2_with fail
                    refine (pattern_any W H RA UA R U cr cu D (HMX.out _ B0.out) (HQX.out _ B0.out)).mono ?_
                    rintro e w1 ⟨hb1, h⟩
                    have hs1 := hb1.size
                    have B1 := Lib.hid (B0.out.trans (hb1.mono (by first | omega | (simp only [World.size_alloc]; omega))))
                    have N1b := Lib.hid (kept B1.out N1.out hNV)
                    have hV1 : V.heap.size ≤ w1.heap.size := B1.out.size
                    clear x0 x1 x2 x3
                    obtain ⟨pa, pb, pA, pn, pc, rfl⟩ := (h.resolve_left fun hh => hh.1 HZ.out).2
                    clear h hb1
                    have A1 : Hid (Below V.heap.size V (w1.alloc (.cells #[.int .i64 pa, .int .i64 pb, .slice pA pn pc] 33))) := Lib.hid (B1.out.trans ((Below.refl _ _).alloc hV1 _))
                    have P1 := Lib.hid (heap_alloc_new w1 (.cells #[.int .i64 pa, .int .i64 pb, .slice pA pn pc] 33))
                    obtain ⟨⟨x0, x1, x2, x3⟩, _⟩ := blk4 (Lib.hid (kept A1.out N1.out hNV) : Hid _).out
                    go_wp2_with fail
                    refine (lines_any W H RA UA R U cr cu _ (HMX.out _ A1.out)).mono ?_
                    rintro e w2 ⟨hb2, h⟩
                    have hs2 := hb2.size
                    have B2 := Lib.hid (A1.out.trans (hb2.mono (by first | omega | (simp only [World.size_alloc]; omega))))
                    have N2 := Lib.hid (kept B2.out N1.out hNV)
                    have hV2 : V.heap.size ≤ w2.heap.size := B2.out.size
                    clear x0 x1 x2 x3
                    obtain ⟨lA, rfl, _⟩ := (h.resolve_left fun hh => hh.1 HZ.out).2
                    have P2 := Lib.hid (kept hb2 P1.out (by simp))
                    clear h hb2
                    obtain ⟨⟨x0, x1, x2, x3⟩, _⟩ := blk4 N2.out
                    go_wp2_with fail
                    refine (after_none W H RA UA R U cr cu _ (HMX.out _ B2.out)).mono ?_
                    rintro e w3 ⟨rfl, hb3⟩
                    have hs3 := hb3.size
                    have B3 := Lib.hid (B2.out.trans (hb3.mono (by first | omega | (simp only [World.size_alloc]; omega))))
                    have N3 := Lib.hid (kept B3.out N1.out hNV)
                    have hV3 : V.heap.size ≤ w3.heap.size := B3.out.size
                    clear x0 x1 x2 x3
                    rw [HZ.out]
                    unfold zeroMap
                    rw [if_pos rfl]
                    have hP12 : w1.heap.size < w2.heap.size := (Array.getElem?_eq_some_iff.1 P2.out).1
                    have P3 := Lib.hid (kept hb3 P2.out hP12)
                    clear hb3
                    have A3 : Hid (Below V.heap.size V (w3.alloc (.cells #[.int .i64 0, .int .i64 0, .slice none 0 0, .slice none 0 0] 24))) := Lib.hid (B3.out.trans ((Below.refl _ _).alloc hV3 _))
                    have Q3 := Lib.hid (heap_alloc_new w3 (.cells #[.int .i64 0, .int .i64 0, .slice none 0 0, .slice none 0 0] 24))
                    obtain ⟨⟨x0, x1, x2, x3⟩, _⟩ := blk4 (kept A3.out N1.out hNV)
                    have hP13 : w1.heap.size < w3.heap.size := (Array.getElem?_eq_some_iff.1 P3.out).1
                    have P3' : Hid ((w3.alloc (.cells #[.int .i64 0, .int .i64 0, .slice none 0 0, .slice none 0 0] 24)).heap[w1.heap.size]? = some (.cells #[.int .i64 pa, .int .i64 pb, .slice pA pn pc] 33 (0, 0))) := Lib.hid (by rw [Below.heap_alloc _ _ _ hP13]; exact P3.out)
                    go_wp2_with fail
                    refine (mplan_any W H RA UA R U cr cu _ (HMX.out _ A3.out)).mono ?_
                    rintro e w4 ⟨hb4, h⟩
                    have hs4 := hb4.size
                    have B4 := Lib.hid (A3.out.trans (hb4.mono (by first | omega | (simp only [World.size_alloc]; omega))))
                    have N4 := Lib.hid (kept B4.out N1.out hNV)
                    have hV4 : V.heap.size ≤ w4.heap.size := B4.out.size
                    clear x0 x1 x2 x3
                    obtain ⟨nA, nn, nc, nz, rfl, hnz⟩ := (h.resolve_left fun hh => hh.1 HZ.out).2
                    have P4 := Lib.hid (kept hb4 P3'.out (by simp; omega))
                    have Q4 := Lib.hid (kept hb4 Q3.out (by simp))
                    clear h hb4
                    obtain ⟨⟨x0, x1, x2, x3⟩, _⟩ := blk4 N4.out
                    go_wp2_with fail
                    refine (mcheck_any W H RA UA R U cr cu _ (HMX.out _ B4.out)).mono ?_
                    rintro e w5 ⟨rfl, hb5⟩
                    have hs5 := hb5.size
                    have B5 := Lib.hid (B4.out.trans (hb5.mono (by first | omega | (simp only [World.size_alloc]; omega))))
                    have N5 := Lib.hid (kept B5.out N1.out hNV)
                    have hV5 : V.heap.size ≤ w5.heap.size := B5.out.size
                    clear x0 x1 x2 x3
                    rw [HZ.out]
                    have P5 := Lib.hid (kept hb5 P4.out (Array.getElem?_eq_some_iff.1 P4.out).1)
                    have Q5 := Lib.hid (kept hb5 Q4.out (Array.getElem?_eq_some_iff.1 Q4.out).1)
                    clear hb5
                    obtain ⟨⟨x0, x1, x2, x3⟩, _⟩ := blk4 N5.out
                    go_wp2_with fail
                    refine (text_any W H RA UA R U cr cu _ (HMX.out _ B5.out)).mono ?_
                    rintro e w6 ⟨hb6, h⟩
                    have hs6 := hb6.size
                    have B6 := Lib.hid (B5.out.trans (hb6.mono (by first | omega | (simp only [World.size_alloc]; omega))))
                    have N6 := Lib.hid (kept B6.out N1.out hNV)
                    have hV6 : V.heap.size ≤ w6.heap.size := B6.out.size
                    clear x0 x1 x2 x3
                    obtain ⟨ts, hts, rfl⟩ := (h.resolve_left fun hh => hh.1 HZ.out).2
                    have htd : ts.data.toList.length ≠ 0 := hts
                    have htn : (ts.toList == []) = false := by
                      cases hq : ts.data.toList with
                      | nil => rw [hq] at htd; exact absurd rfl htd
                      | cons a l => rw [ByteArray.toList_eq, hq]; rfl
                    have P6 := Lib.hid (kept hb6 P5.out (Array.getElem?_eq_some_iff.1 P5.out).1)
                    have Q6 := Lib.hid (kept hb6 Q5.out (Array.getElem?_eq_some_iff.1 Q5.out).1)
                    clear h hb6
                    obtain ⟨⟨y0, y1, y2⟩, _⟩ := blk3 P6.out
                    obtain ⟨⟨m0, m1, m2, m3⟩, _⟩ := blk4 Q6.out
                    rcases hnz with rfl | rfl
                    · as_aux_lemma =>
                        go_wp2_with (go_at_call 4; refine (lives_ok _).mono ?_; rintro e' w9 ⟨rfl, hb9⟩)
                        go_ret
                        exact ⟨rfl, HBW.out _ (B6.out.trans (hb9.mono (by omega)))⟩
                    · as_aux_lemma =>
                        go_wp2_with (go_at_call 4; refine (lives_ok _).mono ?_; rintro e' w9 ⟨rfl, hb9⟩)
                        go_ret
                        exact ⟨rfl, HBW.out _ (B6.out.trans (hb9.mono (by omega)))⟩
                  · have HZN := Lib.hid hz
                    have hbz : (Z != 0) = true := by simpa using hz
                    have hbz' : (Z == 0) = false := by simpa using hz
                    clear hz
                    go_wp2_with fail
                    refine (pattern_any W H RA UA R U cr cu D (HMX.out _ B0.out) (HQX.out _ B0.out)).mono ?_
                    rintro e w1 ⟨hb1, h⟩
                    have hs1 := hb1.size
                    have B1 := Lib.hid (B0.out.trans (hb1.mono (by first | omega | (simp only [World.size_alloc]; omega))))
                    have N1b := Lib.hid (kept B1.out N1.out hNV)
                    have hV1 : V.heap.size ≤ w1.heap.size := B1.out.size
                    clear x0 x1 x2 x3
                    obtain rfl := (h.resolve_right fun hh => HZN.out (HZ.out.symm.trans hh.1)).2
                    rw [HZ.out]
                    clear h hb1
                    have A1 : Hid (Below V.heap.size V (w1.alloc (.cells #[.int .i64 0, .int .i64 0, .slice none 0 0] 33))) := Lib.hid (B1.out.trans ((Below.refl _ _).alloc hV1 _))
                    have P1 := Lib.hid (heap_alloc_new w1 (.cells #[.int .i64 0, .int .i64 0, .slice none 0 0] 33))
                    obtain ⟨⟨x0, x1, x2, x3⟩, _⟩ := blk4 (Lib.hid (kept A1.out N1.out hNV) : Hid _).out
                    go_wp2_with fail
                    refine (lines_any W H RA UA R U cr cu _ (HMX.out _ A1.out)).mono ?_
                    rintro e w2 ⟨hb2, h⟩
                    have hs2 := hb2.size
                    have B2 := Lib.hid (A1.out.trans (hb2.mono (by first | omega | (simp only [World.size_alloc]; omega))))
                    have N2 := Lib.hid (kept B2.out N1.out hNV)
                    have hV2 : V.heap.size ≤ w2.heap.size := B2.out.size
                    clear x0 x1 x2 x3
                    obtain rfl := (h.resolve_right fun hh => HZN.out (HZ.out.symm.trans hh.1)).2
                    rw [HZ.out]
                    have P2 := Lib.hid (kept hb2 P1.out (by simp))
                    clear h hb2
                    obtain ⟨⟨x0, x1, x2, x3⟩, _⟩ := blk4 N2.out
                    go_wp2_with fail
                    refine (after_none W H RA UA R U cr cu _ (HMX.out _ B2.out)).mono ?_
                    rintro e w3 ⟨rfl, hb3⟩
                    have hs3 := hb3.size
                    have B3 := Lib.hid (B2.out.trans (hb3.mono (by first | omega | (simp only [World.size_alloc]; omega))))
                    have N3 := Lib.hid (kept B3.out N1.out hNV)
                    have hV3 : V.heap.size ≤ w3.heap.size := B3.out.size
                    clear x0 x1 x2 x3
                    rw [HZ.out]
                    unfold zeroMap
                    rw [if_neg HZN.out]
                    have hP12 : w1.heap.size < w2.heap.size := (Array.getElem?_eq_some_iff.1 P2.out).1
                    have P3 := Lib.hid (kept hb3 P2.out hP12)
                    clear hb3
                    have A3 : Hid (Below V.heap.size V (w3.alloc (.cells #[.int .i64 0, .int .i64 0, .slice none 0 0, .slice none 0 0] 24))) := Lib.hid (B3.out.trans ((Below.refl _ _).alloc hV3 _))
                    have Q3 := Lib.hid (heap_alloc_new w3 (.cells #[.int .i64 0, .int .i64 0, .slice none 0 0, .slice none 0 0] 24))
                    obtain ⟨⟨x0, x1, x2, x3⟩, _⟩ := blk4 (kept A3.out N1.out hNV)
                    have hP13 : w1.heap.size < w3.heap.size := (Array.getElem?_eq_some_iff.1 P3.out).1
                    have P3' : Hid ((w3.alloc (.cells #[.int .i64 0, .int .i64 0, .slice none 0 0, .slice none 0 0] 24)).heap[w1.heap.size]? = some (.cells #[.int .i64 0, .int .i64 0, .slice none 0 0] 33 (0, 0))) := Lib.hid (by rw [Below.heap_alloc _ _ _ hP13]; exact P3.out)
                    go_wp2_with fail
                    refine (mplan_any W H RA UA R U cr cu _ (HMX.out _ A3.out)).mono ?_
                    rintro e w4 ⟨hb4, h⟩
                    have hs4 := hb4.size
                    have B4 := Lib.hid (A3.out.trans (hb4.mono (by first | omega | (simp only [World.size_alloc]; omega))))
                    have N4 := Lib.hid (kept B4.out N1.out hNV)
                    have hV4 : V.heap.size ≤ w4.heap.size := B4.out.size
                    clear x0 x1 x2 x3
                    obtain rfl := (h.resolve_right fun hh => HZN.out (HZ.out.symm.trans hh.1)).2
                    rw [HZ.out]
                    have P4 := Lib.hid (kept hb4 P3'.out (by simp; omega))
                    have Q4 := Lib.hid (kept hb4 Q3.out (by simp))
                    clear h hb4
                    obtain ⟨⟨x0, x1, x2, x3⟩, _⟩ := blk4 N4.out
                    go_wp2_with fail
                    refine (mcheck_any W H RA UA R U cr cu _ (HMX.out _ B4.out)).mono ?_
                    rintro e w5 ⟨rfl, hb5⟩
                    have hs5 := hb5.size
                    have B5 := Lib.hid (B4.out.trans (hb5.mono (by first | omega | (simp only [World.size_alloc]; omega))))
                    have N5 := Lib.hid (kept B5.out N1.out hNV)
                    have hV5 : V.heap.size ≤ w5.heap.size := B5.out.size
                    clear x0 x1 x2 x3
                    rw [HZ.out]
                    have P5 := Lib.hid (kept hb5 P4.out (Array.getElem?_eq_some_iff.1 P4.out).1)
                    have Q5 := Lib.hid (kept hb5 Q4.out (Array.getElem?_eq_some_iff.1 Q4.out).1)
                    clear hb5
                    obtain ⟨⟨x0, x1, x2, x3⟩, _⟩ := blk4 N5.out
                    go_wp2_with fail
                    refine (text_any W H RA UA R U cr cu _ (HMX.out _ B5.out)).mono ?_
                    rintro e w6 ⟨hb6, h⟩
                    have hs6 := hb6.size
                    have B6 := Lib.hid (B5.out.trans (hb6.mono (by first | omega | (simp only [World.size_alloc]; omega))))
                    have N6 := Lib.hid (kept B6.out N1.out hNV)
                    have hV6 : V.heap.size ≤ w6.heap.size := B6.out.size
                    clear x0 x1 x2 x3
                    obtain rfl := (h.resolve_right fun hh => HZN.out (HZ.out.symm.trans hh.1)).2
                    have P6 := Lib.hid (kept hb6 P5.out (Array.getElem?_eq_some_iff.1 P5.out).1)
                    have Q6 := Lib.hid (kept hb6 Q5.out (Array.getElem?_eq_some_iff.1 Q5.out).1)
                    clear h hb6
                    obtain ⟨⟨y0, y1, y2⟩, _⟩ := blk3 P6.out
                    obtain ⟨⟨m0, m1, m2, m3⟩, _⟩ := blk4 Q6.out
                    as_aux_lemma =>
                      go_wp2_with (go_at_call 4; refine (lives_ok _).mono ?_; rintro e' w9 ⟨rfl, hb9⟩)
                      go_ret
                      exact ⟨rfl, HBW.out _ (B6.out.trans (hb9.mono (by omega)))⟩
    · have s1 : ¬ (20 : Int) < (R.length : Int) := by omega
      have s2 : (20 : Int) < (U.length : Int) := by omega
      as_aux_lemma =>
        go_wp2_with (go_at_call 4; refine (lives_ok _).mono ?_; rintro e' w9 ⟨rfl, hb9⟩)
        go_ret
        exact ⟨rfl, HB1.out.trans (hb9.mono (by rw [← HNN.out]; omega))⟩
  · have s1 : (20 : Int) < (R.length : Int) := by omega
    as_aux_lemma =>
      go_wp2_with (go_at_call 4; refine (lives_ok _).mono ?_; rintro e' w9 ⟨rfl, hb9⟩)
      go_ret
      exact ⟨rfl, HB1.out.trans (hb9.mono (by rw [← HNN.out]; omega))⟩
end Go.Proofs.YtcgbdkjelbgcfaaGreatDoor

