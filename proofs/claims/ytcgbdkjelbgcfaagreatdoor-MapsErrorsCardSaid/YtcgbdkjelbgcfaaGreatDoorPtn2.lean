/- Contract of maps.Pattern. -/
import Derived.Test.YtcgbdkjelbgcfaaGreatDoorPtn
namespace Go.Proofs.YtcgbdkjelbgcfaaGreatDoor
open Go.RowKit

/-- What Pattern returns: some pattern, or why not. -/
def PatRet (Z : Int) (w : World) (e : Ending) (w' : World) : Prop :=
  Below w.heap.size w w' ∧ ((Z ≠ 0 ∧ e = .returned (.tuple #[.agg #[.int .i64 0, .int .i64 0, .slice none 0 0], .int .i64 Z])) ∨
    (Z = 0 ∧ ∃ a b : Int, ∃ A n c, e = .returned (.tuple #[.agg #[.int .i64 a, .int .i64 b, .slice A n c], .int .i64 0])))

set_option maxHeartbeats 4000000 in
set_option maxRecDepth 100000 in
theorem pattern_any (W H : Int) (RA UA : Option Addr) (R U : List Row) (cr cu : Nat) (w : World) (hm : MapOk w RA UA R U) (hQ : Qt w) :
    Calls Tryz.prog 5 #[.agg #[.int .i64 W, .int .i64 H, .slice RA R.length cr, .slice UA U.length cu]] w (PatRet (chkM W H R U) w) := by
  obtain ⟨n1, n2⟩ := new2 w (.cells #[.int .i64 W, .int .i64 H, .slice RA R.length cr, .slice UA U.length cu] 24) (.cells #[.int .i64 0, .int .i64 0, .slice none 0 0] 33)
  have hb1 : Below w.heap.size w ((w.alloc (.cells #[.int .i64 W, .int .i64 H, .slice RA R.length cr, .slice UA U.length cu] 24)).alloc (.cells #[.int .i64 0, .int .i64 0, .slice none 0 0] 33)) := ((Below.refl _ _).alloc (Nat.le_refl _) _).alloc (by simp) _
  obtain ⟨Z, hZ⟩ : ∃ Z, chkM W H R U = Z := ⟨_, rfl⟩
  rw [hZ]
  have HM := Lib.hid hm
  have HZ := Lib.hid hZ
  clear hm hZ
  go_enter Tryz.func5, Tryz.ntmps5
  go_upto_region 1 with fail
  obtain ⟨V, hV⟩ : ∃ V, V = (w.alloc (.cells #[.int .i64 W, .int .i64 H, .slice RA R.length cr, .slice UA U.length cu] 24)).alloc (.cells #[.int .i64 0, .int .i64 0, .slice none 0 0] 33) := ⟨_, rfl⟩
  rw [← hV] at n1 n2 hb1 ⊢
  obtain ⟨N, hN⟩ : ∃ N, N = w.heap.size := ⟨_, rfl⟩
  rw [← hN] at n1 n2 ⊢
  have HNN := Lib.hid hN
  have N1 := Lib.hid n1
  have N2 := Lib.hid n2
  have hNV : N + 1 < V.heap.size := (Array.getElem?_eq_some_iff.1 n2).1
  obtain ⟨⟨x0, x1, x2, x3⟩, _⟩ := blk4 n1
  clear hV hN n1 n2
  go_wp2_with fail
  refine (mcheck_any W H RA UA R U cr cu V (HM.out.below hb1)).mono ?_
  rintro e w2 ⟨rfl, hb2⟩
  rw [HZ.out]
  have hb2' : Below w.heap.size w w2 := hb1.trans (hb2.mono hb1.size)
  have M1 := Lib.hid (kept hb2 N1.out (by omega))
  have M2 := Lib.hid (kept hb2 N2.out hNV)
  have hN2 : N + 1 < w2.heap.size := Nat.lt_of_lt_of_le hNV hb2.size
  clear x0 x1 x2 x3 N1 N2 hb2
  by_cases hz : Z = 0
  · subst hz
    obtain ⟨W', H', rfl, rfl, hv, hRl, hUl, hRk, hUk⟩ := chkM_vm HM.out HZ.out
    obtain ⟨W, rfl⟩ : ∃ W, W = W' := ⟨_, rfl⟩
    obtain ⟨H, rfl⟩ : ∃ H, H = H' := ⟨_, rfl⟩
    have hW := hv.w
    have hH := hv.h
    have HRK := Lib.hid hRk
    have HUK := Lib.hid hUk
    have HV := Lib.hid hv
    have HRL := Lib.hid hRl
    have HUL := Lib.hid hUl
    have hRb : R.length ≤ 16 := by omega
    have hUb : U.length ≤ 16 := by omega
    have hs : okS W H = true := by rw [okS_iff]; have : (W : Int) * H ≤ 16 * 16 := Int.mul_le_mul (by omega) (by omega) (by omega) (by omega); exact ⟨by omega, by omega, by omega, by omega, by omega⟩
    have HS := Lib.hid hs
    clear hRk hUk hs hv hRl hUl
    obtain ⟨⟨x0, x1, x2, x3⟩, _⟩ := blk4 M1.out
    go_wp2_with fail
    refine (empty_any W H _ HS.out).mono ?_
    rintro e w3 ⟨rfl, hb3⟩
    have hb3' : Below w.heap.size w w3 := hb2'.trans (hb3.mono hb2'.size)
    have P1 := Lib.hid (kept hb3 M1.out (by omega))
    have P2 := Lib.hid (kept hb3 M2.out hN2)
    have hN3 : N + 1 < w3.heap.size := Nat.lt_of_lt_of_le hN2 hb3.size
    have hs3 := hb3'.size
    clear x0 x1 x2 x3 M1 M2 hb3
    obtain ⟨k1, k2⟩ := new2 w3 (.cells #[.int .i64 W, .int .i64 H, .slice none 0 0] 33) (.cells #[.int .i64 0] 26)
    have hb4 : Below w3.heap.size w3 ((w3.alloc (.cells #[.int .i64 W, .int .i64 H, .slice none 0 0] 33)).alloc (.cells #[.int .i64 0] 26)) := ((Below.refl _ _).alloc (Nat.le_refl _) _).alloc (by simp) _
    obtain ⟨X, hX⟩ : ∃ X, X = ((w3.alloc (.cells #[.int .i64 W, .int .i64 H, .slice none 0 0] 33)).alloc (.cells #[.int .i64 0] 26)) := ⟨_, rfl⟩
    go_upto_region 5 with fail
    rw [← hX] at k1 k2 hb4 ⊢
    obtain ⟨g, hg⟩ : ∃ g, g = w3.heap.size := ⟨_, rfl⟩
    rw [← hg] at k1 k2 ⊢
    have hbX : Below w.heap.size w X := hb3'.trans (hb4.mono hs3)
    have pm := kept hb4 P1.out (by omega)
    have pr := kept hb4 P2.out (by omega)
    have hinv : PInv X (g + 1) g N W H (.slice RA R.length cr) (.slice UA U.length cu) none [] 0 :=
      ⟨k2, k1, pm, Rd.nil, .inl ⟨rfl, rfl, rfl⟩, (fun _ _ _ h => by cases h), ⟨Nat.le_refl _, by omega⟩, ⟨HS.out, by simp, by simp, by simp, List.Pairwise.nil, by simp⟩, by omega, by omega, by omega⟩
    have HI := Lib.hid hinv
    have HP := Lib.hid pr
    have HB := Lib.hid hbX
    have hgN : N + 1 < g := by omega
    clear hX k1 k2 hb4 hg hN3 hs3 P1 P2 hinv pm pr hb3' hbX
    obtain ⟨⟨x0, x1, x2, x3⟩, _⟩ := blk4 HI.out.m
    go_wp2_with fail
    obtain ⟨A, hA⟩ : ∃ A : Option Addr, A = none := ⟨_, rfl⟩
    obtain ⟨l, hl⟩ : ∃ l : List Cr, l = [] := ⟨_, rfl⟩
    obtain ⟨cc, hcc⟩ : ∃ cc : Nat, cc = 0 := ⟨_, rfl⟩
    rw [← hA, ← hl, ← hcc] at HI
    have hl0 : l.length = 0 := by rw [hl]; rfl
    clear hA hl hcc
    go_loopw [8, 9, 10, 11, 35] (fun _ _ _ _ s35 wr => ∃ (y : Nat) (A : Option Addr) (l : List Cr) (cc : Nat), y ≤ R.length ∧ s35 = .int .i64 y ∧ l.length ≤ 0 + 20 * y ∧ Hid (PInv wr (g + 1) g N W H (.slice RA R.length cr) (.slice UA U.length cu) A l cc) ∧ Hid (wr.heap[N + 1]? = some (.cells #[.int .i64 0, .int .i64 0, .slice none 0 0] 33 (0, 0))) ∧ Hid (Below w.heap.size w wr)) (fun _ _ _ _ s35 _ => R.length - (intOf s35).toNat)
    case atStart => exact ⟨0, A, l, cc, by omega, rfl, by omega, HI, HP, HB⟩
    case round =>
      clear x0 x1 x2 x3
      clear HI HP HB
      obtain ⟨y, A, l, cc, hy, rfl, hll, HI, HP, HB⟩ := hrel
      obtain ⟨⟨x0, x1, x2, x3⟩, _⟩ := blk4 HI.out.m
      by_cases hlt : y < R.length
      · have q1 : (y : Int) < (R.length : Int) := by omega
        have hyH : y + 0 < H := by have := HRL.out; have := HUL.out; omega
        have hmr := HM.out.below HB.out
        obtain ⟨b, o, hA, hbl, c0⟩ := hmr.r.at' y hlt
        have hrow : ∀ w', Below w.heap.size w w' → RowOk w' R[y] := fun w' hb => (HM.out.below hb).r.row R[y] (List.getElem_mem _)
        have hrk := HRK.out R[y] (List.getElem_mem _)
        have hkv : ∀ (x : Nat) (hx : x < R[y].ks.length), 0 ≤ R[y].ks[x] ∧ R[y].ks[x] ≤ 2 := fun x hx => by
          have hv := HV.out.rt (0) (x) (y) (by omega) (by simp only [acr]; simp; omega) (by simp only [alo]; simp; omega)
          have : rtS R U (0) (x) (y) = R[y].ks[x] := by simp [rtS, rtK, getK, hlt, hx]
          rw [this] at hv
          exact hv.2
        obtain ⟨r, hr⟩ : ∃ r, R[y] = r := ⟨_, rfl⟩
        rw [hr] at c0 hrow hrk hkv
        have HROW := Lib.hid hrow
        have HKV := Lib.hid hkv
        subst hA
        clear hmr hrow hkv hr
        go_wp2_with fail
        obtain ⟨wo, rfl⟩ : ∃ wo : World, wo = wr := ⟨_, rfl⟩
        obtain ⟨A0, rfl⟩ : ∃ A0 : Option Addr, A0 = A := ⟨_, rfl⟩
        obtain ⟨l0, rfl⟩ : ∃ l0 : List Cr, l0 = l := ⟨_, rfl⟩
        obtain ⟨cc0, rfl⟩ : ∃ cc0 : Nat, cc0 = cc := ⟨_, rfl⟩
        go_loopw [10, 11, 42] (fun _ _ s42 wr => ∃ (x : Nat) (A : Option Addr) (l : List Cr) (cc : Nat), x ≤ r.ks.length ∧ s42 = .int .i64 x ∧ l.length ≤ 0 + 20 * y + x ∧ Hid (PInv wr (g + 1) g N W H (.slice (some ⟨b, o, none⟩) R.length cr) (.slice UA U.length cu) A l cc) ∧ Hid (wr.heap[N + 1]? = some (.cells #[.int .i64 0, .int .i64 0, .slice none 0 0] 33 (0, 0))) ∧ Hid (Below w.heap.size w wr)) (fun _ _ s42 _ => r.ks.length - (intOf s42).toNat)
        case atStart => exact ⟨0, A0, l0, cc0, by omega, rfl, by omega, HI, HP, HB⟩
        case round =>
          clear x0 x1 x2 x3 c0
          clear HI HP HB
          obtain ⟨x, A, l, cc, hx, rfl, hlx, HI, HP, HB⟩ := hrel
          by_cases hxl : x < r.ks.length
          · have q2 : (x : Int) < (r.ks.length : Int) := by omega
            obtain ⟨bk, ok, hrA, hbk, ck⟩ := (HROW.out wr HB.out).at' x hxl
            have hk2 := HKV.out x hxl
            obtain ⟨k, hk⟩ : ∃ k, r.ks[x] = k := ⟨_, rfl⟩
            rw [hk] at ck hk2
            obtain ⟨RA', hRA'⟩ : ∃ RA', RA' = r.A := ⟨_, rfl⟩
            rw [← hRA'] at hrA ⊢
            subst hrA
            clear hk hRA'
            go_wp2_with fail
            refine (pset_any W H (g + 1) g N _ _ A l cc x y 1 k wr HI.out (hQ.below HB.out) hk2 hW hH (by omega) (by omega) (.inl ⟨rfl, by omega⟩) (by omega)).mono ?_
            rintro e w5 ⟨rfl, ⟨A', l', cc', hi5, hl5⟩, hg5⟩
            have K1 := Lib.hid hi5
            have K2 := Lib.hid ((hg5.block (N + 1) (by have := (Array.getElem?_eq_some_iff.1 HP.out).1; exact this) (by intro e; injection e with e; omega)).trans HP.out)
            have K3 := Lib.hid (HB.out.grown hg5 HB.out.size (fun k hk => by injection hk with hk; have := HNN.out; omega))
            clear hi5 hg5 ck HI HP HB
            as_aux_lemma =>
              go_wp2_with fail
              go_roundw
              case rel => exact ⟨x + 1, A', l', cc', by omega, by go_num, by omega, K1, K2, K3⟩
              case measure => simp [intOf]; omega
          · have q2 : ¬ (x : Int) < (r.ks.length : Int) := by omega
            as_aux_lemma =>
              go_wp2_with fail
              go_roundw
              case rel => exact ⟨y + 1, A, l, cc, by omega, by go_num, by omega, HI, HP, HB⟩
              case measure => simp [intOf]; omega
      · have q1 : ¬ (y : Int) < (R.length : Int) := by omega
        go_wp2_with fail
        obtain ⟨wp, rfl⟩ : ∃ wp : World, wp = wr := ⟨_, rfl⟩
        obtain ⟨A1, rfl⟩ : ∃ A1 : Option Addr, A1 = A := ⟨_, rfl⟩
        obtain ⟨l1, rfl⟩ : ∃ l1 : List Cr, l1 = l := ⟨_, rfl⟩
        obtain ⟨cc1, rfl⟩ : ∃ cc1 : Nat, cc1 = cc := ⟨_, rfl⟩
        go_loopw [12, 13, 14, 15, 57] (fun _ _ _ _ s57 wr => ∃ (y : Nat) (A : Option Addr) (l : List Cr) (cc : Nat), y ≤ U.length ∧ s57 = .int .i64 y ∧ l.length ≤ 400 + 20 * y ∧ Hid (PInv wr (g + 1) g N W H (.slice RA R.length cr) (.slice UA U.length cu) A l cc) ∧ Hid (wr.heap[N + 1]? = some (.cells #[.int .i64 0, .int .i64 0, .slice none 0 0] 33 (0, 0))) ∧ Hid (Below w.heap.size w wr)) (fun _ _ _ _ s57 _ => U.length - (intOf s57).toNat)
        case atStart => exact ⟨0, A1, l1, cc1, by omega, rfl, by omega, HI, HP, HB⟩
        case round =>
          clear x0 x1 x2 x3
          clear HI HP HB
          obtain ⟨y, A, l, cc, hy, rfl, hll, HI, HP, HB⟩ := hrel
          obtain ⟨⟨x0, x1, x2, x3⟩, _⟩ := blk4 HI.out.m
          by_cases hlt : y < U.length
          · have q1 : (y : Int) < (U.length : Int) := by omega
            have hyH : y + 1 < H := by have := HRL.out; have := HUL.out; omega
            have hmr := HM.out.below HB.out
            obtain ⟨b, o, hA, hbl, c0⟩ := hmr.u.at' y hlt
            have hrow : ∀ w', Below w.heap.size w w' → RowOk w' U[y] := fun w' hb => (HM.out.below hb).u.row U[y] (List.getElem_mem _)
            have hrk := HUK.out U[y] (List.getElem_mem _)
            have hkv : ∀ (x : Nat) (hx : x < U[y].ks.length), 0 ≤ U[y].ks[x] ∧ U[y].ks[x] ≤ 2 := fun x hx => by
              have hv := HV.out.rt (1) (y) (x) (by omega) (by simp only [acr]; simp; omega) (by simp only [alo]; simp; omega)
              have : rtS R U (1) (y) (x) = U[y].ks[x] := by simp [rtS, rtK, getK, hlt, hx]
              rw [this] at hv
              exact hv.2
            obtain ⟨r, hr⟩ : ∃ r, U[y] = r := ⟨_, rfl⟩
            rw [hr] at c0 hrow hrk hkv
            have HROW := Lib.hid hrow
            have HKV := Lib.hid hkv
            subst hA
            clear hmr hrow hkv hr
            go_wp2_with fail
            obtain ⟨wo, rfl⟩ : ∃ wo : World, wo = wr := ⟨_, rfl⟩
            obtain ⟨A0, rfl⟩ : ∃ A0 : Option Addr, A0 = A := ⟨_, rfl⟩
            obtain ⟨l0, rfl⟩ : ∃ l0 : List Cr, l0 = l := ⟨_, rfl⟩
            obtain ⟨cc0, rfl⟩ : ∃ cc0 : Nat, cc0 = cc := ⟨_, rfl⟩
            go_loopw [14, 15, 64] (fun _ _ s64 wr => ∃ (x : Nat) (A : Option Addr) (l : List Cr) (cc : Nat), x ≤ r.ks.length ∧ s64 = .int .i64 x ∧ l.length ≤ 400 + 20 * y + x ∧ Hid (PInv wr (g + 1) g N W H (.slice RA R.length cr) (.slice (some ⟨b, o, none⟩) U.length cu) A l cc) ∧ Hid (wr.heap[N + 1]? = some (.cells #[.int .i64 0, .int .i64 0, .slice none 0 0] 33 (0, 0))) ∧ Hid (Below w.heap.size w wr)) (fun _ _ s64 _ => r.ks.length - (intOf s64).toNat)
            case atStart => exact ⟨0, A0, l0, cc0, by omega, rfl, by omega, HI, HP, HB⟩
            case round =>
              clear x0 x1 x2 x3 c0
              clear HI HP HB
              obtain ⟨x, A, l, cc, hx, rfl, hlx, HI, HP, HB⟩ := hrel
              by_cases hxl : x < r.ks.length
              · have q2 : (x : Int) < (r.ks.length : Int) := by omega
                obtain ⟨bk, ok, hrA, hbk, ck⟩ := (HROW.out wr HB.out).at' x hxl
                have hk2 := HKV.out x hxl
                obtain ⟨k, hk⟩ : ∃ k, r.ks[x] = k := ⟨_, rfl⟩
                rw [hk] at ck hk2
                obtain ⟨RA', hRA'⟩ : ∃ RA', RA' = r.A := ⟨_, rfl⟩
                rw [← hRA'] at hrA ⊢
                subst hrA
                clear hk hRA'
                go_wp2_with fail
                refine (pset_any W H (g + 1) g N _ _ A l cc x y 2 k wr HI.out (hQ.below HB.out) hk2 hW hH (by omega) (by omega) (.inr ⟨rfl, by omega⟩) (by omega)).mono ?_
                rintro e w5 ⟨rfl, ⟨A', l', cc', hi5, hl5⟩, hg5⟩
                have K1 := Lib.hid hi5
                have K2 := Lib.hid ((hg5.block (N + 1) (by have := (Array.getElem?_eq_some_iff.1 HP.out).1; exact this) (by intro e; injection e with e; omega)).trans HP.out)
                have K3 := Lib.hid (HB.out.grown hg5 HB.out.size (fun k hk => by injection hk with hk; have := HNN.out; omega))
                clear hi5 hg5 ck HI HP HB
                as_aux_lemma =>
                  go_wp2_with fail
                  go_roundw
                  case rel => exact ⟨x + 1, A', l', cc', by omega, by go_num, by omega, K1, K2, K3⟩
                  case measure => simp [intOf]; omega
              · have q2 : ¬ (x : Int) < (r.ks.length : Int) := by omega
                as_aux_lemma =>
                  go_wp2_with fail
                  go_roundw
                  case rel => exact ⟨y + 1, A, l, cc, by omega, by go_num, by omega, HI, HP, HB⟩
                  case measure => simp [intOf]; omega
          · have q1 : ¬ (y : Int) < (U.length : Int) := by omega
            go_wp2_with fail
            obtain ⟨e0, e1⟩ := blk1 HI.out.e
            obtain ⟨⟨p0, p1, p2⟩, _⟩ := blk3 HI.out.p
            obtain ⟨⟨r0, r1, r2⟩, z0, z1, z2⟩ := blk3 HP.out
            have hlN := (Array.getElem?_eq_some_iff.1 HP.out).1
            have hlg := (Array.getElem?_eq_some_iff.1 HI.out.p).1
            clear x0 x1 x2 x3
            go_region
            all_goals
              go_wp2_with fail
              refine bodyPost_ret (v := .tuple #[.agg #[.int .i64 W, .int .i64 H, .slice A l.length cc], .int .i64 0]) (by simp [results, Tryz.results5, go_sem, r0, r1, r2]) rfl ⟨?_, .inr ⟨rfl, _, _, _, _, _, rfl⟩⟩
              have h9 := HNN.out
              have hbF := HB.out
              repeat' (first | exact hbF | refine Below.drew ?_ | refine Below.setCell ?_ (by simp; omega) _)
  · have hbz : (Z != 0) = true := by simpa using hz
    have HZZ := Lib.hid hz
    obtain ⟨⟨r0, r1, r2⟩, z0, z1, z2⟩ := blk3 M2.out
    clear hz
    go_wp2_with fail
    refine bodyPost_ret (v := .tuple #[.agg #[.int .i64 0, .int .i64 0, .slice none 0 0], .int .i64 Z]) (by simp [results, Tryz.results5, go_sem, r0, r1, r2]) rfl ⟨?_, .inl ⟨HZZ.out, rfl⟩⟩
    have h9 := HNN.out
    exact ((hb2'.setCell (by simp; omega) _).setCell (by simp; omega) _).setCell (by simp; omega) _
end Go.Proofs.YtcgbdkjelbgcfaaGreatDoor
