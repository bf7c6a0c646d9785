/- Contract of maps.Plan: its error. -/
import Derived.Test.YtcgbdkjelbgcfaaGreatDoorBest2
import Derived.Test.YtcgbdkjelbgcfaaGreatDoorLines
namespace Go.Proofs.YtcgbdkjelbgcfaaGreatDoor
open Go.RowKit

/-- What Plan returns: why not, or folds, or that there is no plan. -/
def PlanRet (W H : Int) (R U : List Row) (w : World) (e : Ending) (w' : World) : Prop :=
  Below w.heap.size w w' ∧ ((chkM W H R U ≠ 0 ∧ e = .returned (.tuple #[.slice none 0 0, .int .i64 (chkM W H R U)])) ∨
    (chkM W H R U = 0 ∧ ∃ (A : Option Addr) (n c : Nat) (z : Int), e = .returned (.tuple #[.slice A n c, .int .i64 z]) ∧ (z = 0 ∨ z = 15)))
theorem fold_info : (Tryz.prog.info? 53).map (fun i => (i.zero, i.size, i.bytes)) = some (some (.agg #[.int .u8 0, .int .i64 0, .int .u8 0, .bool false]), 4, 24) := by kernel_rfl
set_option maxHeartbeats 400000 in
theorem clip_folds (A : Option Addr) (n c : Nat) (w : World) (h : n ≤ c) (_hm : c ≤ maxLen) :
    Calls Tryz.prog 25 #[.slice A n c] w fun e w' => e = .returned (.slice A n n) ∧ w = w' := by
  unfold maxLen at _hm
  go_enter Tryz.func25, Tryz.ntmps25
  go_wp2
  go_ret
  exact ⟨rfl, rfl⟩
def lenOf : Value → Nat
  | .slice _ n _ => n
  | _ => 0
theorem own_not_map {w : World} {B M e s n : Nat} {v : Value} {xs : List Value} (h : w.ownsRow B e s v n xs) (hk : KnownOk w M) : v.ownBlock = none ∨ v.ownBlock ≠ some M := by
  rcases h.2 with ⟨rfl, _⟩ | ⟨g, cap, cur, rfl, _, hg, _⟩
  · exact .inl rfl
  · refine .inr fun e1 => ?_
    obtain ⟨es, clock, hm, _⟩ := hk
    have : g = M := by simpa [Value.ownBlock] using e1
    subst this
    rw [hg] at hm; cases hm
theorem own_not_cells {w : World} {B P e e' s n : Nat} {v : Value} {xs : List Value} {cs : Array Value} {f : Nat × Nat} (h : w.ownsRow B e s v n xs) (hp : w.heap[P]? = some (.cells cs e' f)) (hne : e ≠ e') : v.ownBlock = none ∨ v.ownBlock ≠ some P := by
  rcases h.2 with ⟨rfl, _⟩ | ⟨g, cap, cur, rfl, _, hg, _⟩
  · exact .inl rfl
  · refine .inr fun e1 => ?_
    have : g = P := by simpa [Value.ownBlock] using e1
    subst this
    rw [hg] at hp; injection hp with hp; injection hp with _ h2 _; exact hne h2
theorem grown_far {W W' : World} {v : Value} {i : Nat} {o : Obj} (hg : W.grownBy W' v.ownBlock) (h : W.heap[i]? = some o) (hne : v.ownBlock = none ∨ v.ownBlock ≠ some i) : W'.heap[i]? = some o := by
  refine (hg.block i (Array.getElem?_eq_some_iff.1 h).1 ?_).trans h
  rcases hne with e | e
  · rw [e]; simp
  · exact fun x => e x.symm
theorem KnownOk.far {W W' : World} {v : Value} {M : Nat} (hg : W.grownBy W' v.ownBlock) (h : KnownOk W M) (hne : v.ownBlock = none ∨ v.ownBlock ≠ some M) : KnownOk W' M := by
  obtain ⟨es, clock, hm, hes⟩ := h
  exact ⟨es, clock, grown_far hg hm hne, hes⟩
theorem setCell4 {wr : World} {g : Nat} {t : TypeId} {x0 x1 x2 x3 : Value} (h : wr.heap[g]? = some (.cells #[x0, x1, x2, x3] t (0, 0))) (y0 y1 y2 y3 : Value) {X : World} (hX : X = (((wr.setCell ⟨g, 0, none⟩ y0).setCell ⟨g, 1, none⟩ y1).setCell ⟨g, 2, none⟩ y2).setCell ⟨g, 3, none⟩ y3) :
    X.heap.size = wr.heap.size ∧ (∀ i, i ≠ g → X.heap[i]? = wr.heap[i]?) ∧ wr.grownBy X (some g) := by
  subst hX
  obtain ⟨a1, a2, a3⟩ := setCell1 (j := 0) h y0
  obtain ⟨b1, b2, b3⟩ := setCell1 (j := 1) a1 y1
  obtain ⟨c1, c2, c3⟩ := setCell1 (j := 2) b1 y2
  obtain ⟨d1, d2, d3⟩ := setCell1 (j := 3) c1 y3
  have hs := d2.trans (c2.trans (b2.trans a2))
  have ho : ∀ i, i ≠ g → ((((wr.setCell ⟨g, 0, none⟩ y0).setCell ⟨g, 1, none⟩ y1).setCell ⟨g, 2, none⟩ y2).setCell ⟨g, 3, none⟩ y3).heap[i]? = wr.heap[i]? := fun i hi => (d3 i hi).trans ((c3 i hi).trans ((b3 i hi).trans (a3 i hi)))
  exact ⟨hs, ho, rfl, rfl, rfl, by rw [hs]; exact Nat.le_refl _, fun i _ hi => ho i (fun e => hi (by rw [e]))⟩

theorem below_of_grown {w a b : World} {N M : Nat} (hM : N ≤ M) (hN : N ≤ a.heap.size) (h : Below N w a) (k : a.grownBy b (some M)) : Below N w b :=
  ⟨k.os.trans h.os, k.tape.trans h.tape, k.output.trans h.output, Nat.le_trans h.size k.size, fun i hi => (k.block i (by omega) (fun e => by injection e with e; omega)).trans (h.block i hi)⟩

set_option maxHeartbeats 4000000 in
set_option maxRecDepth 100000 in
theorem mplan_any (W H : Int) (RA UA : Option Addr) (R U : List Row) (cr cu : Nat) (w : World) (hm : MapOk w RA UA R U) :
    Calls Tryz.prog 8 #[.agg #[.int .i64 W, .int .i64 H, .slice RA R.length cr, .slice UA U.length cu]] w (PlanRet W H R U w) := by
  have hn1 := heap_alloc_new w (.cells #[.int .i64 W, .int .i64 H, .slice RA R.length cr, .slice UA U.length cu] 24)
  have hb1 : Below w.heap.size w (w.alloc (.cells #[.int .i64 W, .int .i64 H, .slice RA R.length cr, .slice UA U.length cu] 24)) := (Below.refl _ _).alloc (Nat.le_refl _) _
  obtain ⟨Z, hZ⟩ : ∃ Z, chkM W H R U = Z := ⟨_, rfl⟩
  obtain ⟨i0, hi0, hz0, hz1, hz2⟩ := info_parts fold_info
  have HI0 := Lib.hid hi0
  have HZ0 := Lib.hid hz0
  have HZ1 := Lib.hid hz1
  have HZ2 := Lib.hid hz2
  clear hi0 hz0 hz1 hz2
  have HM := Lib.hid hm
  have HZ := Lib.hid hZ
  clear hm hZ
  go_enter Tryz.func8, Tryz.ntmps8
  go_upto_region 1 with fail
  obtain ⟨V, hV⟩ : ∃ V, V = w.alloc (.cells #[.int .i64 W, .int .i64 H, .slice RA R.length cr, .slice UA U.length cu] 24) := ⟨_, rfl⟩
  have hVs : V.heap.size = w.heap.size + 1 := by rw [hV]; simp
  rw [← hV] at hn1 hb1 ⊢
  obtain ⟨N, hN⟩ : ∃ N, N = w.heap.size := ⟨_, rfl⟩
  rw [← hN] at hn1 ⊢
  have N1 := Lib.hid hn1
  have hNV : N < V.heap.size := (Array.getElem?_eq_some_iff.1 hn1).1
  obtain ⟨⟨x0, x1, x2, x3⟩, _⟩ := blk4 hn1
  have HNN := Lib.hid hN
  have HB1 := Lib.hid hb1
  clear hV hN hn1 hVs hb1
  go_wp2_with fail
  refine (mcheck_any W H RA UA R U cr cu V (HM.out.below HB1.out)).mono ?_
  rintro e w2 ⟨rfl, hb2⟩
  rw [HZ.out]
  clear x0 x1 x2 x3
  by_cases hz : Z = 0
  · subst hz
    obtain ⟨W', H', rfl, rfl, hv, -⟩ := chkM_vm HM.out HZ.out
    obtain ⟨W, rfl⟩ : ∃ W, W = W' := ⟨_, rfl⟩
    obtain ⟨H, rfl⟩ : ∃ H, H = H' := ⟨_, rfl⟩
    have hW16 := hv.w
    have hH16 := hv.h
    have HV := Lib.hid hv
    clear hv
    have N2 := Lib.hid (kept hb2 N1.out hNV)
    obtain ⟨⟨x0, x1, x2, x3⟩, _⟩ := blk4 N2.out
    have hs2 := hb2.size
    have hN2 : N < w2.heap.size := by omega
    have hmm := @run_makeMap Tryz.prog
    go_wp2_with fail
    refine (all_any W H _ _ _).mono ?_
    rintro e w3 ⟨rfl, hb3⟩
    clear x0 x1 x2 x3 hmm
    go_wp2_with fail
    obtain ⟨M, hM⟩ : ∃ M, M = w2.heap.size := ⟨_, rfl⟩
    have hVM : V.heap.size ≤ M := by omega
    have hkM : KnownOk w3 M := by
      rw [hM]
      exact (known_made w2).below hb3 (by simp)
    have hb32 : Below w2.heap.size w2 w3 := ((Below.refl _ _).alloc (Nat.le_refl _) _).trans (hb3.mono (by simp))
    have hM3 : M < w3.heap.size := hkM.lt
    have hb3V : Below V.heap.size V w3 := hb2.trans (hb32.mono hs2)
    have N3 := Lib.hid (kept hb32 N2.out hN2)
    have HKM := Lib.hid hkM
    have HB3 := Lib.hid hb3V
    have hs3 := hb3V.size
    rw [← hM]
    clear hM hb2 hb3 hb32 hs2 hN2 hkM hb3V
    go_loopw [5, 7, 8, 9, 10, 11, 12] (fun s5 s7 _ _ _ _ _ wr => ∃ (qa qb qc qd n P q : Nat) (A : Option Addr) (xs : List Value), s7 = .pointer (some ⟨P, 0, none⟩) ∧ s5 = .slice A n q ∧ n + ((qb - qa) + (qd - qc)) ≤ 32 ∧ n ≤ q ∧ q ≤ maxLen ∧ InM W H ⟨qa, qb, qc, qd⟩ ∧ wr.heap[P]? = some (.cells #[.int .i64 qa, .int .i64 qb, .int .i64 qc, .int .i64 qd] 64 (0, 0)) ∧ P ≠ M ∧ V.heap.size ≤ P ∧ wr.heap[N]? = some (.cells #[.int .i64 W, .int .i64 H, .slice RA R.length cr, .slice UA U.length cu] 24 (0, 0)) ∧ KnownOk wr M ∧ wr.ownsRow V.heap.size 53 4 (.slice A n q) n xs ∧ Below V.heap.size V wr ∧ M < wr.heap.size) (fun s5 _ _ _ _ _ _ _ => 40 - lenOf s5)
    case atStart =>
      refine ⟨0, W, 0, H, 0, w3.heap.size, 0, none, [], rfl, rfl, by omega, by omega, by unfold maxLen; omega, all_in HV.out, heap_alloc_new w3 _, by omega, by omega, ?_, HKM.out.below ((Below.refl w3.heap.size w3).alloc (Nat.le_refl _) _) hM3, ⟨by simp, .inl ⟨rfl, rfl⟩⟩, HB3.out.trans ((Below.refl _ _).alloc (by omega) _), by simp; omega⟩
      rw [Below.heap_alloc _ _ _ (by omega)]; exact N3.out
    case round =>
      obtain ⟨qa, qb, qc, qd, n, P, q, A, xs, rfl, rfl, hnn, hnq, hqm, hin, hP, hPM, hPV, hNr, hk, hown, hbr, hMr⟩ := hrel
      obtain ⟨⟨g0, g1, g2, g3⟩, _⟩ := blk4 hNr
      obtain ⟨⟨p0, p1, p2, p3⟩, _⟩ := blk4 hP
      have hqx := hin.x
      have hqy := hin.y
      dsimp only at hqx hqy
      obtain ⟨pb, hpb⟩ : ∃ pb, plainB R U ⟨qa, qb, qc, qd⟩ = pb := ⟨_, rfl⟩
      have HXX : ∀ w', Below V.heap.size V w' → MapOk w' RA UA R U := fun w' h => (HM.out.below HB1.out).below h
      have HX := Lib.hid HXX
      have HIN := Lib.hid hin
      have hpl : ∀ w', MapOk w' RA UA R U → Calls Tryz.prog 23 #[.agg #[.int .i64 W, .int .i64 H, .slice RA R.length cr, .slice UA U.length cu], .agg #[.int .i64 qa, .int .i64 qb, .int .i64 qc, .int .i64 qd]] w' (RetBelow (.bool (plainB R U ⟨qa, qb, qc, qd⟩)) w') := fun w' hm' => plain_run W H RA UA R U cr cu ⟨qa, qb, qc, qd⟩ w' hm' HV.out HIN.out
      rw [hpb] at hpl
      have HPL := Lib.hid hpl
      have HPP := Lib.hid hP
      have HNR := Lib.hid hNr
      have HKK := Lib.hid hk
      have HO := Lib.hid hown
      have HBR := Lib.hid hbr
      have hsr := hbr.size
      have hPr := (Array.getElem?_eq_some_iff.1 hP).1
      clear hpb hpl hin HXX hP hNr hk hown hbr
      go_wp2_with fail
      refine (HPL.out _ (HX.out _ HBR.out)).mono ?_
      rintro e w4 ⟨rfl, hb4⟩
      have HB4 := Lib.hid hb4
      have hs4 := hb4.size
      have P4 := Lib.hid (kept hb4 HPP.out hPr)
      have N4 := Lib.hid (kept hb4 HNR.out (by omega))
      have K4 := Lib.hid (HKK.out.below hb4 hMr)
      have O4 := Lib.hid (own_keep HO.out (Nat.le_refl _) hb4)
      have B4 := Lib.hid (HBR.out.trans (hb4.mono hsr))
      clear hb4 g0 g1 g2 g3 p0 p1 p2 p3
      cases pb
      · obtain ⟨⟨g0, g1, g2, g3⟩, _⟩ := blk4 N4.out
        obtain ⟨⟨p0, p1, p2, p3⟩, _⟩ := blk4 P4.out
        go_wp2_with fail
        refine (best_any W H RA UA R U cr cu M HV.out _ ⟨qa, qb, qc, qd⟩ _ (Nat.le_refl _) (HX.out _ B4.out) HIN.out K4.out).mono ?_
        rintro e w5 ⟨fx, yx, cx, rfl, hG, hk5, hg5⟩
        unfold chV
        clear g0 g1 g2 g3 p0 p1 p2 p3
        have hs5 := hg5.size
        have P5 := Lib.hid (grown_kept hg5 P4.out hPM)
        have N5 := Lib.hid (grown_kept hg5 N4.out (by omega))
        have K5 := Lib.hid hk5
        have O5 := Lib.hid (own_kept O4.out hg5 (own_not_map O4.out K4.out))
        have B5 := Lib.hid (below_of_grown hVM (by omega) B4.out hg5)
        clear hk5 hg5
        by_cases hfx : fx = 0
        · have hbf : (fx == 0) = true := by simp [hfx]
          have HFX := Lib.hid hfx
          clear hfx hG
          as_aux_lemma =>
            go_wp2_with fail
            refine bodyPost_ret (v := .tuple #[.slice none 0 0, .int .i64 15]) (by simp [results, Tryz.results8, go_sem]) rfl ?_
            exact ⟨HB1.out.trans ((B5.out.trans ((Below.refl _ _).alloc (by omega) _)).mono (by rw [← HNN.out]; omega)), .inr ⟨HZ.out, none, 0, 0, 15, rfl, .inr rfl⟩⟩
        · have hbf : (fx == 0) = false := by simp [hfx]
          have HFX := Lib.hid hfx
          clear hfx
          obtain ⟨y, c, rfl, rfl, hy, hc1, hc2⟩ := hG.resolve_left HFX.out
          obtain ⟨⟨g0, g1, g2, g3⟩, _⟩ := blk4 N5.out
          obtain ⟨⟨p0, p1, p2, p3⟩, _⟩ := blk4 P5.out
          have hN5 : N < w5.heap.size := by omega
          have hP5 : P < w5.heap.size := by omega
          obtain rfl | rfl : y = 0 ∨ y = 1 := by omega
          · have hc1 : qa < c := by simpa [Pt.from'] using hc1
            have hc2 : c < qb := by simpa [Pt.to] using hc2
            obtain ⟨fi, fb, hfk⟩ : ∃ fi fb, fold2 R U ⟨qa, qb, qc, qd⟩ 0 c = (fi, fb) := ⟨_, _, rfl⟩
            have hfo : ∀ w', MapOk w' RA UA R U → Calls Tryz.prog 18 #[.agg #[.int .i64 W, .int .i64 H, .slice RA R.length cr, .slice UA U.length cu], .agg #[.int .i64 qa, .int .i64 qb, .int .i64 qc, .int .i64 qd], .int .i64 0, .int .i64 c] w' (RetBelow (.tuple #[.int .u8 (fold2 R U ⟨qa, qb, qc, qd⟩ 0 c).1, .bool (fold2 R U ⟨qa, qb, qc, qd⟩ 0 c).2]) w') := fun w' hm' => folds_run W H RA UA R U cr cu ⟨qa, qb, qc, qd⟩ 0 c w' hm' HV.out HIN.out (by omega) (by simp [Pt.from']; omega) (by simp [Pt.to]; omega)
            rw [hfk] at hfo
            dsimp only at hfo
            have HFO := Lib.hid hfo
            obtain ⟨⟨ra, rb, rc, rd⟩, rs, hlp⟩ : ∃ q s, leftP ⟨qa, qb, qc, qd⟩ 0 c = (q, s) := ⟨_, _, rfl⟩
            have hlf : ∀ w', Calls Tryz.prog 21 #[.agg #[.int .i64 qa, .int .i64 qb, .int .i64 qc, .int .i64 qd], .int .i64 0, .int .i64 c] w' (RetBelow (.tuple #[(leftP ⟨qa, qb, qc, qd⟩ 0 c).1.v, .int .u8 (leftP ⟨qa, qb, qc, qd⟩ 0 c).2]) w') := fun w' => left_any ⟨qa, qb, qc, qd⟩ 0 c w' (by omega) (by dsimp only; omega) (by dsimp only; omega) (by dsimp only; omega) (by dsimp only; omega) (by omega)
            have hil := leftP_in (way := 0) (c := c) HIN.out (by omega) (by simp [Pt.from']; omega) (by simp [Pt.to]; omega)
            have har := leftP_area (way := 0) (c := c) HIN.out (by omega) (by simp [Pt.from']; omega) (by simp [Pt.to]; omega)
            rw [hlp] at hlf hil har
            unfold Pt.v at hlf
            unfold Pt.area at har
            dsimp only at hlf hil har
            have HLF := Lib.hid hlf
            have HIL := Lib.hid hil
            clear hfk hfo hlp hlf hil hG
            go_wp2_with fail
            refine (HFO.out _ (HX.out _ (B5.out.trans ((Below.refl _ _).alloc (by omega) _)))).mono ?_
            rintro e w6 ⟨rfl, hb6⟩
            have hs6 := hb6.size
            have hb56 : Below w5.heap.size w5 w6 := ((Below.refl _ _).alloc (Nat.le_refl _) _).trans (hb6.mono (by simp))
            have hC6 := kept hb6 (heap_alloc_new w5 (.cells #[.int .i64 fx, .int .i64 0, .int .i64 c] 73)) (by simp)
            have P6 := Lib.hid (kept hb56 P5.out hP5)
            have N6 := Lib.hid (kept hb56 N5.out hN5)
            have C6 := Lib.hid hC6
            have HB56 := Lib.hid hb56
            rw [World.size_alloc] at hs6
            clear g0 g1 g2 g3 p0 p1 p2 p3 hb6 hC6 hb56
            obtain ⟨⟨g0, g1, g2, g3⟩, _⟩ := blk4 N6.out
            obtain ⟨⟨p0, p1, p2, p3⟩, _⟩ := blk4 P6.out
            obtain ⟨⟨c0, c1, c2⟩, _⟩ := blk3 C6.out
            go_wp2_with fail
            refine (HLF.out _).mono ?_
            rintro e w7 ⟨rfl, hb7⟩
            have hs7 := hb7.size
            have N7 := Lib.hid (kept hb7 N6.out (by omega))
            have C7 := Lib.hid (kept hb7 C6.out (by omega))
            have P7 := Lib.hid (kept hb7 P6.out (by omega))
            have HB7 := Lib.hid (HB56.out.trans (hb7.mono (by omega)))
            clear g0 g1 g2 g3 p0 p1 p2 p3 c0 c1 c2 hb7
            obtain ⟨⟨c0, c1, c2⟩, _⟩ := blk3 C7.out
            obtain ⟨⟨p0, p1, p2, p3⟩, zp0, zp1, zp2, zp3⟩ := blk4 P7.out
            have hC7 : w5.heap.size < w7.heap.size := by omega
            obtain ⟨fk, hfk2⟩ : ∃ fk, (fi == 2) = fk := ⟨_, rfl⟩
            obtain ⟨W7, hW7⟩ : ∃ W7, W7 = (w7.alloc (.cells #[.int .i64 ra, .int .i64 rb, .int .i64 rc, .int .i64 rd] 64)).alloc (.cells #[.int .u8 1, .int .i64 c, .int .u8 rs, .bool fk] 53) := ⟨_, rfl⟩
            have hB7W : Below w7.heap.size w7 W7 := by rw [hW7]; exact ((Below.refl _ _).alloc (Nat.le_refl _) _).alloc (by simp) _
            have hs7W : W7.heap.size = w7.heap.size + 1 + 1 := by rw [hW7]; simp
            have hO7 := own_keep (own_keep O5.out (Nat.le_refl _) HB7.out) (Nat.le_refl _) hB7W
            have hD7 : W7.heap[w7.heap.size]? = some (.cells #[.int .i64 ra, .int .i64 rb, .int .i64 rc, .int .i64 rd] 64 (0, 0)) := by
              rw [hW7, Below.heap_alloc _ _ _ (by simp)]; exact heap_alloc_new w7 _
            have hrd : Rd W7 (some ⟨w7.heap.size + 1, 0, none⟩) 4 1 [.int .u8 1, .int .i64 c, .int .u8 rs, .bool fk] := by
              rw [hW7]; exact rd_new _ 1 4 rfl (by simp)
            have hbV7 : Below V.heap.size V W7 := (B5.out.trans (HB7.out.mono (by omega))).trans (hB7W.mono (by omega))
            obtain ⟨v', w8, hr, hown', hg8⟩ := run_append_rdK (P := Tryz.prog) W7 V.heap.size 44 44 53 i0 _ 4 24 Tryz.underlying44 HI0.out HZ0.out HZ1.out HZ2.out rfl (by omega) (.slice A n q) n xs hO7 (some ⟨w7.heap.size + 1, 0, none⟩) 1 1 [.int .u8 1, .int .i64 c, .int .u8 rs, .bool fk] (by simp [Value.oneCell']) hrd (by simp) (by omega) (by omega) (by have := hbV7.size; omega)
            have hb8 : Below V.heap.size V w8 := hbV7.grown hg8 (by have := hbV7.size; omega) (fun q hq => (hO7.lt q hq).1)
            have P8 := Lib.hid (grown_far hg8 (kept hB7W P7.out (by omega)) (own_not_cells hO7 (kept hB7W P7.out (by omega)) (by decide)))
            have D8 := Lib.hid (grown_far hg8 hD7 (own_not_cells hO7 hD7 (by decide)))
            have N8 := Lib.hid (kept hb8 N1.out hNV)
            have hk7 : KnownOk W7 M := (K5.out.below HB7.out (by omega)).below hB7W (by omega)
            have K8 := Lib.hid (KnownOk.far hg8 hk7 (own_not_map hO7 hk7))
            obtain ⟨A', q', rfl, hnq', hqm'⟩ := own_form hown'
            have hs8 := hg8.size
            have HR := Lib.hid hr
            have HO' := Lib.hid hown'
            have HB8 := Lib.hid hb8
            rw [hW7] at HR
            obtain ⟨⟨d0, d1, d2, d3⟩, _⟩ := blk4 D8.out
            obtain ⟨⟨e0, e1, e2, e3⟩, ze0, ze1, ze2, ze3⟩ := blk4 P8.out
            have hP8 : P < w8.heap.size := by omega
            clear hr hown' hg8 hb8 hrd hD7 hO7 hbV7 hk7 hB7W hW7
            as_aux_lemma =>
              go_wp2_with (at_builtin; refine Lib.wpList_append_run _ rfl _ _ _ _ rfl _ _ rfl rfl _ _ HR.out ?_)
              go_wp2_with fail
              go_roundw
              case rel =>
                obtain ⟨X, hX⟩ : ∃ X, X = (((w8.setCell ⟨P, 0, none⟩ (.int .i64 ra)).setCell ⟨P, 1, none⟩ (.int .i64 rb)).setCell ⟨P, 2, none⟩ (.int .i64 rc)).setCell ⟨P, 3, none⟩ (.int .i64 rd) := ⟨_, rfl⟩
                obtain ⟨hXs, hXo, hXg⟩ := setCell4 P8.out (.int .i64 ra) (.int .i64 rb) (.int .i64 rc) (.int .i64 rd) hX
                rw [← hX]
                have hBX : Below V.heap.size V (X.alloc (.cells #[.int .i64 ra, .int .i64 rb, .int .i64 rc, .int .i64 rd] 64)) := (below_of_grown hPV (by omega) HB8.out hXg).alloc (by omega) _
                have hkX : KnownOk X M := by
                  obtain ⟨es, clock, hm, hes⟩ := K8.out
                  exact ⟨es, clock, (hXo M (fun e => hPM e.symm)).trans hm, hes⟩
                refine ⟨ra, rb, rc, rd, n + 1, w8.heap.size, q', A', _, rfl, rfl, by omega, hnq', hqm', HIL.out, ?_, by have := K8.out.lt; omega, by omega, kept hBX N1.out hNV, hkX.below ((Below.refl X.heap.size X).alloc (Nat.le_refl _) _) hkX.lt, own_keep (own_kept HO'.out hXg (own_not_cells HO'.out P8.out (by decide))) (Nat.le_refl _) ((Below.refl X.heap.size X).alloc (Nat.le_refl _) _), hBX, by have := hkX.lt; simp; omega⟩
                rw [← hXs]; exact heap_alloc_new X _
              case measure => simp [lenOf]; omega
          · have hc1 : qc < c := by simpa [Pt.from'] using hc1
            have hc2 : c < qd := by simpa [Pt.to] using hc2
            obtain ⟨fi, fb, hfk⟩ : ∃ fi fb, fold2 R U ⟨qa, qb, qc, qd⟩ 1 c = (fi, fb) := ⟨_, _, rfl⟩
            have hfo : ∀ w', MapOk w' RA UA R U → Calls Tryz.prog 18 #[.agg #[.int .i64 W, .int .i64 H, .slice RA R.length cr, .slice UA U.length cu], .agg #[.int .i64 qa, .int .i64 qb, .int .i64 qc, .int .i64 qd], .int .i64 1, .int .i64 c] w' (RetBelow (.tuple #[.int .u8 (fold2 R U ⟨qa, qb, qc, qd⟩ 1 c).1, .bool (fold2 R U ⟨qa, qb, qc, qd⟩ 1 c).2]) w') := fun w' hm' => folds_run W H RA UA R U cr cu ⟨qa, qb, qc, qd⟩ 1 c w' hm' HV.out HIN.out (by omega) (by simp [Pt.from']; omega) (by simp [Pt.to]; omega)
            rw [hfk] at hfo
            dsimp only at hfo
            have HFO := Lib.hid hfo
            obtain ⟨⟨ra, rb, rc, rd⟩, rs, hlp⟩ : ∃ q s, leftP ⟨qa, qb, qc, qd⟩ 1 c = (q, s) := ⟨_, _, rfl⟩
            have hlf : ∀ w', Calls Tryz.prog 21 #[.agg #[.int .i64 qa, .int .i64 qb, .int .i64 qc, .int .i64 qd], .int .i64 1, .int .i64 c] w' (RetBelow (.tuple #[(leftP ⟨qa, qb, qc, qd⟩ 1 c).1.v, .int .u8 (leftP ⟨qa, qb, qc, qd⟩ 1 c).2]) w') := fun w' => left_any ⟨qa, qb, qc, qd⟩ 1 c w' (by omega) (by dsimp only; omega) (by dsimp only; omega) (by dsimp only; omega) (by dsimp only; omega) (by omega)
            have hil := leftP_in (way := 1) (c := c) HIN.out (by omega) (by simp [Pt.from']; omega) (by simp [Pt.to]; omega)
            have har := leftP_area (way := 1) (c := c) HIN.out (by omega) (by simp [Pt.from']; omega) (by simp [Pt.to]; omega)
            rw [hlp] at hlf hil har
            unfold Pt.v at hlf
            unfold Pt.area at har
            dsimp only at hlf hil har
            have HLF := Lib.hid hlf
            have HIL := Lib.hid hil
            clear hfk hfo hlp hlf hil hG
            go_wp2_with fail
            refine (HFO.out _ (HX.out _ (B5.out.trans ((Below.refl _ _).alloc (by omega) _)))).mono ?_
            rintro e w6 ⟨rfl, hb6⟩
            have hs6 := hb6.size
            have hb56 : Below w5.heap.size w5 w6 := ((Below.refl _ _).alloc (Nat.le_refl _) _).trans (hb6.mono (by simp))
            have hC6 := kept hb6 (heap_alloc_new w5 (.cells #[.int .i64 fx, .int .i64 1, .int .i64 c] 73)) (by simp)
            have P6 := Lib.hid (kept hb56 P5.out hP5)
            have N6 := Lib.hid (kept hb56 N5.out hN5)
            have C6 := Lib.hid hC6
            have HB56 := Lib.hid hb56
            rw [World.size_alloc] at hs6
            clear g0 g1 g2 g3 p0 p1 p2 p3 hb6 hC6 hb56
            obtain ⟨⟨g0, g1, g2, g3⟩, _⟩ := blk4 N6.out
            obtain ⟨⟨p0, p1, p2, p3⟩, _⟩ := blk4 P6.out
            obtain ⟨⟨c0, c1, c2⟩, _⟩ := blk3 C6.out
            go_wp2_with fail
            refine (HLF.out _).mono ?_
            rintro e w7 ⟨rfl, hb7⟩
            have hs7 := hb7.size
            have N7 := Lib.hid (kept hb7 N6.out (by omega))
            have C7 := Lib.hid (kept hb7 C6.out (by omega))
            have P7 := Lib.hid (kept hb7 P6.out (by omega))
            have HB7 := Lib.hid (HB56.out.trans (hb7.mono (by omega)))
            clear g0 g1 g2 g3 p0 p1 p2 p3 c0 c1 c2 hb7
            obtain ⟨⟨c0, c1, c2⟩, _⟩ := blk3 C7.out
            obtain ⟨⟨p0, p1, p2, p3⟩, zp0, zp1, zp2, zp3⟩ := blk4 P7.out
            have hC7 : w5.heap.size < w7.heap.size := by omega
            obtain ⟨fk, hfk2⟩ : ∃ fk, (fi == 2) = fk := ⟨_, rfl⟩
            obtain ⟨W7, hW7⟩ : ∃ W7, W7 = (w7.alloc (.cells #[.int .i64 ra, .int .i64 rb, .int .i64 rc, .int .i64 rd] 64)).alloc (.cells #[.int .u8 2, .int .i64 c, .int .u8 rs, .bool fk] 53) := ⟨_, rfl⟩
            have hB7W : Below w7.heap.size w7 W7 := by rw [hW7]; exact ((Below.refl _ _).alloc (Nat.le_refl _) _).alloc (by simp) _
            have hs7W : W7.heap.size = w7.heap.size + 1 + 1 := by rw [hW7]; simp
            have hO7 := own_keep (own_keep O5.out (Nat.le_refl _) HB7.out) (Nat.le_refl _) hB7W
            have hD7 : W7.heap[w7.heap.size]? = some (.cells #[.int .i64 ra, .int .i64 rb, .int .i64 rc, .int .i64 rd] 64 (0, 0)) := by
              rw [hW7, Below.heap_alloc _ _ _ (by simp)]; exact heap_alloc_new w7 _
            have hrd : Rd W7 (some ⟨w7.heap.size + 1, 0, none⟩) 4 1 [.int .u8 2, .int .i64 c, .int .u8 rs, .bool fk] := by
              rw [hW7]; exact rd_new _ 1 4 rfl (by simp)
            have hbV7 : Below V.heap.size V W7 := (B5.out.trans (HB7.out.mono (by omega))).trans (hB7W.mono (by omega))
            obtain ⟨v', w8, hr, hown', hg8⟩ := run_append_rdK (P := Tryz.prog) W7 V.heap.size 44 44 53 i0 _ 4 24 Tryz.underlying44 HI0.out HZ0.out HZ1.out HZ2.out rfl (by omega) (.slice A n q) n xs hO7 (some ⟨w7.heap.size + 1, 0, none⟩) 1 1 [.int .u8 2, .int .i64 c, .int .u8 rs, .bool fk] (by simp [Value.oneCell']) hrd (by simp) (by omega) (by omega) (by have := hbV7.size; omega)
            have hb8 : Below V.heap.size V w8 := hbV7.grown hg8 (by have := hbV7.size; omega) (fun q hq => (hO7.lt q hq).1)
            have P8 := Lib.hid (grown_far hg8 (kept hB7W P7.out (by omega)) (own_not_cells hO7 (kept hB7W P7.out (by omega)) (by decide)))
            have D8 := Lib.hid (grown_far hg8 hD7 (own_not_cells hO7 hD7 (by decide)))
            have N8 := Lib.hid (kept hb8 N1.out hNV)
            have hk7 : KnownOk W7 M := (K5.out.below HB7.out (by omega)).below hB7W (by omega)
            have K8 := Lib.hid (KnownOk.far hg8 hk7 (own_not_map hO7 hk7))
            obtain ⟨A', q', rfl, hnq', hqm'⟩ := own_form hown'
            have hs8 := hg8.size
            have HR := Lib.hid hr
            have HO' := Lib.hid hown'
            have HB8 := Lib.hid hb8
            rw [hW7] at HR
            obtain ⟨⟨d0, d1, d2, d3⟩, _⟩ := blk4 D8.out
            obtain ⟨⟨e0, e1, e2, e3⟩, ze0, ze1, ze2, ze3⟩ := blk4 P8.out
            have hP8 : P < w8.heap.size := by omega
            clear hr hown' hg8 hb8 hrd hD7 hO7 hbV7 hk7 hB7W hW7
            as_aux_lemma =>
              go_wp2_with (at_builtin; refine Lib.wpList_append_run _ rfl _ _ _ _ rfl _ _ rfl rfl _ _ HR.out ?_)
              go_wp2_with fail
              go_roundw
              case rel =>
                obtain ⟨X, hX⟩ : ∃ X, X = (((w8.setCell ⟨P, 0, none⟩ (.int .i64 ra)).setCell ⟨P, 1, none⟩ (.int .i64 rb)).setCell ⟨P, 2, none⟩ (.int .i64 rc)).setCell ⟨P, 3, none⟩ (.int .i64 rd) := ⟨_, rfl⟩
                obtain ⟨hXs, hXo, hXg⟩ := setCell4 P8.out (.int .i64 ra) (.int .i64 rb) (.int .i64 rc) (.int .i64 rd) hX
                rw [← hX]
                have hBX : Below V.heap.size V (X.alloc (.cells #[.int .i64 ra, .int .i64 rb, .int .i64 rc, .int .i64 rd] 64)) := (below_of_grown hPV (by omega) HB8.out hXg).alloc (by omega) _
                have hkX : KnownOk X M := by
                  obtain ⟨es, clock, hm, hes⟩ := K8.out
                  exact ⟨es, clock, (hXo M (fun e => hPM e.symm)).trans hm, hes⟩
                refine ⟨ra, rb, rc, rd, n + 1, w8.heap.size, q', A', _, rfl, rfl, by omega, hnq', hqm', HIL.out, ?_, by have := K8.out.lt; omega, by omega, kept hBX N1.out hNV, hkX.below ((Below.refl X.heap.size X).alloc (Nat.le_refl _) _) hkX.lt, own_keep (own_kept HO'.out hXg (own_not_cells HO'.out P8.out (by decide))) (Nat.le_refl _) ((Below.refl X.heap.size X).alloc (Nat.le_refl _) _), hBX, by have := hkX.lt; simp; omega⟩
                rw [← hXs]; exact heap_alloc_new X _
              case measure => simp [lenOf]; omega
      · as_aux_lemma =>
          go_wp2_with ((go_at_call 25; refine (clip_folds _ _ _ _ hnq hqm).mono ?_; rintro e w5 ⟨rfl, rfl⟩))
          refine bodyPost_ret (v := .tuple #[.slice A n n, .int .i64 0]) (by simp [results, Tryz.results8, go_sem]) rfl ?_
          exact ⟨HB1.out.trans (B4.out.mono (by rw [← HNN.out]; omega)), .inr ⟨HZ.out, A, n, n, 0, rfl, .inl rfl⟩⟩
  · have hbz : (Z != 0) = true := by simpa using hz
    have HZN := Lib.hid hz
    clear hz
    go_wp2_with fail
    refine bodyPost_ret (v := .tuple #[.slice none 0 0, .int .i64 Z]) (by simp [results, Tryz.results8, go_sem]) rfl ?_
    exact ⟨HB1.out.trans (hb2.mono (by rw [← HNN.out]; omega)), .inl ⟨by rw [HZ.out]; exact HZN.out, by rw [HZ.out]⟩⟩
end Go.Proofs.YtcgbdkjelbgcfaaGreatDoor
