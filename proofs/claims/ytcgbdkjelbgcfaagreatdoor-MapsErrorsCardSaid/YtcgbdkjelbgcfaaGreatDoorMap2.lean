/- Contracts of slices.Concat at rows and of maps.Check. -/
import Derived.Test.YtcgbdkjelbgcfaaGreatDoorMap1
namespace Go.Proofs.YtcgbdkjelbgcfaaGreatDoor
open Go.RowKit

theorem row_info : (Tryz.prog.info? 27).map (fun i => (i.zero, i.size, i.bytes)) = some (some (.slice none 0 0), 1, 24) := by kernel_rfl
theorem heads_one (l : List Row) : ∀ u ∈ l.map Row.head, u.oneCell' = true := by
  intro u hu
  obtain ⟨r, _, rfl⟩ := List.mem_map.1 hu
  rfl

set_option maxHeartbeats 1000000 in
set_option maxRecDepth 100000 in
theorem grow_rows (n : Nat) (w : World) (hn : n ≤ 1000000000) :
    Calls Tryz.prog 49 #[.slice none 0 0, .int .i64 n] w (OwnRet 27 1 0 [] w) := by
  obtain ⟨i0, hi0, hz0, hz1, hz2⟩ := info_parts row_info
  go_enter Tryz.func49, Tryz.ntmps49
  by_cases h0 : n = 0
  · subst h0
    go_wp2_with fail
    go_ret
    exact ⟨_, rfl, World.ownsRow_nil _ _ _ _, Below.refl _ _⟩
  · have hr := Lib.run_append_nil_zeros (P := Tryz.prog) w 22 3 22 27 i0 _ .i64 .i64 Tryz.underlying22 Tryz.underlying3 hi0 hz0 n (by omega) (by omega) (by omega) (by rw [hz2]; omega)
    have hge := grownCap_ge w n 0 27
    have hcm := grownCap_le_maxLen w n 0 27 (by simp [maxLen]; omega)
    obtain ⟨C, hC⟩ : ∃ C, grownCap w n 0 27 = C := ⟨_, rfl⟩
    rw [hC] at hr hge hcm
    have HR := Lib.hid hr
    have hnp : (0 : Int) < (n : Int) := by omega
    unfold maxLen at hcm
    clear hr hC
    go_wp2_with (at_builtin; refine Lib.wpList_append_run _ rfl _ _ _ _ rfl _ _ rfl rfl _ _ HR.out ?_)
    go_wp2_with fail
    go_ret
    refine ⟨_, rfl, own_none (cs := Builtin.zeroCells (Value.slice none 0 0).cells n ++ Builtin.zeroCells (Value.slice none 0 0).cells (C - n)) (n := 0) (Nat.le_refl _) (heap_alloc_new w.drew _) (Nat.zero_le _) (by unfold maxLen; exact hcm) ?_, (Below.refl _ _).drew.alloc (Nat.le_refl _) _⟩
    rw [Array.size_append, size_zeroCells, size_zeroCells]
    have e4 : (Value.slice none 0 0).cells.size = 1 := rfl
    rw [e4]
    omega

set_option maxHeartbeats 2000000 in
set_option maxRecDepth 100000 in
theorem concat_rows (sb so : Nat) (A1 A2 : Option Addr) (l1 l2 : List Value) (n1 n2 c1 c2 cc : Nat) (w : World) (hs : sb < w.heap.size) (h1 : w.cell? ⟨sb, so, none⟩ = some (.slice A1 n1 c1)) (h2 : w.cell? ⟨sb, so + 1, none⟩ = some (.slice A2 n2 c2))
    (o1 : ∀ u ∈ l1, u.oneCell' = true) (o2 : ∀ u ∈ l2, u.oneCell' = true) (r1 : Rd w A1 1 n1 l1) (r2 : Rd w A2 1 n2 l2) (a1 : A1 = none → n1 = 0) (a2 : A2 = none → n2 = 0) (b1 : n1 ≤ 100000000) (b2 : n2 ≤ 100000000) :
    Calls Tryz.prog 27 #[.slice (some ⟨sb, so, none⟩) 2 cc] w (OwnRet 27 1 (n1 + n2) (l1 ++ l2) w) := by
  obtain ⟨i0, hi0, hz0, hz1, hz2⟩ := info_parts row_info
  have R1 := Lib.hid r1
  have R2 := Lib.hid r2
  have A1' := Lib.hid a1
  have A2' := Lib.hid a2
  have O1 := Lib.hid o1
  have O2 := Lib.hid o2
  clear r1 r2 a1 a2 o1 o2
  go_enter Tryz.func27, Tryz.ntmps27
  go_wp2_with fail
  refine wp_loop_rounds 3 ?_
  rw [rounds_succ]
  go_wp2_with fail
  rw [rounds_succ]
  go_wp2_with fail
  rw [rounds_succ]
  go_wp2_with fail
  have hgr := grow_rows (n1 + n2) w (by omega)
  rw [Int.natCast_add] at hgr
  refine hgr.mono ?_
  clear hgr
  rintro e w1 ⟨v1, rfl, hown1, hb1⟩
  have e1 := below_cell hb1 h1
  have e2 := below_cell hb1 h2
  have hs1 : sb < w1.heap.size := Nat.lt_of_lt_of_le hs hb1.size
  obtain ⟨v2, w2, hr2, hown2, hg2⟩ := run_append_rdK (P := Tryz.prog) w1 w.heap.size 22 22 27 i0 _ 1 24 Tryz.underlying22 hi0 hz0 hz1 hz2 rfl (by omega) v1 0 [] hown1 A1 n1 c1 l1 O1.out (R1.out.below hb1) A1'.out (by omega) (by omega) hb1.size
  have hb2 : Below w.heap.size w w2 := hb1.grown hg2 hb1.size (fun q hq => (hown1.lt q hq).1)
  have e3 : w2.cell? ⟨sb, so + 1, none⟩ = some (.slice A2 n2 c2) := below_cell hb2 h2
  obtain ⟨v3, w3, hr3, hown3, hg3⟩ := run_append_rdK (P := Tryz.prog) w2 w.heap.size 22 22 27 i0 _ 1 24 Tryz.underlying22 hi0 hz0 hz1 hz2 rfl (by omega) v2 _ _ hown2 A2 n2 c2 l2 O2.out (R2.out.below hb2) A2'.out (by omega) (by omega) hb2.size
  have hb3 : Below w.heap.size w w3 := hb2.grown hg3 hb2.size (fun q hq => (hown2.lt q hq).1)
  have HR2 := Lib.hid hr2
  have HR3 := Lib.hid hr3
  have HO3 := Lib.hid hown3
  clear hr2 hr3 hown1 hown2 hown3 hg2 hg3 h1 h2
  go_wp2_with fail
  refine wp_loop_rounds 3 ?_
  rw [rounds_succ]
  go_wp2_with (at_builtin; refine Lib.wpList_append_run _ rfl _ _ _ _ rfl _ _ rfl rfl _ _ HR2.out ?_)
  clear HR2
  go_wp2_with fail
  rw [rounds_succ]
  go_wp2_with (at_builtin; refine Lib.wpList_append_run _ rfl _ _ _ _ rfl _ _ rfl rfl _ _ HR3.out ?_)
  go_wp2_with fail
  rw [rounds_succ]
  go_wp2_with fail
  go_ret
  refine ⟨_, rfl, ?_, hb3⟩
  have := HO3.out
  rw [Nat.zero_add, List.nil_append] at this
  exact this

/-- Why a map is not valid. -/
def chkM (W H : Int) (R U : List Row) : Int :=
  if ¬ (1 ≤ W ∧ 1 ≤ H ∧ W ≤ 16 ∧ H ≤ 16) then 1
  else if gridOk R H (W - 1) = false ∨ gridOk U (H - 1) W = false then 5
  else if ((R ++ U).any fun r => r.ks.any bigK) = true then 1 else 0

/-- The map lies in memory: its rows. -/
structure MapOk (w : World) (RA UA : Option Addr) (R U : List Row) : Prop where
  r : RowsOk w RA R
  u : RowsOk w UA U
  rl : R.length ≤ 100000
  ul : U.length ≤ 100000
  rk : ∀ r ∈ R, r.ks.length ≤ 100000
  uk : ∀ r ∈ U, r.ks.length ≤ 100000
theorem MapOk.below {w w' : World} {RA UA : Option Addr} {R U : List Row} (h : MapOk w RA UA R U) (hb : Below w.heap.size w w') : MapOk w' RA UA R U := ⟨h.r.below hb, h.u.below hb, h.rl, h.ul, h.rk, h.uk⟩

set_option maxHeartbeats 2000000 in
set_option maxRecDepth 100000 in
theorem mcheck_any (W H : Int) (RA UA : Option Addr) (R U : List Row) (cr cu : Nat) (w : World) (hm : MapOk w RA UA R U) :
    Calls Tryz.prog 9 #[.agg #[.int .i64 W, .int .i64 H, .slice RA R.length cr, .slice UA U.length cu]] w (RetBelow (.int .i64 (chkM W H R U)) w) := by
  obtain ⟨Z, hZ⟩ : ∃ Z, chkM W H R U = Z := ⟨_, rfl⟩
  rw [hZ]
  have HZ := Lib.hid hZ
  have HM := Lib.hid hm
  clear hZ hm
  have hb1 : Below w.heap.size w (w.alloc (.cells #[.int .i64 W, .int .i64 H, .slice RA R.length cr, .slice UA U.length cu] 24)) := (Below.refl _ _).alloc (Nat.le_refl _) _
  have hn1 : (w.alloc (.cells #[.int .i64 W, .int .i64 H, .slice RA R.length cr, .slice UA U.length cu] 24)).heap[w.heap.size]? = some (.cells #[.int .i64 W, .int .i64 H, .slice RA R.length cr, .slice UA U.length cu] 24 (0, 0)) := heap_alloc_new w _
  by_cases hin : 1 ≤ W ∧ 1 ≤ H ∧ W ≤ 16 ∧ H ≤ 16
  · obtain ⟨i1, i2, i3, i4⟩ := hin
    have hz2 : Z = if gridOk R H (W - 1) = false ∨ gridOk U (H - 1) W = false then 5 else if ((R ++ U).any fun r => r.ks.any bigK) = true then 1 else 0 := by
      rw [← HZ.out]; unfold chkM; rw [if_neg (by omega)]
    have HZ2 := Lib.hid hz2
    clear hz2
    go_enter Tryz.func9, Tryz.ntmps9
    go_upto_region 3 with fail
    obtain ⟨V, hV⟩ : ∃ V, V = w.alloc (.cells #[.int .i64 W, .int .i64 H, .slice RA R.length cr, .slice UA U.length cu] 24) := ⟨_, rfl⟩
    rw [← hV] at hb1 hn1 ⊢
    obtain ⟨N, hN⟩ : ∃ N, N = w.heap.size := ⟨_, rfl⟩
    rw [← hN] at hn1 ⊢
    have N1 := Lib.hid hn1
    have hNV : N < V.heap.size := (Array.getElem?_eq_some_iff.1 hn1).1
    obtain ⟨⟨x0, x1, x2, x3⟩, _⟩ := blk4 hn1
    clear hV hN hn1
    go_wp2_with fail
    refine (grid_any RA R cr H (W - 1) _ (HM.out.below hb1).r (by have := HM.out.rl; omega)).mono ?_
    rintro e w2 ⟨rfl, hb2⟩
    have hb2' : Below w.heap.size w w2 := hb1.trans (hb2.mono hb1.size)
    have M1 := Lib.hid (kept hb2 N1.out hNV)
    have hN2 : N < w2.heap.size := Nat.lt_of_lt_of_le hNV hb2.size
    obtain ⟨⟨y0, y1, y2, y3⟩, _⟩ := blk4 M1.out
    clear x0 x1 x2 x3 hb2 N1
    cases hg1 : gridOk R H (W - 1)
    · have HG := Lib.hid hg1
      clear hg1
      go_wp2_with fail
      go_ret
      exact ⟨by rw [HZ2.out, if_pos (.inl HG.out)]; rfl, hb2'⟩
    · have HG := Lib.hid hg1
      clear hg1
      go_wp2_with fail
      refine (grid_any UA U cu (H - 1) W _ (HM.out.below hb2').u (by have := HM.out.ul; omega)).mono ?_
      rintro e w3 ⟨rfl, hb3⟩
      have hb3' : Below w.heap.size w w3 := hb2'.trans (hb3.mono hb2'.size)
      have P1 := Lib.hid (kept hb3 M1.out hN2)
      have hN3 : N < w3.heap.size := Nat.lt_of_lt_of_le hN2 hb3.size
      obtain ⟨⟨z0, z1, z2, z3⟩, _⟩ := blk4 P1.out
      have hs3 := hb3'.size
      clear y0 y1 y2 y3 hb3 M1
      cases hg2 : gridOk U (H - 1) W
      · have HG2 := Lib.hid hg2
        clear hg2
        go_wp2_with fail
        go_ret
        exact ⟨by rw [HZ2.out, if_pos (.inr HG2.out)]; rfl, hb3'⟩
      · have HG2 := Lib.hid hg2
        have hz3 : Z = if ((R ++ U).any fun r => r.ks.any bigK) = true then 1 else 0 := by rw [HZ2.out, if_neg (by rw [HG.out, HG2.out]; simp)]
        have HZ3 := Lib.hid hz3
        clear hg2 hz3
        go_wp2_with fail
        have hm3 := HM.out.below hb3'
        have hcon := concat_rows w3.heap.size 0 RA UA (R.map Row.head) (U.map Row.head) R.length U.length cr cu 2 (w3.alloc (.cells #[.slice RA R.length cr, .slice UA U.length cu] 22)) (by simp) (by rw [cell_of_row _ _ _ _ _ _ (heap_alloc_new w3 _)]; rfl) (by rw [cell_of_row _ _ _ _ _ _ (heap_alloc_new w3 _)]; rfl) (heads_one _) (heads_one _) (hm3.r.rd.alloc _) (hm3.u.rd.alloc _) hm3.r.nil hm3.u.nil (by have := HM.out.rl; omega) (by have := HM.out.ul; omega)
        refine hcon.mono ?_
        clear hcon hm3
        rintro e w4 ⟨v4, rfl, hown4, hb4⟩
        obtain ⟨A4, c4, rfl, hA4⟩ := rd_to_own_form hown4
        have hb4' : Below w.heap.size w w4 := (hb3'.alloc hs3 _).trans (hb4.mono (by simp; omega))
        have hm4 := HM.out.below hb4'
        have hrows : RowsOk w4 A4 (R ++ U) := ⟨by have := Rd.of_own hown4; simpa using this, by simpa using hA4, fun r hr => by
          rcases List.mem_append.1 hr with h | h
          · exact hm4.r.row r h
          · exact hm4.u.row r h⟩
        have hsm : (R ++ U).length ≤ 200000 := by have := HM.out.rl; have := HM.out.ul; simp; omega
        have hkm : ∀ r ∈ R ++ U, r.ks.length ≤ 100000 := fun r hr => by
          rcases List.mem_append.1 hr with h | h
          · exact HM.out.rk r h
          · exact HM.out.uk r h
        have hln : R.length + U.length = (R ++ U).length := by simp
        rw [hln]
        obtain ⟨L, hL⟩ : ∃ L, R ++ U = L := ⟨_, rfl⟩
        rw [hL] at hrows hsm hkm HZ3 ⊢
        have HRW := Lib.hid hrows
        have HKM := Lib.hid hkm
        clear z0 z1 z2 z3 hown4 hA4 hb4 hm4 hrows hkm hln hL
        go_wp2_with fail
        go_loop [4, 50] (fun _ i => ∃ k : Nat, k ≤ L.length ∧ i = .int .i64 k ∧ Hid (((L.take k).any fun r => r.ks.any bigK) = false)) (fun _ i => L.length - (intOf i).toNat)
        case atStart => exact ⟨0, by omega, rfl, Lib.hid rfl⟩
        case round =>
          obtain ⟨k, hk, rfl, HK⟩ := hrel
          by_cases hlt : k < L.length
          · obtain ⟨b, o, rfl, hbl, c0⟩ := HRW.out.at' k hlt
            have hrow := HRW.out.row L[k] (List.getElem_mem _)
            have hkl := HKM.out L[k] (List.getElem_mem _)
            obtain ⟨x, hx⟩ : ∃ x, L[k] = x := ⟨_, rfl⟩
            rw [hx] at c0 hrow hkl
            have HX := Lib.hid hx
            have HROW := Lib.hid hrow
            have q1 : (k : Int) < (L.length : Int) := by omega
            clear hx hrow
            go_wp2_with fail
            refine (anyBig_any x _ HROW.out (by omega)).mono ?_
            rintro e w5 ⟨rfl, rfl⟩
            cases hb : x.ks.any bigK
            · have HB := Lib.hid hb
              clear hb
              go_wp2_with fail
              refine ⟨⟨k + 1, by omega, by go_num, Lib.hid ?_⟩, by simp [intOf]; omega⟩
              rw [List.take_succ_eq_append_getElem hlt, HX.out, List.any_append, HK.out]
              simp [HB.out]
            · have HB := Lib.hid hb
              clear hb
              go_wp2_with fail
              go_ret
              refine ⟨?_, hb4'⟩
              rw [HZ3.out, if_pos (by rw [List.any_eq_true]; exact ⟨x, by rw [← HX.out]; exact List.getElem_mem _, HB.out⟩)]
              rfl
          · obtain rfl : k = L.length := by omega
            have q1 : ¬ (L.length : Int) < (L.length : Int) := by omega
            go_wp2_with fail
            go_ret
            refine ⟨?_, hb4'⟩
            have := HK.out
            rw [List.take_length] at this
            rw [HZ3.out, if_neg (by rw [this]; simp)]
            rfl
  · have hz1 : Z = 1 := by rw [← HZ.out]; unfold chkM; rw [if_pos hin]
    have HZ1 := Lib.hid hz1
    clear hz1 hn1
    by_cases j1 : W < 1
    · clear hin
      go_enter Tryz.func9, Tryz.ntmps9
      go_wp2_with fail
      go_ret
      exact ⟨by rw [HZ1.out]; rfl, hb1⟩
    · by_cases j2 : H < 1
      · clear hin
        go_enter Tryz.func9, Tryz.ntmps9
        go_wp2_with fail
        go_ret
        exact ⟨by rw [HZ1.out]; rfl, hb1⟩
      · by_cases j3 : 16 < W
        · clear hin
          go_enter Tryz.func9, Tryz.ntmps9
          go_wp2_with fail
          go_ret
          exact ⟨by rw [HZ1.out]; rfl, hb1⟩
        · have j4 : 16 < H := by omega
          clear hin
          go_enter Tryz.func9, Tryz.ntmps9
          go_wp2_with fail
          go_ret
          exact ⟨by rw [HZ1.out]; rfl, hb1⟩
end Go.Proofs.YtcgbdkjelbgcfaaGreatDoor
