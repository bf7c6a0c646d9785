/- Contracts of package lines: Check, CheckPoint, along, Side. -/
import Derived.Test.YtjdmkgnlakonbaaGreatDoorSp
import Derived.Test.YtjdmkgnlakonbaaGreatDoorXr
import Derived.Deep.RegionHeld3
namespace Go.Proofs.YtjdmkgnlakonbaaGreatDoor
open Go.RowKit

def lnV (k c : Int) : Value := .agg #[.int .u8 k, .int .i64 c]
def ptV (x y : Int) : Value := .agg #[.int .i64 x, .int .i64 y]

set_option maxHeartbeats 1000000 in
theorem lineCheck_any (k c : Int) (w : World) :
    Calls Tryz.prog 173 #[.agg #[.int .u8 k, .int .i64 c]] w (RetBelow (.int .i64 (ec (okL k c) 1)) w) := by
  go_enter Tryz.func173, Tryz.ntmps173
  go_wp2_with fail
  all_goals go_ret
  all_goals refine ⟨ret_int ?_, (Below.refl _ _).alloc (Nat.le_refl _) _⟩
  all_goals first | rw [okL_no (by omega), ec_f] | rw [okL_iff.2 (by omega), ec_t]

set_option maxHeartbeats 1000000 in
theorem checkPoint_any (x y : Int) (w : World) :
    Calls Tryz.prog 253 #[.agg #[.int .i64 x, .int .i64 y]] w (RetBelow (.int .i64 (ec (okP x y) 1)) w) := by
  go_enter Tryz.func253, Tryz.ntmps253
  go_wp2_with fail
  all_goals go_ret
  all_goals refine ⟨ret_int ?_, (Below.refl _ _).alloc (Nat.le_refl _) _⟩
  all_goals first | rw [okP_no (by omega), ec_f] | rw [okP_iff.2 (by omega), ec_t]

set_option maxHeartbeats 1000000 in
theorem along_any (k x y : Int) (w : World) (h : okP x y = true) :
    Calls Tryz.prog 299 #[.int .u8 k, .agg #[.int .i64 x, .int .i64 y]] w (RetBelow (.int .i64 (alongF k x y)) w) := by
  obtain ⟨h1, h2, h3, h4⟩ := okP_iff.1 h
  obtain ⟨R, hR⟩ : ∃ R, alongF k x y = R := ⟨_, rfl⟩
  rw [hR]
  have HR := Lib.hid hR
  clear hR h
  go_enter Tryz.func299, Tryz.ntmps299
  go_wp2_with fail
  all_goals go_ret
  all_goals refine ⟨ret_int ?_, (Below.refl _ _).alloc (Nat.le_refl _) _⟩
  all_goals rw [← HR.out]; unfold alongF
  all_goals simp_all

def fnV (f : FuncId) : Value := .func (.func f) #[] #[]
def rulesV (p q : Value) : Value := .agg #[.nilFunc, .nilFunc, .nilFunc, fnV 298, fnV 300, fnV 301, fnV 302, fnV 303, fnV 304,
  fnV 305, fnV 306, .func (.func 307) #[] #[p], fnV 308, fnV 309, .func (.func 310) #[] #[q]]

def rulesAV (v : Ex.AV) : Bool := match v with
  | .agg [.nilFunc, .nilFunc, .nilFunc, .func f1 [], .func f2 [], .func f3 [], .func f4 [], .func f5 [], .func f6 [], .func f7 [], .func f8 [], .func f9 [.ptr _ _], .func f10 [], .func f11 [], .func f12 [.ptr _ _]] =>
    f1 == 298 && f2 == 300 && f3 == 301 && f4 == 302 && f5 == 303 && f6 == 304 &&
    f7 == 305 && f8 == 306 && f9 == 307 && f10 == 308 && f11 == 309 && f12 == 310
  | _ => false
noncomputable def rulesIs : Bool := match run0 10 255 [] with
  | .ok v _ => rulesAV v
  | _ => false
theorem rulesIs_true : rulesIs = true := by kernel_rfl
theorem rules_any (w : World) : Calls Tryz.prog 255 #[] w fun e w' => ∃ p q, e = .returned (rulesV p q) ∧ Below w.heap.size w w' := by
  have h := rulesIs_true
  unfold rulesIs at h
  split at h
  · rename_i v S' hr
    refine (run0_ok hr (xs := []) (fun _ => by simp [Ex.VRL]) w).mono ?_
    rintro e w' ⟨⟨ρ, x, rfl, hx⟩, hb⟩
    unfold rulesAV at h
    split at h
    · rename_i f1 f2 f3 f4 f5 f6 f7 f8 f9 _ _ f10 f11 f12 _ _
      simp only [Bool.and_eq_true, beq_iff_eq] at h
      obtain ⟨⟨⟨⟨⟨⟨⟨⟨⟨⟨⟨rfl, rfl⟩, rfl⟩, rfl⟩, rfl⟩, rfl⟩, rfl⟩, rfl⟩, rfl⟩, rfl⟩, rfl⟩, rfl⟩ := h
      have key : ∀ (f : FuncId) (x : Value), Ex.VR ρ (.func f []) x ↔ x = fnV f := by
        intro f x
        simp only [Ex.VR, Ex.VRL, fnV]
        constructor
        · rintro ⟨xs, rfl, rfl⟩; rfl
        · rintro rfl; exact ⟨[], rfl, rfl⟩
      have keyp : ∀ (f : FuncId) (i o : Nat) (x : Value), Ex.VR ρ (.func f [.ptr i o]) x → ∃ p, x = .func (.func f) #[] #[p] := by
        intro f i o x hx
        simp only [Ex.VR, Ex.VRL] at hx
        obtain ⟨xs, rfl, y, ys, rfl, _, rfl⟩ := hx
        exact ⟨y, rfl⟩
      have keyn : ∀ x : Value, Ex.VR ρ .nilFunc x ↔ x = .nilFunc := fun x => by simp only [Ex.VR]
      rw [Ex.VR] at hx
      obtain ⟨xs, rfl, hl⟩ := hx
      simp only [Ex.VRL, key, keyn] at hl
      obtain ⟨y1, z1, rfl, rfl, y2, z2, rfl, rfl, y3, z3, rfl, rfl, y4, z4, rfl, rfl, y5, z5, rfl, rfl, y6, z6, rfl, rfl, y7, z7, rfl, rfl, y8, z8, rfl, rfl, y9, z9, rfl, rfl, y10, z10, rfl, rfl, y11, z11, rfl, rfl, y12, z12, rfl, h12, y13, z13, rfl, rfl, y14, z14, rfl, rfl, y15, z15, rfl, h15, rfl⟩ := hl
      obtain ⟨p, rfl⟩ := keyp _ _ _ _ h12
      obtain ⟨q, rfl⟩ := keyp _ _ _ _ h15
      exact ⟨p, q, rfl, hb⟩
    · cases h
  · cases h

set_option maxHeartbeats 1000000 in
theorem ruleAlong1 (x y : Int) (w : World) (h : okP x y = true) : Calls Tryz.prog 298 #[.agg #[.int .i64 x, .int .i64 y]] w (RetBelow (.int .i64 (alongF 1 x y)) w) := by
  have H := Lib.hid h
  clear h
  go_enter Tryz.func298, Tryz.ntmps298
  go_wp2_with fail
  refine (along_any 1 x y _ H.out).mono ?_
  rintro e w2 ⟨rfl, hb⟩
  have hb' : Below w.heap.size w w2 := ((Below.refl _ _).alloc (Nat.le_refl _) _).trans (hb.mono (by simp))
  go_wp2_with fail
  go_ret
  exact ⟨rfl, hb'⟩

set_option maxHeartbeats 1000000 in
theorem ruleAlong2 (x y : Int) (w : World) (h : okP x y = true) : Calls Tryz.prog 302 #[.agg #[.int .i64 x, .int .i64 y]] w (RetBelow (.int .i64 (alongF 2 x y)) w) := by
  have H := Lib.hid h
  clear h
  go_enter Tryz.func302, Tryz.ntmps302
  go_wp2_with fail
  refine (along_any 2 x y _ H.out).mono ?_
  rintro e w2 ⟨rfl, hb⟩
  have hb' : Below w.heap.size w w2 := ((Below.refl _ _).alloc (Nat.le_refl _) _).trans (hb.mono (by simp))
  go_wp2_with fail
  go_ret
  exact ⟨rfl, hb'⟩

set_option maxHeartbeats 1000000 in
theorem ruleAlong3 (x y : Int) (w : World) (h : okP x y = true) : Calls Tryz.prog 305 #[.agg #[.int .i64 x, .int .i64 y]] w (RetBelow (.int .i64 (alongF 3 x y)) w) := by
  have H := Lib.hid h
  clear h
  go_enter Tryz.func305, Tryz.ntmps305
  go_wp2_with fail
  refine (along_any 3 x y _ H.out).mono ?_
  rintro e w2 ⟨rfl, hb⟩
  have hb' : Below w.heap.size w w2 := ((Below.refl _ _).alloc (Nat.le_refl _) _).trans (hb.mono (by simp))
  go_wp2_with fail
  go_ret
  exact ⟨rfl, hb'⟩

set_option maxHeartbeats 1000000 in
theorem ruleAlong4 (x y : Int) (w : World) (h : okP x y = true) : Calls Tryz.prog 308 #[.agg #[.int .i64 x, .int .i64 y]] w (RetBelow (.int .i64 (alongF 4 x y)) w) := by
  have H := Lib.hid h
  clear h
  go_enter Tryz.func308, Tryz.ntmps308
  go_wp2_with fail
  refine (along_any 4 x y _ H.out).mono ?_
  rintro e w2 ⟨rfl, hb⟩
  have hb' : Below w.heap.size w w2 := ((Below.refl _ _).alloc (Nat.le_refl _) _).trans (hb.mono (by simp))
  go_wp2_with fail
  go_ret
  exact ⟨rfl, hb'⟩

/-- The closure 'along' in the row of the table of a kind. -/
def ruleFn (k : Int) : FuncId := if k = 1 then 298 else if k = 2 then 302 else if k = 3 then 305 else 308
theorem ruleAlong_any (k x y : Int) (w : World) (hk : 1 ≤ k ∧ k ≤ 4) (h : okP x y = true) : Calls Tryz.prog (ruleFn k) #[.agg #[.int .i64 x, .int .i64 y]] w (RetBelow (.int .i64 (alongF k x y)) w) := by
  have : k = 1 ∨ k = 2 ∨ k = 3 ∨ k = 4 := by omega
  rcases this with rfl | rfl | rfl | rfl
  · exact ruleAlong1 x y w h
  · exact ruleAlong2 x y w h
  · exact ruleAlong3 x y w h
  · exact ruleAlong4 x y w h

theorem rulesIx1 (p q : Value) (w : World) : (Instr.index 377 (.agg #[.nilFunc, .nilFunc, .nilFunc, .func (.func 298) #[] #[], .func (.func 300) #[] #[], .func (.func 301) #[] #[], .func (.func 302) #[] #[], .func (.func 303) #[] #[], .func (.func 304) #[] #[], .func (.func 305) #[] #[], .func (.func 306) #[] #[], .func (.func 307) #[] #[p], .func (.func 308) #[] #[], .func (.func 309) #[] #[], .func (.func 310) #[] #[q]]) (.int .u8 1)).run Tryz.prog w = .ok (.agg #[.func (.func 298) #[] #[], .func (.func 300) #[] #[], .func (.func 301) #[] #[]]) w := by kernel_rfl
theorem rulesIx2 (p q : Value) (w : World) : (Instr.index 377 (.agg #[.nilFunc, .nilFunc, .nilFunc, .func (.func 298) #[] #[], .func (.func 300) #[] #[], .func (.func 301) #[] #[], .func (.func 302) #[] #[], .func (.func 303) #[] #[], .func (.func 304) #[] #[], .func (.func 305) #[] #[], .func (.func 306) #[] #[], .func (.func 307) #[] #[p], .func (.func 308) #[] #[], .func (.func 309) #[] #[], .func (.func 310) #[] #[q]]) (.int .u8 2)).run Tryz.prog w = .ok (.agg #[.func (.func 302) #[] #[], .func (.func 303) #[] #[], .func (.func 304) #[] #[]]) w := by kernel_rfl
theorem rulesIx3 (p q : Value) (w : World) : (Instr.index 377 (.agg #[.nilFunc, .nilFunc, .nilFunc, .func (.func 298) #[] #[], .func (.func 300) #[] #[], .func (.func 301) #[] #[], .func (.func 302) #[] #[], .func (.func 303) #[] #[], .func (.func 304) #[] #[], .func (.func 305) #[] #[], .func (.func 306) #[] #[], .func (.func 307) #[] #[p], .func (.func 308) #[] #[], .func (.func 309) #[] #[], .func (.func 310) #[] #[q]]) (.int .u8 3)).run Tryz.prog w = .ok (.agg #[.func (.func 305) #[] #[], .func (.func 306) #[] #[], .func (.func 307) #[] #[p]]) w := by kernel_rfl
theorem rulesIx4 (p q : Value) (w : World) : (Instr.index 377 (.agg #[.nilFunc, .nilFunc, .nilFunc, .func (.func 298) #[] #[], .func (.func 300) #[] #[], .func (.func 301) #[] #[], .func (.func 302) #[] #[], .func (.func 303) #[] #[], .func (.func 304) #[] #[], .func (.func 305) #[] #[], .func (.func 306) #[] #[], .func (.func 307) #[] #[p], .func (.func 308) #[] #[], .func (.func 309) #[] #[], .func (.func 310) #[] #[q]]) (.int .u8 4)).run Tryz.prog w = .ok (.agg #[.func (.func 308) #[] #[], .func (.func 309) #[] #[], .func (.func 310) #[] #[q]]) w := by kernel_rfl
theorem rulesFd (a b c : Value) (w : World) : (Instr.field 376 (.agg #[a, b, c]) 0).run Tryz.prog w = .ok a w := by kernel_rfl
/-- The side of a point. -/
def sideL (k c x y : Int) : Int := if okL k c && okP x y then sideP k c x y else 0

set_option maxRecDepth 100000 in
set_option maxHeartbeats 4000000 in
theorem side_any (k c x y : Int) (w : World) (hk0 : 0 ≤ k) : Calls Tryz.prog 223 #[.agg #[.int .u8 k, .int .i64 c], .agg #[.int .i64 x, .int .i64 y]] w (RetBelow (.int .i64 (sideL k c x y)) w) := by
  obtain ⟨R, hR⟩ : ∃ R, sideL k c x y = R := ⟨_, rfl⟩
  rw [hR]
  have HR := Lib.hid hR
  have H := ((Bx.start w).new #[.int .u8 k, .int .i64 c] 59 rfl).new #[.int .i64 x, .int .i64 y] 326 (N := w.heap.size + 1) (by simp)
  clear hR
  go_enter Tryz.func223, Tryz.ntmps223
  go_upto_region 1 with fail
  obtain ⟨W, hW⟩ : ∃ W, W = (w.alloc (.cells #[.int .u8 k, .int .i64 c] 59)).alloc (.cells #[.int .i64 x, .int .i64 y] 326) := ⟨_, rfl⟩
  rw [← hW] at H ⊢
  obtain ⟨N, hN⟩ : ∃ N, N = w.heap.size := ⟨_, rfl⟩
  rw [← hN] at H ⊢
  clear hW hN
  obtain ⟨⟨a0, a1⟩, _⟩ := blk2 (H.blk 0 _ _ _ rfl)
  cases hL : okL k c
  · have HL := Lib.hid hL
    have hfin : R = 0 := by rw [← HR.out]; unfold sideL; rw [HL.out]; rfl
    clear hL
    go_wp2_with fail
    refine (lineCheck_any k c _).mono ?_
    rintro e w2 ⟨rfl, hb⟩
    rw [HL.out, ec_f]
    have H2 := H.call hb
    clear a0 a1 hb
    go_wp2_with fail
    go_ret
    exact ⟨ret_int hfin.symm, H2.below⟩
  · cases hP : okP x y
    · have HL := Lib.hid hL
      have HP := Lib.hid hP
      have hfin : R = 0 := by rw [← HR.out]; unfold sideL; rw [HP.out, Bool.and_false]; rfl
      clear hL hP
      go_wp2_with fail
      refine (lineCheck_any k c _).mono ?_
      rintro e w2 ⟨rfl, hb⟩
      rw [HL.out, ec_t]
      have H2 := H.call hb
      obtain ⟨⟨p0, p1⟩, _⟩ := blk2 (H2.blk 1 _ _ _ rfl)
      clear a0 a1 hb H
      go_wp2_with fail
      refine (checkPoint_any x y _).mono ?_
      rintro e w3 ⟨rfl, hb⟩
      rw [HP.out, ec_f]
      have H3 := H2.call hb
      clear p0 p1 hb
      go_wp2_with fail
      go_ret
      exact ⟨ret_int hfin.symm, H3.below⟩
    · have HL := Lib.hid hL
      have HP := Lib.hid hP
      have hfin : R = sideP k c x y := by rw [← HR.out]; unfold sideL; rw [HL.out, HP.out]; rfl
      have HF := Lib.hid hfin
      obtain ⟨l1, l2, l3, l4⟩ := okL_iff.1 hL
      clear hL hP hfin
      go_wp2_with fail
      refine (lineCheck_any k c _).mono ?_
      rintro e w2 ⟨rfl, hb⟩
      rw [HL.out, ec_t]
      have H2 := H.call hb
      obtain ⟨⟨p0, p1⟩, _⟩ := blk2 (H2.blk 1 _ _ _ rfl)
      clear a0 a1 hb H
      go_wp2_with fail
      refine (checkPoint_any x y _).mono ?_
      rintro e w3 ⟨rfl, hb⟩
      rw [HP.out, ec_t]
      have H3 := H2.call hb
      obtain ⟨⟨a0, a1⟩, _⟩ := blk2 (H3.blk 0 _ _ _ rfl)
      obtain ⟨⟨p0', p1'⟩, _⟩ := blk2 (H3.blk 1 _ _ _ rfl)
      clear p0 p1 hb H2
      have h4 : k = 1 ∨ k = 2 ∨ k = 3 ∨ k = 4 := by omega
      rcases h4 with rfl | rfl | rfl | rfl
      · obtain ⟨A, hA⟩ : ∃ A, alongF 1 x y = A := ⟨_, rfl⟩
        have hR' : R = if A < 2 * c then -1 else if 2 * c < A then 1 else 0 := by rw [HF.out]; unfold sideP; rw [hA]
        have HR' := Lib.hid hR'
        have HA := Lib.hid hA
        have hix := rulesIx1
        have hfd := rulesFd
        clear hA hR'
        go_upto_region 3 with fail
        go_region_held3 (fun w' => w'.cell? ⟨N, 0, none⟩ = some (.int .u8 1) ∧ w'.cell? ⟨N + 1, 0, none⟩ = some (.int .i64 x) ∧ w'.cell? ⟨N + 1, 1, none⟩ = some (.int .i64 y))
          (first | exact ⟨a0, p0', p1'⟩ | go_keep)
          (first
            | (go_at_call 255; (with_reducible refine (rules_any _).mono ?_); rintro e w4 ⟨p, q, rfl, hb4⟩; unfold rulesV fnV; have H3 := H3.call (undrew hb4); have a0 := below_cell (undrew hb4) a0; have a1 := below_cell (undrew hb4) a1; have p0' := below_cell (undrew hb4) p0'; have p1' := below_cell (undrew hb4) p1')
            | (go_at_call 298; (with_reducible refine (ruleAlong1 x y _ HP.out).mono ?_); rintro e w5 ⟨rfl, hb5⟩; rw [HA.out]; have H3 := H3.call hb5; have a0 := below_cell hb5 a0; have a1 := below_cell hb5 a1; have p0' := below_cell hb5 p0'; have p1' := below_cell hb5 p1')
            | fail)
        go_wp2_with fail
        all_goals go_ret
        all_goals refine ⟨ret_int ?_, H3.below⟩
        all_goals rw [HR'.out]
        · rw [if_pos (by omega)]
        · rw [if_neg (by omega), if_pos (by omega)]
        · rw [if_neg (by omega), if_neg (by omega)]
      · obtain ⟨A, hA⟩ : ∃ A, alongF 2 x y = A := ⟨_, rfl⟩
        have hR' : R = if A < 2 * c then -1 else if 2 * c < A then 1 else 0 := by rw [HF.out]; unfold sideP; rw [hA]
        have HR' := Lib.hid hR'
        have HA := Lib.hid hA
        have hix := rulesIx2
        have hfd := rulesFd
        clear hA hR'
        go_upto_region 3 with fail
        go_region_held3 (fun w' => w'.cell? ⟨N, 0, none⟩ = some (.int .u8 2) ∧ w'.cell? ⟨N + 1, 0, none⟩ = some (.int .i64 x) ∧ w'.cell? ⟨N + 1, 1, none⟩ = some (.int .i64 y))
          (first | exact ⟨a0, p0', p1'⟩ | go_keep)
          (first
            | (go_at_call 255; (with_reducible refine (rules_any _).mono ?_); rintro e w4 ⟨p, q, rfl, hb4⟩; unfold rulesV fnV; have H3 := H3.call (undrew hb4); have a0 := below_cell (undrew hb4) a0; have a1 := below_cell (undrew hb4) a1; have p0' := below_cell (undrew hb4) p0'; have p1' := below_cell (undrew hb4) p1')
            | (go_at_call 302; (with_reducible refine (ruleAlong2 x y _ HP.out).mono ?_); rintro e w5 ⟨rfl, hb5⟩; rw [HA.out]; have H3 := H3.call hb5; have a0 := below_cell hb5 a0; have a1 := below_cell hb5 a1; have p0' := below_cell hb5 p0'; have p1' := below_cell hb5 p1')
            | fail)
        go_wp2_with fail
        all_goals go_ret
        all_goals refine ⟨ret_int ?_, H3.below⟩
        all_goals rw [HR'.out]
        · rw [if_pos (by omega)]
        · rw [if_neg (by omega), if_pos (by omega)]
        · rw [if_neg (by omega), if_neg (by omega)]
      · obtain ⟨A, hA⟩ : ∃ A, alongF 3 x y = A := ⟨_, rfl⟩
        have hR' : R = if A < 2 * c then -1 else if 2 * c < A then 1 else 0 := by rw [HF.out]; unfold sideP; rw [hA]
        have HR' := Lib.hid hR'
        have HA := Lib.hid hA
        have hix := rulesIx3
        have hfd := rulesFd
        clear hA hR'
        go_upto_region 3 with fail
        go_region_held3 (fun w' => w'.cell? ⟨N, 0, none⟩ = some (.int .u8 3) ∧ w'.cell? ⟨N + 1, 0, none⟩ = some (.int .i64 x) ∧ w'.cell? ⟨N + 1, 1, none⟩ = some (.int .i64 y))
          (first | exact ⟨a0, p0', p1'⟩ | go_keep)
          (first
            | (go_at_call 255; (with_reducible refine (rules_any _).mono ?_); rintro e w4 ⟨p, q, rfl, hb4⟩; unfold rulesV fnV; have H3 := H3.call (undrew hb4); have a0 := below_cell (undrew hb4) a0; have a1 := below_cell (undrew hb4) a1; have p0' := below_cell (undrew hb4) p0'; have p1' := below_cell (undrew hb4) p1')
            | (go_at_call 305; (with_reducible refine (ruleAlong3 x y _ HP.out).mono ?_); rintro e w5 ⟨rfl, hb5⟩; rw [HA.out]; have H3 := H3.call hb5; have a0 := below_cell hb5 a0; have a1 := below_cell hb5 a1; have p0' := below_cell hb5 p0'; have p1' := below_cell hb5 p1')
            | fail)
        go_wp2_with fail
        all_goals go_ret
        all_goals refine ⟨ret_int ?_, H3.below⟩
        all_goals rw [HR'.out]
        · rw [if_pos (by omega)]
        · rw [if_neg (by omega), if_pos (by omega)]
        · rw [if_neg (by omega), if_neg (by omega)]
      · obtain ⟨A, hA⟩ : ∃ A, alongF 4 x y = A := ⟨_, rfl⟩
        have hR' : R = if A < 2 * c then -1 else if 2 * c < A then 1 else 0 := by rw [HF.out]; unfold sideP; rw [hA]
        have HR' := Lib.hid hR'
        have HA := Lib.hid hA
        have hix := rulesIx4
        have hfd := rulesFd
        clear hA hR'
        go_upto_region 3 with fail
        go_region_held3 (fun w' => w'.cell? ⟨N, 0, none⟩ = some (.int .u8 4) ∧ w'.cell? ⟨N + 1, 0, none⟩ = some (.int .i64 x) ∧ w'.cell? ⟨N + 1, 1, none⟩ = some (.int .i64 y))
          (first | exact ⟨a0, p0', p1'⟩ | go_keep)
          (first
            | (go_at_call 255; (with_reducible refine (rules_any _).mono ?_); rintro e w4 ⟨p, q, rfl, hb4⟩; unfold rulesV fnV; have H3 := H3.call (undrew hb4); have a0 := below_cell (undrew hb4) a0; have a1 := below_cell (undrew hb4) a1; have p0' := below_cell (undrew hb4) p0'; have p1' := below_cell (undrew hb4) p1')
            | (go_at_call 308; (with_reducible refine (ruleAlong4 x y _ HP.out).mono ?_); rintro e w5 ⟨rfl, hb5⟩; rw [HA.out]; have H3 := H3.call hb5; have a0 := below_cell hb5 a0; have a1 := below_cell hb5 a1; have p0' := below_cell hb5 p0'; have p1' := below_cell hb5 p1')
            | fail)
        go_wp2_with fail
        all_goals go_ret
        all_goals refine ⟨ret_int ?_, H3.below⟩
        all_goals rw [HR'.out]
        · rw [if_pos (by omega)]
        · rw [if_neg (by omega), if_pos (by omega)]
        · rw [if_neg (by omega), if_neg (by omega)]
end Go.Proofs.YtjdmkgnlakonbaaGreatDoor
