/- Contract of crimplaw42.L.Of. -/
import Derived.Test.YtdcgminjamofmaaDoorLives
namespace Go.Proofs.YtdcgminjamofmaaDoor
open Go.RowKit

structure RS where
  k : Int
  j : Int
  v : Int
  l : Int
def RS.cells (x : RS) : List Value := [.int .u8 x.k, .int .u8 x.j, .int .u8 x.v, .int .u8 x.l]
def RS.fit (x : RS) : Prop := (0 ≤ x.k ∧ x.k ≤ 255) ∧ (0 ≤ x.j ∧ x.j ≤ 255) ∧ (0 ≤ x.v ∧ x.v ≤ 255) ∧ (0 ≤ x.l ∧ x.l ≤ 255)
def rss (l : List RS) : List Value := l.flatMap RS.cells
theorem rs_len (x : RS) : x.cells.length = 4 := rfl
theorem rd_rs {w : World} {A : Option Addr} {l : List RS} (h : Rd w A 4 l.length (rss l)) (i : Nat) (hi : i < l.length) :
    ∃ b o, A = some ⟨b, o, none⟩ ∧ b < w.heap.size ∧ w.cell? ⟨b, o + i * 4, none⟩ = some (.int .u8 l[i].k) ∧ w.cell? ⟨b, o + i * 4 + 1, none⟩ = some (.int .u8 l[i].j) ∧
      w.cell? ⟨b, o + i * 4 + 2, none⟩ = some (.int .u8 l[i].v) ∧ w.cell? ⟨b, o + i * 4 + 3, none⟩ = some (.int .u8 l[i].l) := by
  obtain ⟨b, o, e, hb, hc⟩ := h.2 (by omega)
  refine ⟨b, o, e, hb, ?_, ?_, ?_, ?_⟩
  · exact hc (i * 4 + 0) _ ((flat_at _ 4 rs_len l i 0 hi (by omega)).trans rfl)
  · exact hc (i * 4 + 1) _ ((flat_at _ 4 rs_len l i 1 hi (by omega)).trans rfl)
  · exact hc (i * 4 + 2) _ ((flat_at _ 4 rs_len l i 2 hi (by omega)).trans rfl)
  · exact hc (i * 4 + 3) _ ((flat_at _ 4 rs_len l i 3 hi (by omega)).trans rfl)

def sq (x : RS) : Int := x.l % 8 * (x.l % 8)
def jobNo (j : Int) : Int := if j % 4 = 0 then 1 else if j % 4 = 1 then 2 else if j % 4 = 2 then 300 else 65535
def recOf (now : Int) (x : RS) : Rec := ⟨now, 1 + x.k % 6, jobNo x.j, if x.k % 6 = 5 then 0 else if x.v ≤ 250 then x.v % 64 else 16777215⟩
def ofL : Int → List RS → List Rec
  | _, [] => []
  | now, x :: r => recOf (now + sq x) x :: ofL (now + sq x) r
def nowL : Int → List RS → Int
  | now, [] => now
  | now, x :: r => nowL (now + sq x) r
theorem sq_bd (x : RS) : 0 ≤ sq x ∧ sq x ≤ 49 := by
  unfold sq
  have h1 : 0 ≤ x.l % 8 := by omega
  have h2 : x.l % 8 ≤ 7 := by omega
  generalize x.l % 8 = q at *
  exact ⟨Int.mul_nonneg h1 h1, by have := Int.mul_le_mul h2 h2 h1 (by omega); omega⟩
theorem ofL_snoc (now : Int) (l : List RS) (x : RS) : ofL now (l ++ [x]) = ofL now l ++ [recOf (nowL now l + sq x) x] := by
  induction l generalizing now with
  | nil => rfl
  | cons a r ih => simp only [List.cons_append, ofL, nowL, ih]
theorem nowL_snoc (now : Int) (l : List RS) (x : RS) : nowL now (l ++ [x]) = nowL now l + sq x := by
  induction l generalizing now with
  | nil => rfl
  | cons a r ih => simp only [List.cons_append, nowL, ih]
theorem nowL_bd (now : Int) (l : List RS) : now ≤ nowL now l ∧ nowL now l ≤ now + 49 * l.length := by
  induction l generalizing now with
  | nil => simp [nowL]
  | cons a r ih => have := ih (now + sq a); have := sq_bd a; simp only [nowL, List.length_cons]; omega
theorem ofL_len (now : Int) (l : List RS) : (ofL now l).length = l.length := by
  induction l generalizing now with
  | nil => rfl
  | cons a r ih => simp only [ofL, List.length_cons, ih]
def ofS (l : List RS) : List Rec := ofL 0 (l.take 60)
theorem rec_info : (Tryd.prog.info? 37).map (fun i => (i.zero, i.size, i.bytes)) = some (some (.agg #[.int .i64 0, .int .u8 0, .int .i64 0, .int .i64 0]), 4, 32) := by kernel_rfl
theorem idxJob (j : Int) (_hj : 0 ≤ j) (w : World) : (Instr.index 60 (.agg #[.int .i64 1, .int .i64 2, .int .i64 300, .int .i64 65535]) (.int .u8 (j % 4))).run Tryd.prog w = .ok (.int .i64 (jobNo j)) w := by
  unfold jobNo
  obtain h | h | h | h : j % 4 = 0 ∨ j % 4 = 1 ∨ j % 4 = 2 ∨ j % 4 = 3 := by omega
  · rw [if_pos h, h]; kernel_rfl
  · rw [if_neg (by omega), if_pos h, h]; kernel_rfl
  · rw [if_neg (by omega), if_neg (by omega), if_pos h, h]; kernel_rfl
  · rw [if_neg (by omega), if_neg (by omega), if_neg (by omega), h]; kernel_rfl

theorem rec_one (r : Rec) : ∀ u ∈ r.cells, u.oneCell' = true := by
  intro u hu
  simp only [Rec.cells, List.mem_cons, List.not_mem_nil, or_false] at hu
  rcases hu with h | h | h | h <;> subst h <;> rfl
theorem cells_new2 (W : World) (o : Obj) (xs : List Value) (e : TypeId) : ∀ j u, xs[j]? = some u → (((W.alloc o).alloc (.cells xs.toArray e)).drew).cell? ((⟨W.heap.size + 1, 0, none⟩ : Addr).add j) = some u := by
  intro j u hu
  have := cells_new (W.alloc o) xs e j u hu
  simpa using this

def OfRel (l : List RS) (w : World) (k : Nat) (v x : Value) (wr : World) : Prop :=
  wr.ownsRow w.heap.size 37 4 v k (recs (ofL 0 (l.take k))) ∧ x = .int .i64 (nowL 0 (l.take k)) ∧ Below w.heap.size w wr

theorem of_rel {l : List RS} {w W w1 : World} {k : Nat} {r : RS} {N : Int} {v v' : Value} {R : Rec} {o1 o2 : Obj} (hlt : k < l.length) (hlt60 : k < 60) (hr : l[k] = r) (hN : nowL 0 (l.take k) = N) (hbel : Below w.heap.size w W)
    (hR : recOf (N + sq r) r = R) (hown : w1.ownsRow w.heap.size 37 4 v' (k + 1) (recs (ofL 0 (l.take k)) ++ R.cells)) (hg : (((W.alloc o1).alloc o2).drew).grownBy w1 v.ownBlock) (hv : W.ownsRow w.heap.size 37 4 v k (recs (ofL 0 (l.take k)))) :
    ∃ k' : Nat, k' ≤ l.length ∧ k' ≤ 60 ∧ Value.int .i64 ((k : Int) + 1) = .int .i64 k' ∧ OfRel l w k' v' (.int .i64 (N + sq r)) w1 := by
  refine ⟨k + 1, by omega, by omega, by go_num, ?_, ?_, ?_⟩
  · rw [List.take_succ_eq_append_getElem hlt, hr, ofL_snoc, hN, hR]
    simpa [recs] using hown
  · rw [List.take_succ_eq_append_getElem hlt, hr, nowL_snoc, hN]
  · have hs := hbel.size
    refine ((((hbel.alloc hs _).alloc (by simp; omega) _)).drew).grown hg (by simp; omega) (fun q hq => (hv.lt q hq).1)

set_option maxHeartbeats 2000000 in
set_option maxRecDepth 100000 in
theorem of_any (A : Option Addr) (l : List RS) (n c : Nat) (w : World) (hn : n = l.length) (h : Rd w A 4 n (rss l)) (hf : ∀ r ∈ l, r.fit) (hl : n ≤ 9223372036854775807) :
    Calls Tryd.prog 10 #[.slice A n c] w (OwnRet 37 4 (ofS l).length (recs (ofS l)) w) := by
  subst hn
  obtain ⟨i0, hi0, hz0, hz1, hz2⟩ := info_parts rec_info
  go_enter Tryd.func10, Tryd.ntmps10
  go_wp2
  go_loopw [3, 4, 5] (fun v x i wr => ∃ k : Nat, k ≤ l.length ∧ k ≤ 60 ∧ i = .int .i64 k ∧ OfRel l w k v x wr) (fun _ _ i _ => l.length - (intOf i).toNat)
  case atStart => exact ⟨0, by omega, by omega, rfl, by simpa [ofL, recs] using World.ownsRow_nil _ _ _ _, rfl, Below.refl _ _⟩
  case round =>
    obtain ⟨k, hk, hk60, rfl, hown, rfl, hbel⟩ := hrel
    by_cases hlt : k < l.length ∧ k < 60
    · obtain ⟨hlt, hlt60⟩ := hlt
      obtain ⟨b, o, rfl, hbl, c0, c1, c2, c3⟩ := rd_rs (h.below hbel) k hlt
      have hfit := hf l[k] (List.getElem_mem _)
      obtain ⟨r, hr⟩ : ∃ r, l[k] = r := ⟨_, rfl⟩
      rw [hr] at c0 c1 c2 c3 hfit
      have HR := Lib.hid hr
      have HO := Lib.hid hown
      clear hr hown h
      have hnb := nowL_bd 0 (l.take k)
      have htl : (l.take k).length = k := by rw [List.length_take]; omega
      rw [htl] at hnb
      obtain ⟨N, hN⟩ : ∃ N, nowL 0 (l.take k) = N := ⟨_, rfl⟩
      rw [hN] at hnb ⊢
      have HN := Lib.hid hN
      have hsq := sq_bd r
      unfold sq at hsq
      have hij := idxJob r.j hfit.2.1.1
      have hki : ((k : Nat) : Int) < (l.length : Int) := by omega
      obtain ⟨⟨f1, f2⟩, ⟨f3, f4⟩, ⟨f5, f6⟩, ⟨f7, f8⟩⟩ := hfit
      clear hN htl hf
      go_wp2_with fail
      go_quiet (fail)
      go_wp2_with fail
      obtain ⟨W, hW⟩ : ∃ W, W = wr.drewN nq := ⟨_, rfl⟩
      rw [← hW]
      have d0 : W.cell? ⟨b, o + k * 4, none⟩ = some (.int .u8 r.k) := by rw [hW]; exact c0
      have d1 : W.cell? ⟨b, o + k * 4 + 1, none⟩ = some (.int .u8 r.j) := by rw [hW]; exact c1
      have d2 : W.cell? ⟨b, o + k * 4 + 2, none⟩ = some (.int .u8 r.v) := by rw [hW]; exact c2
      have hbW : b < W.heap.size := by rw [hW]; exact hbl
      have HOW : Hid (W.ownsRow w.heap.size 37 4 u3 k (recs (ofL 0 (l.take k)))) := by rw [hW]; exact HO.out
      have hbelW : Below w.heap.size w W := by rw [hW]; exact below_drewN hbel _
      clear hW c0 c1 c2 c3 hbel hbl HO
      have t1 : r.k.tmod 6 = r.k % 6 := Int.tmod_eq_emod_of_nonneg f1
      have t2 : r.j.tmod 4 = r.j % 4 := Int.tmod_eq_emod_of_nonneg f3
      have t3 : r.v.tmod 64 = r.v % 64 := Int.tmod_eq_emod_of_nonneg f5
      have t4 : IntKind.u8.wrap (1 + r.k % 6) = 1 + r.k % 6 := IntWalk.u8_in _ (by omega)
      have t5 : IntKind.i64.wrap (r.v % 64) = r.v % 64 := IntWalk.i64_in _ (by omega)
      go_region_held3 (fun w' => w'.cell? ⟨b, o + k * 4, none⟩ = some (.int .u8 r.k) ∧ w'.cell? ⟨b, o + k * 4 + 1, none⟩ = some (.int .u8 r.j) ∧ w'.cell? ⟨b, o + k * 4 + 2, none⟩ = some (.int .u8 r.v)) (first | exact ⟨d0, d1, d2⟩ | exact ⟨(World.cell?_alloc_lt W _ ⟨b, o + k * 4, none⟩ hbW).trans d0, (World.cell?_alloc_lt W _ ⟨b, o + k * 4 + 1, none⟩ hbW).trans d1, (World.cell?_alloc_lt W _ ⟨b, o + k * 4 + 2, none⟩ hbW).trans d2⟩ | go_keep) (fail)
      all_goals
        clear t1 t2 t3 t4 t5 hij
        have hWs := hbelW.size
        by_cases hk6 : r.k % 6 = 5
        · have hb6 : (1 + r.k % 6 == 6) = true := by rw [hk6]; rfl
          have HK := Lib.hid hk6
          clear hk6
          by_cases hv : 250 < r.v
          · go_wp2_with (at_builtin; refine wpList_append_own _ rfl _ _ 24 rfl w.heap.size 37 i0 _ 4 32 Tryd.underlying24 hi0 hz0 hz1 hz2 rfl (by decide) _ _ _ rfl (by exact ((HOW.out.alloc _).alloc _).drew) ⟨W.heap.size + 1, 0, none⟩ 1 1 (Rec.cells ⟨N + r.l % 8 * (r.l % 8), 1 + r.k % 6, jobNo r.j, 0⟩) rfl rfl ?_ (rec_one _) (by simp [maxLen]; omega) (by omega) (by simp; omega) ?_)
            · first | exact cells_new2 W _ _ _ | exact fun j u hu => hu
            intro v' w1 hown' hgrow _
            have HO' := Lib.hid hown'
            clear hown'
            go_wp2
            go_roundw
            case rel => exact of_rel hlt hlt60 HR.out HN.out hbelW (by unfold recOf; simp only [sq]; rw [if_pos HK.out]) HO'.out hgrow HOW.out
            case measure => simp [intOf]; omega
          · go_wp2_with (at_builtin; refine wpList_append_own _ rfl _ _ 24 rfl w.heap.size 37 i0 _ 4 32 Tryd.underlying24 hi0 hz0 hz1 hz2 rfl (by decide) _ _ _ rfl (by exact ((HOW.out.alloc _).alloc _).drew) ⟨W.heap.size + 1, 0, none⟩ 1 1 (Rec.cells ⟨N + r.l % 8 * (r.l % 8), 1 + r.k % 6, jobNo r.j, 0⟩) rfl rfl ?_ (rec_one _) (by simp [maxLen]; omega) (by omega) (by simp; omega) ?_)
            · first | exact cells_new2 W _ _ _ | exact fun j u hu => hu
            intro v' w1 hown' hgrow _
            have HO' := Lib.hid hown'
            clear hown'
            go_wp2
            go_roundw
            case rel => exact of_rel hlt hlt60 HR.out HN.out hbelW (by unfold recOf; simp only [sq]; rw [if_pos HK.out]) HO'.out hgrow HOW.out
            case measure => simp [intOf]; omega
        · have hb6 : (1 + r.k % 6 == 6) = false := by simp; omega
          have HK := Lib.hid hk6
          clear hk6
          by_cases hv : 250 < r.v
          · go_wp2_with (at_builtin; refine wpList_append_own _ rfl _ _ 24 rfl w.heap.size 37 i0 _ 4 32 Tryd.underlying24 hi0 hz0 hz1 hz2 rfl (by decide) _ _ _ rfl (by exact ((HOW.out.alloc _).alloc _).drew) ⟨W.heap.size + 1, 0, none⟩ 1 1 (Rec.cells ⟨N + r.l % 8 * (r.l % 8), 1 + r.k % 6, jobNo r.j, 16777215⟩) rfl rfl ?_ (rec_one _) (by simp [maxLen]; omega) (by omega) (by simp; omega) ?_)
            · first | exact cells_new2 W _ _ _ | exact fun j u hu => hu
            intro v' w1 hown' hgrow _
            have HO' := Lib.hid hown'
            clear hown'
            go_wp2
            go_roundw
            case rel => exact of_rel hlt hlt60 HR.out HN.out hbelW (by unfold recOf; simp only [sq]; rw [if_neg HK.out, if_neg (by omega)]) HO'.out hgrow HOW.out
            case measure => simp [intOf]; omega
          · go_wp2_with (at_builtin; refine wpList_append_own _ rfl _ _ 24 rfl w.heap.size 37 i0 _ 4 32 Tryd.underlying24 hi0 hz0 hz1 hz2 rfl (by decide) _ _ _ rfl (by exact ((HOW.out.alloc _).alloc _).drew) ⟨W.heap.size + 1, 0, none⟩ 1 1 (Rec.cells ⟨N + r.l % 8 * (r.l % 8), 1 + r.k % 6, jobNo r.j, r.v % 64⟩) rfl rfl ?_ (rec_one _) (by simp [maxLen]; omega) (by omega) (by simp; omega) ?_)
            · first | exact cells_new2 W _ _ _ | exact fun j u hu => hu
            intro v' w1 hown' hgrow _
            have HO' := Lib.hid hown'
            clear hown'
            go_wp2
            go_roundw
            case rel => exact of_rel hlt hlt60 HR.out HN.out hbelW (by unfold recOf; simp only [sq]; rw [if_neg HK.out, if_pos (by omega)]) HO'.out hgrow HOW.out
            case measure => simp [intOf]; omega
    · have htk : ofS l = ofL 0 (l.take k) := by
        unfold ofS
        rcases (show k = l.length ∨ k = 60 by omega) with e | e
        · rw [e, List.take_of_length_le (show l.length ≤ 60 by omega), List.take_of_length_le (Nat.le_refl _)]
        · rw [e]
      have hln : (ofS l).length = k := by rw [htk, ofL_len, List.length_take]; omega
      have HT := Lib.hid htk
      have HL := Lib.hid hln
      have HO := Lib.hid hown
      clear htk hln hown
      go_wp2
      all_goals go_ret
      all_goals refine ⟨_, rfl, ?_, hbel⟩
      all_goals rw [HL.out, HT.out]
      all_goals exact HO.out
end Go.Proofs.YtdcgminjamofmaaDoor
