/- Contract of patterns.Set at a valid pattern, a name that there is and a kind. -/
import Derived.Test.YtcgbdkjelbgcfaaGreatDoorPat4
namespace Go.Proofs.YtcgbdkjelbgcfaaGreatDoor
open Go.RowKit

theorem cr_info : (Tryz.prog.info? 102).map (fun i => (i.zero, i.size, i.bytes)) = some (some (.agg #[.int .i64 0, .int .u8 0, .int .u8 0]), 3, 16) := by kernel_rfl
theorem crs1 (r : Cr) : crs [r] = r.cells := by simp [crs]
theorem crs_app (a b : List Cr) : crs (a ++ b) = crs a ++ crs b := by simp [crs]
theorem crs_take (l : List Cr) (k : Nat) : (crs l).take (k * 3) = crs (l.take k) := flat_take _ 3 cr_len l k
theorem crs_drop (l : List Cr) (k : Nat) : (crs l).drop (k * 3) = crs (l.drop k) := flat_drop _ 3 cr_len l k
/-- The end of a slice, behind its first k elements. -/
theorem Rd.dropK {w : World} {b o sz n k : Nat} {xs : List Value} (h : Rd w (some ⟨b, o, none⟩) sz n xs) (hk : k ≤ n) : Rd w (some ⟨b, o + k * sz, none⟩) sz (n - k) (xs.drop (k * sz)) := by
  refine ⟨by rw [List.length_drop, h.1, Nat.sub_mul], fun hn => ?_⟩
  obtain ⟨b', o', e, hb, hc⟩ := h.2 (by omega)
  obtain ⟨rfl, rfl⟩ : b = b' ∧ o = o' := by simpa using e
  refine ⟨b, o + k * sz, rfl, hb, fun j u hu => ?_⟩
  rw [List.getElem?_drop] at hu
  have := hc _ u hu
  rw [← Nat.add_assoc] at this
  exact this

theorem rd_far {w w' : World} {A : Option Addr} {sz n : Nat} {xs : List Value} (h : Rd w A sz n xs) (hs : w.heap.size ≤ w'.heap.size) (hc : ∀ b o, A = some ⟨b, o, none⟩ → ∀ j, w'.cell? ⟨b, j, none⟩ = w.cell? ⟨b, j, none⟩) : Rd w' A sz n xs := by
  refine ⟨h.1, fun hn => ?_⟩
  obtain ⟨b, o, e, hb, hcc⟩ := h.2 hn
  exact ⟨b, o, e, by omega, fun j u hu => (hc b o e _).trans (hcc j u hu)⟩
/-- The three appends of Set. -/
theorem set_apps (V V' : World) (v0 : Value) (hown : V'.ownsRow V.heap.size 102 3 v0 0 []) (hb : Below V.heap.size V V') (l : List Cr) (n i : Nat) (is : Bool) (A tA : Option Addr) (cc tc bh : Nat) (hbh : bh = if is then i + 1 else i) (hn : n = l.length) (hi : i ≤ n) (hbn : bh ≤ n) (hl : n ≤ 1000000) (c' e k : Int)
    (hA : Rd V A 3 n (crs l)) (hAn : A = none → n = 0) (hT : Rd V tA 3 (n - bh) (crs (l.drop bh))) (hTn : tA = none → n - bh = 0) :
    ∃ v1 W1 v2 W2 v3 W3, (Builtin.append_ #[31, 31] 31 #[v0, .slice A i cc]).run Tryz.prog V' = .ok v1 W1 ∧
      (Builtin.append_ #[31, 31] 31 #[v1, .slice (some ⟨W1.heap.size, 0, none⟩) 1 1]).run Tryz.prog (W1.alloc (.cells #[.int .i64 c', .int .u8 e, .int .u8 k] 102)) = .ok v2 W2 ∧
      (Builtin.append_ #[31, 31] 31 #[v2, .slice tA (n - bh) tc]).run Tryz.prog W2 = .ok v3 W3 ∧
      W3.ownsRow V.heap.size 102 3 v3 (setL l i is ⟨c', e, k⟩).length (crs (setL l i is ⟨c', e, k⟩)) ∧ Below V.heap.size V W1 ∧ Below V.heap.size V W2 ∧ Below V.heap.size V W3 := by
  obtain ⟨i0, hi0, hz0, hz1, hz2⟩ := info_parts cr_info
  have hH : Rd V A 3 i (crs (l.take i)) := by rw [← crs_take]; exact hA.take hi
  obtain ⟨v1, W1, hr1, ho1, hg1⟩ := run_append_rdK (P := Tryz.prog) V' V.heap.size 31 31 102 i0 _ 3 16 Tryz.underlying31 hi0 hz0 hz1 hz2 rfl (by omega) v0 0 [] hown A i cc (crs (l.take i)) (crs_one _) (hH.below hb) (fun h => by have := hAn h; omega) (by omega) (by omega) hb.size
  have hB1 : Below V.heap.size V W1 := hb.grown hg1 hb.size (fun q hq => (hown.lt q hq).1)
  obtain ⟨v2, W2, hr2, ho2, hg2⟩ := run_append_rdK (P := Tryz.prog) (W1.alloc (.cells #[.int .i64 c', .int .u8 e, .int .u8 k] 102)) V.heap.size 31 31 102 i0 _ 3 16 Tryz.underlying31 hi0 hz0 hz1 hz2 rfl (by omega) v1 _ _ (ho1.alloc _) (some ⟨W1.heap.size, 0, none⟩) 1 1 (crs [⟨c', e, k⟩]) (crs_one _) (by rw [crs1]; exact rd_new (Cr.cells ⟨c', e, k⟩) 1 3 rfl rfl) (by simp) (by omega) (by omega) (by have := hB1.size; simp; omega)
  have hB2 : Below V.heap.size V W2 := (hB1.alloc hB1.size _).grown hg2 (by have := hB1.size; simp; omega) (fun q hq => (ho1.lt q hq).1)
  obtain ⟨v3, W3, hr3, ho3, hg3⟩ := run_append_rdK (P := Tryz.prog) W2 V.heap.size 31 31 102 i0 _ 3 16 Tryz.underlying31 hi0 hz0 hz1 hz2 rfl (by omega) v2 _ _ ho2 tA (n - bh) tc (crs (l.drop bh)) (crs_one _) (hT.below hB2) hTn (by omega) (by omega) hB2.size
  have hB3 : Below V.heap.size V W3 := hB2.grown hg3 hB2.size (fun q hq => (ho2.lt q hq).1)
  refine ⟨v1, W1, v2, W2, v3, W3, hr1, hr2, hr3, ?_, hB1, hB2, hB3⟩
  have e1 : (setL l i is ⟨c', e, k⟩).length = 0 + i + 1 + (n - bh) := by
    unfold setL
    rw [← hbh]
    simp
    omega
  have e2 : crs (setL l i is ⟨c', e, k⟩) = [] ++ crs (l.take i) ++ crs [⟨c', e, k⟩] ++ crs (l.drop bh) := by
    unfold setL
    rw [← hbh, crs_app, List.nil_append, List.append_assoc]
    congr 1
  rw [e1, e2]
  exact ho3

set_option maxHeartbeats 400000 in
theorem clip_crs (A : Option Addr) (n c : Nat) (w : World) (h : n ≤ c) (_hm : c ≤ maxLen) :
    Calls Tryz.prog 43 #[.slice A n c] w fun e w' => e = .returned (.slice A n n) ∧ w = w' := by
  unfold maxLen at _hm
  go_enter Tryz.func43, Tryz.ntmps43
  go_wp2
  go_ret
  exact ⟨rfl, rfl⟩

def SetRet (a b : Int) (n : Nat) (w : World) (en : Ending) (w' : World) : Prop :=
  Below w.heap.size w w' ∧ ∃ g l, en = .returned (.tuple #[.agg #[.int .i64 a, .int .i64 b, .slice (some ⟨g, 0, none⟩) l.length l.length], .int .i64 0]) ∧ Rd w' (some ⟨g, 0, none⟩) 3 l.length (crs l) ∧ OkPat a b l ∧ l.length ≤ n + 1 ∧ w.heap.size ≤ g

set_option maxHeartbeats 4000000 in
set_option maxRecDepth 100000 in
theorem set_ok (a b : Int) (A : Option Addr) (l : List Cr) (n cc : Nat) (id e c' k : Int) (w : World) (hn : n = l.length) (h : Rd w A 3 n (crs l)) (hAn : (A = none ∧ n = 0 ∧ cc = 0) ∨ ∃ bb o, A = some ⟨bb, o, none⟩) (hnc : n ≤ cc) (hcm : cc ≤ 9223372036854775807) (hp : OkPat a b l) (hQ : Qt w) (hnm : nameI a b id e = (c', e, 0)) (hnm' : nameI a b c' e = (c', e, 0)) (hc : 0 ≤ c' ∧ c' ≤ 1024) (he : 0 ≤ e ∧ e ≤ 255) (hk : 1 ≤ k ∧ k ≤ 3) (hl : n < 1000000) :
    Calls Tryz.prog 17 #[.agg #[.int .i64 a, .int .i64 b, .slice A n cc], .int .i64 id, .int .u8 e, .int .u8 k] w (SetRet a b n w) := by
  obtain ⟨i0, hi0, hz0, hz1, hz2⟩ := info_parts cr_info
  have HN := Lib.hid hn
  have HRD := Lib.hid h
  have HP := Lib.hid hp
  have HNM := Lib.hid hnm
  have HNM' := Lib.hid hnm'
  have HAN := Lib.hid hAn
  obtain ⟨k1, k2⟩ := hk
  have hkk : isK k = true := by unfold isK; simp; omega
  have HKK := Lib.hid hkk
  have hk0 : (k != 0) = true := by simp; omega
  obtain ⟨n1, n2⟩ := new2 w (.cells #[.int .i64 a, .int .i64 b, .slice A n cc] 33) (.cells #[.int .i64 0, .int .i64 0, .slice none 0 0] 33)
  have hb1 : Below w.heap.size w ((w.alloc (.cells #[.int .i64 a, .int .i64 b, .slice A n cc] 33)).alloc (.cells #[.int .i64 0, .int .i64 0, .slice none 0 0] 33)) := ((Below.refl _ _).alloc (Nat.le_refl _) _).alloc (by simp) _
  have hzz : w.heap.size + 1 < ((w.alloc (.cells #[.int .i64 a, .int .i64 b, .slice A n cc] 33)).alloc (.cells #[.int .i64 0, .int .i64 0, .slice none 0 0] 33)).heap.size := by simp
  clear hn h hp hnm hnm' hAn hkk
  go_enter Tryz.func17, Tryz.ntmps17
  go_upto_region 1 with fail
  obtain ⟨W, hW⟩ : ∃ W, W = (w.alloc (.cells #[.int .i64 a, .int .i64 b, .slice A n cc] 33)).alloc (.cells #[.int .i64 0, .int .i64 0, .slice none 0 0] 33) := ⟨_, rfl⟩
  rw [← hW] at n1 n2 hb1 hzz ⊢
  obtain ⟨N, hN⟩ : ∃ N, N = w.heap.size := ⟨_, rfl⟩
  rw [← hN] at n1 n2 hzz ⊢
  have HNN := Lib.hid hN
  have N1 := Lib.hid n1
  have N2 := Lib.hid n2
  obtain ⟨⟨x0, x1, x2⟩, _⟩ := blk3 n1
  clear hW n1 n2 hN
  go_wp2_with fail
  refine (at_ok a b A l n cc id e c' _ HN.out (HRD.out.below hb1) HP.out (hQ.below hb1) HNM.out hc he).mono ?_
  rintro e' w2 ⟨hb2, i, is, hat, rfl⟩
  have hil : i ≤ n := by have := hat.1; have := HN.out; omega
  have his : is = true → i < n := fun h => by
    obtain ⟨r, hr, _⟩ := hat.2.2.2.1 h
    have := (List.getElem?_eq_some_iff.1 hr).1
    have := HN.out
    omega
  have HAT := Lib.hid hat
  have HIS := Lib.hid his
  have hb2' : Below w.heap.size w w2 := hb1.trans (hb2.mono hb1.size)
  have hs2 := hb2'.size
  have hz2' : N + 1 < w2.heap.size := Nat.lt_of_lt_of_le hzz hb2.size
  have m1 : (w2.alloc (.cells #[.int .i64 c', .int .u8 e] 98)).heap[N]? = some (.cells #[.int .i64 a, .int .i64 b, .slice A n cc] 33 (0, 0)) := (Below.heap_alloc _ _ _ (by omega)).trans (kept hb2 N1.out (by omega))
  have m2 : (w2.alloc (.cells #[.int .i64 c', .int .u8 e] 98)).heap[N + 1]? = some (.cells #[.int .i64 0, .int .i64 0, .slice none 0 0] 33 (0, 0)) := (Below.heap_alloc _ _ _ (by omega)).trans (kept hb2 N2.out hzz)
  have m3 : (w2.alloc (.cells #[.int .i64 c', .int .u8 e] 98)).heap[w2.heap.size]? = some (.cells #[.int .i64 c', .int .u8 e] 98 (0, 0)) := heap_alloc_new w2 _
  have hb3 : Below w.heap.size w (w2.alloc (.cells #[.int .i64 c', .int .u8 e] 98)) := hb2'.alloc hs2 _
  have hz3 : w2.heap.size < (w2.alloc (.cells #[.int .i64 c', .int .u8 e] 98)).heap.size := by simp
  obtain ⟨V, hV⟩ : ∃ V, V = w2.alloc (.cells #[.int .i64 c', .int .u8 e] 98) := ⟨_, rfl⟩
  obtain ⟨p3, hp3⟩ : ∃ p3, p3 = w2.heap.size := ⟨_, rfl⟩
  clear hat his x0 x1 x2 hb2 N1 N2
  go_wp2_with fail
  rw [← hV] at m1 m2 m3 hb3 hz3 ⊢
  rw [← hp3] at m3 hz3 ⊢
  have M1 := Lib.hid m1
  have M2 := Lib.hid m2
  have M3 := Lib.hid m3
  obtain ⟨⟨x0, x1, x2⟩, _⟩ := blk3 m1
  have hVN : N + 1 < V.heap.size := by omega
  have hp3' : N + 1 < p3 := by omega
  clear hV hp3 m1 m2 m3
  refine (isKind_any k _).mono ?_
  rintro e' w3 ⟨rfl, rfl⟩
  rw [HKK.out]
  obtain ⟨bh, hbh⟩ : ∃ bh, bh = if is then i + 1 else i := ⟨_, rfl⟩
  have hbn : bh ≤ n := by
    cases is
    · simp at hbh; omega
    · have := HIS.out rfl; simp at hbh; omega
  have hib : i ≤ bh := by cases is <;> simp at hbh <;> omega
  cases is
  · simp only [Bool.false_eq_true, if_false] at hbh
    obtain rfl := hbh
    go_wp2_with (at_make; refine wpList_make_own _ rfl _ _ 31 rfl V.heap.size 102 i0 _ 3 Tryz.underlying31 hi0 hz0 hz1 _ _ _ (n + 1) rfl rfl (by omega) ?c1 ?c2 ?c3 ?_)
    case c1 => rw [hz2]; omega
    case c2 => simp [maxLen]; omega
    case c3 => exact Nat.le_refl _
    intro w4 hown4 hgrow4
    have hb4 : Below V.heap.size V w4 := (Below.refl _ _).grown hgrow4 (Nat.le_refl _) (by simp)
    have HMK := Lib.hid hown4
    clear hown4 hgrow4 x0 x1 x2
    rcases HAN.out with ⟨rfl, rfl, rfl⟩ | ⟨bb, o, rfl⟩
    · obtain rfl : bh = 0 := by omega
      have hT : Rd V none 3 (0 - 0) (crs (l.drop 0)) := by
        rw [Nat.sub_self, List.drop_of_length_le (by have := HN.out; omega)]
        exact Rd.nil
      obtain ⟨v1, W1, v2, W2, v3, W3, hr1, hr2, hr3, ho3, hB1, hB2, hB3⟩ := set_apps V w4 _ HMK.out hb4 l 0 0 false none none 0 0 0 rfl HN.out hil hbn (by omega) c' e k (HRD.out.below hb3) (fun _ => by omega) hT (fun _ => by omega)
      simp only [Nat.sub_self] at hr3
      have HR1 := Lib.hid hr1
      have HR2 := Lib.hid hr2
      obtain ⟨⟨p0, p1, p2⟩, _⟩ := blk3 (kept hB1 M1.out (by omega))
      obtain ⟨⟨q0, q1⟩, _⟩ := blk2 (kept hB1 M3.out hz3)
      obtain ⟨⟨s0, s1, s2⟩, _⟩ := blk3 (kept hB2 M1.out (by omega))
      obtain ⟨⟨u0, u1, u2⟩, _⟩ := blk3 (kept hB3 M1.out (by omega))
      obtain ⟨⟨r0, r1, r2⟩, y0, y1, y2⟩ := blk3 (kept hB3 M2.out (by omega))
      obtain ⟨⟨t0, t1, t2⟩, _⟩ := blk3 (kept hb4 M1.out (by omega))
      have hokp := okPat_set (r := ⟨c', e, k⟩) HP.out HAT.out HKK.out HNM'.out (by unfold Cr.fit; dsimp only; omega) (by have := HN.out; omega)
      have hpos : 0 < (setL l 0 false ⟨c', e, k⟩).length := by unfold setL; rw [List.length_append, List.length_cons]; omega
      obtain ⟨g3, c3, rfl, hg3, hlt3⟩ := ho3.form hpos
      obtain ⟨A3, c3', hv3, hc3, hm3⟩ := own_form ho3
      obtain ⟨rfl, rfl⟩ : A3 = some ⟨g3, 0, none⟩ ∧ c3' = c3 := by simp at hv3; exact ⟨hv3.1.symm, hv3.2.symm⟩
      obtain ⟨L, hL⟩ : ∃ L, setL l 0 false ⟨c', e, k⟩ = L := ⟨_, rfl⟩
      rw [hL] at hokp hc3 ho3 hr3 hpos
      have HR3 := Lib.hid hr3
      have HO3 := Lib.hid ho3
      have HOKP := Lib.hid hokp
      have hbF : Below w.heap.size w W3 := hb3.trans (hB3.mono hb3.size)
      have hg1 := hB1.size
      have hW1a : N < W1.heap.size := by omega
      have hW1b : p3 < W1.heap.size := by omega
      have j1 : ((0 : Nat) : Int) ≤ ((0 : Nat) : Int) := by omega
      have j2 : ((0 : Nat) : Int) ≤ ((0 : Nat) : Int) := by omega
      have j3 : (0 : Int) ≤ ((0 : Nat) : Int) := by omega
      clear hr1 hr2 hr3 ho3 hokp hL hT hB1 hB2 hB3 hi0 hz0 hz1 hz2 hv3
      go_wp2_with (at_builtin; first | refine Lib.wpList_append_run _ rfl _ _ _ _ rfl _ _ rfl rfl _ _ HR1.out ?_ | refine Lib.wpList_append_run _ rfl _ _ _ _ rfl _ _ rfl rfl _ _ HR2.out ?_ | refine Lib.wpList_append_run _ rfl _ _ _ _ rfl _ _ rfl rfl _ _ HR3.out ?_)
      go_region_held3 (fun w' => w'.cell? ⟨N, 0, none⟩ = some (.int .i64 a) ∧ w'.cell? ⟨N, 1, none⟩ = some (.int .i64 b))
        (first | exact ⟨u0, u1⟩ | go_keep)
        (first | (go_at_call 43; (with_reducible refine (clip_crs (some ⟨g3, 0, none⟩) L.length c3' _ hc3 hm3).mono ?_); rintro e' w6 ⟨rfl, rfl⟩) | fail)
      all_goals
        go_wp2_with fail
        refine bodyPost_ret (v := .tuple #[.agg #[.int .i64 a, .int .i64 b, .slice (some ⟨g3, 0, none⟩) L.length L.length], .int .i64 0]) (by simp [results, Tryz.results17, go_sem, r0, r1, r2]) rfl ⟨?_, g3, L, rfl, ?_, HOKP.out.1, ?_, by have := hb3.size; omega⟩
        · have h9 := HNN.out
          repeat' (first | exact hbF | refine Below.drew ?_ | refine Below.setCell ?_ (by simp; omega) _)
        · refine rd_far (Rd.of_own HO3.out) (by simp) ?_
          intro q o' hq j
          obtain ⟨rfl, _⟩ : g3 = q ∧ 0 = o' := by simpa using hq
          have hne : ¬ N + 1 = g3 := by omega
          exact (World.cell?_setCell_far _ ⟨N + 1, 2, none⟩ ⟨g3, j, none⟩ _ hne).trans ((World.cell?_setCell_far _ ⟨N + 1, 1, none⟩ ⟨g3, j, none⟩ _ hne).trans (World.cell?_setCell_far _ ⟨N + 1, 0, none⟩ ⟨g3, j, none⟩ _ hne))
        · have := HOKP.out.2; have := HN.out; omega
    · obtain ⟨a2, ha2⟩ : ∃ a2 : Addr, (if cc = bh then some (⟨bb, o, none⟩ : Addr) else some ⟨bb, o + bh * 3, none⟩) = some a2 := by split <;> exact ⟨_, rfl⟩
      have hT : Rd V (some a2) 3 (n - bh) (crs (l.drop bh)) := by
        by_cases hcc : cc = bh
        · have e0 : n - bh = 0 := by omega
          rw [e0, List.drop_of_length_le (by have := HN.out; omega)]
          exact Rd.nil
        · rw [if_neg hcc] at ha2
          cases ha2
          have := (HRD.out.below hb3).dropK hbn
          rw [crs_drop] at this
          exact this
      obtain ⟨v1, W1, v2, W2, v3, W3, hr1, hr2, hr3, ho3, hB1, hB2, hB3⟩ := set_apps V w4 _ HMK.out hb4 l n bh false (some ⟨bb, o, none⟩) (some a2) cc (cc - bh) bh rfl HN.out hil hbn (by omega) c' e k (HRD.out.below hb3) (by simp) hT (by simp)
      have HR1 := Lib.hid hr1
      have HR2 := Lib.hid hr2
      obtain ⟨⟨p0, p1, p2⟩, _⟩ := blk3 (kept hB1 M1.out (by omega))
      obtain ⟨⟨q0, q1⟩, _⟩ := blk2 (kept hB1 M3.out hz3)
      obtain ⟨⟨s0, s1, s2⟩, _⟩ := blk3 (kept hB2 M1.out (by omega))
      obtain ⟨⟨u0, u1, u2⟩, _⟩ := blk3 (kept hB3 M1.out (by omega))
      obtain ⟨⟨r0, r1, r2⟩, y0, y1, y2⟩ := blk3 (kept hB3 M2.out (by omega))
      obtain ⟨⟨t0, t1, t2⟩, _⟩ := blk3 (kept hb4 M1.out (by omega))
      have hokp := okPat_set (r := ⟨c', e, k⟩) HP.out HAT.out HKK.out HNM'.out (by unfold Cr.fit; dsimp only; omega) (by have := HN.out; omega)
      have hpos : 0 < (setL l bh false ⟨c', e, k⟩).length := by unfold setL; rw [List.length_append, List.length_cons]; omega
      obtain ⟨g3, c3, rfl, hg3, hlt3⟩ := ho3.form hpos
      obtain ⟨A3, c3', hv3, hc3, hm3⟩ := own_form ho3
      obtain ⟨rfl, rfl⟩ : A3 = some ⟨g3, 0, none⟩ ∧ c3' = c3 := by simp at hv3; exact ⟨hv3.1.symm, hv3.2.symm⟩
      obtain ⟨L, hL⟩ : ∃ L, setL l bh false ⟨c', e, k⟩ = L := ⟨_, rfl⟩
      rw [hL] at hokp hc3 ho3 hr3 hpos
      have HR3 := Lib.hid hr3
      have HO3 := Lib.hid ho3
      have HOKP := Lib.hid hokp
      have hbF : Below w.heap.size w W3 := hb3.trans (hB3.mono hb3.size)
      have hg1 := hB1.size
      have hW1a : N < W1.heap.size := by omega
      have hW1b : p3 < W1.heap.size := by omega
      have j1 : ((bh : Nat) : Int) ≤ ((cc : Nat) : Int) := by omega
      have j2 : ((bh : Nat) : Int) ≤ ((n : Nat) : Int) := by omega
      have j3 : (0 : Int) ≤ ((bh : Nat) : Int) := by omega
      clear hr1 hr2 hr3 ho3 hokp hL hT hB1 hB2 hB3 hi0 hz0 hz1 hz2 hv3
      go_wp2_with (at_builtin; first | refine Lib.wpList_append_run _ rfl _ _ _ _ rfl _ _ rfl rfl _ _ HR1.out ?_ | refine Lib.wpList_append_run _ rfl _ _ _ _ rfl _ _ rfl rfl _ _ HR2.out ?_ | refine Lib.wpList_append_run _ rfl _ _ _ _ rfl _ _ rfl rfl _ _ HR3.out ?_)
      go_region_held3 (fun w' => w'.cell? ⟨N, 0, none⟩ = some (.int .i64 a) ∧ w'.cell? ⟨N, 1, none⟩ = some (.int .i64 b))
        (first | exact ⟨u0, u1⟩ | go_keep)
        (first | (go_at_call 43; (with_reducible refine (clip_crs (some ⟨g3, 0, none⟩) L.length c3' _ hc3 hm3).mono ?_); rintro e' w6 ⟨rfl, rfl⟩) | fail)
      all_goals
        go_wp2_with fail
        refine bodyPost_ret (v := .tuple #[.agg #[.int .i64 a, .int .i64 b, .slice (some ⟨g3, 0, none⟩) L.length L.length], .int .i64 0]) (by simp [results, Tryz.results17, go_sem, r0, r1, r2]) rfl ⟨?_, g3, L, rfl, ?_, HOKP.out.1, ?_, by have := hb3.size; omega⟩
        · have h9 := HNN.out
          repeat' (first | exact hbF | refine Below.drew ?_ | refine Below.setCell ?_ (by simp; omega) _)
        · refine rd_far (Rd.of_own HO3.out) (by simp) ?_
          intro q o' hq j
          obtain ⟨rfl, _⟩ : g3 = q ∧ 0 = o' := by simpa using hq
          have hne : ¬ N + 1 = g3 := by omega
          exact (World.cell?_setCell_far _ ⟨N + 1, 2, none⟩ ⟨g3, j, none⟩ _ hne).trans ((World.cell?_setCell_far _ ⟨N + 1, 1, none⟩ ⟨g3, j, none⟩ _ hne).trans (World.cell?_setCell_far _ ⟨N + 1, 0, none⟩ ⟨g3, j, none⟩ _ hne))
        · have := HOKP.out.2; have := HN.out; omega
  · simp only [if_true] at hbh
    obtain rfl := hbh
    go_wp2_with (at_make; refine wpList_make_own _ rfl _ _ 31 rfl V.heap.size 102 i0 _ 3 Tryz.underlying31 hi0 hz0 hz1 _ _ _ (n + 1) rfl rfl (by omega) ?c1 ?c2 ?c3 ?_)
    case c1 => rw [hz2]; omega
    case c2 => simp [maxLen]; omega
    case c3 => exact Nat.le_refl _
    intro w4 hown4 hgrow4
    have hb4 : Below V.heap.size V w4 := (Below.refl _ _).grown hgrow4 (Nat.le_refl _) (by simp)
    have HMK := Lib.hid hown4
    clear hown4 hgrow4 x0 x1 x2
    rcases HAN.out with ⟨rfl, rfl, rfl⟩ | ⟨bb, o, rfl⟩
    · exact absurd (show i < 0 by first | exact HIS.out trivial | exact HIS.out rfl) (by omega)
    · obtain ⟨a2, ha2⟩ : ∃ a2 : Addr, (if cc = (i + 1) then some (⟨bb, o, none⟩ : Addr) else some ⟨bb, o + (i + 1) * 3, none⟩) = some a2 := by split <;> exact ⟨_, rfl⟩
      have hT : Rd V (some a2) 3 (n - (i + 1)) (crs (l.drop (i + 1))) := by
        by_cases hcc : cc = (i + 1)
        · have e0 : n - (i + 1) = 0 := by omega
          rw [e0, List.drop_of_length_le (by have := HN.out; omega)]
          exact Rd.nil
        · rw [if_neg hcc] at ha2
          cases ha2
          have := (HRD.out.below hb3).dropK hbn
          rw [crs_drop] at this
          exact this
      obtain ⟨v1, W1, v2, W2, v3, W3, hr1, hr2, hr3, ho3, hB1, hB2, hB3⟩ := set_apps V w4 _ HMK.out hb4 l n i true (some ⟨bb, o, none⟩) (some a2) cc (cc - (i + 1)) (i + 1) rfl HN.out hil hbn (by omega) c' e k (HRD.out.below hb3) (by simp) hT (by simp)
      have HR1 := Lib.hid hr1
      have HR2 := Lib.hid hr2
      obtain ⟨⟨p0, p1, p2⟩, _⟩ := blk3 (kept hB1 M1.out (by omega))
      obtain ⟨⟨q0, q1⟩, _⟩ := blk2 (kept hB1 M3.out hz3)
      obtain ⟨⟨s0, s1, s2⟩, _⟩ := blk3 (kept hB2 M1.out (by omega))
      obtain ⟨⟨u0, u1, u2⟩, _⟩ := blk3 (kept hB3 M1.out (by omega))
      obtain ⟨⟨r0, r1, r2⟩, y0, y1, y2⟩ := blk3 (kept hB3 M2.out (by omega))
      obtain ⟨⟨t0, t1, t2⟩, _⟩ := blk3 (kept hb4 M1.out (by omega))
      have hokp := okPat_set (r := ⟨c', e, k⟩) HP.out HAT.out HKK.out HNM'.out (by unfold Cr.fit; dsimp only; omega) (by have := HN.out; omega)
      have hpos : 0 < (setL l i true ⟨c', e, k⟩).length := by unfold setL; rw [List.length_append, List.length_cons]; omega
      obtain ⟨g3, c3, rfl, hg3, hlt3⟩ := ho3.form hpos
      obtain ⟨A3, c3', hv3, hc3, hm3⟩ := own_form ho3
      obtain ⟨rfl, rfl⟩ : A3 = some ⟨g3, 0, none⟩ ∧ c3' = c3 := by simp at hv3; exact ⟨hv3.1.symm, hv3.2.symm⟩
      obtain ⟨L, hL⟩ : ∃ L, setL l i true ⟨c', e, k⟩ = L := ⟨_, rfl⟩
      rw [hL] at hokp hc3 ho3 hr3 hpos
      have HR3 := Lib.hid hr3
      have HO3 := Lib.hid ho3
      have HOKP := Lib.hid hokp
      have hbF : Below w.heap.size w W3 := hb3.trans (hB3.mono hb3.size)
      have hg1 := hB1.size
      have hW1a : N < W1.heap.size := by omega
      have hW1b : p3 < W1.heap.size := by omega
      have j1 : ((i : Nat) : Int) ≤ ((cc : Nat) : Int) := by omega
      have j2 : (((i + 1) : Nat) : Int) ≤ ((n : Nat) : Int) := by omega
      have j3 : (0 : Int) ≤ ((i : Nat) : Int) := by omega
      clear hr1 hr2 hr3 ho3 hokp hL hT hB1 hB2 hB3 hi0 hz0 hz1 hz2 hv3
      go_wp2_with (at_builtin; first | refine Lib.wpList_append_run _ rfl _ _ _ _ rfl _ _ rfl rfl _ _ HR1.out ?_ | refine Lib.wpList_append_run _ rfl _ _ _ _ rfl _ _ rfl rfl _ _ HR2.out ?_ | refine Lib.wpList_append_run _ rfl _ _ _ _ rfl _ _ rfl rfl _ _ HR3.out ?_)
      go_region_held3 (fun w' => w'.cell? ⟨N, 0, none⟩ = some (.int .i64 a) ∧ w'.cell? ⟨N, 1, none⟩ = some (.int .i64 b))
        (first | exact ⟨u0, u1⟩ | go_keep)
        (first | (go_at_call 43; (with_reducible refine (clip_crs (some ⟨g3, 0, none⟩) L.length c3' _ hc3 hm3).mono ?_); rintro e' w6 ⟨rfl, rfl⟩) | fail)
      all_goals
        go_wp2_with fail
        refine bodyPost_ret (v := .tuple #[.agg #[.int .i64 a, .int .i64 b, .slice (some ⟨g3, 0, none⟩) L.length L.length], .int .i64 0]) (by simp [results, Tryz.results17, go_sem, r0, r1, r2]) rfl ⟨?_, g3, L, rfl, ?_, HOKP.out.1, ?_, by have := hb3.size; omega⟩
        · have h9 := HNN.out
          repeat' (first | exact hbF | refine Below.drew ?_ | refine Below.setCell ?_ (by simp; omega) _)
        · refine rd_far (Rd.of_own HO3.out) (by simp) ?_
          intro q o' hq j
          obtain ⟨rfl, _⟩ : g3 = q ∧ 0 = o' := by simpa using hq
          have hne : ¬ N + 1 = g3 := by omega
          exact (World.cell?_setCell_far _ ⟨N + 1, 2, none⟩ ⟨g3, j, none⟩ _ hne).trans ((World.cell?_setCell_far _ ⟨N + 1, 1, none⟩ ⟨g3, j, none⟩ _ hne).trans (World.cell?_setCell_far _ ⟨N + 1, 0, none⟩ ⟨g3, j, none⟩ _ hne))
        · have := HOKP.out.2; have := HN.out; omega
end Go.Proofs.YtcgbdkjelbgcfaaGreatDoor
