/- The walk of places.relative at valid patterns. -/
import Derived.Test.YtjdmkgnlakonbaaGreatDoorRel
namespace Go.Proofs.YtjdmkgnlakonbaaGreatDoor
open Go.RowKit

theorem cell_size {w : World} {g o : Nat} {cw : Array Value} {t : TypeId} {v : Value} (h : w.heap[g]? = some (Obj.cells cw t (0, 0))) (hc : w.cell? ⟨g, o, none⟩ = some v) : cw[o]? = some v := by
  rw [cell_of_row w g o cw t (0, 0) h] at hc; exact hc
def relL (a b : Int) (A : Option Addr) (n cc k M N N4 N5 go gk : Nat) (s : RS) : List (Nat × Array Value × TypeId) :=
  [(N, #[.int .i64 a, .int .i64 b, .slice A n cc], 40), (N4, #[.map (some M)], 258), (go, (mvsV s.out).toArray, 42), (N5, #[.slice (some ⟨go, 0, none⟩) k k], 131), (gk, (boolsV s.known).toArray, 4)]
/-- The world holds what places.relative knows. -/
structure RelAt (w : World) (a b : Int) (l : List Cr) (A : Option Addr) (n cc k M N N4 N5 go gk : Nat) (v : Value) (wr : World) (s : RS) : Prop where
  bx : Bx w (relL a b A n cc k M N N4 N5 go gk s) wr
  mp : MpOk unK wr M (crM l)
  q : QAt wr w.heap.size [N, N4, N5, go, gk] v s.wait
  ok : RsOk k s
theorem QAt.len {w : World} {base : Nat} {av : List Nat} {v : Value} {l : List Nat} (h : QAt w base av v l) : lenV v = l.length := by
  obtain ⟨g, o, c, cw, rfl, _⟩ := h; rfl
theorem RelAt.mm {w wr : World} {a b : Int} {l : List Cr} {A : Option Addr} {n cc k M N N4 N5 go gk : Nat} {v : Value} {s : RS} (h : RelAt w a b l A n cc k M N N4 N5 go gk v wr s) : falses wr gk + lenV v = s.mm := by
  rw [falses_eq (h.bx.blk 4 _ _ _ rfl), h.q.len]; rfl

theorem relE_bad {a b : Int} {l : List Cr} {id e : Nat} {s : RS} (h : (nbI a b id e).2 ≠ 0) : relE a b l id e s = some s := by
  unfold relE; rw [if_pos h]
theorem relE_known {a b : Int} {l : List Cr} {id e y : Nat} {s : RS} (h : nbI a b id e = ((y : Int), 0)) (hk : s.known.getD y false = true) : relE a b l id e s = if s.out.getD y mv0 = acrossF a b l s.out id e then some s else none := by
  unfold relE
  rw [if_neg (by rw [h]; simp), h]
  simp only [Int.toNat_natCast, hk, if_true]
theorem relE_new {a b : Int} {l : List Cr} {id e y : Nat} {s : RS} (h : nbI a b id e = ((y : Int), 0)) (hk : s.known.getD y false = false) (hy : y < s.out.length) : relE a b l id e s = some ⟨s.out.set y (acrossF a b l s.out id e), s.known.set y true, s.wait ++ [y]⟩ := by
  unfold relE
  rw [if_neg (by rw [h]; simp), h]
  simp only [Int.toNat_natCast, hk, Bool.false_eq_true, if_false]
  rw [if_pos (by simp [List.getD, hy])]
theorem RelAt.call {w wr w2 : World} {a b : Int} {l : List Cr} {A : Option Addr} {n cc k M N N4 N5 go gk : Nat} {v : Value} {s : RS} (h : RelAt w a b l A n cc k M N N4 N5 go gk v wr s) (hb : Below wr.heap.size wr w2) : RelAt w a b l A n cc k M N N4 N5 go gk v w2 s :=
  ⟨h.bx.call hb, h.mp.below hb h.mp.lt, h.q.below hb, h.ok⟩

theorem QAt.avoid {w : World} {base : Nat} {av : List Nat} {v : Value} {l : List Nat} (h : QAt w base av v l) {P : Nat} (hP : w.heap.size ≤ P) : QAt w base (av ++ [P]) v l := by
  obtain ⟨g, o, c, cw, h1, h2, h3, h4, h5⟩ := h
  refine ⟨g, o, c, cw, h1, h2, fun x hx => ?_, h4, h5⟩
  have := (Array.getElem?_eq_some_iff.1 h4).1
  rcases List.mem_append.1 hx with h6 | h6
  · exact h3 x h6
  · have : x = P := by simpa using h6
    omega
theorem QAt.sub {w : World} {base : Nat} {av av' : List Nat} {v : Value} {l : List Nat} (h : QAt w base av v l) (hs : ∀ x ∈ av', x ∈ av) : QAt w base av' v l := by
  obtain ⟨g, o, c, cw, h1, h2, h3, h4, h5⟩ := h
  exact ⟨g, o, c, cw, h1, h2, fun x hx => h3 x (hs x hx), h4, h5⟩
/-- A new place is written down. -/
theorem RelAt.put {w wr : World} {a b : Int} {l : List Cr} {A : Option Addr} {n cc k M N N4 N5 go gk : Nat} {v : Value} {s : RS} (h : RelAt w a b l A n cc k M N N4 N5 go gk v wr s) (y : Nat) (m : Mv) (hm : m.t ≤ 255) :
    RelAt w a b l A n cc k M N N4 N5 go gk v ((((wr.setCell ⟨go, y * 3, none⟩ (.int .u8 m.t)).setCell ⟨go, y * 3 + 1, none⟩ (.int .i64 m.x)).setCell ⟨go, y * 3 + 2, none⟩ (.int .i64 m.y)).setCell ⟨gk, y, none⟩ (.bool true)) ⟨s.out.set y m, s.known.set y true, s.wait⟩ := by
  have b1 := (((h.bx.set 2 (y * 3) rfl (.int .u8 m.t)).set 2 (y * 3 + 1) rfl (.int .i64 m.x)).set 2 (y * 3 + 2) rfl (.int .i64 m.y)).set 4 y rfl (.bool true)
  rw [mvs_set, bools_set] at b1
  refine ⟨b1, (((h.mp.setCell _ _).setCell _ _).setCell _ _).setCell _ _, (((h.q.set (by simp) _ _).set (by simp) _ _).set (by simp) _ _).set (by simp) _ _, ⟨by simp [h.ok.out], by simp [h.ok.known], h.ok.wait, fun x hx => ?_⟩⟩
  rcases List.mem_or_eq_of_mem_set hx with h1 | rfl
  · exact h.ok.t x h1
  · exact hm
/-- Its cell is put into the queue. -/
theorem RelAt.push {w wr w' : World} {a b : Int} {l : List Cr} {A : Option Addr} {n cc k M N N4 N5 go gk : Nat} {v v' : Value} {s : RS} (h : RelAt w a b l A n cc k M N N4 N5 go gk v wr s) (y : Nat) (hy : y < k)
    (hq : QAt w' w.heap.size [N, N4, N5, go, gk] v' (s.wait ++ [y])) (hw : (∃ g j, w.heap.size ≤ g ∧ (∀ x ∈ [N, N4, N5, go, gk], x ≠ g) ∧ w' = wr.setCell ⟨g, j, none⟩ (.int .i64 (y : Nat))) ∨ ∃ o, w' = wr.drew.alloc o) :
    RelAt w a b l A n cc k M N N4 N5 go gk v' w' ⟨s.out, s.known, s.wait ++ [y]⟩ := by
  have hok : RsOk k ⟨s.out, s.known, s.wait ++ [y]⟩ := ⟨h.ok.out, h.ok.known, fun i hi => by
    rcases List.mem_append.1 hi with h1 | h1
    · exact h.ok.wait i h1
    · have : i = y := by simpa using h1
      subst this; exact hy, h.ok.t⟩
  rcases hw with ⟨g, j, hg, hne, rfl⟩ | ⟨o, rfl⟩
  · refine ⟨h.bx.setOther hg (fun i x hx => hne _ ?_) j _, h.mp.setCell _ _, hq, hok⟩
    match i with
    | 0 => simp [relL] at hx; subst hx; simp
    | 1 => simp [relL] at hx; subst hx; simp
    | 2 => simp [relL] at hx; subst hx; simp
    | 3 => simp [relL] at hx; subst hx; simp
    | 4 => simp [relL] at hx; subst hx; simp
    | i + 5 => simp [relL] at hx
  · exact ⟨h.bx.drew.other o, h.mp.drew.below ((Below.refl wr.drew.heap.size wr.drew).alloc (Nat.le_refl _) o) h.mp.lt, hq, hok⟩

set_option maxRecDepth 100000 in
set_option maxHeartbeats 8000000 in
theorem relative_ok (a b : Int) (A : Option Addr) (l : List Cr) (n cc : Nat) (w : World) (hp : OkPat a b l) (hn : n = l.length) (h : Rd w A 3 n (crs l)) (hl : n ≤ 1000000) (hQ : Qf w) (hT : Tn w) :
    Calls Tryz.prog 96 #[.agg #[.int .i64 a, .int .i64 b, .slice A n cc]] w (RelRet (relF a b l) w) := by
  obtain ⟨F, hF⟩ : ∃ F, relF a b l = F := ⟨_, rfl⟩
  rw [hF]
  unfold relF at hF
  obtain ⟨k1, k2, k3⟩ := countN_int hp.sheet
  have hcount := fun w => count_any a b w hp.sheet
  have hcr := fun (w' : World) (hb : Below w.heap.size w w') => creased_ok a b A l n cc w' hn (h.below hb) hl
  have hnb := fun id e w h => sheetNeighbour_any a b id e w hp.sheet h
  obtain ⟨k, hk⟩ : ∃ k, countN a b = k := ⟨_, rfl⟩
  rw [hk] at hF k1 k2 k3 hcount
  have HCR := Lib.hid hcr
  have HCOUNT := Lib.hid hcount
  have HNB := Lib.hid hnb
  have HF := Lib.hid hF
  have HP := Lib.hid hp
  have HQ := Lib.hid hQ
  have HT := Lib.hid hT
  have HK1 := Lib.hid k1
  have mk1 := fun W => make_mvs k k3 W
  have mk2 := fun W => make_bools k k3 W
  have H := (Bx.start w).new #[.int .i64 a, .int .i64 b, .slice A n cc] 40 rfl
  clear hp hn h hl hQ hT hF hk hcount hcr hnb k1
  go_enter Tryz.func96, Tryz.ntmps96
  go_upto_region 1 with fail
  obtain ⟨W, hW⟩ : ∃ W, W = w.alloc (.cells #[.int .i64 a, .int .i64 b, .slice A n cc] 40) := ⟨_, rfl⟩
  rw [← hW] at H ⊢
  obtain ⟨N, hN⟩ : ∃ N, N = w.heap.size := ⟨_, rfl⟩
  rw [← hN] at H ⊢
  have HNN := Lib.hid hN
  clear hW hN
  obtain ⟨⟨a0, a1, a2⟩, _⟩ := blk3 (H.blk 0 _ _ _ rfl)
  go_wp2_with fail
  refine (HCR.out _ H.below).mono ?_
  rintro e w2 ⟨M, rfl, hM1, hM2, hb⟩
  have H2 := H.call hb
  clear a0 a1 a2 hb H
  obtain ⟨N4, hN4⟩ : ∃ p, w2.heap.size = p := ⟨_, rfl⟩
  have H3 := H2.new #[.map (some M)] 258 hN4
  have hM3 := hM2.below ((Below.refl w2.heap.size w2).alloc (Nat.le_refl _) (.cells #[.map (some M)] 258)) hM2.lt
  go_upto_region 2 with fail
  obtain ⟨W3, hW3⟩ : ∃ W, W = w2.alloc (.cells #[.map (some M)] 258) := ⟨_, rfl⟩
  rw [← hW3] at H3 hM3 ⊢
  clear hW3 hN4 H2 hM2
  obtain ⟨⟨a0, a1, a2⟩, _⟩ := blk3 (H3.blk 0 _ _ _ rfl)
  go_wp2_with fail
  refine (HCOUNT.out _).mono ?_
  rintro e w4 ⟨rfl, hb⟩
  have H4 := H3.call hb
  have hM4 := hM3.below hb hM3.lt
  clear a0 a1 a2 hb H3 hM3
  have j3 : (k : Int).toNat = k := Int.toNat_natCast k
  go_upto_region 3 with fail
  obtain ⟨go, hgo⟩ : ∃ p, w4.heap.size = p := ⟨_, rfl⟩
  obtain ⟨N5, hN5⟩ : ∃ p, go + 1 = p := ⟨_, rfl⟩
  have H5 := H4.new (mvsV (List.replicate k mv0)).toArray 42 hgo
  have hM5 := hM4.below ((Below.refl w4.heap.size w4).alloc (Nat.le_refl _) (.cells (mvsV (List.replicate k mv0)).toArray 42)) hM4.lt
  have hz5 : (w4.alloc (.cells (mvsV (List.replicate k mv0)).toArray 42)).heap.size = N5 := by rw [← hN5, ← hgo]; simp
  rw [hgo, hN5]
  obtain ⟨W5, hW5⟩ : ∃ W, W = w4.alloc (.cells (mvsV (List.replicate k mv0)).toArray 42) := ⟨_, rfl⟩
  rw [← hW5] at H5 hM5 hz5 ⊢
  have H6 := H5.new #[.slice (some ⟨go, 0, none⟩) k k] 131 hz5
  have hM6 := hM5.below ((Below.refl W5.heap.size W5).alloc (Nat.le_refl _) (.cells #[.slice (some ⟨go, 0, none⟩) k k] 131)) hM5.lt
  obtain ⟨W6, hW6⟩ : ∃ W, W = W5.alloc (.cells #[.slice (some ⟨go, 0, none⟩) k k] 131) := ⟨_, rfl⟩
  rw [← hW6] at H6 hM6 ⊢
  have c5 := cell_of_row W6 N5 0 _ _ (0, 0) (H6.blk 3 _ _ _ rfl)
  simp only [List.getElem?_toArray, List.getElem?_cons_zero] at c5
  clear hW6 hW5 hz5 hgo hN5 H4 H5 hM4 hM5 mk1
  obtain ⟨gk, hgk⟩ : ∃ p, W6.heap.size = p := ⟨_, rfl⟩
  have H7 := H6.new (boolsV (List.replicate k false)).toArray 4 hgk
  have hM7 := hM6.below ((Below.refl W6.heap.size W6).alloc (Nat.le_refl _) (.cells (boolsV (List.replicate k false)).toArray 4)) hM6.lt
  go_upto_region 4 with fail
  obtain ⟨W7, hW7⟩ : ∃ W, W = W6.alloc (.cells (boolsV (List.replicate k false)).toArray 4) := ⟨_, rfl⟩
  rw [← hW7] at H7 hM7 ⊢
  have hb7 := H7.blk 4 _ _ _ rfl
  have c7 : W7.cell? ⟨gk, 0, none⟩ = some (.bool false) := by
    rw [cell_of_row W7 gk 0 _ _ (0, 0) hb7]
    obtain ⟨j, rfl⟩ : ∃ j, k = j + 1 := ⟨k - 1, by omega⟩
    rfl
  have z7 : W7.frozen? ⟨gk, 0, none⟩ = false := by simp [World.frozen?, hb7]
  have q7 : (0 : Int) < k := by omega
  have H8 := H7.set 4 0 rfl (.bool true)
  have hM8 := hM7.setCell ⟨gk, 0, none⟩ (.bool true)
  rw [bools_set] at H8
  have ek : (List.replicate k false).set 0 true = true :: List.replicate (k - 1) false := by
    obtain ⟨j, rfl⟩ : ∃ j, k = j + 1 := ⟨k - 1, by omega⟩
    rfl
  rw [ek] at H8
  have H9 : Bx w (relL a b A n cc k M N N4 N5 go gk ⟨List.replicate k mv0, true :: List.replicate (k - 1) false, [0]⟩) (W7.setCell ⟨gk, 0, none⟩ (.bool true)) := H8
  clear H8
  clear hW7 H6 hM6 c5 ek hb7 hM7 mk2 hgk
  go_upto_region 6 with fail
  obtain ⟨W8, hW8⟩ : ∃ W, W = W7.setCell ⟨gk, 0, none⟩ (.bool true) := ⟨_, rfl⟩
  rw [← hW8] at H9 hM8 ⊢
  clear hW8
  have H10 := H9.other (.cells #[.int .i64 0] 3)
  have hM10 := hM8.below ((Below.refl W8.heap.size W8).alloc (Nat.le_refl _) (.cells #[.int .i64 0] 3)) hM8.lt
  have hq10 : QAt (W8.alloc (.cells #[.int .i64 0] 3)) w.heap.size [N, N4, N5, go, gk] (.slice (some ⟨W8.heap.size, 0, none⟩) 1 1) [0] :=
    ⟨W8.heap.size, 0, 1, #[.int .i64 0], rfl, H9.below.size, fun x hx => by
      simp at hx
      rcases hx with rfl | rfl | rfl | rfl | rfl
      · exact Nat.ne_of_lt (H9.lt 0 rfl)
      · exact Nat.ne_of_lt (H9.lt 1 rfl)
      · exact Nat.ne_of_lt (H9.lt 3 rfl)
      · exact Nat.ne_of_lt (H9.lt 2 rfl)
      · exact Nat.ne_of_lt (H9.lt 4 rfl), heap_alloc_new W8 _, by simp, by simp, fun i hi => by
      have : i = 0 := by simpa using hi
      subst this; rfl⟩
  have hst : RelAt w a b l A n cc k M N N4 N5 go gk (.slice (some ⟨W8.heap.size, 0, none⟩) 1 1) (W8.alloc (.cells #[.int .i64 0] 3)) ⟨List.replicate k mv0, true :: List.replicate (k - 1) false, [0]⟩ :=
    ⟨H10, hM10, hq10, ⟨by simp, by simp; omega, fun i hi => by simp at hi; omega, fun m hm => by rw [List.eq_of_mem_replicate hm]; exact (by decide : 0 ≤ 255)⟩⟩
  have hmm : (⟨List.replicate k mv0, true :: List.replicate (k - 1) false, [0]⟩ : RS).mm ≤ k + 1 := by simp [RS.mm, unk]
  clear H9 hM8 H10 hM10 hq10
  obtain ⟨g8, hg8⟩ : ∃ p, W8.heap.size = p := ⟨_, rfl⟩
  rw [hg8] at hst
  go_upto_region 7 with fail
  clear HCR HCOUNT c7 z7 q7 hg8 j3
  have HOM := Lib.hid hmm
  have HST := Lib.hid hst
  clear hmm hst H7
  go_loopw [8] (fun v wr => ∃ (fuel : Nat) (s : RS), RelAt w a b l A n cc k M N N4 N5 go gk v wr s ∧ s.mm ≤ fuel ∧ fuel ≤ k + 1 ∧ Hid (relGo a b l fuel s = F)) (fun v wr => falses wr gk + lenV v)
  case atStart => exact ⟨k + 1, _, HST.out, HOM.out, Nat.le_refl _, HF⟩
  case round =>
    obtain ⟨fuel, s, hs, hmm, hfu, HG⟩ := hrel
    obtain ⟨out, kn, wt⟩ := s
    have hmq := hs.mm
    cases wt with
    | nil =>
      obtain ⟨g, o, c, cw, rfl, _⟩ := hs.q
      have hG : some out = F := by
        have := HG.out
        cases fuel with
        | zero => exact this
        | succ f => exact this
      have e5 := cell_of_row wr N5 0 _ _ (0, 0) (hs.bx.blk 3 _ _ _ rfl)
      simp only [List.getElem?_toArray, List.getElem?_cons_zero] at e5
      have HE := Lib.hid hs
      have hG' := Lib.hid hG
      clear hs hG hmq hmm HG
      go_wp2_with fail
      go_ret2
      rw [← hG'.out]
      have hk : out.length = k := HE.out.ok.out
      exact ⟨HE.out.bx.below, go, by rw [hk]; rfl, HE.out.bx.lo 2 _ _ _ rfl, HE.out.bx.blk 2 _ _ _ rfl⟩
    | cons x r =>
      obtain ⟨g, o, c, rfl, hc, hcell, hq'⟩ := hs.q.head
      have hx : x < k := hs.ok.wait x (by simp)
      obtain ⟨f, rfl⟩ : ∃ f, fuel = f + 1 := ⟨fuel - 1, by have : (⟨out, kn, x :: r⟩ : RS).mm = unk kn + (r.length + 1) := rfl; omega⟩
      obtain ⟨B, hB⟩ : ∃ B, unk kn + r.length = B := ⟨_, rfl⟩
      have hB1 : (⟨out, kn, x :: r⟩ : RS).mm = B + 1 := by rw [← hB]; rfl
      have hB2 : (⟨out, kn, r⟩ : RS).mm = B := hB
      have HG1 : Hid ((relRem a b l x (3 - 0) ⟨out, kn, r⟩).bind (relGo a b l f) = F) := Lib.hid (by rw [Nat.sub_zero, ← relStep_rem]; exact HG.out)
      have HS2 := Lib.hid (fun sv (hv : QAt wr w.heap.size [N, N4, N5, go, gk] sv r) => (⟨hs.bx, hs.mp, hv, ⟨hs.ok.out, hs.ok.known, fun i hi => hs.ok.wait i (List.mem_cons_of_mem _ hi), hs.ok.t⟩⟩ : RelAt w a b l A n cc k M N N4 N5 go gk sv wr ⟨out, kn, r⟩))
      have HB := Lib.hid (⟨hB1, hB2, hmm, hmq⟩ : _ ∧ _ ∧ _ ∧ _)
      have p1 : (0 : Int) < (r.length : Int) + 1 := by omega
      have p2 : (1 : Int) ≤ (r.length : Int) + 1 := by omega
      have hqA : c = 1 → QAt wr w.heap.size [N, N4, N5, go, gk] (.slice (some ⟨g, o, none⟩) r.length 0) r := fun hc1 => by
        have hr0 : r = [] := List.length_eq_zero_iff.1 (by omega)
        subst hr0
        obtain ⟨g', o', c', cw, he, h2, h3, h4, h5, h6, h7⟩ := hq'
        injection he with he1 he2 he3
        injection he1 with he1
        injection he1 with he1 _ _
        subst he1
        exact ⟨g, o, 0, cw, rfl, h2, h3, h4, Nat.le_refl _, by
          have := (Array.getElem?_eq_some_iff.1 (cell_size h4 hcell)).1
          omega, fun i hi => absurd hi (by simp)⟩
      have HQA := Lib.hid hqA
      have HQB := Lib.hid hq'
      clear hs HG hq' hB1 hB2 hmm hmq hqA
      go_upto_region 9 with fail
      go_cut [8] from 27 to 34 (fun s8 wx => wr = wx ∧ QAt wr w.heap.size [N, N4, N5, go, gk] s8 r)
      case first =>
        go_wp2_with fail
        all_goals go_meet
        all_goals refine ⟨rfl, ?_⟩
        · exact HQA.out (by assumption)
        · exact HQB.out
      case rest =>
      obtain ⟨rfl, hv⟩ := hcut
      have HS3 := Lib.hid (HS2.out _ hv)
      clear HS2 hv HQA HQB hcell p1 p2
      go_wp2_with fail
      go_loopw [35, 8] (fun i v wr => ∃ (e : Nat) (s : RS), e ≤ 3 ∧ i = .int .u8 e ∧ RelAt w a b l A n cc k M N N4 N5 go gk v wr s ∧ s.mm ≤ B ∧ Hid ((relRem a b l x (3 - e) s).bind (relGo a b l f) = F)) (fun i _ _ => 3 - (intOf i).toNat)
      case atStart => exact ⟨0, _, by omega, rfl, HS3.out, Nat.le_of_eq HB.out.2.1, HG1⟩
      case round =>
        obtain ⟨e, s, he, rfl, hs, hsB, HG⟩ := hrel
        by_cases h3 : e < 3
        · have hrem : relRem a b l x (3 - e) s = (relE a b l x e s).bind (relRem a b l x (3 - (e + 1))) := by
            have : e = 0 ∨ e = 1 ∨ e = 2 := by omega
            rcases this with rfl | rfl | rfl
            · rfl
            · rfl
            · rfl
          have hG := HG.out
          rw [hrem] at hG
          clear hrem HG
          obtain ⟨⟨a0, a1, a2⟩, _⟩ := blk3 (hs.bx.blk 0 _ _ _ rfl)
          have HS := Lib.hid hs
          have HSB := Lib.hid hsB
          have q1 : (e : Int) < 3 := by omega
          have q2 : (e : Int) ≤ 255 := by omega
          have hnb := HNB.out x e
          have hnbl := nbI_lt (i := (x : Int)) (e := (e : Int)) HP.out.sheet
          have hbad := relE_bad (a := a) (b := b) (l := l) (id := x) (e := e) (s := s)
          have hkn := fun y => relE_known (a := a) (b := b) (l := l) (id := x) (e := e) (y := y) (s := s)
          have hnew := fun y => relE_new (a := a) (b := b) (l := l) (id := x) (e := e) (y := y) (s := s)
          obtain ⟨⟨nn, er⟩, hnz⟩ : ∃ z, nbI a b x e = z := ⟨_, rfl⟩
          rw [hnz] at hnb hnbl hbad hkn hnew
          have HRE := Lib.hid (⟨hbad, hkn, hnew⟩ : _ ∧ _ ∧ _)
          have HNX := Lib.hid hnb
          have HG := Lib.hid hG
          clear hs hsB hG hnb hnz hbad hkn hnew
          go_wp2_with fail
          refine (HNX.out _ (by omega) (HQ.out.below HS.out.bx.below).qt).mono ?_
          rintro en w2 ⟨rfl, hb2⟩
          have HS2 := Lib.hid (HS.out.call hb2)
          clear HNX HS hb2
          by_cases her : er = 0
          · subst her
            obtain ⟨y, rfl⟩ : ∃ y : Nat, (y : Int) = nn := ⟨nn.toNat, Int.toNat_of_nonneg (hnbl rfl).1⟩
            have hyk : y < k := by have h1 := (hnbl rfl).2; have h2 := HK1.out; omega
            have hkn := HRE.out.2.1 y rfl
            have hnew := HRE.out.2.2 y rfl
            have HAC := Lib.hid fun (w' : World) (h : RelAt w a b l A n cc k M N N4 N5 go gk u8 w' s) => across_any a b l s.out x e N N4 N5 M go k w' HP.out (HQ.out.below h.bx.below) (HT.out.below h.bx.below) h.ok.out.symm hx (by omega) h.ok.t (blk3 (h.bx.blk 0 _ _ _ rfl)).1.1 (blk3 (h.bx.blk 0 _ _ _ rfl)).1.2.1 (cell_of_row w' N4 0 _ _ (0, 0) (h.bx.blk 1 _ _ _ rfl)) h.mp (cell_of_row w' N5 0 _ _ (0, 0) (h.bx.blk 3 _ _ _ rfl)) (h.bx.range 2 rfl)
            have hmt := across_t a b l s.out x e HS2.out.ok.t
            obtain ⟨⟨mt, mx, my⟩, hm⟩ : ∃ z, acrossF a b l s.out x e = z := ⟨_, rfl⟩
            rw [hm] at hkn hnew HAC hmt
            have HR2 := Lib.hid (⟨hkn, hnew⟩ : _ ∧ _)
            clear hm hnbl hkn hnew HRE
            unfold intV
            dsimp only
            clear a0 a1 a2
            go_wp2_with fail
            refine (HAC.out _ HS2.out).mono ?_
            rintro en3 w3 ⟨rfl, hb3⟩
            have hs4 := (HS2.out.call hb3).call ((Below.refl w3.heap.size w3).alloc (Nat.le_refl _) (.cells #[.int .u8 mt, .int .i64 mx, .int .i64 my] 42))
            have hP := heap_alloc_new w3 (.cells #[.int .u8 mt, .int .i64 mx, .int .i64 my] 42)
            have hqP := ((HS2.out.call hb3).q.avoid (Nat.le_refl w3.heap.size)).below ((Below.refl w3.heap.size w3).alloc (Nat.le_refl _) (.cells #[.int .u8 mt, .int .i64 mx, .int .i64 my] 42))
            have hPg : go ≠ w3.heap.size := Nat.ne_of_lt ((HS2.out.call hb3).bx.lt 2 rfl)
            have hPk : gk ≠ w3.heap.size := Nat.ne_of_lt ((HS2.out.call hb3).bx.lt 4 rfl)
            clear HAC HS2 hb3
            unfold Mv.v
            go_upto_region 16 with fail
            obtain ⟨P, hPP⟩ : ∃ p, w3.heap.size = p := ⟨_, rfl⟩
            obtain ⟨W4, hW4⟩ : ∃ W, W = w3.alloc (.cells #[.int .u8 mt, .int .i64 mx, .int .i64 my] 42) := ⟨_, rfl⟩
            rw [hPP] at hP hqP hPg hPk ⊢
            rw [← hW4] at hs4 hP hqP ⊢
            clear hPP hW4
            have hyo : y < s.out.length := by rw [hs4.ok.out]; exact hyk
            obtain ⟨o0, o1, o2⟩ := mvs_at (hs4.bx.range 2 rfl) y hyo
            obtain ⟨⟨d0, d1, d2⟩, dz⟩ := blk3 hP
            have hgk : W4.cell? ⟨gk, y, none⟩ = some (.bool (s.known.getD y false)) := by
              have hyn : y < s.known.length := by rw [hs4.ok.known]; exact hyk
              rw [cell_of_row W4 gk y _ _ (0, 0) (hs4.bx.blk 4 _ _ _ rfl)]
              simp [boolsV, List.getD, hyn]
            have e5 := cell_of_row W4 N5 0 _ _ (0, 0) (hs4.bx.blk 3 _ _ _ rfl)
            simp only [List.getElem?_toArray, List.getElem?_cons_zero] at e5
            obtain ⟨kb, hkb⟩ : ∃ b, s.known.getD y false = b := ⟨_, rfl⟩
            rw [hkb] at hgk
            have y1 : (y : Int) < (k : Int) := by omega
            cases kb with
            | true =>
              have hR := HR2.out.1 hkb
              have hgd : s.out.getD y mv0 = s.out[y] := by simp [List.getD, hyo]
              rw [hgd] at hR
              obtain ⟨⟨ot, ox, oy⟩, ho⟩ : ∃ z, s.out[y] = z := ⟨_, rfl⟩
              rw [ho] at hR o0 o1 o2
              have HS4 := Lib.hid hs4
              clear hs4 hP dz HR2 hkb ho hgd hmt hqP hPg hPk
              go_upto_region 19 with fail
              by_cases hq : (⟨ot, ox, oy⟩ : Mv) = ⟨mt, mx, my⟩
              · injection hq with hq1 hq2 hq3
                subst hq1 hq2 hq3
                rw [if_pos rfl] at hR
                have HG2 : Hid ((relRem a b l x (3 - (e + 1)) s).bind (relGo a b l f) = F) := Lib.hid (by
                  have h := HG.out
                  rw [hR] at h
                  exact h)
                clear hR HG
                go_quiet (fail)
                have hs5 := HS4.out.call (below_drewN (Below.refl W4.heap.size W4) nq)
                obtain ⟨W9, hW9⟩ : ∃ W, W = W4.drewN nq := ⟨_, rfl⟩
                rw [← hW9] at hs5 ⊢
                have HS5 := Lib.hid hs5
                clear hW9 d0 d1 d2 o0 o1 o2 hgk e5 HS4 hs5
                go_wp2_with fail
                exact ⟨⟨e + 1, s, by omega, by go_num, HS5.out, HSB.out, HG2⟩, by simp [intOf]; omega⟩
              · have hcmp : ∀ (p q : Result Next), (if ((ot : Nat) : Int) = (mt : Int) then if ox = mx then if oy = my then p else q else q else q) = q := fun p q => by
                  split
                  · rename_i h1
                    split
                    · rename_i h2
                      split
                      · rename_i h3
                        exact absurd (by rw [Int.ofNat.inj h1, h2, h3]) hq
                      · rfl
                    · rfl
                  · rfl
                rw [if_neg hq] at hR
                have hF : none = F := by
                  have h := HG.out
                  rw [hR] at h
                  exact h
                clear hq hR HG
                go_quiet (fail)
                have hs5 := HS4.out.call (below_drewN (Below.refl W4.heap.size W4) nq)
                obtain ⟨W9, hW9⟩ : ∃ W, W = W4.drewN nq := ⟨_, rfl⟩
                rw [← hW9] at hs5 ⊢
                have HS5 := Lib.hid hs5
                clear hW9 d0 d1 d2 o0 o1 o2 hgk e5 HS4 hs5 hcmp
                go_wp2_with fail
                go_ret2
                rw [← hF]
                exact ⟨HS5.out.bx.below, rfl⟩
            | false =>
              have hR := HR2.out.2 hkb hyo
              have HG2 : Hid ((relRem a b l x (3 - (e + 1)) ⟨s.out.set y ⟨mt, mx, my⟩, s.known.set y true, s.wait ++ [y]⟩).bind (relGo a b l f) = F) := Lib.hid (by
                have h := HG.out
                rw [hR] at h
                exact h)
              clear hR HR2 HG
              have hy3 : y * 3 + 3 ≤ (mvsV s.out).length := by rw [mvsV_len]; omega
              have th := hs4.bx.there 2 rfl
              simp only [List.size_toArray] at th
              have z0 := (th (y * 3) (by omega)).2
              have z1 := (th (y * 3 + 1) (by omega)).2
              have z2 := (th (y * 3 + 2) (by omega)).2
              have zk := (hs4.bx.there 4 rfl y (by simp [boolsV]; rw [hs4.ok.known]; exact hyk)).2
              simp only [Nat.zero_add] at z0 z1 z2 zk
              have HS4 := Lib.hid hs4
              have HKB := Lib.hid hkb
              have ngk : go ≠ gk := hs4.bx.ne 2 4 (by decide) rfl rfl
              have hmt' : (mt : Int) ≤ 255 := by omega
              clear hs4 dz hkb th hy3
              have HQP := Lib.hid (⟨hqP, hP⟩ : _ ∧ _)
              clear hqP hP
              go_upto_region 18 with fail
              have hs5 := HS4.out.put y ⟨mt, mx, my⟩ hmt
              dsimp only at hs5
              have hq5 := (((HQP.out.1.set (b := go) (by simp) (y * 3) (.int .u8 mt)).set (b := go) (by simp) (y * 3 + 1) (.int .i64 mx)).set (b := go) (by simp) (y * 3 + 2) (.int .i64 my)).set (b := gk) (by simp) y (.bool true)
              have hp5 := (Below.heap_setCell _ ⟨gk, y, none⟩ (.bool true) P (Ne.symm hPk)).trans ((Below.heap_setCell _ ⟨go, y * 3 + 2, none⟩ (.int .i64 my) P (Ne.symm hPg)).trans ((Below.heap_setCell _ ⟨go, y * 3 + 1, none⟩ (.int .i64 mx) P (Ne.symm hPg)).trans ((Below.heap_setCell W4 ⟨go, y * 3, none⟩ (.int .u8 mt) P (Ne.symm hPg)).trans HQP.out.2)))
              obtain ⟨W5, hW5⟩ : ∃ W, W = (((W4.setCell ⟨go, y * 3, none⟩ (.int .u8 mt)).setCell ⟨go, y * 3 + 1, none⟩ (.int .i64 mx)).setCell ⟨go, y * 3 + 2, none⟩ (.int .i64 my)).setCell ⟨gk, y, none⟩ (.bool true) := ⟨_, rfl⟩
              rw [← hW5] at hs5 hq5 hp5 ⊢
              clear hW5 HQP hPg hPk d0 d1 d2 o0 o1 o2 hgk e5 z0 z1 z2 zk
              have hs6 := hs5.call ((Below.refl W5.heap.size W5).alloc (Nat.le_refl _) (.cells #[.int .i64 y] 3))
              have hy6 : (W5.alloc (.cells #[.int .i64 y] 3)).cell? ⟨W5.heap.size, 0, none⟩ = some (.int .i64 (y : Nat)) := by
                rw [cell_of_row _ _ 0 _ _ (0, 0) (heap_alloc_new W5 _)]; rfl
              have hun := unk_set s.known y (by rw [HS4.out.ok.known]; exact hyk) HKB.out
              have hsb := HSB.out
              have hmq : s.mm = unk s.known + s.wait.length := rfl
              have hB1 := HB.out
              obtain ⟨v', w', hrun, hq', hw'⟩ := (hq5.below ((Below.refl W5.heap.size W5).alloc (Nat.le_refl _) (.cells #[.int .i64 y] 3))).push (by omega) hs6.bx.below.size (fun x hx => by
                simp at hx
                rcases hx with rfl | rfl | rfl | rfl | rfl | rfl
                · exact hs6.bx.lt 0 rfl
                · exact hs6.bx.lt 1 rfl
                · exact hs6.bx.lt 3 rfl
                · exact hs6.bx.lt 2 rfl
                · exact hs6.bx.lt 4 rfl
                · exact Nat.lt_of_lt_of_le (Array.getElem?_eq_some_iff.1 hp5).1 (by simp)) y W5.heap.size 1 hy6
              have hs7 := hs6.push y hyk (hq'.sub (by simp)) (hw'.imp (fun ⟨g, j, h1, h2, h3⟩ => ⟨g, j, h1, fun x hx => h2 x (List.mem_append_left _ hx), h3⟩) id)
              have hp6 := kept ((Below.refl W5.heap.size W5).alloc (Nat.le_refl _) (.cells #[.int .i64 y] 3)) hp5 (Array.getElem?_eq_some_iff.1 hp5).1
              have hp7 : w'.heap[P]? = some (.cells #[.int .u8 mt, .int .i64 mx, .int .i64 my] 42 (0, 0)) := by
                rcases hw' with ⟨g, j, _, h2, rfl⟩ | ⟨o, rfl⟩
                · exact (Below.heap_setCell _ ⟨g, j, none⟩ (.int .i64 (y : Nat)) P (h2 P (by simp))).trans hp6
                · exact kept ((Below.refl _ (W5.alloc (.cells #[.int .i64 y] 3)).drew).alloc (Nat.le_refl _) o) hp6 (Array.getElem?_eq_some_iff.1 hp6).1
              obtain ⟨⟨d0, d1, d2⟩, dz⟩ := blk3 hp7
              have hyo' : y < (s.out.set y ⟨mt, mx, my⟩).length := by simpa using hyo
              obtain ⟨o0, o1, o2⟩ := mvs_at (hs7.bx.range 2 rfl) y hyo'
              simp only [List.getElem_set_self] at o0 o1 o2
              have e5 := cell_of_row w' N5 0 _ _ (0, 0) (hs7.bx.blk 3 _ _ _ rfl)
              simp only [List.getElem?_toArray, List.getElem?_cons_zero] at e5
              have HS7 := Lib.hid hs7
              have HRUN := Lib.hid hrun
              have HMM : Hid ((⟨s.out.set y ⟨mt, mx, my⟩, s.known.set y true, s.wait ++ [y]⟩ : RS).mm ≤ B) := Lib.hid (by
                have e1 : (⟨s.out.set y ⟨mt, mx, my⟩, s.known.set y true, s.wait ++ [y]⟩ : RS).mm = unk (s.known.set y true) + (s.wait ++ [y]).length := rfl
                rw [e1, List.length_append, List.length_singleton]
                omega)
              clear hs5 hs6 hy6 hq' hw' hrun hun hmq hB1 hsb HS4 hs7 hp6 hp7 hp5 hq5 dz hyo'
              go_wp2_with (at_builtin; refine Lib.wpList_append_run _ rfl _ _ _ _ rfl _ _ rfl rfl _ _ HRUN.out ?_)
              go_quiet (fail)
              have hs8 := HS7.out.call (below_drewN (Below.refl w'.heap.size w') nq)
              obtain ⟨W9, hW9⟩ : ∃ W, W = w'.drewN nq := ⟨_, rfl⟩
              rw [← hW9] at hs8 ⊢
              have HS8 := Lib.hid hs8
              clear hW9 d0 d1 d2 o0 o1 o2 e5 HS7 hs8
              go_wp2_with fail
              exact ⟨⟨e + 1, _, by omega, by go_num, HS8.out, HMM.out, HG2⟩, by simp [intOf]; omega⟩
          · have HG2 : Hid ((relRem a b l x (3 - (e + 1)) s).bind (relGo a b l f) = F) := Lib.hid (by
              have h := HG.out
              rw [HRE.out.1 her] at h
              exact h)
            unfold intV
            dsimp only
            clear HG HRE hnbl a0 a1 a2
            go_wp2_with fail
            exact ⟨⟨e + 1, s, by omega, by go_num, HS2.out, HSB.out, HG2⟩, by simp [intOf]; omega⟩
        · have : e = 3 := by omega
          subst this
          have HE := Lib.hid hs
          have HSB := Lib.hid hsB
          clear hs hsB
          go_wp2_with fail
          have h1 := HE.out.mm
          have h2 := HSB.out
          have h3 := HB.out
          exact ⟨⟨f, s, HE.out, by omega, by omega, HG⟩, by omega⟩
end Go.Proofs.YtjdmkgnlakonbaaGreatDoor
