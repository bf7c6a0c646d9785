/- crimplaw42.JournalsMerge returns true. -/
import Derived.Test.YtdcgminjamofmaaDoorMrg
namespace Go.Proofs.YtdcgminjamofmaaDoor
open Go.RowKit

theorem ofL_ge (now : Int) (l : List RS) : ∀ r ∈ ofL now l, now ≤ r.t := by
  induction l generalizing now with
  | nil => intro r hr; cases hr
  | cons x l ih =>
    have hs := sq_bd x
    intro r hr
    simp only [ofL, List.mem_cons] at hr
    rcases hr with rfl | hr
    · show now ≤ now + sq x; omega
    · have := ih (now + sq x) r hr; omega
theorem ofL_asc (now : Int) (l : List RS) : AscT Rec.t (ofL now l) := by
  induction l generalizing now with
  | nil => exact List.Pairwise.nil
  | cons x l ih =>
    simp only [ofL]
    exact List.pairwise_cons.2 ⟨fun y hy => ofL_ge (now + sq x) l y hy, ih _⟩
theorem ofS_asc (l : List RS) : AscT Rec.t (ofS l) := ofL_asc 0 _

/-- Two neighbours exchanged: in order exactly if they were at the same time. -/
theorem swap_asc {L : List Rec} {i : Nat} {a b : Rec} (hi : i + 1 < L.length) (ha : L[i] = a) (hb : L[i + 1] = b) (h : AscT Rec.t L) : AscT Rec.t ((L.set i b).set (i + 1) a) ↔ b.t ≤ a.t := by
  obtain ⟨e1, e2⟩ := split_two hi ha hb
  rw [e2]
  rw [e1] at h
  obtain ⟨h1, h2, h3⟩ := asc_app.1 h
  obtain ⟨h4, h5⟩ := List.pairwise_cons.1 h2
  obtain ⟨h6, h7⟩ := List.pairwise_cons.1 h5
  constructor
  · intro h'
    obtain ⟨_, h8, _⟩ := asc_app.1 h'
    exact (List.pairwise_cons.1 h8).1 a (by simp)
  · intro hba
    refine asc_app.2 ⟨h1, List.pairwise_cons.2 ⟨fun y hy => ?_, List.pairwise_cons.2 ⟨fun y hy => ?_, h7⟩⟩, fun x hx y hy => ?_⟩
    · rcases List.mem_cons.1 hy with rfl | hy
      · exact hba
      · exact h6 y hy
    · exact h4 y (by simp [hy])
    · refine h3 x hx y ?_
      simp only [List.mem_cons] at hy ⊢
      rcases hy with h | h | h
      · exact .inr (.inl h)
      · exact .inl h
      · exact .inr (.inr h)
theorem swap_mem {L : List Rec} {i : Nat} {a b : Rec} (hi : i + 1 < L.length) (ha : L[i] = a) (hb : L[i + 1] = b) {r : Rec} (h : r ∈ (L.set i b).set (i + 1) a) : r ∈ L := by
  rcases List.mem_or_eq_of_mem_set h with h | rfl
  · rcases List.mem_or_eq_of_mem_set h with h | rfl
    · exact h
    · rw [← hb]; exact List.getElem_mem _
  · rw [← ha]; exact List.getElem_mem _

/-- What the second list is behind the exchange. -/
def Swapped (n : Nat) (sd : Bool) (L : List Rec) : Prop :=
  L.length = n ∧ (∀ r ∈ L, r.fit ∧ r.ok = true) ∧ (sd = true ↔ AscT Rec.t L)

theorem rd_to_own_form {w : World} {base : Nat} {e : TypeId} {sz n : Nat} {v : Value} {xs : List Value} (h : w.ownsRow base e sz v n xs) : ∃ A c, v = .slice A n c ∧ (A = none → n = 0) := by
  rcases h.2 with ⟨rfl, rfl⟩ | ⟨g, cap, cur, rfl, _⟩
  · exact ⟨none, 0, rfl, fun _ => rfl⟩
  · exact ⟨some ⟨g, 0, none⟩, cap, rfl, fun h => by cases h⟩

set_option maxHeartbeats 4000000 in
set_option maxRecDepth 100000 in
theorem mergelaw_any (X Y : Option Addr) (lx ly : List RS) (nx ny cx cy : Nat) (p : Int) (w : World) (s : Nat → Addr) (hS : Sent w s) (hnx : nx = lx.length) (hny : ny = ly.length) (hx : Rd w X 4 nx (rss lx)) (hy : Rd w Y 4 ny (rss ly)) (hfx : ∀ r ∈ lx, r.fit) (hfy : ∀ r ∈ ly, r.fit) (hlx : nx ≤ 9223372036854775807) (hly : ny ≤ 9223372036854775807) (hp : 0 ≤ p ∧ p ≤ 255) :
    Calls Tryd.prog 8 #[.slice X nx cx, .slice Y ny cy, .int .u8 p] w (RetBelow (.bool true) w) := by
  obtain ⟨i0, hi0, hz0, hz1, hz2⟩ := info_parts rec_info
  have HALa := Lib.hid (ofS_all lx hfx)
  have HALb := Lib.hid (ofS_all ly hfy)
  have hla := ofS_len lx
  have hlb := ofS_len ly
  have HASa := Lib.hid (ofS_asc lx)
  have HASb := Lib.hid (ofS_asc ly)
  have HOFa := Lib.hid (of_any X lx nx cx w hnx hx hfx hlx)
  have HOFb := Lib.hid (fun (w1 : World) (hb : Below w.heap.size w w1) => of_any Y ly ny cy w1 hny (hy.below hb) hfy hly)
  generalize ofS lx = a at *
  generalize ofS ly = b at *
  clear hnx hny hx hy hfx hfy hlx hly
  go_enter Tryd.func8, Tryd.ntmps8
  go_wp2_with fail
  refine HOFa.out.mono ?_
  rintro e w1 ⟨va, rfl, howna, hb1⟩
  obtain ⟨A1, c1, rfl, hAn⟩ := rd_to_own_form howna
  have HRa := Lib.hid (Rd.of_own howna)
  have HAn := Lib.hid hAn
  clear HOFa howna hAn
  go_wp2_with fail
  refine (HOFb.out w1 hb1).mono ?_
  rintro e w2 ⟨vb, rfl, hownb, hb2⟩
  obtain ⟨B1, d1, rfl, hBn⟩ := rd_to_own_form hownb
  have hbw2 : Below w.heap.size w w2 := hb1.trans (hb2.mono hb1.size)
  have HOb := Lib.hid hownb
  have HBn := Lib.hid hBn
  clear HOFb hownb hBn
  obtain ⟨sw, hsw⟩ : ∃ sw, sw = decide (0 < p ∧ 1 < b.length) := ⟨_, rfl⟩
  have HSW := Lib.hid hsw
  clear hsw
  go_upto_region 3 with fail
  go_cut [31] from 25 to 31 (fun sb wx => sb = .bool sw ∧ w2 = wx)
  case first =>
    by_cases k1 : 0 < p
    · by_cases k2 : 1 < b.length
      · have k2' : (1 : Int) < (b.length : Int) := by omega
        go_wp2_with fail
        go_meet
        exact ⟨by rw [HSW.out, decide_eq_true ⟨k1, k2⟩], rfl⟩
      · have k2' : ¬ (1 : Int) < (b.length : Int) := by omega
        go_wp2_with fail
        go_meet
        exact ⟨by rw [HSW.out, decide_eq_false (fun h => k2 h.2)], rfl⟩
    · go_wp2_with fail
      go_meet
      exact ⟨by rw [HSW.out, decide_eq_false (fun h => by have := h.1; omega)], rfl⟩
  case rest =>
    obtain ⟨rfl, rfl⟩ := hcut
    go_upto_if 31 with fail
    go_cut [9, 10] from 32 to 65 (fun s9 _ wx => ∃ (sd : Bool) (b' : List Rec), s9 = .bool sd ∧ Swapped b.length sd b' ∧ wx.ownsRow w1.heap.size 37 4 (.slice B1 b.length d1) b.length (recs b') ∧ Below w1.heap.size w1 wx)
    case first =>
      cases sw
      · go_wp2_with fail
        go_meet
        exact ⟨true, b, rfl, ⟨rfl, HALb.out, by simp [HASb.out]⟩, HOb.out, hb2⟩
      · obtain ⟨k1, k2⟩ := of_decide_eq_true HSW.out.symm
        obtain ⟨g, cap, hv, hg, hgl⟩ := HOb.out.form (by omega)
        obtain ⟨rfl, rfl⟩ : B1 = some ⟨g, 0, none⟩ ∧ d1 = cap := by simpa using hv
        obtain ⟨i, hi⟩ : ∃ i : Nat, (p % ((b.length : Int) - 1)) = (i : Int) := ⟨(p % ((b.length : Int) - 1)).toNat, by have := Int.emod_nonneg p (show ((b.length : Int) - 1) ≠ 0 by omega); omega⟩
        have hil : i + 1 < b.length := by have := Int.emod_lt_of_pos p (show (0 : Int) < (b.length : Int) - 1 by omega); omega
        obtain ⟨r, hr⟩ : ∃ r, r = i + 1 := ⟨_, rfl⟩
        obtain ⟨x, hx⟩ : ∃ x, b[i] = x := ⟨_, rfl⟩
        obtain ⟨y, hy⟩ : ∃ y, b[i + 1] = y := ⟨_, rfl⟩
        obtain ⟨⟨c0, c1', c2, c3⟩, z0, z1, z2, z3⟩ := own_rec HOb.out rfl (i := i) (r := x) (by rw [List.getElem?_eq_getElem (by omega), hx])
        obtain ⟨⟨e0, e1, e2, e3⟩, y0, y1, y2, y3⟩ := own_rec HOb.out rfl (i := r) (r := y) (by subst hr; rw [List.getElem?_eq_getElem hil, hy])
        have hsw := swap_own2 (a := x) (b := y) (i := i) (j := r) HOb.out (by omega) (by omega)
        have HSWP := Lib.hid hsw
        have hswd : Swapped b.length (decide (y.t ≤ x.t)) ((b.set i y).set r x) := by
          subst hr
          refine ⟨by simp, fun q hq => HALb.out q (swap_mem hil hx hy hq), ?_⟩
          rw [swap_asc hil hx hy HASb.out]
          simp
        have HSWD := Lib.hid hswd
        have q1 : IntKind.i64.wrap ((i : Int) + 1) = (r : Int) := by rw [IntWalk.i64_in _ (by omega)]; omega
        have q2 : (i : Int) < (b.length : Int) := by omega
        have q3 : (r : Int) < (b.length : Int) := by omega
        have q4 : (0 : Int) ≤ (i : Int) := by omega
        have q5 : (0 : Int) ≤ (r : Int) := by omega
        have q6 : ¬ i = r := by omega
        have q7 : ¬ r = i := by omega
        have q8 : (1 : Int) < (b.length : Int) := by omega
        have q9 : ((b.length : Int) - 1 == 0) = false := by simp; omega
        have HR := Lib.hid hr
        have hb0 : b.length ≤ 60 := hlb
        have hx2 := own_rec HSWP.out.1 (by simp) (i := i) (r := y) (by subst hr; rw [List.getElem?_set_ne (by omega), List.getElem?_set_self (by omega)])
        have hy2 := own_rec HSWP.out.1 (by simp) (i := r) (r := x) (by rw [List.getElem?_set_self (by simp; omega)])
        have HX2 := Lib.hid hx2.1.1
        have HY2 := Lib.hid hy2.1.1
        clear hsw hswd hx hy hr hx2 hy2 hv
        go_wp2_with fail
        rw [hi]
        go_region
        clear c0 c1' c2 c3 e0 e1 e2 e3 z0 z1 z2 z3 y0 y1 y2 y3
        obtain ⟨h1, h2⟩ := HSWP.out
        have d0 := HX2.out
        have d1 := HY2.out
        obtain ⟨W3, hW3⟩ : ∃ W3, W3 = (((((((((w2.setCell ⟨g, i * 4, none⟩ (.int .i64 y.t)).setCell ⟨g, i * 4 + 1, none⟩ (.int .u8 y.k)).setCell ⟨g, i * 4 + 2, none⟩ (.int .i64 y.j)).setCell ⟨g, i * 4 + 3, none⟩ (.int .i64 y.v)).setCell ⟨g, r * 4, none⟩ (.int .i64 x.t)).setCell ⟨g, r * 4 + 1, none⟩ (.int .u8 x.k)).setCell ⟨g, r * 4 + 2, none⟩ (.int .i64 x.j)).setCell ⟨g, r * 4 + 3, none⟩ (.int .i64 x.v)).drew) := ⟨_, rfl⟩
        rw [← hW3] at h1 h2 d0 d1 ⊢
        have H1 := Lib.hid h1
        have hb3 : Below w1.heap.size w1 W3 := hb2.grown h2 hb2.size (fun q hq => by injection hq with hq; omega)
        clear hW3 h1 h2 HSWP HX2 HY2 hi
        go_wp2_with fail
        go_quiet (fail)
        go_wp2_with fail
        go_meet
        exact ⟨_, _, rfl, HSWD.out, H1.out, below_drewN hb3 _⟩
    case rest =>
      obtain ⟨sd, b', rfl, hswd, hownb, hbx⟩ := hcut
      obtain ⟨w3, rfl⟩ : ∃ w3 : World, w3 = wc := ⟨_, rfl⟩
      have hbw3 : Below w.heap.size w w3 := hb1.trans (hbx.mono hb1.size)
      have HRa3 := Lib.hid (HRa.out.below hbx)
      have HRb3 := Lib.hid (Rd.of_own hownb)
      obtain ⟨hlb', halb', hascb'⟩ := hswd
      have HLB := Lib.hid hlb'
      have HALb' := Lib.hid halb'
      have HASb' := Lib.hid hascb'
      have hfit : ∀ r ∈ a ++ b', r.fit := fun r hr => by
        rcases List.mem_append.1 hr with h | h
        · exact (HALa.out r h).1
        · exact (halb' r h).1
      have hfit2 : ∀ r ∈ b' ++ a, r.fit := fun r hr => hfit r (by simp only [List.mem_append] at hr ⊢; exact hr.symm)
      have hok : (a ++ b').all Rec.ok = true := by
        rw [List.all_eq_true]
        intro r hr
        rcases List.mem_append.1 hr with h | h
        · exact (HALa.out r h).2
        · exact (halb' r h).2
      have hok2 : (b' ++ a).all Rec.ok = true := by
        rw [List.all_append] at hok ⊢
        rw [Bool.and_comm]
        exact hok
      have HFIT := Lib.hid hfit
      have HFIT2 := Lib.hid hfit2
      have HOK := Lib.hid hok
      have HOK2 := Lib.hid hok2
      clear hownb hbx hlb' halb' hascb' hfit hfit2 hok hok2 HALb HASb HOb HSW HRa hb2 hbw2
      go_wp2_with fail
      refine (merge_any A1 B1 a b' a.length b.length c1 d1 w3 rfl HLB.out.symm HRa3.out HRb3.out HAn.out HBn.out (by omega) (by omega) HFIT.out).mono ?_
      rintro e w4 ⟨hb4, hm⟩
      have hbw4 : Below w.heap.size w w4 := hbw3.trans (hb4.mono hbw3.size)
      cases sd
      · have hns : ¬ AscT Rec.t b' := fun h => by have := HASb'.out.2 h; cases this
        have HNS := Lib.hid hns
        rcases hm with ⟨h, _⟩ | ⟨_, _, rfl⟩ | ⟨_, _, h, _⟩
        · rw [HOK.out] at h; cases h
        · clear hns
          go_wp2_with fail
          refine (merge_any B1 A1 b' a b.length a.length d1 c1 w4 HLB.out.symm rfl (HRb3.out.below hb4) (HRa3.out.below hb4) HBn.out HAn.out (by omega) (by omega) HFIT2.out).mono ?_
          rintro e w5 ⟨hb5, hm⟩
          have hbw5 : Below w.heap.size w w5 := hbw4.trans (hb5.mono hbw4.size)
          rcases hm with ⟨h, _⟩ | ⟨_, _, rfl⟩ | ⟨_, h, _⟩
          · rw [HOK2.out] at h; cases h
          · go_wp2_with fail
            refine (lives_any _ s (hS.below hbw5)).mono ?_
            rintro e w6 ⟨rfl, hb6⟩
            have hbw6 : Below w.heap.size w w6 := hbw5.trans (hb6.mono hbw5.size)
            go_wp2_with fail
            go_ret
            exact ⟨rfl, hbw6⟩
          · exact absurd h HNS.out
        · exact absurd h hns
      · have has : AscT Rec.t b' := HASb'.out.1 rfl
        have HAS := Lib.hid has
        rcases hm with ⟨h, _⟩ | ⟨_, h, _⟩ | ⟨_, _, _, A4, rfl, hr4⟩
        · rw [HOK.out] at h; cases h
        · exact absurd ⟨HASa.out, has⟩ h
        · rw [HLB.out] at hr4 ⊢
          have HR4 := Lib.hid hr4
          have HRa4 := Lib.hid (HRa3.out.below hb4)
          have HRb4 := Lib.hid (HRb3.out.below hb4)
          clear hr4 has HRa3 HRb3 HASb' hb4
          go_wp2_with fail
          go_loopw [15, 16, 17] (fun s15 s16 s17 wr => ∃ (i k : Nat) (out : List Rec), i ≤ a.length ∧ k ≤ b.length ∧ s16 = .int .i64 i ∧ s17 = .int .i64 k ∧ wr.ownsRow w4.heap.size 37 4 s15 (i + k) (recs out) ∧ Hid (out ++ mrg Rec.t (a.drop i) (b'.drop k) = mrg Rec.t a b') ∧ Below w4.heap.size w4 wr) (fun _ s16 s17 _ => a.length + b.length - ((intOf s16).toNat + (intOf s17).toNat))
          case atStart => exact ⟨0, 0, [], by omega, by omega, rfl, rfl, World.ownsRow_nil _ _ _ _, Lib.hid (by simp), Below.refl _ _⟩
          case round =>
            obtain ⟨i, k, out, hia, hkb, rfl, rfl, hown, HINV, hbr⟩ := hrel
            have HO := Lib.hid hown
            clear hown
            by_cases hlt : i + k < a.length + b.length
            · have hlt' : (i : Int) + (k : Int) < (a.length : Int) + (b.length : Int) := by omega
              have hra := HRa4.out.below hbr
              have hrb := HRb4.out.below hbr
              rw [← HLB.out] at hrb
              by_cases hk : k = b.length
              · have hi : i < a.length := by omega
                obtain ⟨bA, oA, rfl, hbA, cA⟩ := rd_rec hra i hi
                obtain ⟨x, hx⟩ : ∃ x, a[i] = x := ⟨_, rfl⟩
                rw [hx] at cA
                have CA := Lib.hid cA
                have HX := Lib.hid hx
                have HK := Lib.hid hk
                have f1 : ((k : Int) == (b.length : Int)) = true := by simp; omega
                have f2 : (i : Int) < (a.length : Int) := by omega
                clear cA hx hra hrb hk
                go_wp2_with fail
                go_quiet (fail)
                obtain ⟨W, hW⟩ : ∃ W, W = wr.drewN nq := ⟨_, rfl⟩
                rw [← hW]
                have HOW : Hid (W.ownsRow w4.heap.size 37 4 u15 (i + k) (recs out)) := by rw [hW]; exact HO.out
                have hbW : Below w4.heap.size w4 W := by rw [hW]; exact below_drewN hbr _
                have hWs := hbW.size
                obtain ⟨e0, e1, e2, e3⟩ : W.cell? ⟨bA, oA + i * 4, none⟩ = some (.int .i64 x.t) ∧ W.cell? ⟨bA, oA + i * 4 + 1, none⟩ = some (.int .u8 x.k) ∧ W.cell? ⟨bA, oA + i * 4 + 2, none⟩ = some (.int .i64 x.j) ∧ W.cell? ⟨bA, oA + i * 4 + 3, none⟩ = some (.int .i64 x.v) := by
                  rw [hW]
                  exact CA.out
                clear hW hbr HO
                go_wp2_with (at_builtin; refine wpList_append_own _ rfl _ _ 24 rfl w4.heap.size 37 i0 _ 4 32 Tryd.underlying24 hi0 hz0 hz1 hz2 rfl (by decide) _ _ _ rfl (by exact HOW.out.alloc _) ⟨W.heap.size, 0, none⟩ 1 1 (Rec.cells x) rfl rfl (cells_new W _ _) (rec_one _) (by simp [maxLen]; omega) (by omega) (by simp; omega) ?_)
                intro v' w5 hown' hgrow _
                have HO' := Lib.hid hown'
                have HB' := Lib.hid ((hbW.alloc hWs _).grown hgrow (by simp; omega) (fun q hq => (HOW.out.lt q hq).1))
                clear hown' hgrow e0 e1 e2 e3
                go_wp2_with fail
                go_roundw
                case rel =>
                  refine ⟨i + 1, k, out ++ [x], by omega, by omega, by go_num, by go_num, ?_, Lib.hid ?_, HB'.out⟩
                  · have h9 := HO'.out
                    rw [show i + k + 1 = i + 1 + (k) by omega] at h9
                    rw [recs_app]
                    simpa [recs] using h9
                  · rw [← HINV.out, List.append_assoc]
                    congr 1
                    rw [HK.out, ← HLB.out, List.drop_length, mrg_nil, mrg_nil, List.drop_eq_getElem_cons hi, HX.out]
                    rfl
                case measure => simp [intOf]; omega
              · have hk' : k < b'.length := by rw [HLB.out]; omega
                obtain ⟨bB, oB, hB1, hbB, cB⟩ := rd_rec hrb k hk'
                obtain ⟨y, hy⟩ : ∃ y, b'[k] = y := ⟨_, rfl⟩
                rw [hy] at cB
                have CB := Lib.hid cB
                have HY := Lib.hid hy
                have f1 : ((k : Int) == (b.length : Int)) = false := by simp; omega
                have f3 : (k : Int) < (b.length : Int) := by omega
                by_cases hi : i < a.length
                · obtain ⟨bA, oA, hA1, hbA, cA⟩ := rd_rec hra i hi
                  obtain ⟨x, hx⟩ : ∃ x, a[i] = x := ⟨_, rfl⟩
                  rw [hx] at cA
                  have CA := Lib.hid cA
                  have HX := Lib.hid hx
                  have f2 : decide ((i : Int) < (a.length : Int)) = true := by simp; omega
                  have f4 : (i : Int) < (a.length : Int) := by omega
                  have cA0 := cA.1
                  have cB0 := cB.1
                  subst hA1 hB1
                  by_cases hxy : x.t ≤ y.t
                  · have HXY := Lib.hid hxy
                    have f5 : decide (x.t ≤ y.t) = true := by simpa using hxy
                    clear cA cB hx hy hra hrb hk
                    go_wp2_with fail
                    go_quiet (fail)
                    obtain ⟨W, hW⟩ : ∃ W, W = wr.drewN nq := ⟨_, rfl⟩
                    rw [← hW]
                    have HOW : Hid (W.ownsRow w4.heap.size 37 4 u15 (i + k) (recs out)) := by rw [hW]; exact HO.out
                    have hbW : Below w4.heap.size w4 W := by rw [hW]; exact below_drewN hbr _
                    have hWs := hbW.size
                    obtain ⟨e0, e1, e2, e3⟩ : W.cell? ⟨bA, oA + i * 4, none⟩ = some (.int .i64 x.t) ∧ W.cell? ⟨bA, oA + i * 4 + 1, none⟩ = some (.int .u8 x.k) ∧ W.cell? ⟨bA, oA + i * 4 + 2, none⟩ = some (.int .i64 x.j) ∧ W.cell? ⟨bA, oA + i * 4 + 3, none⟩ = some (.int .i64 x.v) := by
                      rw [hW]
                      exact CA.out
                    clear hW hbr HO
                    go_wp2_with (at_builtin; refine wpList_append_own _ rfl _ _ 24 rfl w4.heap.size 37 i0 _ 4 32 Tryd.underlying24 hi0 hz0 hz1 hz2 rfl (by decide) _ _ _ rfl (by exact HOW.out.alloc _) ⟨W.heap.size, 0, none⟩ 1 1 (Rec.cells x) rfl rfl (cells_new W _ _) (rec_one _) (by simp [maxLen]; omega) (by omega) (by simp; omega) ?_)
                    intro v' w5 hown' hgrow _
                    have HO' := Lib.hid hown'
                    have HB' := Lib.hid ((hbW.alloc hWs _).grown hgrow (by simp; omega) (fun q hq => (HOW.out.lt q hq).1))
                    clear hown' hgrow e0 e1 e2 e3
                    go_wp2_with fail
                    go_roundw
                    case rel =>
                      refine ⟨i + 1, k, out ++ [x], by omega, by omega, by go_num, by go_num, ?_, Lib.hid ?_, HB'.out⟩
                      · have h9 := HO'.out
                        rw [show i + k + 1 = i + 1 + (k) by omega] at h9
                        rw [recs_app]
                        simpa [recs] using h9
                      · rw [← HINV.out, List.append_assoc]
                        congr 1
                        rw [List.drop_eq_getElem_cons hi, List.drop_eq_getElem_cons hk', HX.out, HY.out, mrg_pos HXY.out]
                        rfl
                    case measure => simp [intOf]; omega
                  · have HXY := Lib.hid hxy
                    have f5 : decide (x.t ≤ y.t) = false := by simpa using hxy
                    clear cA cB hx hy hra hrb hk
                    go_wp2_with fail
                    go_quiet (fail)
                    obtain ⟨W, hW⟩ : ∃ W, W = wr.drewN nq := ⟨_, rfl⟩
                    rw [← hW]
                    have HOW : Hid (W.ownsRow w4.heap.size 37 4 u15 (i + k) (recs out)) := by rw [hW]; exact HO.out
                    have hbW : Below w4.heap.size w4 W := by rw [hW]; exact below_drewN hbr _
                    have hWs := hbW.size
                    obtain ⟨e0, e1, e2, e3⟩ : W.cell? ⟨bB, oB + k * 4, none⟩ = some (.int .i64 y.t) ∧ W.cell? ⟨bB, oB + k * 4 + 1, none⟩ = some (.int .u8 y.k) ∧ W.cell? ⟨bB, oB + k * 4 + 2, none⟩ = some (.int .i64 y.j) ∧ W.cell? ⟨bB, oB + k * 4 + 3, none⟩ = some (.int .i64 y.v) := by
                      rw [hW]
                      exact CB.out
                    clear hW hbr HO
                    go_wp2_with (at_builtin; refine wpList_append_own _ rfl _ _ 24 rfl w4.heap.size 37 i0 _ 4 32 Tryd.underlying24 hi0 hz0 hz1 hz2 rfl (by decide) _ _ _ rfl (by exact HOW.out.alloc _) ⟨W.heap.size, 0, none⟩ 1 1 (Rec.cells y) rfl rfl (cells_new W _ _) (rec_one _) (by simp [maxLen]; omega) (by omega) (by simp; omega) ?_)
                    intro v' w5 hown' hgrow _
                    have HO' := Lib.hid hown'
                    have HB' := Lib.hid ((hbW.alloc hWs _).grown hgrow (by simp; omega) (fun q hq => (HOW.out.lt q hq).1))
                    clear hown' hgrow e0 e1 e2 e3
                    go_wp2_with fail
                    go_roundw
                    case rel =>
                      refine ⟨i, k + 1, out ++ [y], by omega, by omega, by go_num, by go_num, ?_, Lib.hid ?_, HB'.out⟩
                      · have h9 := HO'.out
                        rw [show i + k + 1 = i + (k + 1) by omega] at h9
                        rw [recs_app]
                        simpa [recs] using h9
                      · rw [← HINV.out, List.append_assoc]
                        congr 1
                        rw [List.drop_eq_getElem_cons hi, List.drop_eq_getElem_cons hk', HX.out, HY.out, mrg_neg (by have := HXY.out; omega)]
                        rfl
                    case measure => simp [intOf]; omega
                · have hi' : i = a.length := by omega
                  have HI := Lib.hid hi'
                  subst hB1
                  have f2 : decide ((i : Int) < (a.length : Int)) = false := by simp; omega
                  clear cB hy hra hrb hk hi'
                  go_wp2_with fail
                  go_quiet (fail)
                  obtain ⟨W, hW⟩ : ∃ W, W = wr.drewN nq := ⟨_, rfl⟩
                  rw [← hW]
                  have HOW : Hid (W.ownsRow w4.heap.size 37 4 u15 (i + k) (recs out)) := by rw [hW]; exact HO.out
                  have hbW : Below w4.heap.size w4 W := by rw [hW]; exact below_drewN hbr _
                  have hWs := hbW.size
                  obtain ⟨e0, e1, e2, e3⟩ : W.cell? ⟨bB, oB + k * 4, none⟩ = some (.int .i64 y.t) ∧ W.cell? ⟨bB, oB + k * 4 + 1, none⟩ = some (.int .u8 y.k) ∧ W.cell? ⟨bB, oB + k * 4 + 2, none⟩ = some (.int .i64 y.j) ∧ W.cell? ⟨bB, oB + k * 4 + 3, none⟩ = some (.int .i64 y.v) := by
                    rw [hW]
                    exact CB.out
                  clear hW hbr HO
                  go_wp2_with (at_builtin; refine wpList_append_own _ rfl _ _ 24 rfl w4.heap.size 37 i0 _ 4 32 Tryd.underlying24 hi0 hz0 hz1 hz2 rfl (by decide) _ _ _ rfl (by exact HOW.out.alloc _) ⟨W.heap.size, 0, none⟩ 1 1 (Rec.cells y) rfl rfl (cells_new W _ _) (rec_one _) (by simp [maxLen]; omega) (by omega) (by simp; omega) ?_)
                  intro v' w5 hown' hgrow _
                  have HO' := Lib.hid hown'
                  have HB' := Lib.hid ((hbW.alloc hWs _).grown hgrow (by simp; omega) (fun q hq => (HOW.out.lt q hq).1))
                  clear hown' hgrow e0 e1 e2 e3
                  go_wp2_with fail
                  go_roundw
                  case rel =>
                    refine ⟨i, k + 1, out ++ [y], by omega, by omega, by go_num, by go_num, ?_, Lib.hid ?_, HB'.out⟩
                    · have h9 := HO'.out
                      rw [show i + k + 1 = i + (k + 1) by omega] at h9
                      rw [recs_app]
                      simpa [recs] using h9
                    · rw [← HINV.out, List.append_assoc]
                      congr 1
                      rw [HI.out, List.drop_length, nil_mrg, nil_mrg, List.drop_eq_getElem_cons hk', HY.out]
                      rfl
                  case measure => simp [intOf]; omega
            · obtain ⟨rfl, rfl⟩ : i = a.length ∧ k = b.length := by omega
              have hlt' : ¬ (a.length : Int) + (b.length : Int) < (a.length : Int) + (b.length : Int) := by omega
              have hout : out = mrg Rec.t a b' := by
                have := HINV.out
                rw [List.drop_length, ← HLB.out, List.drop_length, mrg_nil, List.append_nil] at this
                exact this
              rw [hout] at HO
              obtain ⟨A5, c5, rfl, _⟩ := rd_to_own_form HO.out
              have HR5 := Lib.hid (Rd.of_own HO.out)
              have hbw5 : Below w.heap.size w wr := hbw4.trans (hbr.mono hbw4.size)
              have hws := hbw5.size
              obtain ⟨v6, w6, hr6, ho6, hg6⟩ := run_append_rdK (P := Tryd.prog) (wr.alloc (.cells #[] 37)) wr.heap.size 24 24 37 i0 _ 4 32 Tryd.underlying24 hi0 hz0 hz1 hz2 rfl (by omega) (.slice (some ⟨wr.heap.size, 0, none⟩) 0 0) 0 [] (own_new _ 4 0 [] (Nat.le_refl _) (by simp [maxLen]) rfl rfl) A1 a.length c1 (recs a) (recs_one _) ((HRa4.out.below hbr).alloc _) HAn.out (by omega) (by omega) (by simp)
              have hb6 : Below wr.heap.size wr w6 := ((Below.refl _ _).alloc (Nat.le_refl _) _).grown hg6 (by simp) (by simp [Value.ownBlock])
              obtain ⟨v7, w7, hr7, ho7, hg7⟩ := run_append_rdK (P := Tryd.prog) (w6.alloc (.cells #[.int .i64 0, .int .u8 0, .int .i64 0, .int .i64 0] 37)) wr.heap.size 24 24 37 i0 _ 4 32 Tryd.underlying24 hi0 hz0 hz1 hz2 rfl (by omega) v6 _ _ (ho6.alloc _) (some ⟨w6.heap.size, 0, none⟩) 1 1 (recs [⟨0, 0, 0, 0⟩]) (recs_one _) (rd_new (recs [⟨0, 0, 0, 0⟩]) 1 4 rfl rfl) (by simp) (by omega) (by omega) (by have := hb6.size; simp; omega)
              have hb7 : Below wr.heap.size wr w7 := (hb6.alloc hb6.size _).grown hg7 (by have := hb6.size; simp; omega) (fun q hq => (ho6.lt q hq).1)
              have hbw7 : Below w.heap.size w w7 := hbw5.trans (hb7.mono hws)
              obtain ⟨A7, c7, rfl, hA7⟩ := rd_to_own_form ho7
              have ho7' : Rd w7 A7 4 (a.length + 1) (recs (a ++ [⟨0, 0, 0, 0⟩])) := by
                have := Rd.of_own ho7
                rw [List.nil_append, Nat.zero_add, ← recs_app] at this
                exact this
              rw [Nat.zero_add] at hr7 hA7
              have HR6 := Lib.hid hr6
              have HR7 := Lib.hid hr7
              have HO7 := Lib.hid ho7'
              have HA7 := Lib.hid hA7
              clear hout HO HINV hr6 hr7 ho6 ho7 ho7' hg6 hg7 hA7 hi0 hz0 hz1 hz2
              go_wp2_with (at_builtin; first | refine Lib.wpList_append_run _ rfl _ _ _ _ rfl _ _ rfl rfl _ _ HR6.out ?_ | refine Lib.wpList_append_run _ rfl _ _ _ _ rfl _ _ rfl rfl _ _ HR7.out ?_)
              refine (merge_any A7 none (a ++ [⟨0, 0, 0, 0⟩]) [] (a.length + 1) 0 c7 0 w7 (by simp) rfl HO7.out Rd.nil HA7.out (fun _ => rfl) (by omega) (by omega) (fun r hr => ?_)).mono ?_
              · rw [List.append_nil] at hr
                rcases List.mem_append.1 hr with h | h
                · exact (HALa.out r h).1
                · rw [List.mem_singleton] at h
                  subst h
                  unfold Rec.fit
                  dsimp only
                  omega
              rintro e w8 ⟨hb8, hm⟩
              have hbad : ((a ++ [(⟨0, 0, 0, 0⟩ : Rec)]) ++ []).all Rec.ok = false := by
                rw [List.all_eq_false]
                exact ⟨⟨0, 0, 0, 0⟩, by simp, by decide⟩
              have hbw8 : Below w.heap.size w w8 := hbw7.trans (hb8.mono hbw7.size)
              have hbr8 : Below wr.heap.size wr w8 := hb7.trans (hb8.mono hb7.size)
              rcases hm with ⟨_, rfl⟩ | ⟨h, _⟩ | ⟨h, _⟩
              · have HRG := Lib.hid ((HR4.out.below hbr).below hbr8)
                have HRW := Lib.hid (HR5.out.below hbr8)
                have hml : a.length + b.length = (mrg Rec.t a b').length := by rw [mrg_len, HLB.out]
                have HML := Lib.hid hml
                clear hbad hml HR6 HR7 HO7 HA7
                go_wp2_with fail
                refine (records_same A4 A5 (mrg Rec.t a b') (a.length + b.length) c5 w8 HML.out HRG.out HRW.out (by omega)).mono ?_
                rintro e w9 ⟨rfl, hb9⟩
                have hbw9 : Below w.heap.size w w9 := hbw8.trans (hb9.mono hbw8.size)
                go_wp2_with fail
                refine (lives_any _ s (hS.below hbw9)).mono ?_
                rintro e w10 ⟨rfl, hb10⟩
                have hbw10 : Below w.heap.size w w10 := hbw9.trans (hb10.mono hbw9.size)
                go_wp2_with fail
                go_ret
                exact ⟨rfl, hbw10⟩
              · rw [hbad] at h; cases h
              · rw [hbad] at h; cases h
end Go.Proofs.YtdcgminjamofmaaDoor
