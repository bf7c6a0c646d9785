/- Contract of maps.Text: the empty string exactly at what is no map. -/
import Derived.Test.YtcgbdkjelbgcfaaGreatDoorBld
import Derived.Test.YtcgbdkjelbgcfaaGreatDoorItoa
import Derived.Test.YtcgbdkjelbgcfaaGreatDoorEvm
namespace Go.Proofs.YtcgbdkjelbgcfaaGreatDoor
open Go.RowKit

/-- A Builder in block g that holds n bytes, with memory of its own from B on. -/
def Bld (B g n : Nat) (w : World) : Prop := ∃ l : List UInt8, l.length = n ∧ Lib.IsBuilder 83 5 B g (Lib.byteCells l) w
theorem Bld.below {B g n : Nat} {w w' : World} (h : Bld B g n w) (hb : Below w.heap.size w w') : Bld B g n w' := by
  obtain ⟨l, rfl, h⟩ := h
  have one : ∀ p, Lib.BuilderAt 83 5 B g p (Lib.byteCells l) w → Lib.BuilderAt 83 5 B g p (Lib.byteCells l) w' := by
    rintro p ⟨h1, v, h2, h3, h4⟩
    exact ⟨h1, v, kept hb h2 (Array.getElem?_eq_some_iff.1 h2).1, own_keep h3 (Nat.le_refl _) hb, h4⟩
  exact ⟨l, rfl, h.elim (fun h => .inl (one _ h)) (fun h => .inr (one _ h))⟩
theorem bld_byte (B g n : Nat) (c : Nat) (hc : c < 256) (w : World) (h : Bld B g n w) (hn : n ≤ 1000000) (hB : B ≤ w.heap.size) :
    Calls Tryz.prog 33 #[.pointer (some ⟨g, 0, none⟩), .int .u8 c] w fun e w' => e = .returned .nilIface ∧ Bld B g (n + 1) w' ∧ Below B w w' := by
  obtain ⟨l, rfl, h⟩ := h
  refine (writeByte_any B g _ c w h (by rw [Lib.byteCells_length]; omega) hB).mono ?_
  rintro e w' ⟨rfl, h1, h2⟩
  refine ⟨rfl, ⟨l ++ [UInt8.ofNat c], by simp, .inr ?_⟩, h2⟩
  have e1 : Lib.byteCells (l ++ [UInt8.ofNat c]) = Lib.byteCells l ++ [.int .u8 c] := by
    rw [Lib.byteCells_append]
    simp [Lib.byteCells, Nat.mod_eq_of_lt hc]
  rw [e1]; exact h1
theorem bld_string (B g n : Nat) (s : ByteArray) (w : World) (h : Bld B g n w) (hn : n + s.size ≤ 1000000) (hB : B ≤ w.heap.size) :
    Calls Tryz.prog 30 #[.pointer (some ⟨g, 0, none⟩), .string s] w fun e w' => e = .returned (.tuple #[.int .i64 s.size, .nilIface]) ∧ Bld B g (n + s.size) w' ∧ Below B w w' := by
  obtain ⟨l, rfl, h⟩ := h
  refine (writeString_any B g _ s w h (by rw [Lib.byteCells_length]; omega) hB).mono ?_
  rintro e w' ⟨rfl, h1, h2⟩
  refine ⟨rfl, ⟨l ++ s.data.toList, by rw [List.length_append]; rfl, .inr ?_⟩, h2⟩
  have e1 : Lib.byteCells (l ++ s.data.toList) = Lib.byteCells l ++ Lib.strCells s := by
    rw [Lib.byteCells_append]
    simp [Lib.byteCells, Lib.strCells]
  rw [e1]; exact h1

/-- A row of kinds is written. -/
def RowW (B g n : Nat) (w : World) (e : Ending) (w' : World) : Prop := e = .returned (.tuple #[]) ∧ Bld B g n w' ∧ Below B w w'
set_option maxHeartbeats 2000000 in
theorem textRow_any (B g n : Nat) (r : Row) (w : World) (hr : RowOk w r) (hk : ∀ k ∈ r.ks, k ≤ 2) (hl : r.ks.length ≤ 1000) (h : Bld B g n w) (hn : n ≤ 900000) (hB : B ≤ w.heap.size) (hrB : 0 < r.ks.length → ∀ a, r.A = some a → a.block < B) :
    Calls Tryz.prog 32 #[.slice r.A r.ks.length r.c, .pointer (some ⟨g, 0, none⟩)] w (RowW B g (n + r.ks.length + 1) w) := by
  have HR := Lib.hid hr
  have HK := Lib.hid hk
  have HD := Lib.hid h
  have HRB := Lib.hid hrB
  clear hr hk h hrB
  go_enter Tryz.func32, Tryz.ntmps32
  go_wp2_with fail
  go_loopw [4, 7] (fun _ s7 wr => ∃ k : Nat, k ≤ r.ks.length ∧ s7 = .int .i64 k ∧ Bld B g (n + k) wr ∧ Below B w wr) (fun _ s7 _ => r.ks.length + 1 - (intOf s7).toNat)
  case atStart => exact ⟨0, by omega, rfl, HD.out, Below.refl _ _⟩
  case round =>
    obtain ⟨k, hk1, rfl, hb, hbr⟩ := hrel
    have hBr : B ≤ wr.heap.size := Nat.le_trans hB hbr.size
    by_cases hlt : k < r.ks.length
    · obtain ⟨b, o, hA, hbl, hc⟩ := HR.out.at' k hlt
      have hbB := HRB.out (by omega) _ hA
      dsimp only at hbB
      have hc' : wr.cell? ⟨b, o + k, none⟩ = some (.int .u8 r.ks[k]) := (hbr.cell (p := ⟨b, o + k, none⟩) hbB).trans hc
      have hk2 := HK.out _ (List.getElem_mem hlt)
      have hk0 := (HR.out.kind _ (List.getElem_mem hlt)).1
      obtain ⟨kv, hkv⟩ : ∃ kv, r.ks[k] = kv := ⟨_, rfl⟩
      rw [hkv] at hc' hk2 hk0
      have q1 : (k : Int) < (r.ks.length : Int) := by omega
      have HB := Lib.hid hb
      have HBR := Lib.hid hbr
      rw [hA]
      clear hkv hc hA hb hbr
      have hb256 : n + k ≤ 1000000 := by omega
      obtain rfl | rfl | rfl : kv = 0 ∨ kv = 1 ∨ kv = 2 := by omega
      · go_wp2_with fail
        refine (bld_byte B g (n + k) 45 (by omega) _ HB.out hb256 hBr).mono ?_
        rintro e w3 ⟨rfl, hb3, hbb3⟩
        clear hc'
        as_aux_lemma =>
          go_wp2_with fail
          go_roundw
          case rel => exact ⟨k + 1, by omega, by go_num, by rw [← Nat.add_assoc]; exact hb3, HBR.out.trans hbb3⟩
          case measure => simp [intOf]; omega
      · go_wp2_with fail
        refine (bld_byte B g (n + k) 109 (by omega) _ HB.out hb256 hBr).mono ?_
        rintro e w3 ⟨rfl, hb3, hbb3⟩
        clear hc'
        as_aux_lemma =>
          go_wp2_with fail
          go_roundw
          case rel => exact ⟨k + 1, by omega, by go_num, by rw [← Nat.add_assoc]; exact hb3, HBR.out.trans hbb3⟩
          case measure => simp [intOf]; omega
      · go_wp2_with fail
        refine (bld_byte B g (n + k) 118 (by omega) _ HB.out hb256 hBr).mono ?_
        rintro e w3 ⟨rfl, hb3, hbb3⟩
        clear hc'
        as_aux_lemma =>
          go_wp2_with fail
          go_roundw
          case rel => exact ⟨k + 1, by omega, by go_num, by rw [← Nat.add_assoc]; exact hb3, HBR.out.trans hbb3⟩
          case measure => simp [intOf]; omega
    · obtain rfl : k = r.ks.length := by omega
      have hb256 : n + r.ks.length ≤ 1000000 := by omega
      have HB := Lib.hid hb
      clear hb
      go_wp2_with fail
      refine (bld_byte B g (n + r.ks.length) 10 (by omega) _ HB.out hb256 hBr).mono ?_
      rintro e w3 ⟨rfl, hb3, hbb3⟩
      go_wp2_with fail
      go_end0
      exact ⟨rfl, hb3, hbr.trans hbb3⟩

theorem chkM_small {W H : Int} {R U : List Row} (h : chkM W H R U = 0) : ∀ r ∈ R ++ U, ∀ k ∈ r.ks, k ≤ 2 := by
  unfold chkM at h
  split at h
  · exact absurd h (by decide)
  · split at h
    · exact absurd h (by decide)
    · split at h
      · exact absurd h (by decide)
      · rename_i h3
        intro r hr k hk
        rcases (by omega : 2 < k ∨ k ≤ 2) with h | h
        · exact absurd (List.any_eq_true.2 ⟨r, hr, List.any_eq_true.2 ⟨k, hk, by simpa [bigK] using h⟩⟩) h3
        · exact h
def TextRet (W H : Int) (R U : List Row) (w : World) (e : Ending) (w' : World) : Prop :=
  Below w.heap.size w w' ∧ ((chkM W H R U ≠ 0 ∧ e = .returned (.string ⟨#[]⟩)) ∨ (chkM W H R U = 0 ∧ ∃ s : ByteArray, s.size ≠ 0 ∧ e = .returned (.string s)))
theorem digs_size (n : Nat) : (Ex.bytesOf (digs n)).size ≤ 2 := by
  rw [Ex.bytesOf_size]; unfold digs; split <;> simp
set_option maxHeartbeats 4000000 in
set_option maxRecDepth 100000 in
theorem text_any (W H : Int) (RA UA : Option Addr) (R U : List Row) (cr cu : Nat) (w : World) (hm : MapOk w RA UA R U) :
    Calls Tryz.prog 10 #[.agg #[.int .i64 W, .int .i64 H, .slice RA R.length cr, .slice UA U.length cu]] w (TextRet W H R U w) := by
  have hn1 := heap_alloc_new w (.cells #[.int .i64 W, .int .i64 H, .slice RA R.length cr, .slice UA U.length cu] 24)
  have hb1 : Below w.heap.size w (w.alloc (.cells #[.int .i64 W, .int .i64 H, .slice RA R.length cr, .slice UA U.length cu] 24)) := (Below.refl _ _).alloc (Nat.le_refl _) _
  obtain ⟨Z, hZ⟩ : ∃ Z, chkM W H R U = Z := ⟨_, rfl⟩
  have HM := Lib.hid hm
  have HZ := Lib.hid hZ
  clear hm hZ
  go_enter Tryz.func10, Tryz.ntmps10
  go_upto_region 1 with fail
  obtain ⟨V, hV⟩ : ∃ V, V = w.alloc (.cells #[.int .i64 W, .int .i64 H, .slice RA R.length cr, .slice UA U.length cu] 24) := ⟨_, rfl⟩
  have hVs : V.heap.size = w.heap.size + 1 := by rw [hV]; simp
  rw [← hV] at hn1 hb1 ⊢
  obtain ⟨N, hN⟩ : ∃ N, N = w.heap.size := ⟨_, rfl⟩
  rw [← hN] at hn1 ⊢
  have N1 := Lib.hid hn1
  have hNV : N < V.heap.size := (Array.getElem?_eq_some_iff.1 hn1).1
  obtain ⟨⟨x0, x1, x2, x3⟩, _⟩ := blk4 hn1
  have HNN := Lib.hid hN
  have HB1 := Lib.hid hb1
  clear hV hN hn1 hVs hb1
  go_wp2_with fail
  refine (mcheck_any W H RA UA R U cr cu V (HM.out.below HB1.out)).mono ?_
  rintro e w2 ⟨rfl, hb2⟩
  rw [HZ.out]
  clear x0 x1 x2 x3
  by_cases hz : Z = 0
  · subst hz
    obtain ⟨W', H', rfl, rfl, hv, hRl, hUl, hRc, hUc⟩ := chkM_vm HM.out HZ.out
    obtain ⟨W, rfl⟩ : ∃ W, W = W' := ⟨_, rfl⟩
    obtain ⟨H, rfl⟩ : ∃ H, H = H' := ⟨_, rfl⟩
    have hW16 := hv.w
    have hH16 := hv.h
    have N2 := Lib.hid (kept hb2 N1.out hNV)
    obtain ⟨⟨d0, d1, d2, d3⟩, _⟩ := blk4 N2.out
    have hs2 := hb2.size
    have hN2 : N < w2.heap.size := by omega
    obtain ⟨sw, hsw⟩ : ∃ sw, Ex.bytesOf (digs W) = sw := ⟨_, rfl⟩
    obtain ⟨sh, hsh⟩ : ∃ sh, Ex.bytesOf (digs H) = sh := ⟨_, rfl⟩
    have hiw := itoa_any W (by omega) (by omega)
    have hih := itoa_any H (by omega) (by omega)
    have hw2 := digs_size W
    have hh2 := digs_size H
    rw [hsw] at hiw hw2
    rw [hsh] at hih hh2
    have HIW := Lib.hid hiw
    have HIH := Lib.hid hih
    have HB2 := Lib.hid hb2
    have HRL := Lib.hid hRl
    have HUL := Lib.hid hUl
    have HRC := Lib.hid hRc
    have HUC := Lib.hid hUc
    have HV := Lib.hid hv
    clear hsw hsh hiw hih hb2 hRl hUl hRc hUc hv
    go_upto_region 4 with fail
    obtain ⟨G, hG⟩ : ∃ G, G = w2.heap.size := ⟨_, rfl⟩
    obtain ⟨X, hX⟩ : ∃ X, X = w2.alloc (.cells #[.pointer none, .slice none 0 0] 83) := ⟨_, rfl⟩
    have hbx : Below G w2 X := by rw [hX, hG]; exact (Below.refl _ _).alloc (Nat.le_refl _) _
    have hXG : X.heap.size = G + 1 := by rw [hX, hG]; simp
    have hbd : Bld G G 0 X := by
      refine ⟨[], rfl, .inl ⟨Nat.le_refl _, .slice none 0 0, ?_, ⟨by simp [Lib.byteCells], .inl ⟨rfl, rfl⟩⟩, by simp [Value.ownBlock]⟩⟩
      rw [hX, hG]; exact heap_alloc_new w2 _
    rw [← hG] at hs2 hN2
    have d0 := (hbx.cell (p := ⟨N, 0, none⟩) hN2).trans d0
    have d1 := (hbx.cell (p := ⟨N, 1, none⟩) hN2).trans d1
    rw [← hX, ← hG]
    have HXG := Lib.hid hXG
    have HG := Lib.hid hG
    have hXs : G + 1 ≤ X.heap.size := by omega
    clear hX hG hXG d2 d3
    have hsz : ((⟨#[109, 97, 112, 32]⟩ : ByteArray) ++ sw ++ (⟨#[32]⟩ : ByteArray) ++ sh ++ (⟨#[10]⟩ : ByteArray)).size = 4 + sw.size + 1 + sh.size + 1 := by
      simp only [ByteArray.size_append]; rfl
    have HSZ := Lib.hid hsz
    clear hsz
    have j1 : ¬ 9223372036854775807 < 4 + sw.size := by omega
    have j2 : ¬ 9223372036854775807 < 4 + sw.size + 1 := by omega
    have j3 : ¬ 9223372036854775807 < 4 + sw.size + 1 + sh.size := by omega
    have j4 : ¬ 9223372036854775807 < 4 + sw.size + 1 + sh.size + 1 := by omega
    go_region_held3 (fun w' => w'.cell? ⟨N, 0, none⟩ = some (.int .i64 W) ∧ w'.cell? ⟨N, 1, none⟩ = some (.int .i64 H))
      (first | exact ⟨d0, d1⟩ | go_keep)
      (first
        | (go_at_call 31; (first | (with_reducible refine (HIW.out _).mono ?_) | (with_reducible refine (HIH.out _).mono ?_)); rintro e' w6 ⟨rfl, hb6⟩; (first | (have hb6 := undrew hb6) | skip); have hbd := Bld.below hbd hb6; have hbx := hbx.trans (hb6.mono (by omega)); have hXs := Nat.le_trans hXs hb6.size; have d0 := below_cell hb6 d0; have d1 := below_cell hb6 d1)
        | (go_at_call 30; (with_reducible refine (bld_string G G 0 _ _ hbd (by have := HSZ.out; omega) (by omega)).mono ?_); rintro e' w8 ⟨rfl, hbd, hbb⟩; have hbx := hbx.trans hbb; have hXs := Nat.le_trans hXs hbb.size; have d0 := (hbb.cell (p := ⟨N, 0, none⟩) hN2).trans d0; have d1 := (hbb.cell (p := ⟨N, 1, none⟩) hN2).trans d1)
        | fail)
    all_goals
      have HSM := Lib.hid (chkM_small HZ.out)
      have HBD := Lib.hid hbd
      have hn9 : 0 + ((⟨#[109, 97, 112, 32]⟩ : ByteArray) ++ sw ++ (⟨#[32]⟩ : ByteArray) ++ sh ++ (⟨#[10]⟩ : ByteArray)).size ≤ 100 := by have := HSZ.out; omega
      have hn1 : 1 ≤ 0 + ((⟨#[109, 97, 112, 32]⟩ : ByteArray) ++ sw ++ (⟨#[32]⟩ : ByteArray) ++ sh ++ (⟨#[10]⟩ : ByteArray)).size := by have := HSZ.out; omega
      have HN9 := Lib.hid hn9
      have HN1 := Lib.hid hn1
      have HBX := Lib.hid hbx
      have HWB : Hid (∀ w', Below G w2 w' → Below N w w') := Lib.hid fun w' h => by
        have e := HNN.out
        have b1 : Below N w V := by rw [e]; exact HB1.out
        have b2 : Below N V w2 := HB2.out.mono (by omega)
        have b3 : Below N w2 w' := h.mono (by omega)
        exact (b1.trans b2).trans b3
      clear j1 j2 j3 j4 hbd hbx hn9 hn1
      go_wp2_with fail
      go_loopw [5] (fun s5 wr => ∃ (j n : Nat) (z : Int), j ≤ H ∧ s5 = .int .i64 z ∧ z = (j : Int) - 1 ∧ 1 ≤ n ∧ n ≤ 100 + 40 * (H - j) ∧ Bld G G n wr ∧ Below G w2 wr) (fun s5 _ => (intOf s5 + 1).toNat)
      case atStart => exact ⟨H, _, _, Nat.le_refl _, rfl, rfl, HN1.out, by have := HN9.out; omega, HBD.out, HBX.out⟩
      case round =>
        obtain ⟨j, n, z, hj, rfl, hz, hn1, hn2, hb, hbr⟩ := hrel
        have hGr : G ≤ wr.heap.size := by have := hbr.size; have := HG.out; omega
        have HB := Lib.hid hb
        have HBR := Lib.hid hbr
        have N4 := Lib.hid (kept hbr N2.out hN2)
        clear hb hbr
        obtain ⟨⟨d0, d1, d2, d3⟩, _⟩ := blk4 N4.out
        obtain rfl | ⟨y, rfl⟩ : j = 0 ∨ ∃ y, j = y + 1 := by cases j; exact .inl rfl; exact .inr ⟨_, rfl⟩
        · obtain rfl : z = -1 := by simpa using hz
          clear hz
          obtain ⟨l, hl, hbl⟩ := HB.out
          have hl0 : l ≠ [] := by intro h; rw [h] at hl; simp at hl; omega
          have HBL := Lib.hid hbl
          have HL := Lib.hid hl
          clear hbl hl
          as_aux_lemma =>
            go_wp2_with fail
            refine (bString_any G G l _ HBL.out hl0).mono ?_
            rintro e w5 ⟨rfl, hb5⟩
            go_wp2_with fail
            refine bodyPost_ret (v := .string ⟨l.toArray⟩) (by simp [results, Tryz.results10, go_sem]) rfl ?_
            have := HWB.out _ (HBR.out.trans hb5)
            refine ⟨by rw [← HNN.out]; exact this, .inr ⟨HZ.out, _, ?_, rfl⟩⟩
            have h1 := HL.out
            show l.toArray.size ≠ 0
            simp; intro h; exact hl0 h
        · obtain rfl : z = (y : Int) := by omega
          clear hz
          have hy : y < R.length := by have := HRL.out; omega
          have hrow := HM.out.r.row R[y] (List.getElem_mem hy)
          obtain ⟨b, o, hA, hbl, hc⟩ := HM.out.r.at' (y) hy
          have hlen := HRC.out R[y] (List.getElem_mem hy)
          have hsm := HSM.out R[y] (by simp [List.getElem_mem hy])
          obtain ⟨r, hr⟩ : ∃ r, R[y] = r := ⟨_, rfl⟩
          rw [hr] at hrow hc hlen hsm
          have hww := HWB.out _ HBR.out
          have hc := (hww.cell (p := ⟨b, o + (y), none⟩) (by rw [HNN.out]; exact hbl)).trans hc
          have hroww := hrow.below (by rw [← HNN.out]; exact hww)
          have hrB : 0 < r.ks.length → ∀ a, r.A = some a → a.block < G := fun h0 a ha => by
            obtain ⟨b', o', e1, e2, _⟩ := hrow.rd.2 h0
            rw [e1] at ha; cases ha
            dsimp only
            rw [← HNN.out] at e2; omega
          have HROW := Lib.hid hroww
          have HSMR := Lib.hid hsm
          have HRB := Lib.hid hrB
          have HLEN := Lib.hid hlen
          have hl16 : r.ks.length ≤ 16 := by omega
          rw [hA] at d2
          have q0 : ((y : Nat) : Int) < ((R.length : Nat) : Int) := by omega
          clear hr hrow hA hbl hlen hsm hww hroww hrB hy
          have q1 : (0 : Int) ≤ (y : Int) := by omega
          go_wp2_with fail
          refine (textRow_any G G n r _ HROW.out HSMR.out (by omega) HB.out (by omega) hGr HRB.out).mono ?_
          rintro e w3 ⟨rfl, hb3, hbb3⟩
          have HB3 := Lib.hid hb3
          have HBR3 := Lib.hid (HBR.out.trans hbb3)
          have N5 := Lib.hid (kept HBR3.out N2.out hN2)
          have hG3 : G ≤ w3.heap.size := by have := HBR3.out.size; have := HG.out; omega
          clear d0 d1 d2 d3 hc q0 hb3 hbb3
          obtain ⟨⟨d0, d1, d2, d3⟩, _⟩ := blk4 N5.out
          obtain rfl | ⟨u, rfl⟩ : y = 0 ∨ ∃ u, y = u + 1 := by cases y; exact .inl rfl; exact .inr ⟨_, rfl⟩
          · as_aux_lemma =>
              go_wp2_with fail
              go_roundw
              case rel => exact ⟨0, _, -1, by omega, rfl, by omega, by omega, by omega, HB3.out, HBR3.out⟩
              case measure => simp [intOf]
          · clear HROW HSMR HRB HLEN
            obtain ⟨m, hm9⟩ : ∃ m, n + r.ks.length + 1 = m := ⟨_, rfl⟩
            rw [hm9] at HB3
            have hm1 : m ≤ n + 17 := by omega
            have hm2 : 1 ≤ m := by omega
            clear hm9 hl16
            obtain ⟨rr, rfl⟩ : ∃ rr, rr = r := ⟨_, rfl⟩
            have hy : u < U.length := by have := HUL.out; omega
            have hrow := HM.out.u.row U[u] (List.getElem_mem hy)
            obtain ⟨b, o, hA, hbl, hc⟩ := HM.out.u.at' (u) hy
            have hlen := HUC.out U[u] (List.getElem_mem hy)
            have hsm := HSM.out U[u] (by simp [List.getElem_mem hy])
            obtain ⟨r, hr⟩ : ∃ r, U[u] = r := ⟨_, rfl⟩
            rw [hr] at hrow hc hlen hsm
            have hww := HWB.out _ HBR3.out
            have hc := (hww.cell (p := ⟨b, o + (u), none⟩) (by rw [HNN.out]; exact hbl)).trans hc
            have hroww := hrow.below (by rw [← HNN.out]; exact hww)
            have hrB : 0 < r.ks.length → ∀ a, r.A = some a → a.block < G := fun h0 a ha => by
              obtain ⟨b', o', e1, e2, _⟩ := hrow.rd.2 h0
              rw [e1] at ha; cases ha
              dsimp only
              rw [← HNN.out] at e2; omega
            have HROW := Lib.hid hroww
            have HSMR := Lib.hid hsm
            have HRB := Lib.hid hrB
            have HLEN := Lib.hid hlen
            have hl16 : r.ks.length ≤ 16 := by omega
            rw [hA] at d3
            have q0 : ((u : Nat) : Int) < ((U.length : Nat) : Int) := by omega
            clear hr hrow hA hbl hlen hsm hww hroww hrB hy
            have q2 : (0 : Int) ≤ (u : Int) := by omega
            go_wp2_with fail
            refine (textRow_any G G m r _ HROW.out HSMR.out (by omega) HB3.out (by omega) hG3 HRB.out).mono ?_
            rintro e w4 ⟨rfl, hb4, hbb4⟩
            have HB4 := Lib.hid hb4
            have HBR4 := Lib.hid (HBR3.out.trans hbb4)
            clear d0 d1 d2 d3 hc q0 hb4 hbb4
            as_aux_lemma =>
              go_wp2_with fail
              go_roundw
              case rel => exact ⟨u + 1, _, u, by omega, rfl, by omega, by omega, by omega, HB4.out, HBR4.out⟩
              case measure => simp [intOf]; omega
  · have hbz : (Z != 0) = true := by simpa using hz
    have HZN := Lib.hid hz
    clear hz
    go_wp2_with fail
    refine bodyPost_ret (v := .string ⟨#[]⟩) (by simp [results, Tryz.results10, go_sem]) rfl ?_
    exact ⟨HB1.out.trans (hb2.mono (by rw [← HNN.out]; omega)), .inl ⟨by rw [HZ.out]; exact HZN.out, rfl⟩⟩
end Go.Proofs.YtcgbdkjelbgcfaaGreatDoor
