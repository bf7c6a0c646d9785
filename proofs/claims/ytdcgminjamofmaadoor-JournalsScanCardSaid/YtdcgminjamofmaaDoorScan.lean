/- Contract of journals.Scan. -/
import Derived.Test.YtdcgminjamofmaaDoorRead2
import Derived.Test.YtdcgminjamofmaaDoorClip
import Derived.Test.YtdcgminjamofmaaDoorOf
namespace Go.Proofs.YtdcgminjamofmaaDoor
open Go.RowKit

def at12 (bs : List Int) (i : Nat) : List Int := sub bs (12 * i) 12
def scanG (bs : List Int) (k : Nat) : List Rec := ((List.range k).filter fun i => readOk (at12 bs i)).map fun i => readRec (at12 bs i)
def scanD (bs : List Int) (k : Nat) : List Int := ((List.range k).filter fun i => !readOk (at12 bs i)).map Int.ofNat
def nums (l : List Int) : List Value := l.map (.int .i64)
theorem nums_len (l : List Int) : (nums l).length = l.length := by simp [nums]

theorem scan_good {bs : List Int} {k : Nat} (h : readOk (at12 bs k) = true) : scanG bs (k + 1) = scanG bs k ++ [readRec (at12 bs k)] ∧ scanD bs (k + 1) = scanD bs k := by
  simp [scanG, scanD, List.range_succ, List.filter_append, h]
theorem scan_bad {bs : List Int} {k : Nat} (h : readOk (at12 bs k) = false) : scanG bs (k + 1) = scanG bs k ∧ scanD bs (k + 1) = scanD bs k ++ [(k : Int)] := by
  simp [scanG, scanD, List.range_succ, List.filter_append, h]
theorem scan_len (bs : List Int) (k : Nat) : (scanG bs k).length + (scanD bs k).length = k := by
  induction k with
  | zero => rfl
  | succ k ih =>
    cases h : readOk (at12 bs k)
    · rw [(scan_bad h).1, (scan_bad h).2, List.length_append]; simp; omega
    · rw [(scan_good h).1, (scan_good h).2, List.length_append]; simp; omega

theorem own_apart {w : World} {B e e' s s' n n' : Nat} {v v' : Value} {xs xs' : List Value} (h : w.ownsRow B e s v n xs) (h' : w.ownsRow B e' s' v' n' xs') (hne : e ≠ e') : v.ownBlock = none ∨ v.ownBlock ≠ v'.ownBlock := by
  rcases h.2 with ⟨rfl, _⟩ | ⟨g, cap, cur, rfl, _, hg, _⟩
  · exact .inl rfl
  · refine .inr ?_
    rcases h'.2 with ⟨rfl, _⟩ | ⟨g', cap', cur', rfl, _, hg', _⟩
    · simp [Value.ownBlock]
    · intro e1
      have : g = g' := by simpa [Value.ownBlock] using e1
      subst this
      rw [hg] at hg'
      injection hg' with h1
      injection h1 with _ h2 _
      exact hne h2
theorem own_kept {w w' : World} {B e s n : Nat} {v : Value} {xs : List Value} {row : Option Nat} (h : w.ownsRow B e s v n xs) (hg : w.grownBy w' row) (hne : v.ownBlock = none ∨ v.ownBlock ≠ row) : w'.ownsRow B e s v n xs := by
  refine ⟨h.1, ?_⟩
  rcases h.2 with hn | ⟨g, cap, cur, rfl, hb, hgg, rest⟩
  · exact .inl hn
  · refine .inr ⟨g, cap, cur, rfl, hb, (hg.block g (Array.getElem?_eq_some_iff.1 hgg).1 ?_).trans hgg, rest⟩
    rcases hne with h0 | h0
    · simp [Value.ownBlock] at h0
    · exact h0

def ScanRet (bs : List Int) (w : World) (e : Ending) (w' : World) : Prop :=
  ∃ A A', e = .returned (.tuple #[.slice A (scanG bs (bs.length / 12)).length (scanG bs (bs.length / 12)).length, .slice A' (scanD bs (bs.length / 12)).length (scanD bs (bs.length / 12)).length]) ∧
    Rd w' A 4 (scanG bs (bs.length / 12)).length (recs (scanG bs (bs.length / 12))) ∧ Rd w' A' 1 (scanD bs (bs.length / 12)).length (nums (scanD bs (bs.length / 12))) ∧ Below w.heap.size w w'

def ScanRel (bs : List Int) (w : World) (k : Nat) (v v' : Value) (wr : World) : Prop :=
  wr.ownsRow w.heap.size 37 4 v (scanG bs k).length (recs (scanG bs k)) ∧ wr.ownsRow w.heap.size 3 1 v' (scanD bs k).length (nums (scanD bs k)) ∧ Below w.heap.size w wr

theorem int_info : (Tryd.prog.info? 3).map (fun i => (i.zero, i.size, i.bytes)) = some (some (.int .i64 0), 1, 8) := by kernel_rfl
theorem own_slice {w : World} {B e s n : Nat} {v : Value} {xs : List Value} (h : w.ownsRow B e s v n xs) : ∃ A c, v = .slice A n c ∧ n ≤ c ∧ c ≤ maxLen := by
  rcases h.2 with ⟨rfl, rfl⟩ | ⟨g, cap, cur, rfl, _, _, h1, h2, _⟩
  · exact ⟨none, 0, rfl, Nat.le_refl _, by simp [maxLen]⟩
  · exact ⟨_, _, rfl, h1, h2⟩

set_option maxHeartbeats 4000000 in
set_option maxRecDepth 100000 in
theorem scan_any (A : Option Addr) (bs : List Int) (n c : Nat) (w : World) (hn : n = bs.length) (h : Rd w A 1 n (bts bs)) (hb : ∀ x ∈ bs, 0 ≤ x ∧ x ≤ 255) (hnc : n ≤ c) (hl : n ≤ 1000000000000) (hcm : c ≤ 9223372036854775807) :
    Calls Tryd.prog 16 #[.slice A n c] w (ScanRet bs w) := by
  subst hn
  obtain ⟨i0, hi0, hz0, hz1, hz2⟩ := info_parts rec_info
  obtain ⟨j0, hj0, hy0, hy1, hy2⟩ := info_parts int_info
  go_enter Tryd.func16, Tryd.ntmps16
  go_wp2
  go_loopw [4, 5, 12] (fun v v' i wr => ∃ k : Nat, k ≤ bs.length / 12 ∧ i = .int .i64 k ∧ ScanRel bs w k v v' wr) (fun _ _ i _ => bs.length / 12 - (intOf i).toNat)
  case atStart => exact ⟨0, by omega, rfl, World.ownsRow_nil _ _ _ _, World.ownsRow_nil _ _ _ _, Below.refl _ _⟩
  case round =>
    obtain ⟨k, hk, rfl, hown, hown', hbel⟩ := hrel
    by_cases hlt : k < bs.length / 12
    · have hR := h.below hbel
      obtain ⟨b, o, rfl, hbl, _⟩ := hR.2 (by omega)
      have hsub := hR.sub (12 * k) 12 (by omega)
      have hmem := mem_sub hb (12 * k) 12
      have hlen : (at12 bs k).length = 12 := by simp [at12, sub]; omega
      change Rd wr _ 1 12 (bts (at12 bs k)) at hsub
      change ∀ x ∈ at12 bs k, _ at hmem
      have hcd : k < (bs.length : Int) / 12 := by omega
      have hm1 : (12 * (k : Int)) ≤ 12 * ((k : Int) + 1) := by omega
      have hm2 : 12 * ((k : Int) + 1) ≤ (c : Int) := by omega
      go_wp2_with fail
      have e12 : 12 * (k + 1) - 12 * k = 12 := by omega
      rw [e12]
      refine (read_any b (o + 12 * k) (c - 12 * k) (at12 bs k) wr hlen hsub hmem (by omega) (by omega)).mono ?_
      rintro e w2 ⟨rfl, hb2⟩
      have hbel2 : Below w.heap.size w w2 := hbel.trans (hb2.mono hbel.size)
      have hs2 := hbel2.size
      have ho2 := own_keep hown (Nat.le_refl _) hb2
      have ho2' := own_keep hown' (Nat.le_refl _) hb2
      have hln := scan_len bs k
      obtain ⟨A1, c1, hv1, hc1, hm1'⟩ := own_slice ho2
      obtain ⟨A2, c2, hv2, hc2, hm2'⟩ := own_slice ho2'
      subst hv1 hv2
      have HO := Lib.hid ho2
      have HO' := Lib.hid ho2'
      obtain ⟨q, hq⟩ : ∃ q, readRec (at12 bs k) = q := ⟨_, rfl⟩
      rw [hq]
      have HQ := Lib.hid hq
      clear hown hown' ho2 ho2' hsub hmem hlen hR hq e12 hb2
      cases hro : readOk (at12 bs k)
      · have HR := Lib.hid (scan_bad hro)
        clear hro
        unfold Rec.cells
        go_wp2_with (at_builtin; refine wpList_append_own _ rfl _ _ 42 rfl w.heap.size 3 j0 _ 1 8 Tryd.underlying42 hj0 hy0 hy1 hy2 rfl (by decide) _ _ _ rfl (by exact (HO'.out.alloc _).alloc _) ⟨w2.heap.size + 1, 0, none⟩ 1 1 [.int .i64 k] rfl rfl ?_ (by simp [Value.oneCell']) (by simp [maxLen]; omega) (by omega) (by simp; omega) ?_)
        · exact fun j u hu => cells_new2 w2 _ _ _ j u hu
        intro v' w3 hown3 hg3 _
        have HO3 := Lib.hid hown3
        clear hown3
        go_wp2
        go_roundw
        case rel =>
          refine ⟨k + 1, by omega, by go_num, ?_, ?_, ?_⟩
          · rw [HR.out.1]
            exact own_kept ((HO.out.alloc _).alloc _) hg3 (own_apart HO.out HO'.out (by decide))
          · rw [HR.out.2, List.length_append]
            have := HO3.out
            simpa [nums] using this
          · exact ((hbel2.alloc hs2 _).alloc (by simp; omega) _).grown hg3 (by simp; omega) (fun q hq => (HO'.out.lt q hq).1)
        case measure => simp [intOf]; omega
      · have HR := Lib.hid (scan_good hro)
        clear hro
        unfold Rec.cells
        go_wp2_with (at_builtin; refine wpList_append_own _ rfl _ _ 24 rfl w.heap.size 37 i0 _ 4 32 Tryd.underlying24 hi0 hz0 hz1 hz2 rfl (by decide) _ _ _ rfl (by exact (HO.out.alloc _).alloc _) ⟨w2.heap.size + 1, 0, none⟩ 1 1 q.cells rfl rfl ?_ (rec_one _) (by simp [maxLen]; omega) (by omega) (by simp; omega) ?_)
        · exact fun j u hu => cells_new2 w2 _ _ _ j u hu
        intro v' w3 hown3 hg3 _
        have HO3 := Lib.hid hown3
        clear hown3
        go_wp2
        go_roundw
        case rel =>
          refine ⟨k + 1, by omega, by go_num, ?_, ?_, ?_⟩
          · rw [HR.out.1, List.length_append, HQ.out]
            have := HO3.out
            simpa [recs] using this
          · rw [HR.out.2]
            exact own_kept ((HO'.out.alloc _).alloc _) hg3 (own_apart HO'.out HO.out (by decide))
          · exact ((hbel2.alloc hs2 _).alloc (by simp; omega) _).grown hg3 (by simp; omega) (fun q hq => (HO.out.lt q hq).1)
        case measure => simp [intOf]; omega
    · have hke : bs.length / 12 = k := by omega
      obtain ⟨A1, c1, rfl, hc1, hm1⟩ := own_slice hown
      obtain ⟨A2, c2, rfl, hc2, hm2⟩ := own_slice hown'
      have HR1 := Lib.hid (Rd.of_own hown)
      have HR2 := Lib.hid (Rd.of_own hown')
      have HKE := Lib.hid hke
      have hge : (bs.length : Int) / 12 ≤ (k : Int) := by omega
      clear hown hown' hke
      go_wp2_with fail
      refine (clip_recs A1 _ c1 wr hc1 hm1).mono ?_
      rintro e w2 ⟨rfl, rfl⟩
      go_wp2_with fail
      refine (clip_ints A2 _ c2 wr hc2 hm2).mono ?_
      rintro e w2 ⟨rfl, rfl⟩
      go_wp2_with fail
      go_ret2
      unfold ScanRet
      rw [HKE.out]
      exact ⟨A1, A2, rfl, HR1.out, HR2.out, hbel⟩
end Go.Proofs.YtdcgminjamofmaaDoor
