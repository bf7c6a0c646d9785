/- What folds and plain compute, as functions that can be run. -/
import Derived.Test.YtcgbdkjelbgcfaaGreatDoorPlain
namespace Go.Proofs.YtcgbdkjelbgcfaaGreatDoor
open Go.RowKit

def rowB (R U : List Row) (p : Pt) (way c k : Nat) : Bool :=
  decide (rtS R U way (c - 1) k = rtS R U way (c - 1) (p.low way)) &&
  ((List.range 16).all fun i => !(decide (1 ≤ i) && (decide (p.from' way + i + 1 ≤ c) && decide (c + i < p.to way))) || decide (rtS R U way (c - 1 - i) k = opp (rtS R U way (c - 1 + i) k))) &&
  (!decide (k + 1 < p.high way) || (List.range 16).all fun j => !(decide (p.from' way + j + 1 ≤ c) && decide (c + j < p.to way)) || decide (upS R U way (c - 1 - j) k = opp (upS R U way (c + j) k)))
def foldB (R U : List Row) (p : Pt) (way c : Nat) : Bool := (List.range 16).all fun k => !(decide (p.low way ≤ k) && decide (k < p.high way)) || rowB R U p way c k
theorem rowB_iff (R U : List Row) (p : Pt) (way c k : Nat) (h : p.to way ≤ 16) : rowB R U p way c k = true ↔ rowP R U p way c k := by
  unfold rowB rowP
  simp only [Bool.and_eq_true, Bool.or_eq_true, Bool.not_eq_true', decide_eq_true_eq, decide_eq_false_iff_not, List.all_eq_true, List.mem_range, and_assoc]
  constructor
  · rintro ⟨h1, h2, h3⟩
    refine ⟨h1, fun i a b c => ?_, fun hk j a b => ?_⟩
    · rcases h2 i (by omega) with h | h
      · simp [a, b, c] at h
      · exact h
    · rcases h3 with h | h
      · exact absurd hk h
      · rcases h j (by omega) with h | h
        · simp [a, b] at h
        · exact h
  · rintro ⟨h1, h2, h3⟩
    refine ⟨h1, fun i _ => ?_, ?_⟩
    · by_cases hc : 1 ≤ i ∧ p.from' way + i + 1 ≤ c ∧ c + i < p.to way
      · exact .inr (h2 i hc.1 hc.2.1 hc.2.2)
      · refine .inl ?_
        by_cases a : 1 ≤ i <;> by_cases b : p.from' way + i + 1 ≤ c <;> by_cases d : c + i < p.to way <;> simp [a, b, d]
        exact hc ⟨a, b, d⟩
    · by_cases hk : k + 1 < p.high way
      · refine .inr fun j _ => ?_
        by_cases hc : p.from' way + j + 1 ≤ c ∧ c + j < p.to way
        · exact .inr (h3 hk j hc.1 hc.2)
        · refine .inl ?_
          by_cases b : p.from' way + j + 1 ≤ c <;> by_cases d : c + j < p.to way <;> simp [b, d]
          exact hc ⟨b, d⟩
      · exact .inl hk
theorem foldB_iff (R U : List Row) (p : Pt) (way c : Nat) (h : p.to way ≤ 16) (h' : p.high way ≤ 16) : foldB R U p way c = true ↔ FoldP R U p way c := by
  unfold foldB FoldP
  simp only [Bool.or_eq_true, Bool.not_eq_true', List.all_eq_true, List.mem_range, Bool.and_eq_false_iff, decide_eq_false_iff_not]
  constructor
  · intro h1 k a b
    rcases h1 k (by omega) with h2 | h2
    · omega
    · exact (rowB_iff R U p way c k h).1 h2
  · intro h1 k _
    by_cases a : p.low way ≤ k
    · by_cases b : k < p.high way
      · exact .inr ((rowB_iff R U p way c k h).2 (h1 k a b))
      · exact .inl (.inr b)
    · exact .inl (.inl a)

/-- The kind of the crease, and whether the part can be folded. -/
def fold2 (R U : List Row) (p : Pt) (way c : Nat) : Int × Bool := if foldB R U p way c then (rtS R U way (c - 1) (p.low way), rtS R U way (c - 1) (p.low way) != 0) else (0, false)
theorem folds_run (W H : Nat) (RA UA : Option Addr) (R U : List Row) (cr cu : Nat) (p : Pt) (way c : Nat) (w : World) (hm : MapOk w RA UA R U) (hv : VM W H R U) (hp : InM W H p) (hw : way ≤ 1) (hc1 : p.from' way < c) (hc2 : c < p.to way) :
    Calls Tryz.prog 18 #[.agg #[.int .i64 W, .int .i64 H, .slice RA R.length cr, .slice UA U.length cu], p.v, .int .i64 way, .int .i64 c] w (RetBelow (.tuple #[.int .u8 (fold2 R U p way c).1, .bool (fold2 R U p way c).2]) w) := by
  obtain ⟨q1, q2, q3, q4⟩ := hp.way way
  have hA16 : acr W H way ≤ 16 := by have := hv.w; have := hv.h; unfold acr; split <;> omega
  have hL16 : alo W H way ≤ 16 := by have := hv.w; have := hv.h; unfold alo; split <;> omega
  have hi := foldB_iff R U p way c (by omega) (by omega)
  refine (folds_any W H RA UA R U cr cu p way c w hm hv hp hw hc1 hc2).mono ?_
  rintro e w' ⟨hb, ⟨h1, rfl⟩ | ⟨h1, rfl⟩⟩
  · refine ⟨?_, hb⟩
    unfold fold2
    rw [if_pos (hi.2 h1)]
  · refine ⟨?_, hb⟩
    unfold fold2
    rw [if_neg (fun h => h1 (hi.1 h))]

def plainWB (R U : List Row) (p : Pt) (way : Nat) : Bool :=
  (List.range 16).all fun i => !(decide (p.from' way ≤ i) && decide (i + 1 < p.to way)) || (List.range 16).all fun k => !(decide (p.low way ≤ k) && decide (k < p.high way)) || decide (rtS R U way i k = 0)
def plainB (R U : List Row) (p : Pt) : Bool := plainWB R U p 0 && plainWB R U p 1
theorem plainWB_iff (R U : List Row) (p : Pt) (way : Nat) (h : p.to way ≤ 16) (h' : p.high way ≤ 16) : plainWB R U p way = true ↔ PlainW R U p way := by
  unfold plainWB PlainW
  simp only [Bool.or_eq_true, Bool.not_eq_true', List.all_eq_true, List.mem_range, Bool.and_eq_false_iff, decide_eq_false_iff_not, decide_eq_true_eq]
  constructor
  · intro h1 i a b k c d
    rcases h1 i (by omega) with h2 | h2
    · omega
    · rcases h2 k (by omega) with h3 | h3
      · omega
      · exact h3
  · intro h1 i _
    by_cases a : p.from' way ≤ i
    · by_cases b : i + 1 < p.to way
      · refine .inr fun k _ => ?_
        by_cases c : p.low way ≤ k
        · by_cases d : k < p.high way
          · exact .inr (h1 i a b k c d)
          · exact .inl (.inr d)
        · exact .inl (.inl c)
      · exact .inl (.inr b)
    · exact .inl (.inl a)
theorem plain_run (W H : Nat) (RA UA : Option Addr) (R U : List Row) (cr cu : Nat) (p : Pt) (w : World) (hm : MapOk w RA UA R U) (hv : VM W H R U) (hp : InM W H p) :
    Calls Tryz.prog 23 #[.agg #[.int .i64 W, .int .i64 H, .slice RA R.length cr, .slice UA U.length cu], p.v] w (RetBelow (.bool (plainB R U p)) w) := by
  have h1 := hv.w
  have h2 := hv.h
  have h3 := hp.x
  have h4 := hp.y
  have i0 := plainWB_iff R U p 0 (by simp [Pt.to]; omega) (by simp [Pt.high]; omega)
  have i1 := plainWB_iff R U p 1 (by simp [Pt.to]; omega) (by simp [Pt.high]; omega)
  refine (plain_any W H RA UA R U cr cu p w hm hv hp).mono ?_
  rintro e w' ⟨hb, ⟨h1, rfl⟩ | ⟨h1, rfl⟩⟩
  · refine ⟨ret_bool ?_, hb⟩
    unfold plainB
    rw [i0.2 h1.1, i1.2 h1.2]; rfl
  · refine ⟨ret_bool ?_, hb⟩
    unfold plainB
    cases e0 : plainWB R U p 0
    · rfl
    · cases e1 : plainWB R U p 1
      · rfl
      · exact absurd ⟨i0.1 e0, i1.1 e1⟩ h1

/-- What Check accepts is a valid map. -/
theorem chkM_vm {W H : Int} {R U : List Row} {w : World} {RA UA : Option Addr} (hm : MapOk w RA UA R U) (h : chkM W H R U = 0) : ∃ W' H' : Nat, W = W' ∧ H = H' ∧ VM W' H' R U ∧ R.length = H' ∧ U.length + 1 = H' ∧ (∀ r ∈ R, r.ks.length + 1 = W') ∧ (∀ r ∈ U, r.ks.length = W') := by
  unfold chkM at h
  split at h
  · exact absurd h (by decide)
  · rename_i h1
    have h1 : 1 ≤ W ∧ 1 ≤ H ∧ W ≤ 16 ∧ H ≤ 16 := by simpa using h1
    split at h
    · exact absurd h (by decide)
    · rename_i h2
      split at h
      · exact absurd h (by decide)
      · rename_i h3
        obtain ⟨g1, g2⟩ : gridOk R H (W - 1) = true ∧ gridOk U (H - 1) W = true := by
          constructor
          · cases e : gridOk R H (W - 1)
            · exact absurd (.inl e) h2
            · rfl
          · cases e : gridOk U (H - 1) W
            · exact absurd (.inr e) h2
            · rfl
        unfold gridOk at g1 g2
        simp only [Bool.and_eq_true, List.all_eq_true, beq_iff_eq] at g1 g2
        have hk : ∀ r ∈ R ++ U, ∀ k ∈ r.ks, k ≤ 2 := by
          intro r hr k hk
          rcases (by omega : 2 < k ∨ k ≤ 2) with h | h
          · exact absurd (List.any_eq_true.2 ⟨r, hr, List.any_eq_true.2 ⟨k, hk, by simpa [bigK] using h⟩⟩) h3
          · exact h
        have hk0 : ∀ r ∈ R ++ U, ∀ k ∈ r.ks, 0 ≤ k := by
          intro r hr k hk
          rcases List.mem_append.1 hr with h | h
          · exact ((hm.r.row r h).kind k hk).1
          · exact ((hm.u.row r h).kind k hk).1
        obtain ⟨W', rfl⟩ : ∃ W' : Nat, W = W' := ⟨W.toNat, by omega⟩
        obtain ⟨H', rfl⟩ : ∃ H' : Nat, H = H' := ⟨H.toNat, by omega⟩
        have l1 : R.length = H' := by omega
        have l2 : U.length + 1 = H' := by omega
        have c1 : ∀ r ∈ R, r.ks.length + 1 = W' := fun r hr => by have := g1.2 r hr; omega
        have c2 : ∀ r ∈ U, r.ks.length = W' := fun r hr => by have := g2.2 r hr; omega
        have kR : ∀ y x, y < H' → x + 1 < W' → ∃ v, getK R y x = some v ∧ 0 ≤ v ∧ v ≤ 2 := by
          intro y x hy hx
          have hy' : y < R.length := by omega
          have := c1 R[y] (List.getElem_mem _)
          have hx' : x < R[y].ks.length := by omega
          refine ⟨R[y].ks[x], by simp [getK, hy', hx'], hk0 R[y] (List.mem_append.2 (.inl (List.getElem_mem _))) _ (List.getElem_mem _), hk R[y] (List.mem_append.2 (.inl (List.getElem_mem _))) _ (List.getElem_mem _)⟩
        have kU : ∀ y x, y + 1 < H' → x < W' → ∃ v, getK U y x = some v ∧ 0 ≤ v ∧ v ≤ 2 := by
          intro y x hy hx
          have hy' : y < U.length := by omega
          have := c2 U[y] (List.getElem_mem _)
          have hx' : x < U[y].ks.length := by omega
          refine ⟨U[y].ks[x], by simp [getK, hy', hx'], hk0 U[y] (List.mem_append.2 (.inr (List.getElem_mem _))) _ (List.getElem_mem _), hk U[y] (List.mem_append.2 (.inr (List.getElem_mem _))) _ (List.getElem_mem _)⟩
        refine ⟨W', H', rfl, rfl, ⟨by omega, by omega, ?_, ?_⟩, l1, l2, c1, c2⟩
        · intro way i k hw hi hk
          unfold rtS rtK
          unfold acr at hi
          unfold alo at hk
          split
          · rename_i hz
            simp only [hz, if_true] at hi hk
            obtain ⟨v, hv, a, b⟩ := kR k i hk hi
            rw [hv]; exact ⟨rfl, a, b⟩
          · rename_i hz
            simp only [hz, if_false] at hi hk
            obtain ⟨v, hv, a, b⟩ := kU i k hi hk
            rw [hv]; exact ⟨rfl, a, b⟩
        · intro way i k hw hi hk
          unfold upS upK
          unfold acr at hi
          unfold alo at hk
          split
          · rename_i hz
            simp only [hz, if_true] at hi hk
            obtain ⟨v, hv, a, b⟩ := kU k i hk hi
            rw [hv]; exact ⟨rfl, a, b⟩
          · rename_i hz
            simp only [hz, if_false] at hi hk
            obtain ⟨v, hv, a, b⟩ := kR i k hi hk
            rw [hv]; exact ⟨rfl, a, b⟩
end Go.Proofs.YtcgbdkjelbgcfaaGreatDoor
