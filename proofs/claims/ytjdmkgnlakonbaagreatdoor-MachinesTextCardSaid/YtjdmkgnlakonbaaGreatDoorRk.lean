/- places.relative as a call that the executor knows: what it computes, with all numbers forced; a fresh row in memory. -/
import Derived.Test.YtjdmkgnlakonbaaGreatDoorXt
import Derived.Test.YtjdmkgnlakonbaaGreatDoorFt
import Derived.Test.YtjdmkgnlakonbaaGreatDoorRelW
import Derived.Test.YtjdmkgnlakonbaaGreatDoorPat4
namespace Go.Proofs.YtjdmkgnlakonbaaGreatDoor
open Ex Go.RowKit Go.Shelf

/-! Lists and places, forced. -/
noncomputable def lGet {α γ : Type} (l : List α) (d : α) (n : Nat) (k : α → γ) : γ :=
  List.rec (motive := fun _ => Nat → γ) (fun _ => k d) (fun x _ ih n => Nat.rec (motive := fun _ => γ) (k x) (fun m _ => ih m) n) l n
theorem lGet_eq {α γ : Type} (d : α) (k : α → γ) : ∀ (l : List α) (n : Nat), lGet l d n k = k (l.getD n d)
  | [], n => by simp [lGet, List.getD]
  | x :: l, 0 => by
    have e : lGet (x :: l) d 0 k = k x := rfl
    rw [e]; simp [List.getD]
  | x :: l, n + 1 => by
    have := lGet_eq d k l n
    have e : lGet (x :: l) d (n + 1) k = lGet l d n k := rfl
    rw [e, this]; simp [List.getD]
noncomputable def lSet {α γ : Type} (v : α) (l : List α) (n : Nat) (k : List α → γ) : γ :=
  List.rec (motive := fun _ => Nat → (List α → γ) → γ) (fun _ k => k []) (fun x l ih n k => Nat.rec (motive := fun _ => γ) (k (v :: l)) (fun m _ => ih m fun l' => k (x :: l')) n) l n k
theorem lSet_eq {α γ : Type} (v : α) : ∀ (l : List α) (n : Nat) (k : List α → γ), lSet v l n k = k (l.set n v)
  | [], n, k => rfl
  | x :: l, 0, k => rfl
  | x :: l, n + 1, k => by
    have e : lSet v (x :: l) (n + 1) k = lSet v l n (fun l' => k (x :: l')) := rfl
    rw [e, lSet_eq v l n]; rfl
noncomputable def lEnd {α γ : Type} (v : α) (l : List α) (k : List α → γ) : γ :=
  List.rec (motive := fun _ => (List α → γ) → γ) (fun k => k [v]) (fun x _ ih k => ih fun l' => k (x :: l')) l k
theorem lEnd_eq {α γ : Type} (v : α) : ∀ (l : List α) (k : List α → γ), lEnd v l k = k (l ++ [v])
  | [], _ => rfl
  | x :: l, k => by
    have e : lEnd v (x :: l) k = lEnd v l (fun l' => k (x :: l')) := rfl
    rw [e, lEnd_eq v l]; rfl
noncomputable def fMv {γ : Type} (m : Mv) (k : Mv → γ) : γ := Mv.rec (fun t x y => fNat t fun t => fInt x fun x => fInt y fun y => k ⟨t, x, y⟩) m
theorem fMv_eq {γ : Type} (m : Mv) (k : Mv → γ) : fMv m k = k m := by cases m; simp only [fMv, fNat_eq, fInt_eq]
noncomputable def mvEq (a b : Mv) : Bool := Nat.beq a.t b.t && (ieq a.x b.x && ieq a.y b.y)
theorem mvEq_eq (a b : Mv) : mvEq a b = decide (a = b) := by
  obtain ⟨t, x, y⟩ := a
  obtain ⟨t', x', y'⟩ := b
  unfold mvEq
  rw [ieq_eq, ieq_eq]
  by_cases h1 : t = t'
  · by_cases h2 : x = x'
    · by_cases h3 : y = y' <;> simp [h1, h2, h3]
    · simp [h2]
  · simp [h1]

noncomputable def acrossC {γ : Type} (a b : Int) (l : List Cr) (out : List Mv) (id e : Nat) (k : Mv → γ) : γ :=
  fInt (nameI a b id e).1 fun c => fInt (nameI a b id e).2.1 fun u => lGet out mv0 id fun o =>
    Bool.rec (k o) (fInt (lineS a b c u).1.1 fun lk => fInt (lineS a b c u).1.2 fun lc => fMv (moveL (lk, lc)).1 fun m => fMv (thenG m o).1 k) (isCr l c u)
theorem acrossC_eq {γ : Type} (a b : Int) (l : List Cr) (out : List Mv) (id e : Nat) (k : Mv → γ) : acrossC a b l out id e k = k (acrossF a b l out id e) := by
  unfold acrossC acrossF
  simp only [fInt_eq, lGet_eq, fMv_eq]
  cases isCr l (nameI a b id e).1 (nameI a b id e).2.1 <;> rfl
noncomputable def relEC (a b : Int) (l : List Cr) (id e : Nat) (s : RS) : Option RS :=
  fInt (nbI a b id e).2 fun er => Bool.rec (some s)
    (fInt (nbI a b id e).1 fun n => fNat n.toNat fun n => acrossC a b l s.out id e fun m => lGet s.known false n fun kn =>
      Bool.rec (lSet m s.out n fun out => lSet true s.known n fun kn => lEnd n s.wait fun wt => lGet out mv0 n fun o => Bool.rec none (some ⟨out, kn, wt⟩) (mvEq o m))
        (lGet s.out mv0 n fun o => Bool.rec none (some s) (mvEq o m)) kn) (ieq er 0)
theorem relEC_eq (a b : Int) (l : List Cr) (id e : Nat) (s : RS) : relEC a b l id e s = relE a b l id e s := by
  unfold relEC relE
  simp only [fInt_eq, fNat_eq, acrossC_eq, lGet_eq, lSet_eq, lEnd_eq, ieq_eq, mvEq_eq]
  by_cases h0 : (nbI a b id e).2 = 0
  · rw [if_neg (by simpa using h0)]
    simp only [h0, decide_true]
    cases hk : s.known.getD (nbI a b id e).1.toNat false with
    | true =>
      simp only [if_true]
      by_cases hm : s.out.getD (nbI a b id e).1.toNat mv0 = acrossF a b l s.out id e
      · rw [if_pos hm, decide_eq_true hm]
      · rw [if_neg hm, decide_eq_false hm]
    | false =>
      simp only [Bool.false_eq_true, if_false]
      by_cases hm : (s.out.set (nbI a b id e).1.toNat (acrossF a b l s.out id e)).getD (nbI a b id e).1.toNat mv0 = acrossF a b l s.out id e
      · rw [if_pos hm, decide_eq_true hm]
      · rw [if_neg hm, decide_eq_false hm]
  · rw [if_pos h0, decide_eq_false h0]
noncomputable def relGoC (a b : Int) (l : List Cr) (f : Nat) : RS → Option (List Mv) :=
  Nat.rec (motive := fun _ => RS → Option (List Mv)) (fun s => some s.out) (fun _ ih s => RS.rec (fun out known wait => List.rec (motive := fun _ => Option (List Mv)) (some out) (fun id r _ => fNat id fun id =>
    Option.rec none (fun s => Option.rec none (fun s => Option.rec none (fun s => ih s) (relEC a b l id 2 s)) (relEC a b l id 1 s)) (relEC a b l id 0 ⟨out, known, r⟩)) wait) s) f
theorem relGoC_eq (a b : Int) (l : List Cr) : ∀ (f : Nat) (s : RS), relGoC a b l f s = relGo a b l f s
  | 0, s => rfl
  | f + 1, ⟨out, known, wait⟩ => by
    cases wait with
    | nil => rfl
    | cons id r =>
      have e : relGoC a b l (f + 1) ⟨out, known, id :: r⟩ = fNat id fun id => (Option.rec none (fun s => Option.rec none (fun s => Option.rec none (fun s => relGoC a b l f s) (relEC a b l id 2 s)) (relEC a b l id 1 s)) (relEC a b l id 0 ⟨out, known, r⟩) : Option (List Mv)) := rfl
      rw [e, fNat_eq]
      simp only [relEC_eq, relGoC_eq a b l f]
      show _ = (relStep a b l id ⟨out, known, r⟩).bind (relGo a b l f)
      unfold relStep
      cases relE a b l id 0 ⟨out, known, r⟩ with
      | none => rfl
      | some s1 =>
        simp only [Option.bind_some]
        cases relE a b l id 1 s1 with
        | none => rfl
        | some s2 =>
          simp only [Option.bind_some]
          cases relE a b l id 2 s2 <;> rfl
noncomputable def repl {α : Type} (x : α) (n : Nat) : List α := Nat.rec [] (fun _ ih => x :: ih) n
theorem repl_eq {α : Type} (x : α) : ∀ n, repl x n = List.replicate n x
  | 0 => rfl
  | n + 1 => by
    have e : repl x (n + 1) = x :: repl x n := rfl
    rw [e, repl_eq x n]; rfl
noncomputable def relFC (a b : Int) (l : List Cr) : Option (List Mv) := fNat (countN a b) fun k => relGoC a b l (Nat.succ k) ⟨repl mv0 k, true :: repl false (Nat.sub k 1), [0]⟩
theorem relFC_eq (a b : Int) (l : List Cr) : relFC a b l = relF a b l := by
  unfold relFC relF
  rw [fNat_eq, relGoC_eq, repl_eq, repl_eq]; rfl

/-! A valid pattern, told by a Bool. -/
noncomputable def fitB (r : Cr) : Bool := (not (ilt r.c 0) && not (ilt 1024 r.c)) && ((not (ilt r.e 0) && not (ilt 255 r.e)) && (not (ilt r.k 0) && not (ilt 255 r.k)))
theorem fitB_ok {r : Cr} (h : fitB r = true) : r.fit := by
  unfold fitB at h
  simp only [ilt_eq, Bool.and_eq_true, Bool.not_eq_true', decide_eq_false_iff_not] at h
  exact ⟨⟨by omega, by omega⟩, ⟨by omega, by omega⟩, by omega, by omega⟩
noncomputable def ascB (l : List Cr) : Bool := List.rec (motive := fun _ => Bool) true (fun r l ih => List.rec (motive := fun _ => Bool) true (fun q _ _ => (ilt r.c q.c || (ieq r.c q.c && ilt r.e q.e)) && ih) l) l
theorem ascB_ok : ∀ {l : List Cr}, ascB l = true → l.Pairwise fun r q => ordU r.c r.e q.c q.e < 0
  | [], _ => .nil
  | [r], _ => by simp
  | r :: q :: l, h => by
    have h : ((ilt r.c q.c || (ieq r.c q.c && ilt r.e q.e)) && ascB (q :: l)) = true := h
    rw [Bool.and_eq_true] at h
    have ih := ascB_ok h.2
    have h1 : ordU r.c r.e q.c q.e < 0 := by
      have := h.1
      simp only [ilt_eq, ieq_eq, Bool.or_eq_true, Bool.and_eq_true, decide_eq_true_eq] at this
      unfold ordU
      split <;> omega
    refine List.Pairwise.cons (fun x hx => ?_) ih
    rcases List.mem_cons.1 hx with rfl | hx
    · exact h1
    · exact ordU_tr h1 ((List.pairwise_cons.1 ih).1 x hx)
noncomputable def nmB (a b : Int) (r : Cr) : Bool := ieq (nameI a b r.c r.e).1 r.c && (ieq (nameI a b r.c r.e).2.1 r.e && ieq (nameI a b r.c r.e).2.2 0)
theorem nmB_ok {a b : Int} {r : Cr} (h : nmB a b r = true) : nameI a b r.c r.e = (r.c, r.e, 0) := by
  unfold nmB at h
  simp only [ieq_eq, Bool.and_eq_true, decide_eq_true_eq] at h
  exact Prod.ext h.1 (Prod.ext h.2.1 h.2.2)
noncomputable def allB (a b : Int) (l : List Cr) : Bool := List.rec (motive := fun _ => Bool) true (fun r _ ih => (fitB r && (not (ilt r.k 1) && not (ilt 3 r.k)) && nmB a b r) && ih) l
theorem allB_ok {a b : Int} : ∀ {l : List Cr}, allB a b l = true → ∀ r ∈ l, r.fit ∧ isK r.k = true ∧ nameI a b r.c r.e = (r.c, r.e, 0)
  | [], _, r, hr => by simp at hr
  | x :: l, h, r, hr => by
    have h : ((fitB x && (not (ilt x.k 1) && not (ilt 3 x.k)) && nmB a b x) && allB a b l) = true := h
    rw [Bool.and_eq_true, Bool.and_eq_true, Bool.and_eq_true] at h
    rcases List.mem_cons.1 hr with rfl | hr
    · refine ⟨fitB_ok h.1.1.1, ?_, nmB_ok h.1.2⟩
      have := h.1.1.2
      simp only [ilt_eq, Bool.and_eq_true, Bool.not_eq_true', decide_eq_false_iff_not] at this
      unfold isK
      simp only [Bool.and_eq_true, decide_eq_true_eq]
      omega
    · exact allB_ok h.2 r hr
noncomputable def patB (a b : Int) (l : List Cr) (n : Nat) : Bool := okS a b && (allB a b l && (ascB l && Nat.ble n 1000000))
theorem patB_ok {a b : Int} {l : List Cr} {n : Nat} (hn : n = l.length) (h : patB a b l n = true) : OkPat a b l ∧ n ≤ 1000000 := by
  unfold patB at h
  simp only [Bool.and_eq_true] at h
  obtain ⟨h1, h2, h3, h4⟩ := h
  have h4 := Nat.le_of_ble_eq_true h4
  have h2 := allB_ok h2
  exact ⟨⟨h1, fun r hr => (h2 r hr).2.1, fun r hr => (h2 r hr).2.2, fun r hr => (h2 r hr).1, ascB_ok h3, by omega⟩, h4⟩

/-! Rows that a known call reads and makes. -/
/-- Creases, out of cells. -/
noncomputable def toCr1 (ih : List AV → Option (List Cr)) (l : List AV) : Option (List Cr) := match l with
  | [] => some []
  | .int .i64 c :: .int .u8 e :: .int .u8 k :: r => match ih r with
    | some l => some (⟨c, e, k⟩ :: l)
    | none => none
  | _ => none
noncomputable def toCrs (fuel : Nat) : List AV → Option (List Cr) :=
  Nat.rec (motive := fun _ => List AV → Option (List Cr)) (fun _ => none) (fun _ ih l => toCr1 ih l) fuel
theorem toCrs_ok {ρ : Rho} : ∀ {f : Nat} {vs : List AV} {l : List Cr} {xs : List Value}, toCrs f vs = some l → VRL ρ vs xs → xs = crs l
  | 0, _, _, _, h, _ => by cases h
  | f + 1, vs, l, xs, h, hv => by
    have h : toCr1 (toCrs f) vs = some l := h
    unfold toCr1 at h
    split at h
    · injection h with h; subst h
      simp only [VRL] at hv; subst hv; rfl
    · rename_i c e k r
      split at h
      · rename_i l' hl
        injection h with h; subst h
        simp only [VRL, VR] at hv
        obtain ⟨_, _, rfl, rfl, _, _, rfl, rfl, _, ys, rfl, rfl, hr⟩ := hv
        rw [toCrs_ok hl hr]; rfl
      · cases h
    · cases h

/-- A slice's header, and what it holds, as a known call finds it. -/
theorem slice_rd {ρ : Rho} {S : St} {w : World} (hw : WR ρ S w) {sz n : Nat} {v : AV} {x : Value} {l : List AV} (hn : lenAV v = some n) (h : aRead S sz n v = some l) (hv : VR ρ v x) (hs : ∀ s, v ≠ .str s) :
    ∃ A c xs, x = .slice A n c ∧ VRL ρ l xs ∧ Rd w A sz n xs := by
  have key : ∀ {id off b m : Nat} {l : List AV}, aRead.rdAt S id off (n * sz) = some l → ρ id = some (b, m) → ∃ xs, VRL ρ l xs ∧ Rd w (some ⟨b, off, none⟩) sz n xs := by
    intro id off b m l h hr
    unfold aRead.rdAt at h
    split at h
    · rename_i tr k e f hid
      obtain ⟨b', m', hr', c, fz, e1, e2, e3, hc, _⟩ := hw.blk id _ hid
      rw [hr] at hr'; injection hr' with hr'; injection hr' with q1 q2; subst q1; subst q2
      obtain ⟨xs, hx, hlen, hget⟩ := rd_ok hc h
      refine ⟨xs, hx, hlen, fun _ => ⟨b, off, rfl, hw.low _ _ _ hr, fun j u hj => ?_⟩⟩
      simp [World.cell?, e1, hget j u hj]
    · cases h
  unfold lenAV at hn
  split at hn
  · injection hn with hn; subst hn
    simp only [VR] at hv
    obtain ⟨b, m, hr, e⟩ := hv
    obtain ⟨xs, h1, h2⟩ := key h hr
    exact ⟨_, _, xs, e, h1, h2⟩
  · injection hn with hn; subst hn
    simp only [VR] at hv
    obtain ⟨b, m, c, hr, e, _⟩ := hv
    obtain ⟨xs, h1, h2⟩ := key h hr
    exact ⟨_, _, xs, e, h1, h2⟩
  · injection hn with hn; subst hn
    simp only [VR] at hv
    have h : some [] = some l := h
    injection h with h; subst h
    exact ⟨none, 0, [], hv, by simp [VRL], Rd.nil⟩
  · rename_i s; exact absurd rfl (hs s)
  · cases hn

/-- A fresh row of cells that a call has made. -/
theorem fresh_row {ρ : Rho} {S : St} {w w' : World} {K : Nat} (hw : WR ρ S w) (hK : K ≤ S.next) (hb : Below w.heap.size w w') {g : Nat} {cs : List AV} {xs : List Value} {t : TypeId} (hg : w.heap.size ≤ g)
    (hblk : w'.heap[g]? = some (Obj.cells xs.toArray t (0, 0))) (hx : ∀ σ, VRL σ cs xs) (hl : cs.length ≤ 1000000) (hlim : S.next + 1 < 1048575) :
    ∃ σ, WR σ ⟨S.heap.to S.next (.cells (wr cs .e 0) cs.length t true), S.next + 1⟩ w' ∧ Up K S ⟨S.heap.to S.next (.cells (wr cs .e 0) cs.length t true), S.next + 1⟩ ρ σ w ∧ Fr K S ρ w w' ∧ σ S.next = some (g, cs.length) := by
  have hnone := (hw.dom S.next (Nat.le_refl _)).1
  have hnoneS := (hw.dom S.next (Nat.le_refl _)).2
  have hglt : g < w'.heap.size := (Array.getElem?_eq_some_iff.1 hblk).1
  have hat : ∀ i A, (S.heap.to S.next (.cells (wr cs .e 0) cs.length t true)).at i = some A → (i = S.next ∧ A = .cells (wr cs .e 0) cs.length t true) ∨ (i ≠ S.next ∧ S.heap.at i = some A) := by
    intro i A hi
    rw [Tr.at_to _ _ _ _ (by omega)] at hi
    by_cases e : i = S.next
    · rw [if_pos e] at hi; injection hi with hi; exact .inl ⟨e, hi.symm⟩
    · rw [if_neg e] at hi; exact .inr ⟨e, hi⟩
  have hset : ∀ i p, (ρ.set S.next (g, cs.length)) i = some p → (i = S.next ∧ p = (g, cs.length)) ∨ (i ≠ S.next ∧ ρ i = some p) := by
    intro i p hi
    unfold Rho.set at hi
    by_cases e : i = S.next
    · rw [if_pos e] at hi; injection hi with hi; exact .inl ⟨e, hi.symm⟩
    · rw [if_neg e] at hi; exact .inr ⟨e, hi⟩
  have hle : ρ.le (ρ.set S.next (g, cs.length)) := Rho.le_set hnone
  refine ⟨ρ.set S.next (g, cs.length), ⟨fun i j b m n A B hi hj hA hB hri hrj => ?_, fun i hi => ?_, hlim, fun i b n hi => ?_, fun i B hi => ?_⟩, ⟨hle, Nat.le_succ _, fun i hi => ?_, fun i hi h0 => ?_, fun i b n A hA hl hr => ?_⟩, ⟨hb.os, hb.tape, hb.output, hb.size, fun b hlt _ => hb.block b hlt⟩, Rho.set_same _ _ _⟩
  · rcases hat i A hi with ⟨e1, _⟩ | ⟨e1, p1⟩ <;> rcases hat j B hj with ⟨e2, _⟩ | ⟨e2, p2⟩
    · rw [e1, e2]
    · rcases hset i _ hri with ⟨_, r1⟩ | ⟨r, _⟩
      · injection r1 with r1; subst r1
        rcases hset j _ hrj with ⟨r, _⟩ | ⟨_, r2⟩
        · exact absurd r e2
        · have := hw.low _ _ _ r2; omega
      · exact absurd e1 r
    · rcases hset j _ hrj with ⟨_, r1⟩ | ⟨r, _⟩
      · injection r1 with r1; subst r1
        rcases hset i _ hri with ⟨r, _⟩ | ⟨_, r2⟩
        · exact absurd r e1
        · have := hw.low _ _ _ r2; omega
      · exact absurd e2 r
    · rcases hset i _ hri with ⟨r, _⟩ | ⟨_, r1⟩
      · exact absurd r e1
      · rcases hset j _ hrj with ⟨r, _⟩ | ⟨_, r2⟩
        · exact absurd r e2
        · exact hw.inj i j b m n A B p1 p2 hA hB r1 r2
  · have hi : S.next + 1 ≤ i := hi
    constructor
    · unfold Rho.set; rw [if_neg (by omega)]; exact (hw.dom i (by omega)).1
    · show (S.heap.to S.next _).at i = none
      rw [Tr.at_to _ _ _ _ (by omega), if_neg (by omega)]; exact (hw.dom i (by omega)).2
  · rcases hset i _ hi with ⟨_, e⟩ | ⟨_, e⟩
    · injection e with e e2; omega
    · have := hw.low i b n e; have := hb.size; omega
  · rcases hat i B hi with ⟨e, e2⟩ | ⟨_, e2⟩
    · subst e; subst e2
      refine ⟨g, cs.length, Rho.set_same _ _ _, xs.toArray, (0, 0), hblk, by simpa using (hx ρ).length, Nat.le_refl _, fun j v hj => ?_, fun _ => rfl⟩
      obtain ⟨q1, q2⟩ := wr_e_at hl hj
      obtain ⟨x, h1, h2⟩ := (hx _).get j v q2
      exact ⟨q1, x, by simpa using h1, h2⟩
    · obtain ⟨b, n, h1, h2⟩ := hw.blk i B e2
      exact ⟨b, n, hle _ _ h1, by rw [hb.block b (hw.low i b n h1)]; exact BR.mono hle h2⟩
  · unfold Rho.set; rw [if_neg (by omega)]
  · show (S.heap.to S.next _).at i = none
    rw [Tr.at_to _ _ _ _ (by omega), if_neg (by omega)]; exact h0
  · rcases hat i A hA with ⟨e, _⟩ | ⟨e, p⟩
    · subst e
      rcases hset _ _ hr with ⟨_, e⟩ | ⟨r, _⟩
      · injection e with e; subst e; exact .inr ⟨hK, .inl hg⟩
      · exact absurd rfl r
    · rcases hset i _ hr with ⟨r, _⟩ | ⟨_, r⟩
      · exact absurd r e
      · exact .inl ⟨r, A, p, hl⟩

noncomputable def mvsA (l : List Mv) : List AV := List.rec [] (fun m _ ih => .int .u8 (.ofNat m.t) :: .int .i64 m.x :: .int .i64 m.y :: ih) l
theorem mvsA_vr (σ : Rho) : ∀ l : List Mv, VRL σ (mvsA l) (mvsV l)
  | [] => by show VRL σ [] []; simp only [VRL]
  | m :: l => by
    have e : mvsA (m :: l) = .int .u8 (.ofNat m.t) :: .int .i64 m.x :: .int .i64 m.y :: mvsA l := rfl
    have e2 : mvsV (m :: l) = .int .u8 m.t :: .int .i64 m.x :: .int .i64 m.y :: mvsV l := rfl
    rw [e, e2]
    simp only [VRL, VR]
    exact ⟨_, _, rfl, rfl, _, _, rfl, rfl, _, _, rfl, rfl, mvsA_vr σ l⟩
theorem mvsA_len : ∀ l : List Mv, (mvsA l).length = l.length * 3
  | [] => rfl
  | m :: l => by
    have e : mvsA (m :: l) = .int .u8 (.ofNat m.t) :: .int .i64 m.x :: .int .i64 m.y :: mvsA l := rfl
    rw [e]; simp only [List.length_cons, mvsA_len l]; omega
/-- A fresh row, as a call's result makes it. -/
noncomputable def rowC (S : St) (cs : List AV) (t : TypeId) (k : Nat → Nat → St → CRes) : CRes :=
  lenC cs fun n => fNat S.next fun nx => Bool.rec (.no [90]) (headC (wr cs .e 0) fun tr => headC (S.heap.to nx (.cells tr n t true)) fun h => fNat (Nat.succ nx) fun nx' => k nx n ⟨h, nx'⟩) (Nat.blt (Nat.succ nx) 1048575 && Nat.ble n 1000000)
theorem rowC_ok {S : St} {cs : List AV} {t : TypeId} {k : Nat → Nat → St → CRes} {v : AV} {S' : St} (h : rowC S cs t k = .ok v S') :
    k S.next cs.length ⟨S.heap.to S.next (.cells (wr cs .e 0) cs.length t true), S.next + 1⟩ = .ok v S' ∧ cs.length ≤ 1000000 ∧ S.next + 1 < 1048575 := by
  unfold rowC at h
  simp only [lenC_eq, fNat_eq, headC_eq] at h
  cases hc : (Nat.blt (Nat.succ S.next) 1048575 && Nat.ble cs.length 1000000) with
  | false => rw [hc] at h; cases h
  | true =>
    rw [hc] at h
    simp only [Bool.and_eq_true, Nat.blt_eq] at hc
    exact ⟨h, Nat.le_of_ble_eq_true hc.2, hc.1⟩

/-- places.relative. -/
noncomputable def xRel1 (a b : Int) (sl : AV) (S : St) : CRes := match sl with
    | .str _ => .no [91]
    | sl => match lenAV sl with
      | none => .no [92]
      | some n => fInt a fun a => fInt b fun b => fNat n fun n => match aRead S 3 n sl with
        | none => .no [93]
        | some cells => match toCrs (Nat.succ n) cells with
          | none => .no [94]
          | some l => match patB a b l n && Nat.beq l.length n, relFC a b l with
            | false, _ => .no [95]
            | true, none => .ok (.tup [.nilSl, .int .i64 11]) S
            | true, some ms => lenC ms fun m => rowC S (mvsA ms) 42 fun nx _ S' => .ok (.tup [.sl nx 0 m m, .int .i64 0]) S'
noncomputable def xRel : List AV → St → CRes := fun vs S => match vs with
  | [.agg [.int .i64 a, .int .i64 b, sl]] => xRel1 a b sl S
  | _ => .no [96]

/-- A known call with memory, beside others. -/
noncomputable def xtM (g : FuncId) (h : List AV → St → CRes) (xt : FuncId → List AV → St → CRes) : FuncId → List AV → St → CRes := fun f vs S => Bool.rec (xt f vs S) (h vs S) (Nat.beq f g)

theorem xRel_ok {W : World} {K : Nat} (hQ : Qf W) (hT : Tn W) {xt : FuncId → List AV → St → CRes} (hx : CallOk (Kept.zz W K) Tryz.prog xt) : CallOk (Kept.zz W K) Tryz.prog (xtM 96 xRel xt) := by
  intro g vs S v S' h ρ xs w hxs hw hK hz
  unfold xtM at h
  cases hg : Nat.beq g 96 with
  | false => rw [hg] at h; exact hx g vs S v S' h ρ xs w hxs hw hK hz
  | true =>
    rw [hg] at h
    have hg := Nat.eq_of_beq_eq_true hg
    subst hg
    have h : xRel vs S = .ok v S' := h
    have hz : Zz W K S ρ w := hz
    refine .inl ⟨by decide, enters_of Tryz.func96 (by kernel_rfl) rfl _, ?_⟩
    unfold xRel at h
    split at h
    · rename_i a b sl _
      unfold xRel1 at h
      split at h
      · cases h
      · rename_i hns
        split at h
        · cases h
        · rename_i n hn
          simp only [fInt_eq, fNat_eq] at h
          split at h
          · cases h
          · rename_i cells hcells
            split at h
            · cases h
            · rename_i l hl
              simp only [VRL, VR] at hxs
              obtain ⟨_, _, rfl, ⟨_, rfl, _, _, rfl, rfl, _, _, rfl, rfl, x, _, rfl, hsl, rfl⟩, rfl⟩ := hxs
              obtain ⟨A, c, ys, rfl, hy, hrd⟩ := slice_rd hw hn hcells hsl (fun s e => hns s e)
              have hys := toCrs_ok hl hy
              subst hys
              have hb := hz.below
              have key : (patB a b l n && Nat.beq l.length n) = true → Calls Tryz.prog 96 #[.agg #[.int .i64 a, .int .i64 b, .slice A n c]] w (RelRet (relF a b l) w) := by
                intro hp
                rw [Bool.and_eq_true] at hp
                have hnl := (Nat.eq_of_beq_eq_true hp.2).symm
                obtain ⟨h1, h2⟩ := patB_ok hnl hp.1
                exact relative_ok a b A l n c w h1 hnl hrd h2 (hQ.below hb) (hT.below hb)
              rw [relFC_eq] at h
              split at h
              · cases h
              · rename_i hp hr
                injection h with e1 e2; subst e1; subst e2
                refine (key hp).mono ?_
                rintro e w' ⟨hb', hret⟩
                rw [hr] at hret
                dsimp only at hret
                subst hret
                refine ⟨_, ρ, rfl, ?_, WR.of_below hw hb', Up.refl _ _ _ _, Fr.of_below hb'⟩
                simp only [VR, VRL]
                exact ⟨_, rfl, _, _, rfl, rfl, _, _, rfl, rfl, rfl⟩
              · rename_i ms hp hr
                rw [lenC_eq] at h
                obtain ⟨h1, h2, h3⟩ := rowC_ok h
                injection h1 with e1 e2; subst e1; subst e2
                refine (key hp).mono ?_
                rintro e w' ⟨hb', hret⟩
                rw [hr] at hret
                dsimp only at hret
                obtain ⟨g, rfl, hg, hblk⟩ := hret
                obtain ⟨σ, q1, q2, q3, q4⟩ := fresh_row hw hK hb' hg hblk (fun σ => mvsA_vr σ ms) h2 h3
                refine ⟨_, σ, rfl, ?_, q1, q2, q3⟩
                simp only [VR, VRL]
                exact ⟨_, rfl, _, _, rfl, ⟨_, _, q4, rfl⟩, _, _, rfl, rfl, rfl⟩
    · cases h
end Go.Proofs.YtjdmkgnlakonbaaGreatDoor
