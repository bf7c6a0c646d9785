/- Joined texts. A closed-run executor, part 45: calls that are known by a run on a small memory. No program is named; the one condition: the program follows the mixed orders. · Maps with keys of any kind that is compared part by part: what they hold, looked up and written, exactly. No function of the program is named; no condition. · Units of sheets as keys of maps. · Contracts of package patterns: the search for a crease. · Contracts of package patterns: at, Empty; what Set makes of the list of creases. · The contract of patterns.Kind at an edge that there is. · The contract of places.creased. · The contract of places.relative's closure 'across': the place of the neighbour of a cell. -/
import Derived.Test.YtdkijcmhjeaofaaGreatDoorQFs
import Derived.Test.YtdkijcmhjeaofaaGreatDoorQCln
import Derived.Maps.OwnOps
import Derived.Test.YtdkijcmhjeaofaaGreatDoorRows
import Derived.Test.YtdkijcmhjeaofaaGreatDoorQSp2
import Derived.Test.YtdkijcmhjeaofaaGreatDoorQBs
namespace Go.Proofs.YtdkijcmhjeaofaaGreatDoor
namespace Ex

variable {P : Program} {K : Nat} {ext ext2 : FuncId → List AV → Option AV} {xt : FuncId → List AV → St → CRes}

noncomputable def lenC {α γ : Type} (l : List α) (k : Nat → γ) : γ := List.rec (motive := fun _ => (Nat → γ) → γ) (fun k => k 0) (fun _ _ ih k => ih fun n => k (Nat.succ n)) l k
theorem lenC_eq {α γ : Type} : ∀ (l : List α) (k : Nat → γ), lenC l k = k l.length
  | [], _ => rfl
  | x :: l, k => by
    have e : lenC (x :: l) k = lenC l (fun n => k (Nat.succ n)) := rfl
    rw [e, lenC_eq l]; rfl
theorem mapO_get {α β : Type} {f : α → Option β} : ∀ {l : List α} {r : List β}, mapO f l = some r → r.length = l.length ∧ ∀ (j : Nat) (u : β), r[j]? = some u → ∃ v, l[j]? = some v ∧ f v = some u
  | [], r, h => by
    have h : some [] = some r := h
    injection h with h; subst h
    exact ⟨rfl, fun j u hj => by simp at hj⟩
  | v :: l, r, h => by
    obtain ⟨y, ys, h1, h2, h3⟩ := mapO_cons h
    subst h3
    obtain ⟨g1, g2⟩ := mapO_get h2
    refine ⟨by simp [g1], fun j u hj => ?_⟩
    cases j with
    | zero => simp at hj; subst hj; exact ⟨v, by simp, h1⟩
    | succ j => obtain ⟨w, q1, q2⟩ := g2 j u (by simpa using hj); exact ⟨w, by simpa using q1, q2⟩

/-- A call that was run on a small memory: what it finds, what it gives, and the blocks that it makes. -/
structure MemR where
  g : FuncId
  nx : Nat
  vs : List AV
  pre : List RB
  v : AV
  post : List RB
noncomputable def MemR.S0 (m : MemR) : St := ⟨addAll m.pre .e, m.nx⟩
noncomputable def ixOf (c : Nat) (l : List RB) : Nat → Option Nat := List.rec (motive := fun _ => Nat → Option Nat) (fun _ => none) (fun p _ ih k => Bool.rec (ih (Nat.succ k)) (some k) (Nat.beq c p.id)) l
theorem ixOf_ok {c : Nat} : ∀ {l : List RB} {k a : Nat}, ixOf c l k = some a → k ≤ a ∧ ∃ p, l[a - k]? = some p ∧ p.id = c
  | [], _, _, h => by cases h
  | p :: l, k, a, h => by
    have h : (Bool.rec (ixOf c l (k + 1)) (some k) (Nat.beq c p.id) : Option Nat) = some a := h
    cases hb : Nat.beq c p.id with
    | true =>
      rw [hb] at h; injection h with h; subst h
      exact ⟨Nat.le_refl _, p, by simp, (Nat.eq_of_beq_eq_true hb).symm⟩
    | false =>
      rw [hb] at h
      obtain ⟨h1, q, h2, h3⟩ := ixOf_ok h
      refine ⟨by omega, q, ?_, h3⟩
      have e : a - k = (a - (k + 1)) + 1 := by omega
      rw [e]; simpa using h2
noncomputable def renN (nx next : Nat) (θ : List (Nat × Nat)) (post : List RB) (c : Nat) : Option Nat := Bool.rec (ixOf c post next) (lk c θ) (Nat.blt c nx)
noncomputable def addP (r : Nat → Option Nat) (l : List RB) : St → (St → CRes) → CRes :=
  List.rec (motive := fun _ => St → (St → CRes) → CRes) (fun S k => k S) (fun p _ ih S k => Option.rec (.no [97]) (fun l' => lenC l' fun n => headC (wr l' .e 0) fun t => headC (S.heap.to S.next (.cells t n p.e p.free)) fun h => fNat (Nat.succ S.next) fun nx => ih ⟨h, nx⟩ k) (mapO (ren1 r) p.l)) l
/-- What the added blocks are. -/
def Added (r : Nat → Option Nat) (l : List RB) (S T : St) : Prop := T.next = S.next + l.length ∧ ∀ i A, T.heap.at i = some A →
  (∃ j p l', l[j]? = some p ∧ i = S.next + j ∧ mapO (ren1 r) p.l = some l' ∧ A = .cells (wr l' .e 0) l'.length p.e p.free) ∨ ((∀ j, j < l.length → i ≠ S.next + j) ∧ S.heap.at i = some A)
theorem addP_ok {r : Nat → Option Nat} : ∀ {l : List RB} {S : St} {k : St → CRes} {v : AV} {S' : St}, addP r l S k = .ok v S' → S.next + l.length < 1048575 → ∃ T, k T = .ok v S' ∧ Added r l S T
  | [], S, k, v, S', h, _ => ⟨S, h, rfl, fun i A hA => .inr ⟨fun j hj => by simp at hj, hA⟩⟩
  | p :: l, S, k, v, S', h, hl => by
    have h : (Option.rec (.no [97]) (fun l' => lenC l' fun n => headC (wr l' .e 0) fun t => headC (S.heap.to S.next (.cells t n p.e p.free)) fun h => fNat (Nat.succ S.next) fun nx => addP r l ⟨h, nx⟩ k) (mapO (ren1 r) p.l) : CRes) = .ok v S' := h
    cases hm : mapO (ren1 r) p.l with
    | none => rw [hm] at h; cases h
    | some l' =>
      rw [hm] at h
      simp only [lenC_eq, headC_eq, fNat_eq] at h
      simp only [List.length_cons] at hl
      obtain ⟨T, h1, h2, h3⟩ := addP_ok h (by show S.next + 1 + l.length < 1048575; omega)
      have h2 : T.next = S.next + 1 + l.length := h2
      refine ⟨T, h1, by rw [h2]; simp; omega, fun i A hA => ?_⟩
      rcases h3 i A hA with ⟨j, q, l2, q1, q2, q3, q4⟩ | ⟨q1, q2⟩
      · have q2 : i = S.next + 1 + j := q2
        exact .inl ⟨j + 1, q, l2, by simpa using q1, by omega, q3, q4⟩
      · have q1 : ∀ j, j < l.length → i ≠ S.next + 1 + j := q1
        have q2 : (S.heap.to S.next (.cells (wr l' .e 0) l'.length p.e p.free)).at i = some A := q2
        rw [Tr.at_to _ _ _ _ (by omega)] at q2
        by_cases e : i = S.next
        · rw [if_pos e] at q2; injection q2 with q2
          exact .inl ⟨0, p, l', by simp, by omega, hm, q2.symm⟩
        · rw [if_neg e] at q2
          refine .inr ⟨fun j hj => ?_, q2⟩
          cases j with
          | zero => simpa using e
          | succ j => have := q1 j (by simp at hj; omega); omega
noncomputable def keysOk (nx : Nat) (θ : List (Nat × Nat)) : Bool := List.rec true (fun p _ ih => Prod.rec (fun c _ => Nat.blt c nx && ih) p) θ
theorem keysOk_ok {nx : Nat} : ∀ {θ : List (Nat × Nat)}, keysOk nx θ = true → ∀ i a, lk i θ = some a → i < nx
  | [], _, i, a, h => by cases h
  | (d, b) :: θ, hk, i, a, h => by
    have hk : (Nat.blt d nx && keysOk nx θ) = true := hk
    rw [Bool.and_eq_true, Nat.blt_eq] at hk
    rw [lk_cons] at h
    by_cases e : i = d
    · rw [e]; exact hk.1
    · rw [if_neg e] at h; exact keysOk_ok hk.2 i a h
noncomputable def memR1 (m : MemR) (vs : List AV) (S : St) : CRes :=
  Option.rec (.no [98, 1]) (fun θ => Option.rec (.no [98, 2]) (fun θ => Bool.rec (.no [98, 3]) (fNat S.next fun nx => addP (renN m.nx nx θ m.post) m.post S fun T => Option.rec (.no [98, 4]) (fun v => .ok v T) (ren (renN m.nx nx θ m.post) m.v))
    (keysOk m.nx θ && lenC m.post fun n => Nat.blt (Nat.add S.next n) 1048575)) (findAll S m.pre θ)) (uniA m.vs vs [])
noncomputable def memR (m : MemR) (xt : FuncId → List AV → St → CRes) : FuncId → List AV → St → CRes := fun g vs S =>
  Bool.rec (xt g vs S) (CRes.rec (fun v S => .ok v S) (fun _ => xt g vs S) (memR1 m vs S)) (Nat.beq g m.g)
noncomputable def nodupB (l : List RB) : Bool := List.rec true (fun p l ih => not (l.any fun q => Nat.beq p.id q.id) && ih) l
theorem nodupB_ok : ∀ {l : List RB}, nodupB l = true → ∀ (i j : Nat) (p q : RB), l[i]? = some p → l[j]? = some q → p.id = q.id → i = j
  | [], _, i, j, p, q, hi, _, _ => by simp at hi
  | x :: l, h, i, j, p, q, hi, hj, e => by
    have h : (not (l.any fun q => Nat.beq x.id q.id) && nodupB l) = true := h
    rw [Bool.and_eq_true, Bool.not_eq_true', List.any_eq_false] at h
    cases i with
    | zero =>
      simp at hi; subst hi
      cases j with
      | zero => rfl
      | succ j => exact absurd (beq_t e) (by simpa using h.1 q (List.mem_of_getElem? (by simpa using hj)))
    | succ i =>
      cases j with
      | zero => simp at hj; subst hj; exact absurd (beq_t e.symm) (by simpa using h.1 p (List.mem_of_getElem? (by simpa using hi)))
      | succ j => rw [nodupB_ok h.2 i j p q (by simpa using hi) (by simpa using hj) e]
/-- The kernel's word on it. -/
noncomputable def MemR.good (m : MemR) (P : Program) (ext ext2 : FuncId → List AV → Option AV) (xt : FuncId → List AV → St → CRes) (n : Nat) : Bool :=
  Nat.blt m.nx 1048575 && (m.pre.all (fun p => Nat.blt p.id m.nx) && (m.post.all (fun p => Nat.ble m.nx p.id) && (nodupB m.post &&
    match run m.nx P ext xt (fun call => doDrawn m.nx P ext2 call) n m.g m.vs m.S0 with
    | .ok v S => eqT v m.v && m.post.all (holdsB S)
    | .no _ => false)))

theorem memR_ok {W : World} (hm : P.follows .mixedOrders = true) (hext : ExtOk P ext) (hext2 : ∀ K, Ext2Ok (Kept.zz W K) P ext2) (hxt : ∀ K, CallOk (Kept.zz W K) P xt) {n : Nat} {m : MemR} (h : m.good P ext ext2 xt n = true) {xt' : FuncId → List AV → St → CRes} (hxt' : ∀ K, CallOk (Kept.zz W K) P xt') : ∀ K, CallOk (Kept.zz W K) P (memR m xt') := by
  intro K g vs S v S' hc ρ xs w hxs hw hK hz
  unfold memR at hc
  cases hg : Nat.beq g m.g with
  | false => rw [hg] at hc; exact hxt' K g vs S v S' hc ρ xs w hxs hw hK hz
  | true =>
    rw [hg] at hc
    have hg := Nat.eq_of_beq_eq_true hg
    subst hg
    cases hm1 : memR1 m vs S with
    | no why => rw [hm1] at hc; exact hxt' K m.g vs S v S' hc ρ xs w hxs hw hK hz
    | ok v1 S1' =>
      rw [hm1] at hc
      injection hc with e1 e2; subst e1; subst e2
      unfold memR1 at hm1
      cases hu : uniA m.vs vs [] with
      | none => rw [hu] at hm1; cases hm1
      | some θ0 =>
        rw [hu] at hm1
        simp only at hm1
        cases hf : findAll S m.pre θ0 with
        | none => rw [hf] at hm1; cases hm1
        | some θ =>
          rw [hf] at hm1
          simp only [lenC_eq] at hm1
          cases hk : (keysOk m.nx θ && Nat.blt (Nat.add S.next m.post.length) 1048575) with
          | false => rw [hk] at hm1; cases hm1
          | true =>
            rw [hk] at hm1
            simp only [fNat_eq] at hm1
            rw [Bool.and_eq_true, Nat.blt_eq] at hk
            obtain ⟨hk1, hk2⟩ := hk
            have hk2 : S.next + m.post.length < 1048575 := hk2
            obtain ⟨T, t1, t2, t3⟩ := addP_ok hm1 hk2
            have i0 : Inj [] := fun i j a h => by cases h
            obtain ⟨i1, x1, u1⟩ := uniA_ok (ρ := ρ) hu i0
            obtain ⟨i2, x2, f2⟩ := findAll_ok hf i1
            have hkeys := keysOk_ok hk1
            have hfound := f2 θ (fun _ _ h => h)
            -- the run
            unfold MemR.good at h
            simp only [Bool.and_eq_true, List.all_eq_true, Nat.blt_eq] at h
            obtain ⟨d0, d1, d2, d3, d4⟩ := h
            split at d4
            · rename_i v0 S1 hrun
              simp only [Bool.and_eq_true, List.all_eq_true] at d4
              obtain ⟨d4, d5⟩ := d4
              have d4 := eqT_ok d4
              subst d4
              have hpl : ∀ p ∈ m.pre, p.id < 1048575 := fun p hp => by have := d1 p hp; omega
              have hS0 : ∀ i B, m.S0.heap.at i = some B → i < m.nx ∧ ∃ p ∈ m.pre, p.id = i ∧ B = p.ab := by
                intro i B hB
                rcases addAll_at hpl hB with ⟨p, hp, e, e'⟩ | ⟨hB, _⟩
                · exact ⟨by rw [← e]; exact d1 p hp, p, hp, e, e'⟩
                · rw [Tr.at_e] at hB; cases hB
              obtain ⟨ρ0, hρ0⟩ : ∃ ρ0, ρ0 = ρ.via θ := ⟨_, rfl⟩
              have hw0 : WR ρ0 m.S0 w := by
                rw [hρ0]
                refine ⟨fun i j b m1 n1 A B hi hj hA hB hρi hρj => ?_, fun i hi => ⟨?_, ?_⟩, by show m.nx < _; omega, fun i b n hi => ?_, fun i B hB => ?_⟩
                · obtain ⟨_, p, hp, e, _⟩ := hS0 i A hi
                  obtain ⟨_, q, hq, e', _⟩ := hS0 j B hj
                  obtain ⟨a, _, _, _, h1, h2, _⟩ := hfound p hp
                  obtain ⟨a', _, _, _, h1', h2', _⟩ := hfound q hq
                  rw [e] at h1; rw [e'] at h1'
                  rw [Rho.via_some h1] at hρi
                  rw [Rho.via_some h1'] at hρj
                  have := hw.inj a a' b m1 n1 _ _ h2 h2' rfl rfl hρi hρj
                  subst this
                  exact i2 i j a h1 h1'
                · unfold Rho.via
                  cases hl : lk i θ with
                  | none => rfl
                  | some a => have := hkeys i a hl; have hi : m.nx ≤ i := hi; omega
                · cases hB : m.S0.heap.at i with
                  | none => rfl
                  | some B => have := (hS0 i B hB).1; have hi : m.nx ≤ i := hi; omega
                · obtain ⟨a, _, h2⟩ := Rho.via_get hi
                  exact hw.low a b n h2
                · obtain ⟨_, p, hp, e, e'⟩ := hS0 i B hB
                  obtain ⟨a, t, n1, free, h1, h2, h3, h4, h5, h6⟩ := hfound p hp
                  obtain ⟨b, k, hb, c, f, q1, q2, q3, q4, q5⟩ := hw.blk a _ h2
                  rw [e] at h1
                  refine ⟨b, k, by rw [Rho.via_some h1]; exact hb, ?_⟩
                  rw [e']
                  refine ⟨c, f, q1, q2, by omega, fun j v hj => ?_, fun hfr => by rw [h5] at hfr; cases hfr⟩
                  obtain ⟨r1, r2⟩ := RB.at_ok h4 hj
                  exact ⟨r1, h6 ρ c q4 j v r2⟩
              have hxs0 : VRL ρ0 m.vs xs := by rw [hρ0]; exact u1 θ x2 xs hxs
              have hz : Zz W K S ρ w := hz
              have hz0 : Zz W m.nx m.S0 ρ0 w := ⟨fun i b n1 A hi hA _ _ => by have := (hS0 i A hA).1; omega, hz.below⟩
              refine Ent.mono ?_ (R := fun e w' => ∃ x σ, e = .returned x ∧ VR σ m.v x ∧ WR σ S1 w' ∧ Up m.nx m.S0 S1 ρ0 σ w ∧ Fr m.nx m.S0 ρ0 w w') ?_
              · rcases run_sound2 (Z := Kept.zz W m.nx) hm hext (hext2 m.nx) (hxt m.nx) n m.g m.vs m.S0 m.v S1 hrun ρ0 xs w hxs0 hw0 (Nat.le_refl _) hz0 with hl | ⟨y, b, k, h1, _⟩
                · exact .inl hl
                · have hlt : m.g < 1048576 := by
                    unfold run callB at hrun
                    split at hrun
                    · cases hrun
                    · split at hrun
                      · split at hrun
                        · rename_i hc
                          simp only [Bool.and_eq_true, Nat.blt_eq] at hc
                          exact hc.2.2
                        · cases hrun
                      · cases hrun
                  exact (fid_no hlt h1).elim
              · rintro e w' ⟨x, σ, rfl, hx, hw', hup, hfr⟩
                have hb : RowKit.Below w.heap.size w w' := ⟨hfr.os, hfr.tape, hfr.output, hfr.size, fun b hb => hfr.block b hb fun i n1 A hi hA _ => by have := (hS0 i A hA).1; omega⟩
                obtain ⟨ρ', hρ'⟩ : ∃ ρ' : Rho, ρ' = fun a => if a < S.next then ρ a else match m.post[a - S.next]? with | some p => σ p.id | none => none := ⟨_, rfl⟩
                have hρlt : ∀ a, a < S.next → ρ' a = ρ a := fun a ha => by rw [hρ']; simp only [ha, if_true]
                have hρnew : ∀ j p, m.post[j]? = some p → ρ' (S.next + j) = σ p.id := fun j p hj => by
                  rw [hρ']
                  have e : S.next + j - S.next = j := by omega
                  simp only [show ¬ S.next + j < S.next by omega, if_false, e, hj]
                have hle : ρ.le ρ' := fun i p hi => by
                  rw [hρlt i]
                  · exact hi
                  · apply Classical.byContradiction
                    intro hn
                    rw [(hw.dom i (by omega)).1] at hi; cases hi
                have hren : RenOk (renN m.nx S.next θ m.post) σ ρ' := by
                  intro c a p hr hσ
                  unfold renN at hr
                  cases hb : Nat.blt c m.nx with
                  | true =>
                    rw [hb] at hr
                    have hr : lk c θ = some a := hr
                    rw [Nat.blt_eq] at hb
                    rw [hup.old c hb, hρ0, Rho.via_some hr] at hσ
                    exact hle a p hσ
                  | false =>
                    rw [hb] at hr
                    obtain ⟨h1, q, h2, h3⟩ := ixOf_ok hr
                    have e : a = S.next + (a - S.next) := by omega
                    rw [e, hρnew _ q h2, h3]; exact hσ
                have hpost : ∀ p ∈ m.post, p.l.length < 1000000 ∧ ∃ t, S1.heap.at p.id = some (.cells t p.l.length p.e p.free) ∧ ∀ j v, p.l[j]? = some v → t.at j = some v := fun p hp => holdsB_ok (d5 p hp)
                have hfresh : ∀ p ∈ m.post, ∀ b n1, σ p.id = some (b, n1) → w.heap.size ≤ b := by
                  intro p hp b n1 hσ
                  obtain ⟨_, t, ht, _⟩ := hpost p hp
                  have hge := Nat.le_of_ble_eq_true (d2 p hp)
                  rcases hup.new p.id b n1 _ ht rfl hσ with ⟨_, A', h2, _⟩ | ⟨_, h1 | ⟨j, m1, A', hj, h2, _⟩⟩
                  · have := (hS0 _ _ h2).1; omega
                  · exact h1
                  · have := (hS0 _ _ h2).1; omega
                have hT : ∀ i A, T.heap.at i = some A → (∃ j p l', m.post[j]? = some p ∧ i = S.next + j ∧ mapO (ren1 (renN m.nx S.next θ m.post)) p.l = some l' ∧ A = .cells (wr l' .e 0) l'.length p.e p.free) ∨ (i < S.next ∧ S.heap.at i = some A) := by
                  intro i A hA
                  rcases t3 i A hA with h | ⟨_, h⟩
                  · exact .inl h
                  · refine .inr ⟨?_, h⟩
                    apply Classical.byContradiction
                    intro hn
                    rw [(hw.dom i (by omega)).2] at h; cases h
                cases hrv : ren (renN m.nx S.next θ m.post) m.v with
                | none => rw [hrv] at t1; cases t1
                | some v' =>
                  rw [hrv] at t1
                  injection t1 with t1 t4; subst t1; subst t4
                  refine ⟨x, ρ', rfl, ren_ok hren hrv hx, ⟨fun i j b m1 n1 A B hi hj hA hB hσi hσj => ?_, fun i hi => ?_, by rw [t2]; exact hk2, fun i b n1 hi => ?_, fun i B hB => ?_⟩, ⟨hle, by rw [t2]; omega, fun i hi => hρlt i hi, fun i hi h0 => ?_, fun i b n1 A hA hl hσ => ?_⟩, ⟨hfr.os, hfr.tape, hfr.output, hfr.size, fun b hb' _ => hb.block b hb'⟩⟩
                  · rcases hT i A hi with ⟨k1, p, _, p1, p2, _, _⟩ | ⟨hil, hiS⟩ <;> rcases hT j B hj with ⟨k2, q, _, q1, q2, _, _⟩ | ⟨hjl, hjS⟩
                    · subst p2; subst q2
                      rw [hρnew _ _ p1] at hσi; rw [hρnew _ _ q1] at hσj
                      obtain ⟨_, t, ht, _⟩ := hpost p (List.mem_of_getElem? p1)
                      obtain ⟨_, t', ht', _⟩ := hpost q (List.mem_of_getElem? q1)
                      have := hw'.inj _ _ b m1 n1 _ _ ht ht' rfl rfl hσi hσj
                      rw [nodupB_ok d3 k1 k2 p q p1 q1 this]
                    · subst p2
                      rw [hρnew _ _ p1] at hσi; rw [hρlt _ hjl] at hσj
                      have := hfresh p (List.mem_of_getElem? p1) b m1 hσi
                      have := hw.low j b n1 hσj
                      omega
                    · subst q2
                      rw [hρnew _ _ q1] at hσj; rw [hρlt _ hil] at hσi
                      have := hfresh q (List.mem_of_getElem? q1) b n1 hσj
                      have := hw.low i b m1 hσi
                      omega
                    · rw [hρlt _ hil] at hσi; rw [hρlt _ hjl] at hσj
                      exact hw.inj i j b m1 n1 A B hiS hjS hA hB hσi hσj
                  · rw [t2] at hi
                    constructor
                    · rw [hρ']
                      have hge : m.post.length ≤ i - S.next := by omega
                      simp only [show ¬ i < S.next by omega, if_false, List.getElem?_eq_none hge]
                    · cases hB : T.heap.at i with
                      | none => rfl
                      | some A =>
                        rcases hT i A hB with ⟨k1, p, _, p1, p2, _, _⟩ | ⟨hil, _⟩
                        · have : k1 < m.post.length := (List.getElem?_eq_some_iff.1 p1).1
                          omega
                        · omega
                  · by_cases hlt : i < S.next
                    · rw [hρlt i hlt] at hi
                      have := hw.low i b n1 hi; have := hb.size; omega
                    · rw [hρ'] at hi
                      simp only [hlt, if_false] at hi
                      split at hi
                      · exact hw'.low _ _ _ hi
                      · cases hi
                  · rcases hT i B hB with ⟨k1, p, l', p1, p2, p3, p4⟩ | ⟨hil, hiS⟩
                    · subst p2; subst p4
                      obtain ⟨g0, t, ht, htl⟩ := hpost p (List.mem_of_getElem? p1)
                      obtain ⟨b, n1, hb1, c, f, q1, q2, q3, q4, q5⟩ := hw'.blk p.id _ ht
                      refine ⟨b, n1, by rw [hρnew _ _ p1]; exact hb1, ?_⟩
                      obtain ⟨r1, r2⟩ := mapO_get p3
                      refine ⟨c, f, q1, q2, by omega, fun j v hj => ?_, q5⟩
                      obtain ⟨s1, s2⟩ := wr_e_at (by omega) hj
                      obtain ⟨u, s3, s4⟩ := r2 j v s2
                      obtain ⟨_, y, s5, s6⟩ := q4 j u (htl j u s3)
                      exact ⟨s1, y, s5, ren1_ok hren s4 s6⟩
                    · obtain ⟨b, n1, hb1, hB1⟩ := hw.blk i B hiS
                      refine ⟨b, n1, hle _ _ hb1, ?_⟩
                      rw [hb.block b (hw.low i b n1 hb1)]
                      exact BR.mono hle hB1
                  · cases hB : T.heap.at i with
                    | none => rfl
                    | some A =>
                      rcases hT i A hB with ⟨k1, p, _, p1, p2, _, _⟩ | ⟨_, hiS⟩
                      · omega
                      · rw [h0] at hiS; cases hiS
                  · rcases hT i A hA with ⟨k1, p, _, p1, p2, _, _⟩ | ⟨hil, hiS⟩
                    · subst p2
                      rw [hρnew _ _ p1] at hσ
                      exact .inr ⟨by omega, .inl (hfresh p (List.mem_of_getElem? p1) b n1 hσ)⟩
                    · exact .inl ⟨by rw [← hρlt i hil]; exact hσ, A, hiS, hl⟩
            · cases d4

end Ex
end Go.Proofs.YtdkijcmhjeaofaaGreatDoor
namespace Go.Proofs.YtdkijcmhjeaofaaGreatDoor
open Go.RowKit

/-- Keys K p of the type kt: equal as the p are. -/
structure KeyT {κ : Type} [DecidableEq κ] (kt : TypeId) (K : κ → Value) : Prop where
  now : ∃ d, Tryz.prog.underlying kt = some d ∧ ∀ p q, Instr.sameNow d (K p) (K q) = none
  eq : ∀ p q w, (Op.equal kt (K p) (K q)).run Tryz.prog w = .ok (decide (p = q)) w
  check : ∀ b p w, (Instr.checkKey b 10000 kt (K p)).run Tryz.prog w = .ok () w
  bits : ∀ p, Instr.sameBits 10000 (K p) (K p) = true

section
variable {κ : Type} [DecidableEq κ] {kt : TypeId} {K : κ → Value}

def idxM (p : κ) : List (κ × Value) → Nat → Option (Nat × Value)
  | [], _ => none
  | q :: l, n => if p = q.1 then some (n, q.2) else idxM p l (n + 1)
def getM (p : κ) (l : List (κ × Value)) : Option Value := (idxM p l 0).map (·.2)
def putM (p : κ) (v : Value) (l : List (κ × Value)) : List (κ × Value) := match idxM p l 0 with
  | some (i, _) => l.set i (p, v)
  | none => l ++ [(p, v)]
/-- Block M is a map that holds l. -/
def MpOk (K : κ → Value) (w : World) (M : Nat) (l : List (κ × Value)) : Prop :=
  ∃ es clock, w.heap[M]? = some (.map es clock) ∧ es.toList.map (fun e => (e.key, e.val)) = l.map fun q => (K q.1, q.2)

theorem find_run (h : KeyT kt K) (p : κ) (w : World) : ∀ (es : List MapEntry) (l : List (κ × Value)) (n : Nat), es.map (fun e => (e.key, e.val)) = (l.map fun q => (K q.1, q.2)) →
    (Instr.findAsking kt (K p) es n).run Tryz.prog w = .ok (idxM p l n) w
  | [], [], n, _ => by simp [Instr.findAsking, idxM]
  | [], q :: l, n, he => by simp at he
  | e :: es, [], n, he => by simp at he
  | e :: es, q :: l, n, he => by
    simp only [List.map_cons, List.cons.injEq, Prod.mk.injEq] at he
    obtain ⟨⟨h1, h2⟩, h3⟩ := he
    by_cases hpq : p = q.1
    · simp [Instr.findAsking, idxM, h1, h.eq, hpq, h2]
    · simp [Instr.findAsking, idxM, h1, h.eq, hpq, find_run h p w es l (n + 1) h3]
theorem findKey_run (h : KeyT kt K) (p : κ) (w : World) (es : List MapEntry) (l : List (κ × Value)) (he : es.map (fun e => (e.key, e.val)) = l.map fun q => (K q.1, q.2)) :
    (Instr.findKey kt (K p) es).run Tryz.prog w = .ok (idxM p l 0) w := by
  obtain ⟨d, hd, hn⟩ := h.now
  cases es with
  | nil =>
    cases l with
    | nil => simp [Instr.findKey, run_underlying hd, Instr.findNow, idxM]
    | cons q l => simp at he
  | cons e r =>
    cases l with
    | nil => simp at he
    | cons q l =>
      have h1 : e.key = K q.1 := by simp at he; exact he.1.1
      have hr : (Instr.findKey kt (K p) (e :: r)).run Tryz.prog w = (Instr.findAsking kt (K p) (e :: r) 0).run Tryz.prog w := by
        simp [Instr.findKey, run_underlying hd, Instr.findNow, h1, hn]
      rw [hr, find_run h p w _ _ 0 he]

theorem mp_look (h : KeyT kt K) {mt et : TypeId} (hm : Tryz.prog.underlying mt = some (.map kt et)) {z : Value} (hz : ∀ w, (zeroValue et).run Tryz.prog w = .ok z w) {w : World} {M : Nat} {l : List (κ × Value)} (hM : MpOk K w M l) (p : κ) (ok : Bool) :
    (Instr.lookup mt (.map (some M)) (K p) ok).run Tryz.prog w = .ok (if ok then .tuple #[(getM p l).getD z, .bool (getM p l).isSome] else (getM p l).getD z) w := by
  obtain ⟨es, clock, hb, he⟩ := hM
  have hobj : (getObj M).run Tryz.prog w = .ok (.map es clock) w := by simp [getObj, Sem.run, hb]
  have hck := h.check es.isEmpty p w
  have hf := findKey_run h p w es.toList l he
  unfold getM
  cases hi : idxM p l 0 with
  | none =>
    rw [hi] at hf
    simp only [Instr.lookup, Sem.run_bind, run_underlying hm, Result.andThen_ok, hobj, Sem.run_pure, hck, hf, hz]
    rfl
  | some r =>
    rw [hi] at hf
    simp only [Instr.lookup, Sem.run_bind, run_underlying hm, Result.andThen_ok, hobj, Sem.run_pure, hck, hf]
    rfl

theorem mp_put (h : KeyT kt K) {mt et : TypeId} (hm : Tryz.prog.underlying mt = some (.map kt et)) {w : World} {M : Nat} {l : List (κ × Value)} (hM : MpOk K w M l) (p : κ) (v : Value) :
    ∃ w', (Instr.mapUpdate mt (.map (some M)) (K p) v).run Tryz.prog w = .ok () w' ∧ MpOk K w' M (putM p v l) ∧ w.grownBy w' (some M) := by
  obtain ⟨es, clock, hb, he⟩ := hM
  have hlt : M < w.heap.size := (Array.getElem?_eq_some_iff.1 hb).1
  have hobj : (getObj M).run Tryz.prog w = .ok (.map es clock) w := by simp [getObj, Sem.run, hb]
  have hset : ∀ o, (setObj M o).run Tryz.prog w = .ok () { w with heap := w.heap.setIfInBounds M o } := by intro o; simp [setObj, Sem.run, hb]
  have hck := h.check false p w
  have hgr : ∀ o, w.grownBy { w with heap := w.heap.setIfInBounds M o } (some M) := fun o => ⟨rfl, rfl, rfl, by simp, fun i _ hi => by
    have : M ≠ i := fun e => hi (by rw [e])
    simp [this]⟩
  have hf := findKey_run h p w es.toList l he
  have hidx : ∀ (l : List (κ × Value)) (n i : Nat) (v : Value), idxM p l n = some (i, v) → n ≤ i ∧ ∃ q, l[i - n]? = some q ∧ q.1 = p := by
    intro l
    induction l with
    | nil => intro n i v hh; simp [idxM] at hh
    | cons q l ih =>
      intro n i v hh
      unfold idxM at hh
      by_cases hpq : p = q.1
      · rw [if_pos hpq] at hh
        injection hh with hh
        injection hh with h1 h2
        subst h1
        exact ⟨Nat.le_refl _, q, by simp, hpq.symm⟩
      · rw [if_neg hpq] at hh
        obtain ⟨h1, q', h2, h3⟩ := ih (n + 1) i v hh
        refine ⟨by omega, q', ?_, h3⟩
        have e : i - n = (i - (n + 1)) + 1 := by omega
        rw [e, List.getElem?_cons_succ]; exact h2
  unfold putM
  cases hi : idxM p l 0 with
  | none =>
    rw [hi] at hf
    refine ⟨{ w with heap := w.heap.setIfInBounds M (.map (es.push { key := K p, val := v, born := clock }) (clock + 1)) }, ?_, ⟨es.push { key := K p, val := v, born := clock }, clock + 1, by simp [hlt], ?_⟩, hgr _⟩
    · simp only [Instr.mapUpdate, Sem.run_bind, run_underlying hm, Result.andThen_ok, hobj, hck, hf, hset]
    · simp [he]
  | some r =>
    obtain ⟨i, u⟩ := r
    rw [hi] at hf
    obtain ⟨_, q, hq, hqp⟩ := hidx l 0 i u hi
    rw [Nat.sub_zero] at hq
    have hei : ∃ e, es[i]? = some e ∧ e.key = K p := by
      have h1 : (es.toList.map (fun e => (e.key, e.val)))[i]? = (l.map fun q => (K q.1, q.2))[i]? := by rw [he]
      rw [List.getElem?_map, List.getElem?_map, hq] at h1
      simp only [Option.map_some, Array.getElem?_toList] at h1
      cases hes : es[i]? with
      | none => rw [hes] at h1; simp at h1
      | some e =>
        rw [hes] at h1
        simp at h1
        exact ⟨e, rfl, by rw [h1.1, hqp]⟩
    obtain ⟨e, hj', hk⟩ := hei
    have hst : (Instr.keyThatStays (K p) (K p)).run Tryz.prog w = .ok (K p) w := by simp [Instr.keyThatStays, h.bits p]
    refine ⟨{ w with heap := w.heap.setIfInBounds M (.map (es.modify i fun e => { e with key := K p, val := v }) clock) }, ?_, ⟨es.modify i fun e => { e with key := K p, val := v }, clock, by simp [hlt], ?_⟩, hgr _⟩
    · simp only [Instr.mapUpdate, Sem.run_bind, run_underlying hm, Result.andThen_ok, hobj, hck, hf, hset, hj', Option.map_some, Option.getD_some, hk, hst]
    · apply List.ext_getElem?
      intro k
      have hk' : (es.toList.map (fun e => (e.key, e.val)))[k]? = (l.map fun q => (K q.1, q.2))[k]? := by rw [he]
      rw [List.getElem?_map, List.getElem?_map] at hk' ⊢
      rw [Array.toList_modify, List.getElem?_modify, List.getElem?_set]
      have hil : i < l.length := (List.getElem?_eq_some_iff.1 hq).1
      by_cases hik : i = k
      · subst hik
        have hes : es.toList[i]? = some e := by simpa using hj'
        simp [hes, hil]
      · simp only [hik, if_false]
        simpa using hk'

theorem wpList_mp_look (hk : KeyT kt K) {mt et : TypeId} (hmt : Tryz.prog.underlying mt = some (.map kt et)) {z : Value} (hz : ∀ w, (zeroValue et).run Tryz.prog w = .ok z w) (w : World) {ops : Array Oper} {rest : List Oper} {o : Oper} {a : Act} {Q : Exit → Act → World → Prop}
    (hg : o.guard = none) (m x : Operand) (ok : Bool) (hop : o.op = Op.lookup mt m x ok) (M : Nat) (l : List (κ × Value)) (p : κ) (hm : a.eval m = .map (some M)) (hx : a.eval x = K p) (h : MpOk K w M l)
    (hK : wpList Tryz.prog ops Q rest (a.put o.dst (if ok then .tuple #[(getM p l).getD z, .bool (getM p l).isSome] else (getM p l).getD z)) w) :
    wpList Tryz.prog ops Q (o :: rest) a w := by
  refine wpList_plain hg fun K' hK' => ?_
  have hrun := mp_look hk hmt hz h p ok
  unfold Oper.wp
  simp only [execOp, hop, hm, hx, hrun, Sem.run_bind, Result.andThen_ok]
  exact hK' _ _ hK

theorem wpList_mp_put (hk : KeyT kt K) {mt et : TypeId} (hmt : Tryz.prog.underlying mt = some (.map kt et)) (w : World) {ops : Array Oper} {rest : List Oper} {o : Oper} {a : Act} {Q : Exit → Act → World → Prop}
    (hg : o.guard = none) (m x v : Operand) (hop : o.op = Op.mapUpdate mt m x v) (M : Nat) (l : List (κ × Value)) (p : κ) (u : Value) (hm : a.eval m = .map (some M)) (hx : a.eval x = K p) (hv : a.eval v = u) (h : MpOk K w M l)
    (hK : ∀ w', MpOk K w' M (putM p u l) → w.grownBy w' (some M) → wpList Tryz.prog ops Q rest (a.put o.dst undef) w') :
    wpList Tryz.prog ops Q (o :: rest) a w := by
  refine wpList_plain hg fun K' hK' => ?_
  obtain ⟨w', hrun, h1, h2⟩ := mp_put hk hmt h p u
  unfold Oper.wp
  simp only [execOp, hop, hm, hx, hv, hrun, Sem.run_bind, Result.andThen_ok]
  exact hK' _ _ (hK w' h1 h2)
end
theorem MpOk.kept {κ : Type} {K : κ → Value} {w w' : World} {M : Nat} {l : List (κ × Value)} {row : Option Nat} (h : MpOk K w M l) (hg : w.grownBy w' row) (hne : some M ≠ row) : MpOk K w' M l := by
  obtain ⟨es, clock, hb, hes⟩ := h
  exact ⟨es, clock, (hg.block M (Array.getElem?_eq_some_iff.1 hb).1 hne).trans hb, hes⟩
theorem MpOk.below {κ : Type} {K : κ → Value} {w w' : World} {M N : Nat} {l : List (κ × Value)} (h : MpOk K w M l) (hb : Below N w w') (hN : M < N) : MpOk K w' M l := by
  obtain ⟨es, clock, hm, hes⟩ := h
  exact ⟨es, clock, _root_.Go.Proofs.YtdkijcmhjeaofaaGreatDoor.kept hb hm hN, hes⟩
theorem MpOk.lt {κ : Type} {K : κ → Value} {w : World} {M : Nat} {l : List (κ × Value)} (h : MpOk K w M l) : M < w.heap.size := by
  obtain ⟨es, clock, hm, hes⟩ := h
  exact (Array.getElem?_eq_some_iff.1 hm).1
theorem mp_made {κ : Type} (K : κ → Value) (w : World) : MpOk K (w.alloc (.map #[] 0)) w.heap.size [] := ⟨#[], 0, heap_alloc_new w _, by simp⟩
end Go.Proofs.YtdkijcmhjeaofaaGreatDoor
namespace Go.Proofs.YtdkijcmhjeaofaaGreatDoor
open Go.RowKit

def unK (u : Int × Int) : Value := .agg #[.int .i64 u.1, .int .u8 u.2]
theorem k_int : Tryz.prog.underlying 3 = some (.int .i64) := by kernel_rfl
theorem k_u8 : Tryz.prog.underlying 5 = some (.int .u8) := by kernel_rfl
theorem unit_held : Tryz.prog.stoodInHeld 221 = false := by kernel_rfl
theorem unit_p0 (a b : Int) (w : World) : (part 3 #[Value.int .i64 a, .int .u8 b] 0).run Tryz.prog w = .ok (.int .i64 a) w := by kernel_rfl
theorem unit_p1 (a b : Int) (w : World) : (part 5 #[Value.int .i64 a, .int .u8 b] 1).run Tryz.prog w = .ok (.int .u8 b) w := by kernel_rfl
theorem k_int_eq (d : Nat) (a b : Int) (w : World) : (Op.equalIn (d + 1) 3 (.int .i64 a) (.int .i64 b)).run Tryz.prog w = .ok (a == b) w := by
  simp [Op.equalIn, run_underlying k_int]
theorem k_u8_eq (d : Nat) (a b : Int) (w : World) : (Op.equalIn (d + 1) 5 (.int .u8 a) (.int .u8 b)).run Tryz.prog w = .ok (a == b) w := by
  simp [Op.equalIn, run_underlying k_u8]
theorem unit_equal (p q : Int × Int) (w : World) : (Op.equal 221 (unK p) (unK q)).run Tryz.prog w = .ok (decide (p = q)) w := by
  obtain ⟨a, b⟩ := p
  obtain ⟨a', b'⟩ := q
  have h : ∀ n, (Op.equalIn (n + 1 + 1) 221 (unK (a, b)) (unK (a', b'))).run Tryz.prog w = .ok (decide ((a, b) = (a', b'))) w := by
    intro n
    unfold Op.equalIn
    simp only [Sem.run_bind, run_underlying Tryz.underlying221, Result.andThen_ok, unK, run_program, unit_held, Bool.false_eq_true, if_false]
    simp [unit_p0, unit_p1, k_int_eq, k_u8_eq]
    by_cases h0 : a = a' <;> by_cases h1 : b = b' <;> simp [h0, h1]
  exact h 9998
theorem unit_keyT : KeyT (κ := Int × Int) 221 unK where
  now := ⟨_, Tryz.underlying221, fun p q => rfl⟩
  eq := unit_equal
  check := fun b p w => by kernel_rfl
  bits := fun p => by
    have h : ∀ n, Instr.sameBits (n + 1 + 1) (unK p) (unK p) = true := by intro n; simp [Instr.sameBits, unK]
    exact h 9998
end Go.Proofs.YtdkijcmhjeaofaaGreatDoor
namespace Go.Proofs.YtdkijcmhjeaofaaGreatDoor
open Go.RowKit

set_option maxHeartbeats 1000000 in
theorem findCmp_any (r : Cr) (c e : Int) (w : World) (hr : r.fit) (hc : 0 ≤ c ∧ c ≤ 1024) (he : 0 ≤ e ∧ e ≤ 255) :
    Calls Tryz.prog 288 #[.agg #[.int .i64 r.c, .int .u8 r.e, .int .u8 r.k], .agg #[.int .i64 c, .int .u8 e]] w (RetBelow (.int .i64 (ordU r.c r.e c e)) w) := by
  obtain ⟨R, hR⟩ : ∃ R, ordU r.c r.e c e = R := ⟨_, rfl⟩
  rw [hR]
  have HR := Lib.hid hR
  have hf1 := hr.1
  have hf2 := hr.2.1
  obtain ⟨n1, n2⟩ := new2 w (.cells #[.int .i64 r.c, .int .u8 r.e, .int .u8 r.k] 219) (.cells #[.int .i64 c, .int .u8 e] 221)
  have hb1 : Below w.heap.size w ((w.alloc (.cells #[.int .i64 r.c, .int .u8 r.e, .int .u8 r.k] 219)).alloc (.cells #[.int .i64 c, .int .u8 e] 221)) := ((Below.refl _ _).alloc (Nat.le_refl _) _).alloc (by simp) _
  clear hR hr
  go_enter Tryz.func288, Tryz.ntmps288
  go_upto_region 1 with fail
  obtain ⟨W, hW⟩ : ∃ W, W = (w.alloc (.cells #[.int .i64 r.c, .int .u8 r.e, .int .u8 r.k] 219)).alloc (.cells #[.int .i64 c, .int .u8 e] 221) := ⟨_, rfl⟩
  rw [← hW] at n1 n2 hb1 ⊢
  obtain ⟨N, hN⟩ : ∃ N, N = w.heap.size := ⟨_, rfl⟩
  rw [← hN] at n1 n2 ⊢
  obtain ⟨⟨x0, x1, x2⟩, _⟩ := blk3 n1
  obtain ⟨⟨y0, y1⟩, _⟩ := blk2 n2
  clear hW n1 n2 hN
  go_region_held3 (fun w' => w'.cell? ⟨N, 0, none⟩ = some (.int .i64 r.c) ∧ w'.cell? ⟨N, 1, none⟩ = some (.int .u8 r.e) ∧ w'.cell? ⟨N, 2, none⟩ = some (.int .u8 r.k) ∧ w'.cell? ⟨N + 1, 0, none⟩ = some (.int .i64 c) ∧ w'.cell? ⟨N + 1, 1, none⟩ = some (.int .u8 e))
    (first | exact ⟨x0, x1, x2, y0, y1⟩ | go_keep)
    (first
      | (go_at_call 183; (with_reducible refine (unit_any _ _ _ _).mono ?_); rintro e' w6 ⟨rfl, hb6⟩; have hb1 := hb1.trans ((undrew hb6).mono hb1.size); have x0 := below_cell (undrew hb6) x0; have x1 := below_cell (undrew hb6) x1; have x2 := below_cell (undrew hb6) x2; have y0 := below_cell (undrew hb6) y0; have y1 := below_cell (undrew hb6) y1)
      | (go_at_call 184; (with_reducible refine (order_any r.c r.e c e _ hf1 hc hf2 he).mono ?_); rintro e' w6 ⟨rfl, hb6⟩; rw [HR.out]; have hb1 := hb1.trans (hb6.mono hb1.size); have x0 := below_cell hb6 x0; have x1 := below_cell hb6 x1; have x2 := below_cell hb6 x2; have y0 := below_cell hb6 y0; have y1 := below_cell hb6 y1)
      | fail)
  all_goals
    go_wp2_with fail
    go_ret
    exact ⟨rfl, hb1⟩

/-- Where a unit stands among creases. -/
def FindAt (l : List Cr) (c e : Int) (i : Nat) (is : Bool) : Prop :=
  i ≤ l.length ∧ (∀ k (hk : k < l.length), k < i → ordU l[k].c l[k].e c e < 0) ∧ (∀ k (hk : k < l.length), i ≤ k → 0 ≤ ordU l[k].c l[k].e c e) ∧ (is = true ↔ ∃ r, l[i]? = some r ∧ ordU r.c r.e c e = 0)
def FindRet (l : List Cr) (c e : Int) (w : World) (en : Ending) (w' : World) : Prop :=
  Below w.heap.size w w' ∧ ∃ i is, FindAt l c e i is ∧ en = .returned (.tuple #[.int .i64 ((i : Nat) : Int), .bool is])
theorem ordU_mono {a b : Cr} (h : ordU a.c a.e b.c b.e < 0) (c e : Int) (hb : ordU b.c b.e c e < 0) : ordU a.c a.e c e < 0 := by
  unfold ordU at *
  repeat' split at h
  all_goals repeat' split at hb
  all_goals repeat' split
  all_goals omega
theorem ordU_mono2 {a b : Cr} (h : ordU a.c a.e b.c b.e < 0) (c e : Int) (ha : 0 ≤ ordU a.c a.e c e) : 0 < ordU b.c b.e c e := by
  unfold ordU at *
  repeat' split at h
  all_goals repeat' split at ha
  all_goals repeat' split
  all_goals omega

set_option maxHeartbeats 2000000 in
set_option maxRecDepth 100000 in
theorem binCr_any (A : Option Addr) (l : List Cr) (n cc : Nat) (c e : Int) (w : World) (hn : n = l.length) (h : Rd w A 3 n (crs l)) (hf : ∀ r ∈ l, r.fit) (ha : l.Pairwise fun r q => ordU r.c r.e q.c q.e < 0) (hl : n ≤ 1000000) (hc : 0 ≤ c ∧ c ≤ 1024) (he : 0 ≤ e ∧ e ≤ 255) :
    Calls Tryz.prog 287 #[.slice A n cc, .agg #[.int .i64 c, .int .u8 e], .func (.func 288) #[] #[]] w (FindRet l c e w) := by
  have HN := Lib.hid hn
  have HRD := Lib.hid h
  have HF := Lib.hid hf
  have HA := Lib.hid ha
  have hn1 : (w.alloc (.cells #[.int .i64 c, .int .u8 e] 221)).heap[w.heap.size]? = some (.cells #[.int .i64 c, .int .u8 e] 221 (0, 0)) := heap_alloc_new w _
  have hb1 : Below w.heap.size w (w.alloc (.cells #[.int .i64 c, .int .u8 e] 221)) := (Below.refl _ _).alloc (Nat.le_refl _) _
  have hz1 : w.heap.size < (w.alloc (.cells #[.int .i64 c, .int .u8 e] 221)).heap.size := by simp
  clear hn h hf ha
  go_enter Tryz.func287, Tryz.ntmps287
  go_upto_region 1 with fail
  obtain ⟨W, hW⟩ : ∃ W, W = w.alloc (.cells #[.int .i64 c, .int .u8 e] 221) := ⟨_, rfl⟩
  rw [← hW] at hn1 hb1 hz1 ⊢
  obtain ⟨N, hN⟩ : ∃ N, N = w.heap.size := ⟨_, rfl⟩
  rw [← hN] at hn1 hz1 ⊢
  have N1 := Lib.hid hn1
  clear hW hn1 hN
  go_wp2_with fail
  go_loopw [9, 10, 11] (fun x y _ wr => ∃ i j : Nat, i ≤ j ∧ j ≤ n ∧ x = .int .i64 i ∧ y = .int .i64 j ∧ wr.heap[N]? = some (.cells #[.int .i64 c, .int .u8 e] 221 (0, 0)) ∧ N < wr.heap.size ∧ Below w.heap.size w wr ∧ Hid (∀ k (hk : k < l.length), k < i → ordU l[k].c l[k].e c e < 0) ∧ Hid (∀ k (hk : k < l.length), j ≤ k → 0 ≤ ordU l[k].c l[k].e c e)) (fun x y _ _ => (intOf y).toNat - (intOf x).toNat)
  case atStart => exact ⟨0, n, by omega, by omega, rfl, rfl, N1.out, hz1, hb1, Lib.hid (fun k hk hk' => by omega), Lib.hid (fun k hk hk' => by have := HN.out; omega)⟩
  case round =>
    obtain ⟨i, j, hij, hjn, rfl, rfl, hbk, hNr, hbr, H1, H2⟩ := hrel
    have HBK := Lib.hid hbk
    obtain ⟨⟨u0, u1⟩, _⟩ := blk2 hbk
    have hrd := HRD.out.below hbr
    have hlen := HN.out
    rw [hlen] at hrd
    clear hbk
    by_cases hlt : i < j
    · obtain ⟨m, hm⟩ : ∃ m, m = (i + j) / 2 := ⟨_, rfl⟩
      have hml : m < l.length := by omega
      obtain ⟨bb, o, hA, hbl, c0, c1, c2⟩ := rd_cr hrd m hml
      have hft := HF.out l[m] (List.getElem_mem _)
      obtain ⟨r, hr⟩ : ∃ r, l[m] = r := ⟨_, rfl⟩
      rw [hr] at c0 c1 c2 hft
      have HR := Lib.hid hr
      have HM := Lib.hid hm
      have HFT := Lib.hid hft
      have q1 : (i : Int) < (j : Int) := by omega
      have q2 : ((i : Int) + (j : Int)) / 2 = (m : Int) := by omega
      have q3 : (m : Int) < (n : Int) := by omega
      have q4 : i ≤ m := by omega
      have q5 : m < j := by omega
      clear hr hm hrd hlen hft
      subst hA
      go_wp2_with fail
      go_still_tail 6, (by kernel_rfl)
      change wpList _ _ _ _ _ wr.drew
      go_wp2_with fail
      refine (findCmp_any r c e _ HFT.out hc he).mono ?_
      rintro e' w2 ⟨rfl, hb2'⟩
      have hb2 := undrew hb2'
      have hbel2 : Below w.heap.size w w2 := hbr.trans (hb2.mono hbr.size)
      have K2 := Lib.hid (kept hb2 HBK.out hNr)
      have hN2 : N < w2.heap.size := Nat.lt_of_lt_of_le hNr hb2.size
      obtain ⟨O, hO⟩ : ∃ O, ordU r.c r.e c e = O := ⟨_, rfl⟩
      rw [hO]
      have HO := Lib.hid hO
      clear c0 c1 c2 u0 u1 hb2 hb2' q2 hO
      by_cases hJ : O < 0
      · have HJ := Lib.hid hJ
        have hd : decide (O < 0) = true := by simpa using hJ
        go_wp2_with fail
        go_roundw
        case rel =>
          refine ⟨m + 1, j, by omega, by omega, by go_num, rfl, K2.out, hN2, hbel2, Lib.hid (fun k hk hki => ?_), H2⟩
          rcases Nat.lt_or_ge k m with h' | h'
          · have h3 := List.pairwise_iff_getElem.1 HA.out k m hk hml h'
            rw [HR.out] at h3
            exact ordU_mono h3 c e (by rw [HO.out]; exact hJ)
          · obtain rfl : k = m := by omega
            rw [HR.out, HO.out]
            exact hJ
        case measure => simp [intOf]; omega
      · have hd : decide (O < 0) = false := by simpa using hJ
        go_wp2_with fail
        go_roundw
        case rel =>
          refine ⟨i, m, by omega, by omega, rfl, rfl, K2.out, hN2, hbel2, H1, Lib.hid (fun k hk hki => ?_)⟩
          rcases Nat.lt_or_ge m k with h' | h'
          · have h3 := List.pairwise_iff_getElem.1 HA.out m k hml hk h'
            rw [HR.out] at h3
            have h4 := ordU_mono2 h3 c e (by rw [HO.out]; omega)
            omega
          · obtain rfl : k = m := by omega
            rw [HR.out, HO.out]
            omega
        case measure => simp [intOf]; omega
    · obtain rfl : i = j := by omega
      have q1 : ¬ (i : Int) < (i : Int) := by omega
      by_cases hi : i < n
      · have hil : i < l.length := by omega
        obtain ⟨bb, o, hA, hbl, c0, c1, c2⟩ := rd_cr hrd i hil
        have hft := HF.out l[i] (List.getElem_mem _)
        obtain ⟨r, hr⟩ : ∃ r, l[i] = r := ⟨_, rfl⟩
        rw [hr] at c0 c1 c2 hft
        have HR := Lib.hid hr
        have HFT := Lib.hid hft
        have q2 : decide ((i : Int) < (n : Int)) = true := by simp; omega
        have q3 : (i : Int) < (n : Int) := by omega
        clear hr hrd hlen hft
        subst hA
        go_wp2_with fail
        go_region_held3 (fun w' => w'.cell? ⟨bb, o + i * 3, none⟩ = some (.int .i64 r.c) ∧ w'.cell? ⟨bb, o + i * 3 + 1, none⟩ = some (.int .u8 r.e) ∧ w'.cell? ⟨bb, o + i * 3 + 2, none⟩ = some (.int .u8 r.k) ∧ w'.cell? ⟨N, 0, none⟩ = some (.int .i64 c) ∧ w'.cell? ⟨N, 1, none⟩ = some (.int .u8 e))
          (first | exact ⟨c0, c1, c2, u0, u1⟩ | go_keep)
          (first
            | (go_at_call 288; (with_reducible refine (findCmp_any r c e _ HFT.out hc he).mono ?_); rintro e' w6 ⟨rfl, hb6⟩; have hbr := hbr.trans ((undrew hb6).mono hbr.size); have c0 := below_cell (undrew hb6) c0; have c1 := below_cell (undrew hb6) c1; have c2 := below_cell (undrew hb6) c2; have u0 := below_cell (undrew hb6) u0; have u1 := below_cell (undrew hb6) u1)
            | fail)
        all_goals
          go_wp2_with fail
          go_ret2
          refine ⟨hbr, i, ordU r.c r.e c e == 0, ⟨by omega, H1.out, H2.out, ?_⟩, rfl⟩
          rw [List.getElem?_eq_getElem hil, HR.out]
          simp
      · have q2 : decide ((i : Int) < (n : Int)) = false := by simp; omega
        have hln : l.length ≤ i := by omega
        have hln2 : i ≤ l.length := by omega
        clear hlen hrd
        go_wp2_with fail
        go_quiet (fail)
        go_wp2_with fail
        go_ret2
        refine ⟨below_drewN hbr _, i, false, ⟨hln2, H1.out, H2.out, ?_⟩, rfl⟩
        rw [List.getElem?_eq_none hln]
        simp

set_option maxHeartbeats 1000000 in
theorem find_any (A : Option Addr) (l : List Cr) (n cc : Nat) (c e : Int) (w : World) (hn : n = l.length) (h : Rd w A 3 n (crs l)) (hf : ∀ r ∈ l, r.fit) (ha : l.Pairwise fun r q => ordU r.c r.e q.c q.e < 0) (hl : n ≤ 1000000) (hc : 0 ≤ c ∧ c ≤ 1024) (he : 0 ≤ e ∧ e ≤ 255) :
    Calls Tryz.prog 238 #[.slice A n cc, .agg #[.int .i64 c, .int .u8 e]] w (FindRet l c e w) := by
  have hb := binCr_any A l n cc c e (w.alloc (.cells #[.int .i64 c, .int .u8 e] 221)) hn (h.alloc _) hf ha hl hc he
  have HB := Lib.hid hb
  clear hb hn h hf ha
  go_enter Tryz.func238, Tryz.ntmps238
  go_wp2_with fail
  refine HB.out.mono ?_
  rintro e' w2 ⟨hb2, i, is, hat, rfl⟩
  have HAT := Lib.hid hat
  clear hat
  go_wp2_with fail
  go_ret2
  exact ⟨((Below.refl _ _).alloc (Nat.le_refl _) _).trans (hb2.mono (by simp)), i, is, HAT.out, rfl⟩
end Go.Proofs.YtdkijcmhjeaofaaGreatDoor
namespace Go.Proofs.YtdkijcmhjeaofaaGreatDoor
open Go.RowKit

def AtRet (l : List Cr) (c e : Int) (w : World) (en : Ending) (w' : World) : Prop :=
  Below w.heap.size w w' ∧ ∃ i is, FindAt l c e i is ∧ en = .returned (.tuple #[.agg #[.int .i64 c, .int .u8 e], .int .i64 ((i : Nat) : Int), .bool is, .int .i64 0])

set_option maxHeartbeats 2000000 in
set_option maxRecDepth 100000 in
theorem at_ok (a b : Int) (A : Option Addr) (l : List Cr) (n cc : Nat) (id e c' : Int) (w : World) (hn : n = l.length) (h : Rd w A 3 n (crs l)) (hp : OkPat a b l) (hQ : Qt w) (hnm : nameI a b id e = (c', e, 0)) (hc : 0 ≤ c' ∧ c' ≤ 1024) (he : 0 ≤ e ∧ e ≤ 255) :
    Calls Tryz.prog 200 #[.agg #[.int .i64 a, .int .i64 b, .slice A n cc], .int .i64 id, .int .u8 e] w (AtRet l c' e w) := by
  have HN := Lib.hid hn
  have HRD := Lib.hid h
  have HP := Lib.hid hp
  have HNM := Lib.hid hnm
  have hlen : n ≤ 1000000 := by have := hp.len; omega
  obtain ⟨n1, n2⟩ := new2 w (.cells #[.int .i64 a, .int .i64 b, .slice A n cc] 66) (.cells #[.int .i64 0, .int .u8 0] 221)
  have hb1 : Below w.heap.size w ((w.alloc (.cells #[.int .i64 a, .int .i64 b, .slice A n cc] 66)).alloc (.cells #[.int .i64 0, .int .u8 0] 221)) := ((Below.refl _ _).alloc (Nat.le_refl _) _).alloc (by simp) _
  have hz1 : w.heap.size + 1 < ((w.alloc (.cells #[.int .i64 a, .int .i64 b, .slice A n cc] 66)).alloc (.cells #[.int .i64 0, .int .u8 0] 221)).heap.size := by simp
  clear hn h hp hnm
  go_enter Tryz.func200, Tryz.ntmps200
  go_upto_region 1 with fail
  obtain ⟨W, hW⟩ : ∃ W, W = (w.alloc (.cells #[.int .i64 a, .int .i64 b, .slice A n cc] 66)).alloc (.cells #[.int .i64 0, .int .u8 0] 221) := ⟨_, rfl⟩
  rw [← hW] at n1 n2 hb1 hz1 ⊢
  obtain ⟨N, hN⟩ : ∃ N, N = w.heap.size := ⟨_, rfl⟩
  rw [← hN] at n1 n2 hz1 ⊢
  have HNN := Lib.hid hN
  have N1 := Lib.hid n1
  have N2 := Lib.hid n2
  obtain ⟨⟨x0, x1, x2⟩, _⟩ := blk3 n1
  clear hW n1 n2 hN
  go_wp2_with fail
  refine (pcheck_ok a b A l n cc _ HN.out (HRD.out.below hb1) HP.out (hQ.below hb1)).mono ?_
  rintro e' w2 ⟨rfl, hb2⟩
  have hb2' : Below w.heap.size w w2 := hb1.trans (hb2.mono hb1.size)
  have M1 := Lib.hid (kept hb2 N1.out (by omega))
  have M2 := Lib.hid (kept hb2 N2.out hz1)
  obtain ⟨⟨y0, y1, y2⟩, _⟩ := blk3 M1.out
  have hz2 : N + 1 < w2.heap.size := Nat.lt_of_lt_of_le hz1 hb2.size
  clear x0 x1 x2 hb2 N1 N2
  go_wp2_with fail
  refine (name_any a b id e _ HP.out.sheet he.1 (hQ.below hb2')).mono ?_
  rintro e' w3 ⟨rfl, hb3⟩
  rw [HNM.out]
  unfold unitV
  dsimp only
  have hb3' : Below w.heap.size w w3 := hb2'.trans (hb3.mono hb2'.size)
  have P1 := Lib.hid (kept hb3 M1.out (by omega))
  have P2 := Lib.hid (kept hb3 M2.out hz2)
  obtain ⟨⟨z0, z1, z2⟩, _⟩ := blk3 P1.out
  have hz3 : N + 1 < w3.heap.size := Nat.lt_of_lt_of_le hz2 hb3.size
  have hz3' : N < w3.heap.size := by omega
  have hs3 := hb3'.size
  clear y0 y1 y2 hb3 M1 M2
  go_wp2_with fail
  have hb4 : Below w.heap.size w (w3.alloc (.cells #[.int .i64 c', .int .u8 e] 221)) := hb3'.alloc hs3 _
  refine (find_any A l n cc c' e _ HN.out (HRD.out.below hb4) HP.out.fit HP.out.asc hlen hc he).mono ?_
  rintro e' w5 ⟨hb5, i, is, hat, rfl⟩
  have HAT := Lib.hid hat
  have hb5' : Below w.heap.size w w5 := hb4.trans (hb5.mono hb4.size)
  have Q2 : w5.heap[N + 1]? = some (.cells #[.int .i64 0, .int .u8 0] 221 (0, 0)) := kept hb5 ((Below.heap_alloc _ _ _ hz3).trans P2.out) (by simp; omega)
  have Q3 : w5.heap[w3.heap.size]? = some (.cells #[.int .i64 c', .int .u8 e] 221 (0, 0)) := kept hb5 (heap_alloc_new w3 _) (by simp)
  obtain ⟨⟨r0, r1⟩, v0, v1⟩ := blk2 Q2
  obtain ⟨⟨s0, s1⟩, _⟩ := blk2 Q3
  clear hat hb5 Q2 Q3 z0 z1 z2
  go_wp2_with fail
  refine bodyPost_ret (v := .tuple #[.agg #[.int .i64 c', .int .u8 e], .int .i64 ((i : Nat) : Int), .bool is, .int .i64 0]) (by simp [results, Tryz.results200, go_sem, r0, r1]) rfl ⟨?_, i, is, HAT.out, rfl⟩
  have h9 := HNN.out
  exact (hb5'.setCell (by simp; omega) _).setCell (by simp; omega) _

set_option maxHeartbeats 1000000 in
theorem empty_any (a b : Int) (w : World) (hs : okS a b = true) :
    Calls Tryz.prog 94 #[.agg #[.int .i64 a, .int .i64 b]] w (RetBelow (.tuple #[.agg #[.int .i64 a, .int .i64 b, .slice none 0 0], .int .i64 0]) w) := by
  have HS := Lib.hid hs
  obtain ⟨n1, n2⟩ := new2 w (.cells #[.int .i64 a, .int .i64 b] 40) (.cells #[.int .i64 0, .int .i64 0, .slice none 0 0] 66)
  have hb1 : Below w.heap.size w ((w.alloc (.cells #[.int .i64 a, .int .i64 b] 40)).alloc (.cells #[.int .i64 0, .int .i64 0, .slice none 0 0] 66)) := ((Below.refl _ _).alloc (Nat.le_refl _) _).alloc (by simp) _
  have hz1 : w.heap.size + 1 < ((w.alloc (.cells #[.int .i64 a, .int .i64 b] 40)).alloc (.cells #[.int .i64 0, .int .i64 0, .slice none 0 0] 66)).heap.size := by simp
  clear hs
  go_enter Tryz.func94, Tryz.ntmps94
  go_upto_region 1 with fail
  obtain ⟨W, hW⟩ : ∃ W, W = (w.alloc (.cells #[.int .i64 a, .int .i64 b] 40)).alloc (.cells #[.int .i64 0, .int .i64 0, .slice none 0 0] 66) := ⟨_, rfl⟩
  rw [← hW] at n1 n2 hb1 hz1 ⊢
  obtain ⟨N, hN⟩ : ∃ N, N = w.heap.size := ⟨_, rfl⟩
  rw [← hN] at n1 n2 hz1 ⊢
  have HNN := Lib.hid hN
  obtain ⟨⟨x0, x1⟩, _⟩ := blk2 n1
  have N1 := Lib.hid n1
  have N2 := Lib.hid n2
  clear hW n1 n2 hN
  go_wp2_with fail
  refine (sheetCheck_any a b _).mono ?_
  rintro e' w2 ⟨rfl, hb2⟩
  rw [HS.out, ec_t]
  have hb2' : Below w.heap.size w w2 := hb1.trans (hb2.mono hb1.size)
  obtain ⟨⟨y0, y1⟩, _⟩ := blk2 (kept hb2 N1.out (by omega))
  obtain ⟨⟨r0, r1, r2⟩, v0, v1, v2⟩ := blk3 (kept hb2 N2.out hz1)
  clear x0 x1 hb2
  go_wp2_with fail
  refine bodyPost_ret (v := .tuple #[.agg #[.int .i64 a, .int .i64 b, .slice none 0 0], .int .i64 0]) (by simp [results, Tryz.results94, go_sem, r0, r1, r2]) rfl ⟨rfl, ?_⟩
  have h9 := HNN.out
  exact ((hb2'.setCell (by simp; omega) _).setCell (by simp; omega) _).setCell (by simp; omega) _

/-- The creases behind Set. -/
def setL (l : List Cr) (i : Nat) (is : Bool) (r : Cr) : List Cr := l.take i ++ r :: l.drop (if is then i + 1 else i)
theorem ordU_neg (c e c' e' : Int) : ordU c' e' c e = - ordU c e c' e' := by
  unfold ordU
  repeat' split
  all_goals omega
theorem ordU_zero {c e c' e' : Int} (h : ordU c e c' e' = 0) : c = c' ∧ e = e' := by
  unfold ordU at h
  split at h <;> omega
theorem ordU_tr {a b c a' b' c' : Int} (h1 : ordU a a' b b' < 0) (h2 : ordU b b' c c' < 0) : ordU a a' c c' < 0 := by
  unfold ordU at *
  repeat' split at h1
  all_goals repeat' split at h2
  all_goals repeat' split
  all_goals omega
theorem okPat_set {a b : Int} {l : List Cr} {i : Nat} {is : Bool} {r : Cr} (hp : OkPat a b l) (hat : FindAt l r.c r.e i is) (hk : isK r.k = true) (hnm : nameI a b r.c r.e = (r.c, r.e, 0)) (hf : r.fit) (hl : l.length < 1000000) :
    OkPat a b (setL l i is r) ∧ (setL l i is r).length ≤ l.length + 1 := by
  obtain ⟨hi, h1, h2, h3⟩ := hat
  have hlen : (setL l i is r).length ≤ l.length + 1 := by
    unfold setL
    cases is <;> simp <;> omega
  have hmem : ∀ q ∈ setL l i is r, q = r ∨ q ∈ l := by
    intro q hq
    unfold setL at hq
    rcases List.mem_append.1 hq with h | h
    · exact .inr (List.mem_of_mem_take h)
    · rcases List.mem_cons.1 h with h | h
      · exact .inl h
      · exact .inr (List.mem_of_mem_drop h)
  refine ⟨⟨hp.sheet, fun q hq => ?_, fun q hq => ?_, fun q hq => ?_, ?_, by omega⟩, hlen⟩
  · rcases hmem q hq with rfl | h
    · exact hk
    · exact hp.kind q h
  · rcases hmem q hq with rfl | h
    · exact hnm
    · exact hp.name q h
  · rcases hmem q hq with rfl | h
    · exact hf
    · exact hp.fit q h
  · have hlo : ∀ q ∈ l.take i, ordU q.c q.e r.c r.e < 0 := by
      intro q hq
      obtain ⟨k, hk', rfl⟩ := List.mem_iff_getElem.1 hq
      rw [List.length_take] at hk'
      rw [List.getElem_take]
      exact h1 k (by omega) (by omega)
    have hhi : ∀ q ∈ l.drop (if is then i + 1 else i), ordU r.c r.e q.c q.e < 0 := by
      intro q hq
      obtain ⟨k, hk', rfl⟩ := List.mem_iff_getElem.1 hq
      rw [List.length_drop] at hk'
      rw [List.getElem_drop]
      rw [ordU_neg]
      cases is with
      | true =>
        simp only [if_true] at hk' ⊢
        obtain ⟨x, hx, hx0⟩ := h3.1 rfl
        obtain ⟨hil, rfl⟩ := List.getElem?_eq_some_iff.1 hx
        have h4 := List.pairwise_iff_getElem.1 hp.asc i (i + 1 + k) hil (by omega) (by omega)
        have := ordU_mono2 h4 r.c r.e (by omega)
        omega
      | false =>
        have hne : ∀ x, l[i]? = some x → ordU x.c x.e r.c r.e ≠ 0 := fun x hx h0 => by have := h3.2 ⟨x, hx, h0⟩; cases this
        simp only [Bool.false_eq_true, if_false] at hk' ⊢
        have hil : i < l.length := by omega
        have h5 := h2 i hil (Nat.le_refl _)
        have h6 := hne l[i] (List.getElem?_eq_getElem hil)
        rcases Nat.eq_zero_or_pos k with h0 | h0
        · subst h0
          simp only [Nat.add_zero]
          omega
        · have h4 := List.pairwise_iff_getElem.1 hp.asc i (i + k) hil (by omega) (by omega)
          have := ordU_mono2 h4 r.c r.e h5
          omega
    unfold setL
    refine List.pairwise_append.2 ⟨hp.asc.sublist (List.take_sublist _ _), List.pairwise_cons.2 ⟨hhi, hp.asc.sublist (List.drop_sublist _ _)⟩, fun q hq q' hq' => ?_⟩
    rcases List.mem_cons.1 hq' with rfl | hq'
    · exact hlo q hq
    · exact ordU_tr (hlo q hq) (hhi q' hq')
end Go.Proofs.YtdkijcmhjeaofaaGreatDoor
namespace Go.Proofs.YtdkijcmhjeaofaaGreatDoor
open Go.RowKit

/-- The kind of a crease; 0 if there is none. -/
def kindF (l : List Cr) (c e : Int) : Int := match l.find? fun r => decide (r.c = c) && decide (r.e = e) with
  | some r => r.k
  | none => 0
theorem ordU_z {c e c' e' : Int} : ordU c e c' e' = 0 ↔ c = c' ∧ e = e' := by
  unfold ordU
  split
  · rename_i h; constructor
    · intro h2; exact ⟨h, by omega⟩
    · rintro ⟨_, h2⟩; omega
  · rename_i h; constructor
    · intro h2; exact absurd (by omega) h
    · rintro ⟨h2, _⟩; exact absurd h2 h
theorem kind_find {l : List Cr} {c e : Int} {i : Nat} {is : Bool} (hf : FindAt l c e i is) (ha : l.Pairwise fun r q => ordU r.c r.e q.c q.e < 0) :
    (is = true → ∃ hi : i < l.length, kindF l c e = l[i].k) ∧ (is = false → kindF l c e = 0) := by
  obtain ⟨h1, h2, h3, h4⟩ := hf
  constructor
  · intro his
    obtain ⟨r, hr, h0⟩ := h4.1 his
    obtain ⟨hi, hri⟩ := List.getElem?_eq_some_iff.1 hr
    refine ⟨hi, ?_⟩
    unfold kindF
    have hz := ordU_z.1 h0
    have hfind : l.find? (fun r => decide (r.c = c) && decide (r.e = e)) = some l[i] := by
      rw [List.find?_eq_some_iff_getElem]
      refine ⟨by rw [hri]; simp [hz.1, hz.2], i, hi, rfl, fun k hk => ?_⟩
      have hlt := h2 k (by omega) hk
      simp only [Bool.not_eq_true', Bool.and_eq_false_iff, decide_eq_false_iff_not]
      by_cases hc : l[k].c = c
      · right; intro he; have := ordU_z.2 ⟨hc, he⟩; omega
      · left; exact hc
    rw [hfind]
  · intro his
    unfold kindF
    have hfind : l.find? (fun r => decide (r.c = c) && decide (r.e = e)) = none := by
      rw [List.find?_eq_none]
      intro r hr hp
      simp only [Bool.and_eq_true, decide_eq_true_eq] at hp
      obtain ⟨k, hk, rfl⟩ := List.mem_iff_getElem.1 hr
      have h0 : ordU l[k].c l[k].e c e = 0 := ordU_z.2 hp
      have hik : i ≤ k := by
        by_cases h : k < i
        · have := h2 k hk h; omega
        · omega
      have hil : i < l.length := by omega
      have hi0 : ordU l[i].c l[i].e c e = 0 := by
        rcases Nat.lt_or_eq_of_le hik with h | h
        · have h5 := List.pairwise_iff_getElem.1 ha i k hil hk h
          rw [hp.1, hp.2] at h5
          have := h3 i hil (Nat.le_refl _)
          omega
        · subst h; exact h0
      have : is = true := h4.2 ⟨l[i], by simp, hi0⟩
      rw [his] at this; cases this
    rw [hfind]

set_option maxRecDepth 100000 in
set_option maxHeartbeats 2000000 in
theorem kind_ok (a b : Int) (A : Option Addr) (l : List Cr) (n cc : Nat) (id e c' : Int) (w : World) (hn : n = l.length) (h : Rd w A 3 n (crs l)) (hp : OkPat a b l) (hQ : Qt w) (hnm : nameI a b id e = (c', e, 0)) (hc : 0 ≤ c' ∧ c' ≤ 1024) (he : 0 ≤ e ∧ e ≤ 255) :
    Calls Tryz.prog 151 #[.agg #[.int .i64 a, .int .i64 b, .slice A n cc], .int .i64 id, .int .u8 e] w (RetBelow (.tuple #[.int .u8 (kindF l c' e), .int .i64 0]) w) := by
  have HAT := Lib.hid fun w h hQ => at_ok a b A l n cc id e c' w hn h hp hQ hnm hc he
  have HKF := Lib.hid fun i is (hf : FindAt l c' e i is) => kind_find hf hp.asc
  have HRD := Lib.hid h
  have HN := Lib.hid hn
  have HQ := Lib.hid hQ
  have H := (Bx.start w).new #[.int .i64 a, .int .i64 b, .slice A n cc] 66 rfl
  have hlen : l.length ≤ 1000000 := hp.len
  clear hn h hp hQ hnm hc he
  go_enter Tryz.func151, Tryz.ntmps151
  go_upto_region 1 with fail
  obtain ⟨W, hW⟩ : ∃ W, W = w.alloc (.cells #[.int .i64 a, .int .i64 b, .slice A n cc] 66) := ⟨_, rfl⟩
  rw [← hW] at H ⊢
  obtain ⟨N, hN⟩ : ∃ N, N = w.heap.size := ⟨_, rfl⟩
  rw [← hN] at H ⊢
  clear hW hN
  obtain ⟨⟨a0, a1, a2⟩, _⟩ := blk3 (H.blk 0 _ _ _ rfl)
  go_wp2_with fail
  refine (HAT.out _ (HRD.out.below H.below) (HQ.out.below H.below)).mono ?_
  rintro ee w2 ⟨hb, i, is, hfi, rfl⟩
  have H2 := H.call hb
  obtain ⟨k1, k2⟩ := HKF.out i is hfi
  clear a0 a1 a2 hb H
  have l0 := H2.lt 0 rfl
  obtain ⟨⟨a0, a1, a2⟩, _⟩ := blk3 (H2.blk 0 _ _ _ rfl)
  cases is
  · have hk := k2 rfl
    have HK := Lib.hid hk
    clear k1 k2 hk hfi
    go_wp2_with fail
    go_ret2
    exact ⟨by rw [HK.out]; rfl, (H2.other _).below⟩
  · obtain ⟨hi, hk⟩ := k1 rfl
    have HK := Lib.hid hk
    have hrd := HRD.out.below H2.below
    rw [HN.out] at hrd
    obtain ⟨bb, o, hA, hbl, c0, c1, c2⟩ := rd_cr hrd i hi
    have q1 : (i : Int) < (n : Int) := by have := HN.out; omega
    obtain ⟨r, hr⟩ : ∃ r, l[i] = r := ⟨_, rfl⟩
    rw [hr] at c0 c1 c2 HK
    clear k1 k2 hk hfi hrd hr
    subst hA
    go_wp2_with fail
    go_ret2
    exact ⟨by rw [HK.out]; rfl, (H2.other _).below⟩
end Go.Proofs.YtdkijcmhjeaofaaGreatDoor
namespace Go.Proofs.YtdkijcmhjeaofaaGreatDoor
open Go.RowKit

section
variable {κ : Type} [DecidableEq κ]
theorem idxM_eq (p : κ) : ∀ (l : List (κ × Value)) (n : Nat), idxM p l n = ((idxM p l 0).map fun r => (r.1 + n, r.2)) := by
  intro l
  induction l with
  | nil => intro n; rfl
  | cons q l ih =>
    intro n
    unfold idxM
    by_cases h : p = q.1
    · simp [h]
    · rw [if_neg h, if_neg h, ih (n + 1), ih (0 + 1)]
      cases idxM p l 0 with
      | none => rfl
      | some r => simp; omega
theorem getM_cons (p : κ) (q : κ × Value) (l : List (κ × Value)) : getM p (q :: l) = if p = q.1 then some q.2 else getM p l := by
  unfold getM
  conv => lhs; unfold idxM
  by_cases h : p = q.1
  · simp [h]
  · rw [if_neg h, if_neg h, idxM_eq]
    cases idxM p l 0 <;> rfl
theorem putM_cons (p : κ) (v : Value) (q : κ × Value) (l : List (κ × Value)) : putM p v (q :: l) = if p = q.1 then (p, v) :: l else q :: putM p v l := by
  unfold putM
  conv => lhs; unfold idxM
  by_cases h : p = q.1
  · simp [h]
  · rw [if_neg h, if_neg h, idxM_eq]
    cases idxM p l 0 <;> simp
theorem getM_put (p q : κ) (v : Value) : ∀ l : List (κ × Value), getM p (putM q v l) = if p = q then some v else getM p l := by
  intro l
  induction l with
  | nil =>
    have e : putM q v ([] : List (κ × Value)) = [(q, v)] := rfl
    rw [e, getM_cons]
  | cons r l ih =>
    rw [putM_cons]
    by_cases h : q = r.1
    · rw [if_pos h, getM_cons, getM_cons]
      by_cases hp : p = q
      · simp [hp]
      · have : p ≠ r.1 := fun e => hp (e.trans h.symm)
        simp [hp, this]
    · rw [if_neg h, getM_cons, getM_cons, ih]
      by_cases hp : p = r.1
      · have : p ≠ q := fun e => h (e.symm.trans hp)
        simp [hp]
        intro e; exact absurd (hp.trans e) this
      · simp [hp]
end

/-- The set of creases as a map. -/
def crM (l : List Cr) : List ((Int × Int) × Value) := l.foldl (fun m r => putM (r.c, r.e) (.bool true) m) []
theorem crM_snoc (l : List Cr) (i : Nat) (h : i < l.length) : crM (l.take (i + 1)) = putM (l[i].c, l[i].e) (.bool true) (crM (l.take i)) := by
  unfold crM
  rw [List.take_succ_eq_append_getElem h, List.foldl_append]; rfl
theorem crM_get (l : List Cr) (c e : Int) : (getM (c, e) (crM l)).getD (.bool false) = .bool (isCr l c e) := by
  have key : ∀ (l : List Cr) (m : List ((Int × Int) × Value)), getM (c, e) (l.foldl (fun m r => putM (r.c, r.e) (.bool true) m) m) = if isCr l c e then some (.bool true) else getM (c, e) m := by
    intro l
    induction l with
    | nil => intro m; simp [isCr]
    | cons r l ih =>
      intro m
      rw [List.foldl_cons, ih, getM_put]
      unfold isCr
      rw [List.any_cons]
      by_cases h : r.c = c ∧ r.e = e
      · simp [h.1, h.2]
      · have h' : ¬ ((c, e) = (r.c, r.e)) := fun x => h (by simp at x; exact ⟨x.1.symm, x.2.symm⟩)
        rw [if_neg h']
        have h2 : (decide (r.c = c) && decide (r.e = e)) = false := by
          simp only [Bool.and_eq_false_iff, decide_eq_false_iff_not]
          by_cases hc : r.c = c
          · right; exact fun he => h ⟨hc, he⟩
          · left; exact hc
        rw [h2, Bool.false_or]
  unfold crM
  rw [key]
  cases isCr l c e with
  | true => rfl
  | false => rfl
theorem Bx.mapped {κ : Type} {K : κ → Value} {w wr w' : World} {l : List (Nat × Array Value × TypeId)} {M : Nat} {m : List (κ × Value)} (h : Bx w l wr) (hk : MpOk K wr M m) (hg : wr.grownBy w' (some M)) (hM : w.heap.size ≤ M) : Bx w l w' := by
  obtain ⟨es, clock, hb, _⟩ := hk
  refine ⟨h.below.grown hg h.below.size (fun k hk => by injection hk with hk; omega), fun i g cs t hi => ?_, h.lo, h.inj⟩
  have hgb := h.blk i g cs t hi
  refine (hg.block g (h.lt i hi) ?_).trans hgb
  intro e
  injection e with e
  subst e
  rw [hgb] at hb
  cases hb

/-- The call returns a map in new memory that holds m. -/
def MapRet {κ : Type} (K : κ → Value) (m : List (κ × Value)) (w : World) (e : Ending) (w' : World) : Prop := ∃ M, e = .returned (.map (some M)) ∧ w.heap.size ≤ M ∧ MpOk K w' M m ∧ Below w.heap.size w w'

set_option maxRecDepth 100000 in
set_option maxHeartbeats 4000000 in
theorem creased_ok (a b : Int) (A : Option Addr) (l : List Cr) (n cc : Nat) (w : World) (hn : n = l.length) (h : Rd w A 3 n (crs l)) (hl : n ≤ 1000000) :
    Calls Tryz.prog 219 #[.agg #[.int .i64 a, .int .i64 b, .slice A n cc]] w (MapRet unK (crM l) w) := by
  have HRD := Lib.hid h
  have HN := Lib.hid hn
  have H := (Bx.start w).new #[.int .i64 a, .int .i64 b, .slice A n cc] 66 rfl
  clear hn h
  go_enter Tryz.func219, Tryz.ntmps219
  go_upto_region 1 with fail
  obtain ⟨W, hW⟩ : ∃ W, W = w.alloc (.cells #[.int .i64 a, .int .i64 b, .slice A n cc] 66) := ⟨_, rfl⟩
  rw [← hW] at H ⊢
  obtain ⟨N, hN⟩ : ∃ N, N = w.heap.size := ⟨_, rfl⟩
  rw [← hN] at H ⊢
  have HNN := Lib.hid hN
  clear hW hN
  obtain ⟨⟨a0, a1, a2⟩, _⟩ := blk3 (H.blk 0 _ _ _ rfl)
  have hmm : (Instr.makeMap 351 (some (.int .i64 n))).run Tryz.prog W = .ok (.map (some W.heap.size)) (W.alloc (.map #[] 0)) := by first | rfl | simp [Instr.makeMap]
  go_upto_region 2 with fail
  obtain ⟨M, hM⟩ : ∃ M, M = W.heap.size := ⟨_, rfl⟩
  rw [← hM]
  have hMl : w.heap.size ≤ M := by have := H.below.size; omega
  have hK := mp_made unK W
  rw [← hM] at hK
  have H2 := H.other (.map #[] 0)
  obtain ⟨W2, hW2⟩ : ∃ W', W' = W.alloc (.map #[] 0) := ⟨_, rfl⟩
  rw [← hW2] at hK H2 ⊢
  clear hmm hM hW2 a0 a1 a2 H
  obtain ⟨⟨a0, a1, a2⟩, _⟩ := blk3 (H2.blk 0 _ _ _ rfl)
  go_wp2_with fail
  clear a0 a1 a2
  go_loopw [13] (fun i wr => ∃ k : Nat, k ≤ n ∧ i = .int .i64 k ∧ Bx w [(N, #[.int .i64 a, .int .i64 b, .slice A n cc], 66)] wr ∧ MpOk unK wr M (crM (l.take k))) (fun i _ => n - (intOf i).toNat)
  case atStart => exact ⟨0, by omega, rfl, H2, hK⟩
  case round =>
    obtain ⟨k, hk, rfl, Hr, Kr⟩ := hrel
    by_cases hlt : k < n
    · have hkl : k < l.length := by have := HN.out; omega
      have hrd := HRD.out.below Hr.below
      rw [HN.out] at hrd
      obtain ⟨bb, o, hA, hbl, c0, c1, c2⟩ := rd_cr hrd k hkl
      have hsn := crM_snoc l k hkl
      obtain ⟨r, hr⟩ : ∃ r, l[k] = r := ⟨_, rfl⟩
      rw [hr] at c0 c1 c2 hsn
      have HSN := Lib.hid hsn
      have q1 : (k : Int) < (n : Int) := by omega
      have Kr2 := Kr.below ((Below.refl wr.heap.size wr).alloc (Nat.le_refl _) (.cells #[.int .i64 r.c, .int .u8 r.e, .int .u8 r.k] 219)) Kr.lt
      have Hr2 := Hr.other (.cells #[.int .i64 r.c, .int .u8 r.e, .int .u8 r.k] 219)
      clear hrd hsn hr
      subst hA
      go_wp2_with (at_mapUpdate; refine wpList_mp_put unit_keyT Tryz.underlying351 _ rfl _ _ _ rfl M (crM (l.take k)) (r.c, r.e) (.bool true) rfl rfl rfl Kr2 ?_; intro w9 hk9 hg9)
      exact ⟨⟨k + 1, by omega, by go_num, Hr2.mapped Kr2 hg9 hMl, by rw [HSN.out]; exact hk9⟩, by simp [intOf]; omega⟩
    · have q1 : ¬ (k : Int) < (n : Int) := by omega
      have hkn : k = l.length := by have := HN.out; omega
      go_wp2_with fail
      go_ret
      refine ⟨M, rfl, hMl, ?_, Hr.below⟩
      rw [hkn, List.take_length] at Kr
      exact Kr
end Go.Proofs.YtdkijcmhjeaofaaGreatDoor
namespace Go.Proofs.YtdkijcmhjeaofaaGreatDoor
open Go.RowKit

theorem below_trans' {w X Y : World} (h : Below X.heap.size X Y) (k : Below w.heap.size w X) : Below w.heap.size w Y := k.trans (h.mono k.size)
/-- Moves as memory holds them. -/
def mvsV (l : List Mv) : List Value := l.flatMap Mv.cells
theorem mvCells_len (m : Mv) : m.cells.length = 3 := rfl
theorem mvs_at {w : World} {g : Nat} {l : List Mv} (h : w.rangeAt g 0 (mvsV l)) (i : Nat) (hi : i < l.length) :
    w.cell? ⟨g, i * 3, none⟩ = some (.int .u8 l[i].t) ∧ w.cell? ⟨g, i * 3 + 1, none⟩ = some (.int .i64 l[i].x) ∧ w.cell? ⟨g, i * 3 + 2, none⟩ = some (.int .i64 l[i].y) := by
  have hat : ∀ f, f < 3 → (mvsV l)[i * 3 + f]? = (l[i].cells)[f]? := fun f hf => flat_at Mv.cells 3 mvCells_len _ i f hi hf
  have h0 := h (i * 3 + 0) _ ((hat 0 (by omega)).trans rfl)
  have h1 := h (i * 3 + 1) _ ((hat 1 (by omega)).trans rfl)
  have h2 := h (i * 3 + 2) _ ((hat 2 (by omega)).trans rfl)
  simp only [Nat.zero_add, Nat.add_zero] at h0 h1 h2
  exact ⟨h0, h1, h2⟩
theorem lineE_k (c : Cl) (e : Nat) : 0 ≤ (lineE c e).1.1 := by
  unfold lineE
  split
  · unfold lineC0
    split
    · exact (by decide : (0 : Int) ≤ 3)
    · split
      · exact (by decide : (0 : Int) ≤ 4)
      · split
        · exact (by decide : (0 : Int) ≤ 2)
        · exact (by decide : (0 : Int) ≤ 1)
        · exact (by decide : (0 : Int) ≤ 2)
        · exact (by decide : (0 : Int) ≤ 1)
  · exact Int.le_refl _
theorem moveL_t (l : Int × Int) : (moveL l).1.t ≤ 255 := by
  unfold moveL
  split
  · unfold ofL
    split
    · exact (by decide : 4 ≤ 255)
    · split
      · exact (by decide : 6 ≤ 255)
      · split
        · exact (by decide : 5 ≤ 255)
        · exact (by decide : 7 ≤ 255)
  · exact (by decide : 0 ≤ 255)
theorem nameI_e (a b i e : Int) (h0 : 0 ≤ e) : 0 ≤ (nameI a b i e).2.1 ∧ (nameI a b i e).2.1 ≤ e := by
  unfold nameI
  split
  · exact ⟨h0, Int.le_refl _⟩
  · exact ⟨Int.le_refl _, h0⟩

set_option maxRecDepth 100000 in
set_option maxHeartbeats 4000000 in
theorem across_any (a b : Int) (l : List Cr) (out : List Mv) (id e N N4 N5 M go n : Nat) (w : World) (hp : OkPat a b l) (hQ : Qf w) (hT : Tn w) (hn : n = out.length) (hid : id < n) (he : e ≤ 2) (hm : ∀ m ∈ out, m.t ≤ 255)
    (c0 : w.cell? ⟨N, 0, none⟩ = some (.int .i64 a)) (c1 : w.cell? ⟨N, 1, none⟩ = some (.int .i64 b)) (h4 : w.cell? ⟨N4, 0, none⟩ = some (.map (some M))) (hM : MpOk unK w M (crM l))
    (h5 : w.cell? ⟨N5, 0, none⟩ = some (.slice (some ⟨go, 0, none⟩) n n)) (hr : w.rangeAt go 0 (mvsV out)) :
    Calls Tryz.prog 220 #[.int .i64 id, .int .u8 e, .pointer (some ⟨N, 0, none⟩), .pointer (some ⟨N4, 0, none⟩), .pointer (some ⟨N5, 0, none⟩)] w (RetBelow (acrossF a b l out id e).v w) := by
  have hid' : id < out.length := by omega
  obtain ⟨m0, m1, m2⟩ := mvs_at hr id hid'
  have hmt := hm out[id] (List.getElem_mem _)
  have hgd : out.getD id mv0 = out[id] := by simp [List.getD, hid']
  obtain ⟨R, hR⟩ : ∃ R, acrossF a b l out id e = R := ⟨_, rfl⟩
  rw [hR]
  unfold acrossF at hR
  rw [hgd] at hR
  obtain ⟨m, hmm⟩ : ∃ m, out[id] = m := ⟨_, rfl⟩
  rw [hmm] at m0 m1 m2 hmt hR
  obtain ⟨mt, mx, my⟩ := m
  dsimp only at m0 m1 m2 hmt
  have hnm := fun w h => name_any a b id e w hp.sheet (Int.natCast_nonneg e) h
  have hne := nameI_e a b id e (Int.natCast_nonneg e)
  obtain ⟨⟨c, e', er⟩, hu⟩ : ∃ u, nameI a b id e = u := ⟨_, rfl⟩
  rw [hu] at hnm hR hne
  unfold unitV at hnm
  dsimp only at hnm hR hne
  have hcr := crM_get l c e'
  obtain ⟨S, hS⟩ : ∃ S, isCr l c e' = S := ⟨_, rfl⟩
  rw [hS] at hR hcr
  have HS := Lib.hid hS
  have HR := Lib.hid hR
  have HNM := Lib.hid hnm
  have HP := Lib.hid hp
  have HQ := Lib.hid hQ
  have HT := Lib.hid hT
  have HM := Lib.hid hM
  have HCR := Lib.hid hcr
  have HN := Lib.hid hn
  have qid : (id : Int) < (n : Int) := by omega
  have H := (Bx.start w).new #[.int .u8 0, .int .i64 0, .int .i64 0] 68 rfl
  clear hR hnm hp hQ hT hM hu hm hr hgd hmm hS hcr hn hid'
  go_enter Tryz.func220, Tryz.ntmps220
  go_upto_region 1 with fail
  obtain ⟨W, hW⟩ : ∃ W, W = w.alloc (.cells #[.int .u8 0, .int .i64 0, .int .i64 0] 68) := ⟨_, rfl⟩
  rw [← hW] at H ⊢
  obtain ⟨N7, hN7⟩ : ∃ N, N = w.heap.size := ⟨_, rfl⟩
  rw [← hN7] at H ⊢
  clear hW hN7
  have d0 := below_cell H.below c0
  have d1 := below_cell H.below c1
  go_wp2_with fail
  refine (HNM.out _ (HQ.out.below H.below).qt).mono ?_
  rintro e2 w2 ⟨rfl, hb⟩
  have H2 := H.call hb
  clear d0 d1 hb H
  obtain ⟨p8, hp8⟩ : ∃ p, w2.heap.size = p := ⟨_, rfl⟩
  have H3 := H2.new #[.int .i64 c, .int .u8 e'] 221 hp8
  go_upto_region 2 with fail
  obtain ⟨W3, hW3⟩ : ∃ W, W = w2.alloc (.cells #[.int .i64 c, .int .u8 e'] 221) := ⟨_, rfl⟩
  rw [← hW3] at H3 ⊢
  clear hW3 hp8 H2
  obtain ⟨⟨u0, u1⟩, _⟩ := blk2 (H3.blk 1 _ _ _ rfl)
  have f4 := below_cell H3.below h4
  have hM3 := HM.out.below H3.below HM.out.lt
  have hcr := HCR.out
  obtain ⟨⟨r0, r1, r2⟩, z0, z1, z2⟩ := blk3 (H3.blk 0 _ _ _ rfl)
  have b0 := below_cell H3.below m0
  have b1 := below_cell H3.below m1
  have b2 := below_cell H3.below m2
  have b5 := below_cell H3.below h5
  cases S with
  | false =>
    have HF : Hid (R = ⟨mt, mx, my⟩) := Lib.hid (by rw [← HR.out]; rfl)
    go_wp2_with (at_lookup; refine wpList_mp_look (z := .bool false) unit_keyT Tryz.underlying351 (fun w => by kernel_rfl) _ rfl _ _ _ rfl M (crM l) (c, e') rfl rfl hM3 ?_; simp only [Bool.false_eq_true, if_false]; rw [hcr])
    have H4 := ((H3.set 0 0 rfl (.int .u8 mt)).set 0 1 rfl (.int .i64 mx)).set 0 2 rfl (.int .i64 my)
    exact bodyPost_ret (res_cell rfl rfl (H4.range 0 rfl) Tryz.underlying68 rfl (by kernel_rfl)) rfl ⟨by rw [HF.out]; rfl, H4.below⟩
  | true =>
    -- the unit is a crease: it has a line
    have hex : ∃ r ∈ l, r.c = c ∧ r.e = e' := by
      have := HS.out
      unfold isCr at this
      rw [List.any_eq_true] at this
      obtain ⟨r, h1, h2⟩ := this
      simp only [Bool.and_eq_true, decide_eq_true_eq] at h2
      exact ⟨r, h1, h2⟩
    obtain ⟨r, hrl, rfl, rfl⟩ := hex
    have hnr := HP.out.name r hrl
    have hfit := HP.out.fit r hrl
    unfold Cr.fit at hfit
    obtain ⟨rc, re, rk⟩ := r
    dsimp only at hnr hfit hne HR HCR hM3 u0 u1 H3 hcr HS HNM ⊢
    obtain ⟨cn, rfl⟩ : ∃ cn : Nat, rc = cn := ⟨rc.toNat, by omega⟩
    obtain ⟨en, rfl⟩ : ∃ en : Nat, re = en := ⟨re.toNat, by omega⟩
    have hLN := fun w h => sheetLine_ok a b cn en w HP.out.sheet (by omega) hnr h
    have hl3 : lineS a b cn en = lineE (cellN a cn) en := by unfold lineS; rw [if_pos hnr]; simp
    have hk0 := lineE_k (cellN a cn) en
    obtain ⟨⟨⟨lk, lc⟩, le⟩, hle⟩ : ∃ z, lineE (cellN a cn) en = z := ⟨_, rfl⟩
    rw [hle] at hLN hl3 hk0
    unfold lnR at hLN
    dsimp only at hLN hk0
    have hOF := fun w => moveOf_any lk lc w hk0
    have hrt := moveL_t (lk, lc)
    have HR2 : Hid ((thenG (moveL (lk, lc)).1 ⟨mt, mx, my⟩).1 = R) := Lib.hid (by have := HR.out; rw [if_pos rfl, hl3] at this; exact this)
    obtain ⟨⟨⟨rt, rx, ry⟩, re2⟩, hmv⟩ : ∃ z, moveL (lk, lc) = z := ⟨_, rfl⟩
    rw [hmv] at hOF hrt HR2
    unfold mvR Mv.v at hOF
    dsimp only at hOF hrt HR2
    have hTH := fun w h => thenG_any ⟨rt, rx, ry⟩ ⟨mt, mx, my⟩ w hrt hmt h
    obtain ⟨⟨⟨qt, qx, qy⟩, qe⟩, hth⟩ : ∃ z, thenG ⟨rt, rx, ry⟩ ⟨mt, mx, my⟩ = z := ⟨_, rfl⟩
    rw [hth] at hTH HR2
    unfold mvR Mv.v at hTH
    dsimp only at hTH HR2
    have HLN := Lib.hid hLN
    have HOF := Lib.hid hOF
    have HTHEN := Lib.hid fun (w' : World) (h : Below w.heap.size w w') => hTH w' (HT.out.below h)
    clear hnr hfit hLN hl3 hk0 hle hOF hrt hmv hTH hth HR hrl hne HS HNM HP
    have d0 := below_cell H3.below c0
    have d1 := below_cell H3.below c1
    go_wp2_with (at_lookup; refine wpList_mp_look (z := .bool false) unit_keyT Tryz.underlying351 (fun w => by kernel_rfl) _ rfl _ _ _ rfl M (crM l) ((cn : Int), (en : Int)) rfl rfl hM3 ?_; simp only [Bool.false_eq_true, if_false]; rw [hcr])
    refine (HLN.out _ (HQ.out.below H3.below)).mono ?_
    rintro e2 w4 ⟨rfl, hb⟩
    have H4 := H3.call hb
    clear d0 d1 hb H3 r0 r1 r2 z0 z1 z2 b0 b1 b2 b5 f4 hM3 hcr u0 u1
    obtain ⟨p10, hp10⟩ : ∃ p, w4.heap.size = p := ⟨_, rfl⟩
    have H5 := H4.new #[.int .u8 lk, .int .i64 lc] 48 hp10
    go_upto_region 5 with fail
    obtain ⟨W5, hW5⟩ : ∃ W, W = w4.alloc (.cells #[.int .u8 lk, .int .i64 lc] 48) := ⟨_, rfl⟩
    rw [← hW5] at H5 ⊢
    clear hW5 hp10 H4
    obtain ⟨⟨u0, u1⟩, _⟩ := blk2 (H5.blk 2 _ _ _ rfl)
    go_wp2_with fail
    refine (HOF.out _).mono ?_
    rintro e2 w6 ⟨rfl, hb⟩
    have H6 := H5.call hb
    clear hb H5 u0 u1
    obtain ⟨p12, hp12⟩ : ∃ p, w6.heap.size = p := ⟨_, rfl⟩
    have H7 := H6.new #[.int .u8 rt, .int .i64 rx, .int .i64 ry] 68 hp12
    go_upto_region 6 with fail
    obtain ⟨W, hW⟩ : ∃ W, W = w6.alloc (.cells #[.int .u8 rt, .int .i64 rx, .int .i64 ry] 68) := ⟨_, rfl⟩
    rw [← hW] at H7 ⊢
    have H := H7
    clear hW hp12 H6 H7
    have HBW := H.below
    go_cut [14] (fun s14 wx => ∃ p14, s14 = .pointer (some ⟨p14, 0, none⟩) ∧ Bx w [(N7, #[.int .u8 0, .int .i64 0, .int .i64 0], 68), (p8, #[.int .i64 cn, .int .u8 en], 221), (p10, #[.int .u8 lk, .int .i64 lc], 48), (p12, #[.int .u8 rt, .int .i64 rx, .int .i64 ry], 68), (p14, #[.int .u8 qt, .int .i64 qx, .int .i64 qy], 68)] wx)
    case first =>
      obtain ⟨⟨s0, s1, s2⟩, _⟩ := blk3 (H.blk 3 _ _ _ rfl)
      have b0 := below_cell H.below m0
      have b1 := below_cell H.below m1
      have b2 := below_cell H.below m2
      have b5 := below_cell H.below h5
      have HSA : Hid (∀ W', Below W.heap.size W W' → (fun w' : World => w'.cell? ⟨p12, 0, none⟩ = some (.int .u8 rt) ∧ w'.cell? ⟨p12, 1, none⟩ = some (.int .i64 rx) ∧ w'.cell? ⟨p12, 2, none⟩ = some (.int .i64 ry) ∧ w'.cell? ⟨N5, 0, none⟩ = some (.slice (some ⟨go, 0, none⟩) n n) ∧ w'.cell? ⟨go, id * 3, none⟩ = some (.int .u8 mt) ∧ w'.cell? ⟨go, id * 3 + 1, none⟩ = some (.int .i64 mx) ∧ w'.cell? ⟨go, id * 3 + 2, none⟩ = some (.int .i64 my)) W') := Lib.hid fun W' h => ⟨below_cell h s0, below_cell h s1, below_cell h s2, below_cell h b5, below_cell h b0, below_cell h b1, below_cell h b2⟩
      clear s0 s1 s2 b0 b1 b2 b5 c0 c1 h4 h5 m0 m1 m2 HQ HT HM HCR HN HLN HOF HR2
      refine wp_region_held_drew (S := (fun w' : World => w'.cell? ⟨p12, 0, none⟩ = some (.int .u8 rt) ∧ w'.cell? ⟨p12, 1, none⟩ = some (.int .i64 rx) ∧ w'.cell? ⟨p12, 2, none⟩ = some (.int .i64 ry) ∧ w'.cell? ⟨N5, 0, none⟩ = some (.slice (some ⟨go, 0, none⟩) n n) ∧ w'.cell? ⟨go, id * 3, none⟩ = some (.int .u8 mt) ∧ w'.cell? ⟨go, id * 3 + 1, none⟩ = some (.int .i64 mx) ∧ w'.cell? ⟨go, id * 3 + 2, none⟩ = some (.int .i64 my))) (by kernel_rfl) (HSA.out _ (Below.refl _ _).drew) (fun hS => ?_)
      have hb : Below W.heap.size W W.drew := (Below.refl _ _).drew
      have H := H.drew
      obtain ⟨X0, hX⟩ : ∃ X, X = W.drew := ⟨_, rfl⟩
      rw [← hX] at H hb ⊢
      clear hX
      have hS := HSA.out _ hb
      refine wpAnyH_take (i := 0) (v := ?_) rfl (by kernel_rfl) (by kernel_rfl) (by kernel_rfl) (fun _ _ _ h => h) (Or.inl ⟨by rfl, ?_⟩) hS ?_
      rotate_left
      · intro w0 hSw
        (try dsimp only at hSw)
        go_split_ands
        go_simp
        try with_reducible rfl
      try simp only [Act.put, List.getElem_toArray, List.getElem_cons_zero, List.setIfInBounds_toArray, List.set_cons_zero, List.set_cons_succ]
      refine wpAnyH_take (i := 1) (v := ?_) rfl (by kernel_rfl) (by kernel_rfl) (by kernel_rfl) (fun _ _ _ h => h) (Or.inl ⟨by rfl, ?_⟩) hS ?_
      rotate_left
      · intro w0 hSw
        (try dsimp only at hSw)
        go_split_ands
        go_simp
        try with_reducible rfl
      try simp only [Act.put, List.getElem_toArray, List.getElem_cons_zero, List.getElem_cons_succ, List.setIfInBounds_toArray, List.set_cons_zero, List.set_cons_succ]
      refine wpAnyH_take (i := 2) (v := ?_) rfl (by kernel_rfl) (by kernel_rfl) (by kernel_rfl) (fun _ _ _ h => h) (Or.inl ⟨by rfl, ?_⟩) hS ?_
      rotate_left
      · intro w0 hSw
        (try dsimp only at hSw)
        go_split_ands
        go_simp
        try with_reducible rfl
      try simp only [Act.put, List.getElem_toArray, List.getElem_cons_zero, List.getElem_cons_succ, List.setIfInBounds_toArray, List.set_cons_zero, List.set_cons_succ]
      refine wpAnyH_take (i := 3) (v := ?_) rfl (by kernel_rfl) (by kernel_rfl) (by kernel_rfl) (fun _ _ _ h => h) (Or.inl ⟨by rfl, ?_⟩) hS ?_
      rotate_left
      · intro w0 hSw
        (try dsimp only at hSw)
        go_split_ands
        go_simp
        try with_reducible rfl
      try simp only [Act.put, List.getElem_toArray, List.getElem_cons_zero, List.getElem_cons_succ, List.setIfInBounds_toArray, List.set_cons_zero, List.set_cons_succ]
      refine wpAnyH_take (i := 4) (v := ?_) rfl (by kernel_rfl) (by kernel_rfl) (by kernel_rfl) (fun _ _ _ h => h) (Or.inl ⟨by rfl, ?_⟩) hS ?_
      rotate_left
      · intro w0 hSw
        (try dsimp only at hSw)
        go_split_ands
        go_simp
        try with_reducible rfl
      try simp only [Act.put, List.getElem_toArray, List.getElem_cons_zero, List.getElem_cons_succ, List.setIfInBounds_toArray, List.set_cons_zero, List.set_cons_succ]
      refine wpAnyH_ready (rs := [5, 9]) (by kernel_rfl) (by simp) (AllReadyH.cons rfl (fun K hK => ?_) (AllReadyH.cons rfl (fun K hK => ?_) AllReadyH.nil))
      · go_simp
        refine (HTHEN.out _ (below_trans' hb HBW)).mono ?_
        rintro e X1 ⟨rfl, hbm⟩
        have hb := hb.trans (hbm.mono hb.size)
        have H := H.call hbm
        refine hK.out _ _ (HSA.out _ hb) (fun hS => ?_)
        clear hK K hbm
        refine wpAnyH_take (i := 6) (v := ?_) rfl (by kernel_rfl) (by kernel_rfl) (by kernel_rfl) (fun _ _ _ h => h) (Or.inl ⟨by rfl, ?_⟩) hS ?_
        rotate_left
        · intro w0 hSw
          (try dsimp only at hSw)
          go_split_ands
          go_simp
          try with_reducible rfl
        try simp only [Act.put, List.getElem_toArray, List.getElem_cons_zero, List.getElem_cons_succ, List.setIfInBounds_toArray, List.set_cons_zero, List.set_cons_succ]
        refine wpAnyH_take (i := 7) (v := ?_) rfl (by kernel_rfl) (by kernel_rfl) (by kernel_rfl) (fun _ _ _ h => h) (Or.inl ⟨by rfl, ?_⟩) hS ?_
        rotate_left
        · intro w0 hSw
          (try dsimp only at hSw)
          go_split_ands
          go_simp
          try with_reducible rfl
        try simp only [Act.put, List.getElem_toArray, List.getElem_cons_zero, List.getElem_cons_succ, List.setIfInBounds_toArray, List.set_cons_zero, List.set_cons_succ]
        refine wpAnyH_take (i := 8) (v := ?_) rfl (by kernel_rfl) (by kernel_rfl) (by kernel_rfl) (fun _ _ _ h => h) (Or.inl ⟨by rfl, ?_⟩) hS ?_
        rotate_left
        · intro w0 hSw
          (try dsimp only at hSw)
          go_split_ands
          go_simp
          try with_reducible rfl
        try simp only [Act.put, List.getElem_toArray, List.getElem_cons_zero, List.getElem_cons_succ, List.setIfInBounds_toArray, List.set_cons_zero, List.set_cons_succ]
        refine wpAnyH_ready (rs := [9]) (by kernel_rfl) (by simp) (AllReadyH.cons rfl (fun K hK => ?_) AllReadyH.nil)
        obtain ⟨p14, hp⟩ : ∃ p, X1.heap.size = p := ⟨_, rfl⟩
        have hl : W.heap.size ≤ p14 := hp ▸ hb.size
        have hb := hb.alloc hb.size (.cells #[.int .u8 0, .int .i64 0, .int .i64 0] 68)
        have H := H.new #[.int .u8 0, .int .i64 0, .int .i64 0] 68 hp
        go_simp
        refine hK.out _ _ (HSA.out _ hb) (fun hS => ?_)
        clear hK K hS
        obtain ⟨X2, hX⟩ : ∃ X, X = X1.alloc (.cells #[.int .u8 0, .int .i64 0, .int .i64 0] 68) := ⟨_, rfl⟩
        rw [← hX] at H hb ⊢
        clear hX hp
        have hS := HSA.out _ hb
        refine wpAnyH_ready (rs := [10]) (by kernel_rfl) (by simp) (AllReadyH.cons rfl (fun K hK => ?_) AllReadyH.nil)
        obtain ⟨⟨y0, y1, y2⟩, z0, z1, z2⟩ := blk3 (H.blk 4 _ _ _ rfl)
        have hb := ((hb.setCell (p := ⟨p14, 0, none⟩) hl (.int .u8 qt)).setCell (p := ⟨p14, 1, none⟩) hl (.int .i64 qx)).setCell (p := ⟨p14, 2, none⟩) hl (.int .i64 qy)
        have H := ((H.set 4 0 rfl (.int .u8 qt)).set 4 1 rfl (.int .i64 qx)).set 4 2 rfl (.int .i64 qy)
        go_simp
        refine hK.out _ _ (HSA.out _ hb) (fun hS => ?_)
        clear hK K y0 y1 y2 z0 z1 z2
        refine wpAnyH_ready (rs := [11]) (by kernel_rfl) (by simp) (AllReadyH.cons rfl (fun K hK => ?_) AllReadyH.nil)
        go_simp
        refine hK.out _ _ (HSA.out _ hb) (fun hS => ?_)
        clear hK K
        refine wpAnyH_done (by kernel_rfl) ?_ _
        go_wp2_with fail
        go_meet
        exact ⟨_, rfl, H⟩
      · obtain ⟨p14, hp⟩ : ∃ p, X0.heap.size = p := ⟨_, rfl⟩
        have hl : W.heap.size ≤ p14 := hp ▸ hb.size
        have hb := hb.alloc hb.size (.cells #[.int .u8 0, .int .i64 0, .int .i64 0] 68)
        have H := H.new #[.int .u8 0, .int .i64 0, .int .i64 0] 68 hp
        go_simp
        refine hK.out _ _ (HSA.out _ hb) (fun hS => ?_)
        clear hK K hS
        obtain ⟨X1, hX⟩ : ∃ X, X = X0.alloc (.cells #[.int .u8 0, .int .i64 0, .int .i64 0] 68) := ⟨_, rfl⟩
        rw [← hX] at H hb ⊢
        clear hX hp
        have hS := HSA.out _ hb
        refine wpAnyH_ready (rs := [5]) (by kernel_rfl) (by simp) (AllReadyH.cons rfl (fun K hK => ?_) AllReadyH.nil)
        go_simp
        refine (HTHEN.out _ (below_trans' hb HBW)).mono ?_
        rintro e X2 ⟨rfl, hbm⟩
        have hb := hb.trans (hbm.mono hb.size)
        have H := H.call hbm
        refine hK.out _ _ (HSA.out _ hb) (fun hS => ?_)
        clear hK K hbm
        refine wpAnyH_take (i := 6) (v := ?_) rfl (by kernel_rfl) (by kernel_rfl) (by kernel_rfl) (fun _ _ _ h => h) (Or.inl ⟨by rfl, ?_⟩) hS ?_
        rotate_left
        · intro w0 hSw
          (try dsimp only at hSw)
          go_split_ands
          go_simp
          try with_reducible rfl
        try simp only [Act.put, List.getElem_toArray, List.getElem_cons_zero, List.getElem_cons_succ, List.setIfInBounds_toArray, List.set_cons_zero, List.set_cons_succ]
        refine wpAnyH_take (i := 7) (v := ?_) rfl (by kernel_rfl) (by kernel_rfl) (by kernel_rfl) (fun _ _ _ h => h) (Or.inl ⟨by rfl, ?_⟩) hS ?_
        rotate_left
        · intro w0 hSw
          (try dsimp only at hSw)
          go_split_ands
          go_simp
          try with_reducible rfl
        try simp only [Act.put, List.getElem_toArray, List.getElem_cons_zero, List.getElem_cons_succ, List.setIfInBounds_toArray, List.set_cons_zero, List.set_cons_succ]
        refine wpAnyH_take (i := 8) (v := ?_) rfl (by kernel_rfl) (by kernel_rfl) (by kernel_rfl) (fun _ _ _ h => h) (Or.inl ⟨by rfl, ?_⟩) hS ?_
        rotate_left
        · intro w0 hSw
          (try dsimp only at hSw)
          go_split_ands
          go_simp
          try with_reducible rfl
        try simp only [Act.put, List.getElem_toArray, List.getElem_cons_zero, List.getElem_cons_succ, List.setIfInBounds_toArray, List.set_cons_zero, List.set_cons_succ]
        refine wpAnyH_ready (rs := [10]) (by kernel_rfl) (by simp) (AllReadyH.cons rfl (fun K hK => ?_) AllReadyH.nil)
        obtain ⟨⟨y0, y1, y2⟩, z0, z1, z2⟩ := blk3 (H.blk 4 _ _ _ rfl)
        have hb := ((hb.setCell (p := ⟨p14, 0, none⟩) hl (.int .u8 qt)).setCell (p := ⟨p14, 1, none⟩) hl (.int .i64 qx)).setCell (p := ⟨p14, 2, none⟩) hl (.int .i64 qy)
        have H := ((H.set 4 0 rfl (.int .u8 qt)).set 4 1 rfl (.int .i64 qx)).set 4 2 rfl (.int .i64 qy)
        go_simp
        refine hK.out _ _ (HSA.out _ hb) (fun hS => ?_)
        clear hK K y0 y1 y2 z0 z1 z2
        refine wpAnyH_ready (rs := [11]) (by kernel_rfl) (by simp) (AllReadyH.cons rfl (fun K hK => ?_) AllReadyH.nil)
        go_simp
        refine hK.out _ _ (HSA.out _ hb) (fun hS => ?_)
        clear hK K
        refine wpAnyH_done (by kernel_rfl) ?_ _
        go_wp2_with fail
        go_meet
        exact ⟨_, rfl, H⟩
    case rest =>
      obtain ⟨p14, rfl, H⟩ := hcut
      obtain ⟨⟨s0, s1, s2⟩, _⟩ := blk3 (H.blk 4 _ _ _ rfl)
      obtain ⟨⟨r0, r1, r2⟩, z0, z1, z2⟩ := blk3 (H.blk 0 _ _ _ rfl)
      go_wp2_with fail
      have H4 := ((H.set 0 0 rfl (.int .u8 qt)).set 0 1 rfl (.int .i64 qx)).set 0 2 rfl (.int .i64 qy)
      exact bodyPost_ret (res_cell rfl rfl (H4.range 0 rfl) Tryz.underlying68 rfl (by kernel_rfl)) rfl ⟨by rw [← HR2.out]; rfl, H4.below⟩
end Go.Proofs.YtdkijcmhjeaofaaGreatDoor
