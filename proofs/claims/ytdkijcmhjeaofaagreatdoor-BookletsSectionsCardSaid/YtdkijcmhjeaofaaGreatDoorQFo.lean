/- Joined texts. A closed-run executor, part 35: a region that draws its order, with a good trace. No program is named; no condition. · A closed-run executor, part 36: what a trace is made of. No program is named; no condition. · A closed-run executor, part 37: the trace of a region that draws its order, made in one pass. No program is named; no condition. · A closed-run executor, part 38: the pass over a region's operations, as a relation. No program is named; no condition. · A closed-run executor, part 39: what holds of the pass. No program is named; no condition. · A closed-run executor, part 40: what the checks on a region say. No program is named; no condition. -/
import Derived.Test.YtdkijcmhjeaofaaGreatDoorQFi
namespace Go.Proofs.YtdkijcmhjeaofaaGreatDoor
namespace Ex
namespace Tc

variable {P : Program} {T : Tc} {K : Nat} {ext : FuncId → List AV → Option AV} {call : FuncId → List AV → St → CRes} {fN : Fm} {SN : St}

theorem drawn_ok (hm : P.follows .mixedOrders = true) {Z : Kept K} (hext : Ext2Ok Z P ext) (hcall : CallOk Z P call) (G : T.Good K P ext call fN SN) {id : Nat} {r : Option Nat} {n lo : Nat} {ρ0 : Rho} {a0 : Act} {w0 : World} {Q : Exit → Act → World → Prop}
    (hf : FR ρ0 T.f0 a0) (hw : WR ρ0 T.S w0) (hmk : MkOk lo T.S ρ0 w0 a0.defers) (hK : K ≤ T.S.next) (hz : Z.p T.S ρ0 w0) (h : RelQ K lo T.S ρ0 w0 Q (.normal fN SN)) : (Code.region id T.ops true).wpIn (wf r) n P Q a0 w0 := by
  refine wpIn_region_any hm ?_
  have hsz : (Array.replicate T.ops.size false).size = T.ops.size := by simp
  have hno : ∀ j, ¬ Lst (Array.replicate T.ops.size false) j := by
    intro j hj
    unfold Lst at hj
    rw [Array.getD_eq_getD_getElem?, Array.getElem?_replicate] at hj
    split at hj <;> simp at hj
  have hmkN : ∀ {i idd : Nat} {B : AB} {v : AV}, T.recs[i]? = some (.mk idd B v) → T.S.next ≤ idd ∧ idd < T.S.next + T.ops.size := by
    intro i idd B v hk
    have hks : i < T.recs.length := by
      by_cases h : i < T.recs.length
      · exact h
      · rw [List.getElem?_eq_none (by omega)] at hk; cases hk
    rw [G.len] at hks
    have := G.ids i idd B v hk
    omega
  -- the beginning
  have I0 : T.Inv K ρ0 w0 (Array.replicate T.ops.size false) a0 w0.drew ρ0 T.M0 T.S.heap.at := {
    size := hsz
    down := fun i o j _ hl _ => absurd hl (hno i)
    slots := hf.2.1
    outs := fun j o d r _ _ _ hl => absurd hl (hno j)
    olds := fun t v _ hv => hf.2.2 t v hv
    cur := .inl ⟨fun e _ hl => hno e hl, rfl⟩
    hp := ⟨fun _ _ ⟨k, _, _, hl, _⟩ => absurd hl (hno k), fun _ _ => rfl⟩
    wr := ⟨hw.inj, fun i hi => hw.dom i (by have : T.S.next + T.ops.size ≤ i := hi; omega), G.lim, hw.low, hw.blk⟩
    nx := Nat.le_refl _
    free1 := fun i idd B v hk _ => (hw.dom idd (hmkN hk).1).1
    free2 := fun i idd B v hk _ => (hw.dom idd (hmkN hk).1).2
    le := Rho.le_refl _
    old := fun _ _ => rfl
    keep := fun _ _ h0 => h0
    new := fun i b n A hA hl hr => .inl ⟨hr, A, hA, hl⟩
    fr := ⟨rfl, rfl, rfl, Nat.le_refl _, fun _ _ _ => rfl⟩ }
  refine wpAny_of_inv (fun L a w => a.defers = a0.defers ∧ ∃ ρ M H, T.Inv K ρ0 w0 L a w ρ M H) ?_ ?_ (fun L a w ⟨_, _, _, _, I⟩ => I.size) _ _ _ _ ?_ ⟨rfl, _, _, _, I0⟩
  · -- the end
    rintro L a w ⟨hds, ρ, M, H, I⟩ hr
    have hall : ∀ i, i < T.ops.size → Lst L i := by
      intro i
      induction i using Nat.strongRecOn with
      | _ i ih =>
        intro hi
        refine Classical.byContradiction fun hn => ?_
        have hiL : i < L.size := by rw [I.size]; exact hi
        have hLi : L[i]? = some false := by
          have e : L[i]? = some L[i] := by simp [hiL]
          cases hb : L[i] with
          | false => rw [e, hb]
          | true => exact absurd (by unfold Lst; rw [Array.getD_eq_getD_getElem?, e, hb]; rfl) hn
        have hmem : i ∈ Region.ready .any T.ops L := by
          unfold Region.ready
          rw [List.mem_filter]
          refine ⟨List.mem_range.2 hi, ?_⟩
          have ho : T.ops[i]? = some T.ops[i] := by simp [hi]
          rw [ho, Array.getD_eq_getD_getElem?, hLi]
          simp only [Option.getD_some, Bool.not_false, Option.map_some, Bool.true_and]
          rw [Array.all_eq_true_iff_forall_mem]
          intro e he
          cases hb : Region.binds .any e with
          | false => rfl
          | true =>
            have hj : e.on ∈ preds T.ops[i] := by
              unfold preds
              rw [List.mem_map]
              exact ⟨e, List.mem_filter.2 ⟨by simpa using he, hb⟩, rfl⟩
            have hlt := G.back i _ _ ho hj
            have := ih e.on hlt (Nat.lt_trans hlt hi)
            unfold Lst at this
            rw [this]; rfl
        rw [hr] at hmem; cases hmem
    obtain ⟨l1, l2⟩ := G.last L M hall I.cur
    have hWR : WR ρ SN w := I.wr.tr (l2 H I.hp) l1
    have hnew : ∀ i b n A, SN.heap.at i = some A → A.live = true → ρ i = some (b, n) →
        (ρ0 i = some (b, n) ∧ ∃ A', T.S.heap.at i = some A' ∧ A'.live = true) ∨ (K ≤ i ∧ (w0.heap.size ≤ b ∨ ∃ j m A', K ≤ j ∧ T.S.heap.at j = some A' ∧ A'.live = true ∧ ρ0 j = some (b, m))) :=
      fun i b n A hA hl hri => I.new i b n A (l2 H I.hp i A hA) hl hri
    refine h a w ρ ⟨rfl, by rw [G.frame.1]; exact I.slots, fun t v ht => ?_⟩ hWR (by rw [hds]; exact hmk.step ⟨I.le, hnew, I.fr⟩) ?_ I.fr
    · rcases G.frame.2 t v ht with ⟨j, oj, r, q1, q2, q3, q4⟩ | ⟨q1, q2⟩
      · subst q4
        refine I.outs j oj t r q1 q2 q3 (hall j ?_)
        by_cases hj : j < T.ops.size
        · exact hj
        · rw [Array.getElem?_eq_none (by omega)] at q1; cases q1
      · exact I.olds t v (fun j oj hj hd => absurd hd (q1 j oj hj)) q2
    · refine ⟨I.le, ?_, I.old, fun i hi h0 => ?_, hnew⟩
      · have := I.nx; rw [l1]; omega
      · cases hs : SN.heap.at i with
        | none => rfl
        | some A =>
          have hH := l2 H I.hp i A hs
          rw [I.hp.2 i ?_] at hH
          · rw [I.keep i hi h0] at hH; cases hH
          · rintro B ⟨k, u, hk, _⟩
            have := (hmkN hk).1; omega
  · -- a step
    rintro L a w i ⟨hds, ρ, M, H, I⟩ hi
    have hlt : i < T.ops.size := by
      unfold Region.ready at hi
      exact List.mem_range.1 (List.mem_filter.1 hi).1
    have hiL : i < L.size := by rw [I.size]; exact hlt
    obtain ⟨o, ho⟩ : ∃ o, T.ops[i]? = some o := ⟨T.ops[i], by simp [hlt]⟩
    obtain ⟨r, hr⟩ : ∃ r, T.recs[i]? = some r := by
      have : i < T.recs.length := by rw [G.len]; exact hlt
      exact ⟨T.recs[i], by simp [this]⟩
    have hp := ready_preds hi ho
    have hanc : ∀ k, Anc T.ops i k → Lst L k := fun k hk => ready_anc I.down hi hk
    have hnl : ¬ Lst L i := by
      unfold Region.ready at hi
      have := (List.mem_filter.1 hi).2
      simp only [Bool.and_eq_true, Bool.not_eq_true'] at this
      intro h
      unfold Lst at h
      have h0 := this.1
      rw [Array.getD_eq_getD_getElem?] at h h0
      have : L[i]? = some L[i] := by simp [hiL]
      rw [this] at h h0
      simp at h h0
      rw [h] at h0; cases h0
    obtain ⟨g, hs, hop⟩ := G.op i o r ho hr
    have hfr : FR ρ g a := I.sees hs hnl hp
    unfold wpOpIn
    rw [ho]
    dsimp only
    cases r with
    | skip =>
      simp only at hop
      rw [want_ok hop hfr]
      simp only [Bool.false_eq_true, if_false]
      exact ⟨fun _ _ => trivial, by rw [put_defers]; exact hds, ρ, M, H, I.quiet G hiL ho hr rfl rfl hp (by simp only [Rec.out, VR]; exact ⟨[], rfl, by simp [VRL]⟩)⟩
    | val v =>
      simp only at hop
      rw [want_ok hop.1 hfr]
      simp only [if_true]
      rcases hop.2 with h1 | ⟨c, g', vs, h1, h2, h3⟩
      · obtain ⟨x, q1, q2⟩ := pureOp_ok h1 hfr w
        exact valOp_ok (value_no_defer q1) q1 ⟨by rw [put_defers]; exact hds, ρ, M, H, I.quiet G hiL ho hr rfl rfl hp q2⟩
      · have hex : execOp a.eval o = (do let d ← resolve a.eval c o.type; invoke d.target d.args : Sem Next) := by unfold execOp; rw [h1]
        obtain ⟨xs, hxs, hrun⟩ := callee_ok (P := P) h2 hfr o.type w
        obtain ⟨hlt', he⟩ := hext g' vs v h3
        rcases hrun with ⟨_, hrun⟩ | ⟨y, b, m, e, _⟩
        · have hzz : Z.p ⟨.e, 0⟩ ρ w := by
            refine Z.step hz ⟨I.le, fun i b n A hA => ?_, I.fr⟩
            have hA : (Tr.e : Tr AB).at i = some A := hA
            rw [Tr.at_e] at hA; cases hA
          rcases he ρ xs w ⟨.e, 0⟩ hxs hzz with ⟨x, q1, q2⟩ | ⟨q1, q2⟩
          · exact valOp_ok (by rw [h1]; intro c h; cases h) (by rw [hex, hrun, q1]) ⟨by rw [put_defers]; exact hds, ρ, M, H, I.quiet G hiL ho hr rfl rfl hp q2⟩
          · refine ⟨fun _ _ => trivial, ?_⟩
            rw [Oper.semAt_eq _ _ _ (by rw [h1]; intro c h; cases h), hex, hrun, q1, Oper.uponIn_enter]
            refine ⟨fun h => (by cases h), (callsIn_wide (n := n - 1)).2 (q2.mono ?_)⟩
            rintro e w' ⟨x, rfl, hx, hb⟩
            exact ⟨by rw [put_defers]; exact hds, ρ, M, H, (I.grow hb).quiet G hiL ho hr rfl rfl hp hx⟩
        · exact (fid_no hlt' e).elim
    | read v =>
      simp only at hop
      rw [want_ok hop.1 hfr]
      simp only [if_true]
      have hM : WR ρ M w := I.wr.tr (fun j A hA => by
        rw [I.hp.2 j ?_]
        · exact hA
        · rintro B ⟨k, u, hk, _, hn⟩
          rw [I.free2 k j B u hk hn] at hA; cases hA) rfl
      obtain ⟨x, q1, q2⟩ := readOp_ok (hop.2 L M I.down hnl hp I.cur) hfr hM
      exact valOp_ok (value_no_defer q1) q1 ⟨by rw [put_defers]; exact hds, ρ, M, H, I.quiet G hiL ho hr rfl rfl hp q2⟩
    | mk idd B v =>
      simp only at hop
      rw [want_ok hop.1 hfr]
      simp only [if_true]
      obtain ⟨x, ob, n, w', q1, q2, q3, q4, q5, q6⟩ := allocOp_ok hop.2 hfr w
      have hnone : ρ idd = none := I.free1 i idd B v hr hnl
      obtain ⟨r1, r2⟩ := q6 _ (Rho.le_set (p := (w.heap.size, n)) hnone) (Rho.set_same _ _ _)
      obtain ⟨H', I'⟩ := I.make G hK hiL ho hr hnl hp q2 q3 q4 q5 r1 r2
      exact valOp_ok (value_no_defer q1) q1 ⟨by rw [put_defers]; exact hds, _, M, H', I'⟩
    | eff v Ma M1 =>
      simp only at hop
      rw [want_ok hop.1 hfr]
      simp only [if_true]
      obtain ⟨hnx, hsub, _⟩ := I.at_effect G (e := i) ⟨v, hr⟩ hnl hanc
      have hWa : WR ρ Ma w := I.wr.tr hsub hnx
      have hKa : K ≤ Ma.next := by rw [hnx]; have := I.nx; omega
      rcases hop.2 with h1 | ⟨c, g', vs, h1, h2, h3⟩
      · obtain ⟨x, w', σ, q1, q2, q3, q4, q5⟩ := effOp_ok h1 hfr hWa hKa
        obtain ⟨H', I'⟩ := I.effect G hiL ho hr hnl hp hanc q4 q2 q3 q5
        rcases q1 with q1 | ⟨q1, hx⟩
        · exact valOp_ok (value_no_defer q1) q1 ⟨by rw [put_defers]; exact hds, _, _, _, I'⟩
        · subst hx; exact skipOp_ok (skip_no_defer q1) q1 ⟨by rw [put_defers]; exact hds, _, _, _, I'⟩
      · refine callOp_ok hcall h1 h2 h3 hfr hWa hKa (Z.step hz ⟨I.le, fun j b n A hA hl hr => I.new j b n A (hsub j A hA) hl hr, I.fr⟩) fun x σ w' hx hw' hu hfr' => ?_
        obtain ⟨H', I'⟩ := I.effect G hiL ho hr hnl hp hanc hx hu hw' hfr'
        exact ⟨by rw [put_defers]; exact hds, _, _, _, I'⟩
  · unfold leftOf
    refine Nat.le_trans (List.length_filter_le _ _) ?_
    simp

end Tc
end Ex
end Go.Proofs.YtdkijcmhjeaofaaGreatDoor
namespace Go.Proofs.YtdkijcmhjeaofaaGreatDoor
namespace Ex

variable {P : Program}

theorem anc_lt {ops : Array Oper} (hb : ∀ (i : Nat) (o : Oper) (j : Nat), ops[i]? = some o → j ∈ preds o → j < i) {i k : Nat} (h : Anc ops i k) : k < i := by
  induction h with
  | one ho hj => exact hb _ _ _ ho hj
  | more ho hj _ ih => exact Nat.lt_trans ih (hb _ _ _ ho hj)

theorem isAnc_all {ops : Array Oper} (hb : ∀ (i : Nat) (o : Oper) (j : Nat), ops[i]? = some o → j ∈ preds o → j < i) {i k : Nat} (h : Anc ops i k) : ∀ n, i < n → isAnc ops.toList n i k = true := by
  induction h with
  | @one i j o ho hj =>
    intro n hn
    obtain ⟨n, rfl⟩ : ∃ m, n = m + 1 := ⟨n - 1, by omega⟩
    show (match ops.toList[i]? with
      | none => false
      | some o => (preds o).any fun q => Nat.beq q j || isAnc ops.toList n q j) = true
    have : ops.toList[i]? = some o := by simpa using ho
    rw [this]
    rw [List.any_eq_true]
    exact ⟨j, hj, by rw [beq_t rfl]; rfl⟩
  | @more i j k o ho hj _ ih =>
    intro n hn
    obtain ⟨n, rfl⟩ : ∃ m, n = m + 1 := ⟨n - 1, by omega⟩
    show (match ops.toList[i]? with
      | none => false
      | some o => (preds o).any fun q => Nat.beq q k || isAnc ops.toList n q k) = true
    have : ops.toList[i]? = some o := by simpa using ho
    rw [this]
    rw [List.any_eq_true]
    have := hb _ _ _ ho hj
    exact ⟨j, hj, by rw [ih n (by omega), Bool.or_true]⟩

/-! The operation that writes a slot. -/
noncomputable def dstIs (o : Oper) (t : Nat) : Bool := match o.dst with
  | some d => Nat.beq d t
  | none => false
theorem dstIs_iff {o : Oper} {t : Nat} : dstIs o t = true ↔ o.dst = some t := by
  unfold dstIs
  cases o.dst with
  | none => simp
  | some d =>
    constructor
    · intro h; rw [Nat.eq_of_beq_eq_true h]
    · intro h; injection h with h; exact beq_t h
noncomputable def writer (t : Nat) (ops : List Oper) : Option Nat :=
  List.rec none (fun o _ ih => Bool.rec (Option.rec none (fun n => some (Nat.succ n)) ih) (some 0) (dstIs o t)) ops
theorem writer_cons (t : Nat) (o : Oper) (l : List Oper) : writer t (o :: l) = if o.dst = some t then some 0 else (writer t l).map Nat.succ := by
  show (Bool.rec (Option.rec none (fun n => some (Nat.succ n)) (writer t l)) (some 0) (dstIs o t) : Option Nat) = _
  by_cases h : o.dst = some t
  · rw [dstIs_iff.2 h, if_pos h]
  · have : dstIs o t = false := by cases hd : dstIs o t with | false => rfl | true => exact absurd (dstIs_iff.1 hd) h
    rw [this, if_neg h]
    cases writer t l <;> rfl
theorem writer_none {t : Nat} : ∀ {l : List Oper}, writer t l = none → ∀ (j : Nat) (o : Oper), l[j]? = some o → o.dst ≠ some t
  | [], _, j, o, h => by simp at h
  | x :: l, hw, j, o, h => by
    rw [writer_cons] at hw
    by_cases e : x.dst = some t
    · rw [if_pos e] at hw; cases hw
    · rw [if_neg e] at hw
      cases j with
      | zero => simp at h; subst h; exact e
      | succ j => exact writer_none (by simpa using hw) j o (by simpa using h)
theorem writer_some {t : Nat} : ∀ {l : List Oper} {k : Nat}, writer t l = some k → ∃ o, l[k]? = some o ∧ o.dst = some t
  | [], _, h => by cases h
  | x :: l, k, hw => by
    rw [writer_cons] at hw
    by_cases e : x.dst = some t
    · rw [if_pos e] at hw; injection hw with hw; subst hw; exact ⟨x, by simp, e⟩
    · rw [if_neg e] at hw
      cases hl : writer t l with
      | none => simp [hl] at hw
      | some n =>
        simp [hl] at hw; subst hw
        obtain ⟨o, h1, h2⟩ := writer_some hl
        exact ⟨o, by simpa using h1, h2⟩

/-- What is seen of a slot: nothing at all (.none), nothing known (some none), a value. -/
noncomputable def slotOf (ops : List Oper) (f0 : Fm) (recs : List Rec) (ps : List Nat) (an : Nat → Bool) (t : Nat) : Option (Option AV) :=
  match writer t ops with
  | none => some (f0.t.at t)
  | some j => match ps.any (Nat.beq j), recs[j]? with
    | true, some r => some (some r.out)
    | _, _ => match an j with
      | true => some (f0.t.at t)
      | false => none

noncomputable def seeG (ops : List Oper) (f0 : Fm) (recs : List Rec) (ps : List Nat) (an : Nat → Bool) (ts : List Nat) : Option (Tr AV) :=
  List.rec (some .e) (fun t _ ih => match ih with
    | none => none
    | some tr => match Nat.blt t 1048575, slotOf ops f0 recs ps an t with
      | true, some (some v) => some (tr.to t v)
      | true, some none => some tr
      | _, _ => none) ts

theorem seeG_ok {ops : Array Oper} {f0 : Fm} {recs : List Rec} {o : Oper} {an : Nat → Bool} {i : Nat} (han : ∀ j, an j = true → Anc ops j i) (huniq : ∀ (a b : Nat) (oa ob : Oper) (d : Nat), ops[a]? = some oa → ops[b]? = some ob → oa.dst = some d → ob.dst = some d → a = b) :
    ∀ {ts : List Nat} {tr : Tr AV}, seeG ops.toList f0 recs (preds o) an ts = some tr → ∀ t v, tr.at t = some v →
    (∃ (j : Nat) (oj : Oper) (r : Rec), ops[j]? = some oj ∧ oj.dst = some t ∧ recs[j]? = some r ∧ v = r.out ∧ j ∈ preds o) ∨ ((∀ (j : Nat) (oj : Oper), ops[j]? = some oj → oj.dst = some t → Anc ops j i) ∧ f0.t.at t = some v)
  | [], tr, h, t, v, ht => by
    have h : some .e = some tr := h
    injection h with h; subst h; rw [Tr.at_e] at ht; cases ht
  | s :: ts, tr, h, t, v, ht => by
    have h : (match seeG ops.toList f0 recs (preds o) an ts with
      | none => none
      | some tr => match Nat.blt s 1048575, slotOf ops.toList f0 recs (preds o) an s with
        | true, some (some v) => some (tr.to s v)
        | true, some none => some tr
        | _, _ => none) = some tr := h
    split at h
    · cases h
    · rename_i tr' htr
      split at h
      · rename_i u hlt hs
        injection h with h; subst h
        have hlt : s < 1048575 := by rwa [Nat.blt_eq] at hlt
        rw [Tr.at_to _ _ _ _ hlt] at ht
        by_cases e : t = s
        · rw [if_pos e] at ht; injection ht with ht; subst ht; subst e
          unfold slotOf at hs
          split at hs
          · rename_i hw
            injection hs with hs
            exact .inr ⟨fun j oj hj hd => absurd hd (writer_none hw j oj (by simpa using hj)), hs⟩
          · rename_i j hw
            obtain ⟨oj, h1, h2⟩ := writer_some hw
            have h1 : ops[j]? = some oj := by simpa using h1
            split at hs
            · rename_i r hp hr
              injection hs with hs; injection hs with hs
              rw [List.any_eq_true] at hp
              obtain ⟨q, hq, e⟩ := hp
              have := Nat.eq_of_beq_eq_true e; subst this
              exact .inl ⟨j, oj, r, h1, h2, hr, hs.symm, hq⟩
            · split at hs
              · rename_i ha
                injection hs with hs
                exact .inr ⟨fun k ok hk hd => by rw [huniq k j ok oj _ hk h1 hd h2]; exact han j ha, hs⟩
              · cases hs
        · rw [if_neg e] at ht; exact seeG_ok han huniq htr t v ht
      · injection h with h; subst h; exact seeG_ok han huniq htr t v ht
      · cases h

/-! New blocks told to memory. -/
noncomputable def absorbP (c : Nat → Bool) (recs : List Rec) : Nat → St → St :=
  List.rec (motive := fun _ => Nat → St → St) (fun _ M => M)
    (fun r _ ih k M => match r with
      | .mk id B _ => Bool.rec (ih (Nat.succ k) M) (ih (Nat.succ k) ⟨M.heap.to id B, M.next⟩) (c k)
      | _ => ih (Nat.succ k) M) recs

theorem absorbP_next (c : Nat → Bool) : ∀ (recs : List Rec) (k : Nat) (M : St), (absorbP c recs k M).next = M.next
  | [], _, _ => rfl
  | r :: recs, k, M => by
    cases r with
    | mk id B v =>
      show (Bool.rec (absorbP c recs (k + 1) M) (absorbP c recs (k + 1) ⟨M.heap.to id B, M.next⟩) (c k) : St).next = _
      cases c k with
      | false => exact absorbP_next c recs (k + 1) M
      | true => exact absorbP_next c recs (k + 1) ⟨M.heap.to id B, M.next⟩
    | _ => exact absorbP_next c recs (k + 1) M

theorem absorbP_at (c : Nat → Bool) : ∀ (recs : List Rec) (k : Nat) (M : St), (∀ (i id : Nat) (B : AB) (v : AV), recs[i]? = some (.mk id B v) → id < 1048575) → ∀ id A, (absorbP c recs k M).heap.at id = some A →
    M.heap.at id = some A ∨ ∃ (i : Nat) (v : AV), recs[i]? = some (.mk id A v) ∧ c (k + i) = true
  | [], _, _, _, id, A, h => .inl h
  | r :: recs, k, M, hl, id, A, h => by
    have hl' : ∀ (i id : Nat) (B : AB) (v : AV), recs[i]? = some (.mk id B v) → id < 1048575 := fun i id B v hi => hl (i + 1) id B v (by simpa using hi)
    have next : ∀ M', (absorbP c recs (k + 1) M').heap.at id = some A → M'.heap.at id = some A ∨ ∃ (i : Nat) (v : AV), (r :: recs)[i]? = some (.mk id A v) ∧ c (k + i) = true := by
      intro M' h
      rcases absorbP_at c recs (k + 1) M' hl' id A h with h | ⟨i, v, h1, h2⟩
      · exact .inl h
      · exact .inr ⟨i + 1, v, by simpa using h1, by rw [← h2]; congr 1; omega⟩
    cases r with
    | mk id' B v =>
      have h : (Bool.rec (absorbP c recs (k + 1) M) (absorbP c recs (k + 1) ⟨M.heap.to id' B, M.next⟩) (c k) : St).heap.at id = some A := h
      cases hc : c k with
      | false => rw [hc] at h; exact next M h
      | true =>
        rw [hc] at h
        rcases next _ h with h | h
        · have h : (M.heap.to id' B).at id = some A := h
          rw [Tr.at_to _ _ _ _ (hl 0 id' B v (by simp))] at h
          by_cases e : id = id'
          · rw [if_pos e] at h; injection h with h; subst h; subst e
            exact .inr ⟨0, v, by simp, by simpa using hc⟩
          · rw [if_neg e] at h; exact .inl h
        · exact .inr h
    | skip => exact next M h
    | val v => exact next M h
    | read v => exact next M h
    | eff v Ma M1 => exact next M h

end Ex
end Go.Proofs.YtdkijcmhjeaofaaGreatDoor
namespace Go.Proofs.YtdkijcmhjeaofaaGreatDoor
namespace Ex

inductive TRes where
  | ok (recs : List Rec) (E : List (Nat × St)) (M : St)
  | no (why : List Nat)

/-- The last effect is before this one. -/
noncomputable def chainOk (ops : List Oper) (n i : Nat) (E : List (Nat × St)) : Bool :=
  E.all fun p => isAnc ops n i p.1

/-- The memory that an effect finds. -/
noncomputable def found (ops : List Oper) (n i : Nat) (recs : List Rec) (E : List (Nat × St)) (M : St) : St :=
  absorbP (fun k => isAnc ops n i k && not (E.any fun p => isAnc ops n p.1 k)) recs 0 M

noncomputable def tr (K : Nat) (P : Program) (ext : FuncId → List AV → Option AV) (call : FuncId → List AV → St → CRes) (ops : List Oper) (looks : Oper → List Nat) (n : Nat) (f0 : Fm) (S : St) (l : List Oper) :
    Nat → List Rec → List (Nat × St) → St → TRes :=
  List.rec (motive := fun _ => Nat → List Rec → List (Nat × St) → St → TRes) (fun _ recs E M => .ok recs E M)
    (fun o _ ih i recs E M => match seeG ops f0 recs (preds o) (fun k => isAnc ops n k i) (looks o) with
      | none => .no [50, i]
      | some t => match want ops ⟨t, f0.n⟩ o with
        | none => .no [51, i]
        | some false => ih (Nat.succ i) (recs ++ [.skip]) E M
        | some true => match cls P o.op with
          | .pure => match pureOp P ⟨t, f0.n⟩ o with
            | some v => ih (Nat.succ i) (recs ++ [.val v]) E M
            | none => .no [52, i]
          | .read => match readOp P ⟨t, f0.n⟩ M o with
            | some v => ih (Nat.succ i) (recs ++ [.read v]) E M
            | none => .no [53, i]
          | .alloc => match allocOp P (Nat.add S.next i) ⟨t, f0.n⟩ o with
            | some (v, B) => ih (Nat.succ i) (recs ++ [.mk (Nat.add S.next i) B v]) E M
            | none => .no [54, i]
          | .eff => match chainOk ops n i E with
            | false => .no [55, i]
            | true => match effOp K P ⟨t, f0.n⟩ (found ops n i recs E M) o with
              | some (v, M1) => ih (Nat.succ i) (recs ++ [.eff v (found ops n i recs E M) M1]) (E ++ [(i, M1)]) M1
              | none => .no [56, i]
          | .call => match o.op with
            | .call c => match callee ⟨t, f0.n⟩ c with
              | some (h, vs) => match ext h vs with
                | some v => ih (Nat.succ i) (recs ++ [.val v]) E M
                | none => match chainOk ops n i E with
                  | false => .no [57, i]
                  | true => match call h vs (found ops n i recs E M) with
                    | .ok v M1 => ih (Nat.succ i) (recs ++ [.eff v (found ops n i recs E M) M1]) (E ++ [(i, M1)]) M1
                    | .no w => .no (58 :: i :: w)
              | none => .no [59, i]
            | _ => .no [60, i]
          | .no => .no [61, i]) l

/-- Equality of values, where it can be seen. -/
noncomputable def avEq1 : AV → AV → Bool
  | .bool a, .bool b => match a, b with
    | true, true => true
    | false, false => true
    | _, _ => false
  | .int j m, .int k n => ksame j k && ieq m n
  | .str l, .str r => leq l r
  | .ptr i o, .ptr j q => Nat.beq i j && Nat.beq o q
  | .nilPtr, .nilPtr => true
  | .sl i o l c, .sl j q m d => Nat.beq i j && (Nat.beq o q && (Nat.beq l m && Nat.beq c d))
  | .slu i o l s b, .slu j q m t c => Nat.beq i j && (Nat.beq o q && (Nat.beq l m && (Nat.beq s t && Nat.beq b c)))
  | .nilSl, .nilSl => true
  | .map i, .map j => Nat.beq i j
  | .nilMap, .nilMap => true
  | .nilFunc, .nilFunc => true
  | .nilIface, .nilIface => true
  | _, _ => false
noncomputable def avEqL (l : List AV) : List AV → Bool :=
  List.rec (motive := fun _ => List AV → Bool) (fun r => match r with
    | [] => true
    | _ => false) (fun x _ ih r => match r with
    | [] => false
    | y :: r => avEq1 x y && ih r) l
noncomputable def avEq : AV → AV → Bool
  | .agg l, .agg r => avEqL l r
  | .func f l, .func g r => Nat.beq f g && avEqL l r
  | .tup l, .tup r => avEqL l r
  | u, v => avEq1 u v

/-- A read gives the same wherever it may stand. -/
noncomputable def readEq (P : Program) (g : Fm) (o : Oper) (v : AV) (M : St) : Bool := match readOp P g M o with
  | some u => avEq u v
  | none => false
/-- The slots behind all. -/
noncomputable def putAll (l : List Oper) : List Rec → Tr AV → Tr AV :=
  List.rec (motive := fun _ => List Rec → Tr AV → Tr AV) (fun _ t => t)
    (fun o _ ih recs t => match recs with
      | [] => t
      | r :: recs => match o.dst with
        | none => ih recs t
        | some d => ih recs (t.to d r.out)) l

/-- What must be so of the operations. -/
noncomputable def dstsOk (n : Nat) (l : List Oper) : Bool :=
  List.rec true (fun o l ih => (match o.dst with
    | none => true
    | some d => Nat.blt d n && (match writer d l with
      | none => true
      | some _ => false)) && ih) l
noncomputable def backOk (l : List Oper) : Nat → Bool :=
  List.rec (motive := fun _ => Nat → Bool) (fun _ => true) (fun o _ ih i => (preds o).all (fun j => Nat.blt j i) && ih (Nat.succ i)) l

end Ex
end Go.Proofs.YtdkijcmhjeaofaaGreatDoor
namespace Go.Proofs.YtdkijcmhjeaofaaGreatDoor
namespace Ex

variable {P : Program} {K : Nat} {ext : FuncId → List AV → Option AV} {call : FuncId → List AV → St → CRes} {ops : Array Oper} {f0 : Fm} {S : St}

/-- One operation of the pass. -/
def StepR (K : Nat) (P : Program) (ext : FuncId → List AV → Option AV) (call : FuncId → List AV → St → CRes) (ops : Array Oper) (f0 : Fm) (S : St) (i : Nat) (o : Oper) (recs : List Rec) (E : List (Nat × St)) (M : St) (r : Rec) (E1 : List (Nat × St)) (M1 : St) : Prop :=
  ∃ t, seeG ops.toList f0 recs (preds o) (fun k => isAnc ops.toList ops.size k i) (o.looksAt ops) = some t ∧ match r with
    | .skip => want ops.toList ⟨t, f0.n⟩ o = some false ∧ E1 = E ∧ M1 = M
    | .val v => (want ops.toList ⟨t, f0.n⟩ o = some true ∧ (pureOp P ⟨t, f0.n⟩ o = some v ∨ ∃ (c : Call) (h : FuncId) (vs : List AV), o.op = .call c ∧ callee ⟨t, f0.n⟩ c = some (h, vs) ∧ ext h vs = some v)) ∧ E1 = E ∧ M1 = M
    | .read _ => want ops.toList ⟨t, f0.n⟩ o = some true ∧ E1 = E ∧ M1 = M
    | .mk id B v => (id = S.next + i ∧ want ops.toList ⟨t, f0.n⟩ o = some true ∧ allocOp P id ⟨t, f0.n⟩ o = some (v, B)) ∧ E1 = E ∧ M1 = M
    | .eff v Ma M1' => (Ma = found ops.toList ops.size i recs E M ∧ chainOk ops.toList ops.size i E = true ∧ want ops.toList ⟨t, f0.n⟩ o = some true ∧
        (effOp K P ⟨t, f0.n⟩ Ma o = some (v, M1') ∨ ∃ (c : Call) (h : FuncId) (vs : List AV), o.op = .call c ∧ callee ⟨t, f0.n⟩ c = some (h, vs) ∧ call h vs Ma = .ok v M1')) ∧ E1 = E ++ [(i, M1')] ∧ M1 = M1'

/-- What the pass can come to. -/
inductive Run (K : Nat) (P : Program) (ext : FuncId → List AV → Option AV) (call : FuncId → List AV → St → CRes) (ops : Array Oper) (f0 : Fm) (S : St) : Nat → List Rec → List (Nat × St) → St → Prop
  | nil : Run K P ext call ops f0 S 0 [] [] ⟨S.heap, S.next + ops.size⟩
  | step {i : Nat} {o : Oper} {recs : List Rec} {E : List (Nat × St)} {M : St} {r : Rec} {E1 : List (Nat × St)} {M1 : St} : Run K P ext call ops f0 S i recs E M → ops[i]? = some o → StepR K P ext call ops f0 S i o recs E M r E1 M1 →
      Run K P ext call ops f0 S (i + 1) (recs ++ [r]) E1 M1

theorem tr_run : ∀ (l : List Oper) (i : Nat) (recs : List Rec) (E : List (Nat × St)) (M : St) {recs' : List Rec} {E' : List (Nat × St)} {M' : St}, (∀ j, l[j]? = ops.toList[i + j]?) → Run K P ext call ops f0 S i recs E M →
    tr K P ext call ops.toList (fun o => o.looksAt ops) ops.size f0 S l i recs E M = .ok recs' E' M' → Run K P ext call ops f0 S (i + l.length) recs' E' M'
  | [], i, recs, E, M, recs', E', M', hl, h, ht => by
    have ht : TRes.ok recs E M = .ok recs' E' M' := ht
    injection ht with e1 e2 e3; subst e1; subst e2; subst e3; exact h
  | o :: l, i, recs, E, M, recs', E', M', hl, h, ht => by
    have ho : ops[i]? = some o := by have := hl 0; simpa using this.symm
    have hl' : ∀ j, l[j]? = ops.toList[i + 1 + j]? := fun j => by have := hl (j + 1); simp only [List.getElem?_cons_succ] at this; rw [this]; congr 1; omega
    have go : ∀ r E1 M1, StepR K P ext call ops f0 S i o recs E M r E1 M1 → tr K P ext call ops.toList (fun o => o.looksAt ops) ops.size f0 S l (i + 1) (recs ++ [r]) E1 M1 = .ok recs' E' M' →
        Run K P ext call ops f0 S (i + (o :: l).length) recs' E' M' := by
      intro r E1 M1 hs ht
      have := tr_run l (i + 1) (recs ++ [r]) E1 M1 hl' (.step h ho hs) ht
      have e : i + (o :: l).length = i + 1 + l.length := by simp; omega
      rw [e]; exact this
    unfold tr at ht
    simp only at ht
    split at ht
    · cases ht
    · rename_i t hsee
      split at ht
      · cases ht
      · rename_i hw
        exact go .skip E M ⟨t, hsee, hw, rfl, rfl⟩ ht
      · rename_i hw
        split at ht
        · split at ht
          · rename_i v hv
            exact go (.val v) E M ⟨t, hsee, ⟨hw, .inl hv⟩, rfl, rfl⟩ ht
          · cases ht
        · split at ht
          · rename_i v hv
            exact go (.read v) E M ⟨t, hsee, hw, rfl, rfl⟩ ht
          · cases ht
        · split at ht
          · rename_i v B hv
            exact go (.mk (S.next + i) B v) E M ⟨t, hsee, ⟨rfl, hw, hv⟩, rfl, rfl⟩ ht
          · cases ht
        · split at ht
          · cases ht
          · rename_i hc
            split at ht
            · rename_i v M1 hv
              exact go (.eff v _ M1) _ M1 ⟨t, hsee, ⟨rfl, hc, hw, .inl hv⟩, rfl, rfl⟩ ht
            · cases ht
        · split at ht
          · rename_i c hcop
            split at ht
            · rename_i g vs hg
              split at ht
              · rename_i v hv
                exact go (.val v) E M ⟨t, hsee, ⟨hw, .inr ⟨c, g, vs, hcop, hg, hv⟩⟩, rfl, rfl⟩ ht
              · split at ht
                · cases ht
                · rename_i hc
                  split at ht
                  · rename_i v M1 hv
                    exact go (.eff v _ M1) _ M1 ⟨t, hsee, ⟨rfl, hc, hw, .inr ⟨c, g, vs, hcop, hg, hv⟩⟩, rfl, rfl⟩ ht
                  · cases ht
            · cases ht
          · cases ht
        · cases ht

end Ex
end Go.Proofs.YtdkijcmhjeaofaaGreatDoor
namespace Go.Proofs.YtdkijcmhjeaofaaGreatDoor
namespace Ex

variable {P : Program} {K : Nat} {ext : FuncId → List AV → Option AV} {call : FuncId → List AV → St → CRes} {ops : Array Oper} {f0 : Fm} {S : St}

theorem get_snoc {α : Type} {l : List α} {x y : α} {k : Nat} (h : (l ++ [x])[k]? = some y) : (k < l.length ∧ l[k]? = some y) ∨ (k = l.length ∧ y = x) := by
  by_cases hk : k < l.length
  · rw [List.getElem?_append_left hk] at h; exact .inl ⟨hk, h⟩
  · rw [List.getElem?_append_right (by omega)] at h
    have : k - l.length = 0 := by
      by_cases h0 : k - l.length = 0
      · exact h0
      · rw [List.getElem?_eq_none (by simp; omega)] at h; cases h
    rw [this] at h; simp at h
    exact .inr ⟨by omega, h.symm⟩
theorem get_left {α : Type} {l r : List α} {y : α} {k : Nat} (h : l[k]? = some y) : (l ++ r)[k]? = some y := by
  have hk : k < l.length := by
    by_cases hk : k < l.length
    · exact hk
    · rw [List.getElem?_eq_none (by omega)] at h; cases h
  rw [List.getElem?_append_left hk]; exact h

theorem slotOf_mono {l : List Oper} {recs tail : List Rec} {ps : List Nat} {an : Nat → Bool} {t : Nat} {x : Option AV} (h : slotOf l f0 recs ps an t = some x) (hp : ∀ j, ps.any (Nat.beq j) = true → j < recs.length) : slotOf l f0 (recs ++ tail) ps an t = some x := by
  unfold slotOf at h ⊢
  split at h
  · exact h
  · rename_i j hw
    split at h
    · rename_i r hp hr
      simp only [hp, get_left hr]; exact h
    · rename_i hne
      cases hpj : ps.any (Nat.beq j) with
      | false => simp only; exact h
      | true =>
        have hr : recs[j]? = some (recs[j]'(hp j hpj)) := List.getElem?_eq_getElem _
        exact (hne _ hpj hr).elim
theorem seeG_mono {l : List Oper} {recs tail : List Rec} {ps : List Nat} {an : Nat → Bool} (hp : ∀ j, ps.any (Nat.beq j) = true → j < recs.length) : ∀ {ts : List Nat} {t : Tr AV}, seeG l f0 recs ps an ts = some t → seeG l f0 (recs ++ tail) ps an ts = some t
  | [], _, h => h
  | s :: ts, t, h => by
    have h : (match seeG l f0 recs ps an ts with
      | none => none
      | some tr => match Nat.blt s 1048575, slotOf l f0 recs ps an s with
        | true, some (some v) => some (tr.to s v)
        | true, some none => some tr
        | _, _ => none) = some t := h
    show (match seeG l f0 (recs ++ tail) ps an ts with
      | none => none
      | some tr => match Nat.blt s 1048575, slotOf l f0 (recs ++ tail) ps an s with
        | true, some (some v) => some (tr.to s v)
        | true, some none => some tr
        | _, _ => none) = some t
    split at h
    · cases h
    · rename_i tr htr
      rw [seeG_mono hp htr]
      split at h
      · rename_i v hb hs; simp only [hb, slotOf_mono hs hp]; exact h
      · rename_i hb hs; simp only [hb, slotOf_mono hs hp]; exact h
      · cases h

/-- What is asked of one record. -/
def RecOk (K : Nat) (P : Program) (ext : FuncId → List AV → Option AV) (call : FuncId → List AV → St → CRes) (ops : Array Oper) (g : Fm) (o : Oper) : Rec → Prop
  | .skip => want ops.toList g o = some false
  | .val v => want ops.toList g o = some true ∧ (pureOp P g o = some v ∨ ∃ (c : Call) (h : FuncId) (vs : List AV), o.op = .call c ∧ callee g c = some (h, vs) ∧ ext h vs = some v)
  | .read _ => want ops.toList g o = some true
  | .mk id B v => want ops.toList g o = some true ∧ allocOp P id g o = some (v, B)
  | .eff v Ma M1 => want ops.toList g o = some true ∧ (effOp K P g Ma o = some (v, M1) ∨ ∃ (c : Call) (h : FuncId) (vs : List AV), o.op = .call c ∧ callee g c = some (h, vs) ∧ call h vs Ma = .ok v M1)

structure Facts (K : Nat) (P : Program) (ext : FuncId → List AV → Option AV) (call : FuncId → List AV → St → CRes) (ops : Array Oper) (f0 : Fm) (S : St) (i : Nat) (recs : List Rec) (E : List (Nat × St)) (M : St) : Prop where
  len : recs.length = i
  ids : ∀ (k id : Nat) (B : AB) (v : AV), recs[k]? = some (.mk id B v) → id = S.next + k
  op : ∀ (j : Nat) (o : Oper) (r : Rec), ops[j]? = some o → recs[j]? = some r → ∃ t, seeG ops.toList f0 recs (preds o) (fun k => isAnc ops.toList ops.size k j) (o.looksAt ops) = some t ∧ RecOk K P ext call ops ⟨t, f0.n⟩ o r
  e1 : ∀ (e : Nat) (v : AV) (Ma M1 : St), recs[e]? = some (.eff v Ma M1) → (e, M1) ∈ E
  e2 : ∀ (e : Nat) (M1 : St), (e, M1) ∈ E → e < i ∧ ∃ v Ma, recs[e]? = some (.eff v Ma M1)
  e3 : ∀ (e e' : Nat) (M1 M1' : St), (e, M1) ∈ E → (e', M1') ∈ E → e < e' → Anc ops e' e
  e4 : (E = [] ∧ M = ⟨S.heap, S.next + ops.size⟩) ∨ ∃ e, (e, M) ∈ E ∧ ∀ e' M1', (e', M1') ∈ E → e' ≤ e
  e5 : ∀ (e : Nat) (v : AV) (Ma M1 : St), recs[e]? = some (.eff v Ma M1) → ∃ Mp, (((∀ e' M', (e', M') ∈ E → ¬ e' < e) ∧ Mp = ⟨S.heap, S.next + ops.size⟩) ∨ ∃ e', (e', Mp) ∈ E ∧ e' < e ∧ ∀ e'' M'', (e'', M'') ∈ E → e'' < e → e'' ≤ e') ∧
    Ma.next = Mp.next ∧ ∀ id A, Ma.heap.at id = some A → Mp.heap.at id = some A ∨ ∃ (k : Nat) (u : AV), recs[k]? = some (.mk id A u) ∧ Anc ops e k ∧ ∀ e' M', (e', M') ∈ E → e' < e → ¬ Anc ops e' k

theorem run_facts (hb : ∀ (i : Nat) (o : Oper) (j : Nat), ops[i]? = some o → j ∈ preds o → j < i) (hlim : S.next + ops.size < 1048575) {i : Nat} {recs : List Rec} {E : List (Nat × St)} {M : St} (h : Run K P ext call ops f0 S i recs E M) :
    Facts K P ext call ops f0 S i recs E M := by
  induction h with
  | nil => exact {
      len := rfl
      ids := fun k id B v h => by simp at h
      op := fun j o r _ h => by simp at h
      e1 := fun e v Ma M1 h => by simp at h
      e2 := fun e M1 h => by simp at h
      e3 := fun e e' M1 M1' h => by simp at h
      e4 := .inl ⟨rfl, rfl⟩
      e5 := fun e v Ma M1 h => by simp at h }
  | @step i o recs E M r E1 M1 hrun ho hs F =>
    obtain ⟨t, hsee, hr⟩ := hs
    have hi : i < ops.size := by
      by_cases h : i < ops.size
      · exact h
      · rw [Array.getElem?_eq_none (by omega)] at ho; cases ho
    have hop : RecOk K P ext call ops ⟨t, f0.n⟩ o r := by
      cases r with
      | skip => exact hr.1
      | val v => exact hr.1
      | read v => exact hr.1
      | mk id B v => exact hr.1.2
      | eff v Ma M1' => exact ⟨hr.1.2.2.1, hr.1.2.2.2⟩
    have hid : ∀ (k id : Nat) (B : AB) (v : AV), (recs ++ [r])[k]? = some (.mk id B v) → id = S.next + k := by
      intro k id B v hk
      rcases get_snoc hk with ⟨_, hk⟩ | ⟨e, hk⟩
      · exact F.ids k id B v hk
      · subst hk; rw [e, F.len]; exact hr.1.1
    have hpl : ∀ (j : Nat) (q : Oper), ops[j]? = some q → j ≤ recs.length → ∀ k, (preds q).any (Nat.beq k) = true → k < recs.length := by
      intro j q hq hj k hk
      rw [List.any_eq_true] at hk
      obtain ⟨p, hp, e⟩ := hk
      have := Nat.eq_of_beq_eq_true e; subst this
      have := hb j q _ hq hp; omega
    have hops : ∀ (j : Nat) (q : Oper) (s : Rec), ops[j]? = some q → (recs ++ [r])[j]? = some s → ∃ t, seeG ops.toList f0 (recs ++ [r]) (preds q) (fun k => isAnc ops.toList ops.size k j) (q.looksAt ops) = some t ∧ RecOk K P ext call ops ⟨t, f0.n⟩ q s := by
      intro j q s hq hs
      rcases get_snoc hs with ⟨_, hs⟩ | ⟨e, hs⟩
      · obtain ⟨t', h1, h2⟩ := F.op j q s hq hs
        exact ⟨t', seeG_mono (hpl j q hq (by rw [F.len]; have := (List.getElem?_eq_some_iff.1 hs).1; rw [F.len] at this; omega)) h1, h2⟩
      · subst hs
        have e : j = i := by rw [e, F.len]
        subst e
        rw [ho] at hq; injection hq with hq; subst hq
        exact ⟨t, seeG_mono (hpl j o ho (by rw [F.len]; exact Nat.le_refl _)) hsee, hop⟩
    by_cases he : r.isEff = true
    · cases r with
      | eff v Ma M1' =>
        obtain ⟨⟨c1, c2, _⟩, c3, c4⟩ := hr
        subst c3; subst c4
        have hmem : ∀ {e : Nat} {N : St}, (e, N) ∈ E ++ [(i, M1)] ↔ (e, N) ∈ E ∨ (e = i ∧ N = M1) := by
          intro e N; rw [List.mem_append]; simp
        have hnew : ∀ {e : Nat} {N : St}, (e, N) ∈ E → Anc ops i e := by
          intro e N hm
          unfold chainOk at c2
          rw [List.all_eq_true] at c2
          exact isAnc_ok (c2 _ hm)
        have hlt : ∀ {e : Nat} {N : St}, (e, N) ∈ E → e < i := fun hm => (F.e2 _ _ hm).1
        exact {
          len := by simp [F.len]
          ids := hid
          op := hops
          e1 := fun e u Na N1 hk => by
            rw [hmem]
            rcases get_snoc hk with ⟨_, hk⟩ | ⟨e0, hk⟩
            · exact .inl (F.e1 e u Na N1 hk)
            · injection hk with k1 k2 k3; exact .inr ⟨by rw [e0, F.len], k3⟩
          e2 := fun e N hm => by
            rcases hmem.1 hm with hm | ⟨e0, e1⟩
            · obtain ⟨q1, u, Na, q2⟩ := F.e2 e N hm
              exact ⟨by omega, u, Na, get_left q2⟩
            · subst e0; subst e1
              exact ⟨by omega, v, Ma, by rw [← F.len]; simp⟩
          e3 := fun e e' N N' hm hm' hlt' => by
            rcases hmem.1 hm with hm1 | ⟨e0, _⟩ <;> rcases hmem.1 hm' with hm1' | ⟨e0', _⟩
            · exact F.e3 e e' N N' hm1 hm1' hlt'
            · rw [e0']; exact hnew hm1
            · have := hlt hm1'; omega
            · omega
          e4 := .inr ⟨i, hmem.2 (.inr ⟨rfl, rfl⟩), fun e' N hm => by
            rcases hmem.1 hm with hm | ⟨e0, _⟩
            · exact Nat.le_of_lt (hlt hm)
            · omega⟩
          e5 := fun e u Na N1 hk => by
            rcases get_snoc hk with ⟨hkl, hk⟩ | ⟨e0, hk⟩
            · obtain ⟨Mp, q1, q2, q3⟩ := F.e5 e u Na N1 hk
              rw [F.len] at hkl
              refine ⟨Mp, ?_, q2, fun id A hA => ?_⟩
              · rcases q1 with ⟨r1, r2⟩ | ⟨e', r1, r2, r3⟩
                · exact .inl ⟨fun e' N hm => by
                    rcases hmem.1 hm with hm | ⟨e0, _⟩
                    · exact r1 e' N hm
                    · omega, r2⟩
                · exact .inr ⟨e', hmem.2 (.inl r1), r2, fun e'' N hm hl => by
                    rcases hmem.1 hm with hm | ⟨e0, _⟩
                    · exact r3 e'' N hm hl
                    · omega⟩
              · rcases q3 id A hA with h | ⟨k, u', h1, h2, h3⟩
                · exact .inl h
                · exact .inr ⟨k, u', get_left h1, h2, fun e' N hm hl => by
                    rcases hmem.1 hm with hm | ⟨e0, _⟩
                    · exact h3 e' N hm hl
                    · omega⟩
            · injection hk with k1 k2 k3; subst k2; subst k3
              have e0 : e = i := by rw [e0, F.len]
              subst e0
              refine ⟨M, ?_, by rw [c1]; exact absorbP_next _ _ _ _, fun id A hA => ?_⟩
              · rcases F.e4 with ⟨r1, r2⟩ | ⟨e', r1, r2⟩
                · exact .inl ⟨fun e' N hm hl => by
                    rcases hmem.1 hm with hm | ⟨e1, _⟩
                    · rw [r1] at hm; simp at hm
                    · omega, r2⟩
                · exact .inr ⟨e', hmem.2 (.inl r1), hlt r1, fun e'' N hm hl => by
                    rcases hmem.1 hm with hm | ⟨e1, _⟩
                    · exact r2 e'' N hm
                    · omega⟩
              · rw [c1] at hA
                rcases absorbP_at _ recs 0 M (fun k id B u hk => by
                    have := F.ids k id B u hk
                    have hkl : k < recs.length := by
                      by_cases h : k < recs.length
                      · exact h
                      · rw [List.getElem?_eq_none (by omega)] at hk; cases hk
                    rw [F.len] at hkl; omega) id A hA with h | ⟨k, u', h1, h2⟩
                · exact .inl h
                · simp only [Bool.and_eq_true, Bool.not_eq_true', Nat.zero_add] at h2
                  refine .inr ⟨k, u', get_left h1, isAnc_ok h2.1, fun e' N hm hl ha => ?_⟩
                  rcases hmem.1 hm with hm | ⟨e1, _⟩
                  · have hany := h2.2
                    rw [List.any_eq_false] at hany
                    exact hany _ hm (isAnc_all hb ha _ (by omega))
                  · omega }
      | _ => cases he
    · have hE : E1 = E ∧ M1 = M := by
        cases r with
        | skip => exact hr.2
        | val v => exact hr.2
        | read v => exact hr.2
        | mk id B v => exact hr.2
        | eff v Ma M1' => exact absurd rfl he
      obtain ⟨e1, e2⟩ := hE; subst e1; subst e2
      have hne : ∀ {e : Nat} {u : AV} {Na N1 : St}, (recs ++ [r])[e]? = some (.eff u Na N1) → recs[e]? = some (.eff u Na N1) := by
        intro e u Na N1 hk
        rcases get_snoc hk with ⟨_, hk⟩ | ⟨_, hk⟩
        · exact hk
        · subst hk; exact absurd rfl he
      exact {
        len := by simp [F.len]
        ids := hid
        op := hops
        e1 := fun e u Na N1 hk => F.e1 e u Na N1 (hne hk)
        e2 := fun e N hm => by
          obtain ⟨q1, u, Na, q2⟩ := F.e2 e N hm
          exact ⟨by omega, u, Na, get_left q2⟩
        e3 := F.e3
        e4 := F.e4
        e5 := fun e u Na N1 hk => by
          obtain ⟨Mp, q1, q2, q3⟩ := F.e5 e u Na N1 (hne hk)
          refine ⟨Mp, q1, q2, fun id A hA => ?_⟩
          rcases q3 id A hA with h | ⟨k, u', h1, h2, h3⟩
          · exact .inl h
          · exact .inr ⟨k, u', get_left h1, h2, h3⟩ }

end Ex
end Go.Proofs.YtdkijcmhjeaofaaGreatDoor
namespace Go.Proofs.YtdkijcmhjeaofaaGreatDoor
namespace Ex

variable {P : Program} {ops : Array Oper} {f0 : Fm} {S : St}

theorem dstsOk_ok {n : Nat} : ∀ {l : List Oper}, dstsOk n l = true → (∀ (i : Nat) (o : Oper) (d : Nat), l[i]? = some o → o.dst = some d → d < n) ∧ (∀ (i j : Nat) (oi oj : Oper) (d : Nat), l[i]? = some oi → l[j]? = some oj → oi.dst = some d → oj.dst = some d → i = j)
  | [], _ => ⟨fun i o d h => by simp at h, fun i j oi oj d h => by simp at h⟩
  | o :: l, h => by
    have h : ((match o.dst with
      | none => true
      | some d => Nat.blt d n && (match writer d l with
        | none => true
        | some _ => false)) && dstsOk n l) = true := h
    rw [Bool.and_eq_true] at h
    obtain ⟨h1, h2⟩ := dstsOk_ok h.2
    have hd : ∀ d, o.dst = some d → d < n ∧ writer d l = none := by
      intro d hd
      have := h.1
      rw [hd] at this
      simp only [Bool.and_eq_true] at this
      refine ⟨by have := this.1; rwa [Nat.blt_eq] at this, ?_⟩
      cases hw : writer d l with
      | none => rfl
      | some k => rw [hw] at this; cases this.2
    constructor
    · intro i q d hi hq
      cases i with
      | zero => simp at hi; subst hi; exact (hd d hq).1
      | succ i => exact h1 i q d (by simpa using hi) hq
    · intro i j oi oj d hi hj hdi hdj
      cases i with
      | zero =>
        simp at hi; subst hi
        cases j with
        | zero => rfl
        | succ j => exact absurd hdj (writer_none (hd d hdi).2 j oj (by simpa using hj))
      | succ i =>
        cases j with
        | zero => simp at hj; subst hj; exact absurd hdi (writer_none (hd d hdj).2 i oi (by simpa using hi))
        | succ j => rw [h2 i j oi oj d (by simpa using hi) (by simpa using hj) hdi hdj]

theorem backOk_ok : ∀ {l : List Oper} {k : Nat}, backOk l k = true → ∀ (i : Nat) (o : Oper) (j : Nat), l[i]? = some o → j ∈ preds o → j < k + i
  | [], _, _, i, o, j, h, _ => by simp at h
  | x :: l, k, h, i, o, j, hi, hj => by
    have h : ((preds x).all (fun j => Nat.blt j k) && backOk l (k + 1)) = true := h
    rw [Bool.and_eq_true, List.all_eq_true] at h
    cases i with
    | zero => simp at hi; subst hi; have := h.1 j hj; rw [Nat.blt_eq] at this; exact this
    | succ i => have := backOk_ok h.2 i o j (by simpa using hi) hj; omega

theorem putAll_ok {n : Nat} (hn : n < 1048575) : ∀ {l : List Oper} {recs : List Rec} {t : Tr AV}, dstsOk n l = true → recs.length = l.length → ∀ s v, (putAll l recs t).at s = some v →
    (∃ (j : Nat) (oj : Oper) (r : Rec), l[j]? = some oj ∧ oj.dst = some s ∧ recs[j]? = some r ∧ v = r.out) ∨ ((∀ (j : Nat) (oj : Oper), l[j]? = some oj → oj.dst ≠ some s) ∧ t.at s = some v)
  | [], recs, t, _, _, s, v, h => .inr ⟨fun j oj hj => by simp at hj, h⟩
  | o :: l, [], t, _, hl, s, v, h => by simp at hl
  | o :: l, r :: recs, t, hd, hl, s, v, h => by
    have hd0 : dstsOk n l = true := by
      have hd : ((match o.dst with
        | none => true
        | some d => Nat.blt d n && (match writer d l with
          | none => true
          | some _ => false)) && dstsOk n l) = true := hd
      rw [Bool.and_eq_true] at hd; exact hd.2
    obtain ⟨d1, d2⟩ := dstsOk_ok hd
    have hl' : recs.length = l.length := by simpa using hl
    have h : (match o.dst with
      | none => putAll l recs t
      | some d => putAll l recs (t.to d r.out)).at s = some v := h
    have next : ∀ t', (putAll l recs t').at s = some v → (t'.at s = some v → (∀ (j : Nat) (oj : Oper), l[j]? = some oj → oj.dst ≠ some s) →
        (∃ (j : Nat) (oj : Oper) (r' : Rec), (o :: l)[j]? = some oj ∧ oj.dst = some s ∧ (r :: recs)[j]? = some r' ∧ v = r'.out) ∨ ((∀ (j : Nat) (oj : Oper), (o :: l)[j]? = some oj → oj.dst ≠ some s) ∧ t.at s = some v)) →
        (∃ (j : Nat) (oj : Oper) (r' : Rec), (o :: l)[j]? = some oj ∧ oj.dst = some s ∧ (r :: recs)[j]? = some r' ∧ v = r'.out) ∨ ((∀ (j : Nat) (oj : Oper), (o :: l)[j]? = some oj → oj.dst ≠ some s) ∧ t.at s = some v) := by
      intro t' h k
      rcases putAll_ok hn hd0 hl' s v h with ⟨j, oj, r', h1, h2, h3, h4⟩ | ⟨h1, h2⟩
      · exact .inl ⟨j + 1, oj, r', by simpa using h1, h2, by simpa using h3, h4⟩
      · exact k h2 h1
    cases hod : o.dst with
    | none =>
      rw [hod] at h
      refine next t h fun h1 h2 => .inr ⟨fun j oj hj => ?_, h1⟩
      cases j with
      | zero => simp at hj; subst hj; rw [hod]; simp
      | succ j => exact h2 j oj (by simpa using hj)
    | some d =>
      rw [hod] at h
      refine next _ h fun h1 h2 => ?_
      have hdn := d1 0 o d (by simp) hod
      rw [Tr.at_to _ _ _ _ (by omega)] at h1
      by_cases e : s = d
      · rw [if_pos e] at h1; injection h1 with h1
        subst e
        exact .inl ⟨0, o, r, by simp, hod, by simp, h1.symm⟩
      · rw [if_neg e] at h1
        refine .inr ⟨fun j oj hj => ?_, h1⟩
        cases j with
        | zero => simp at hj; subst hj; rw [hod]; intro h; injection h with h; exact e h.symm
        | succ j => exact h2 j oj (by simpa using hj)

theorem avEq1_ok {u v : AV} (h : avEq1 u v = true) : u = v := by
  unfold avEq1 at h
  split at h <;> first
    | rfl
    | (split at h <;> first | rfl | cases h)
    | cases h
    | (simp only [Bool.and_eq_true] at h
       first
        | (rw [ksame_eq h.1]; have := h.2; rw [ieq_eq] at this; rw [of_decide_eq_true this])
        | (rw [Nat.eq_of_beq_eq_true h.1, Nat.eq_of_beq_eq_true h.2])
        | (rw [Nat.eq_of_beq_eq_true h.1, Nat.eq_of_beq_eq_true h.2.1, Nat.eq_of_beq_eq_true h.2.2.1, Nat.eq_of_beq_eq_true h.2.2.2])
        | (rw [Nat.eq_of_beq_eq_true h.1, Nat.eq_of_beq_eq_true h.2.1, Nat.eq_of_beq_eq_true h.2.2.1, Nat.eq_of_beq_eq_true h.2.2.2.1, Nat.eq_of_beq_eq_true h.2.2.2.2]))
    | (rw [leq_eq] at h; rw [of_decide_eq_true h])
    | (rw [Nat.eq_of_beq_eq_true h])
theorem avEqL_ok : ∀ {l r : List AV}, avEqL l r = true → l = r
  | [], [], _ => rfl
  | [], _ :: _, h => by cases h
  | _ :: _, [], h => by cases h
  | x :: l, y :: r, h => by
    have h : (avEq1 x y && avEqL l r) = true := h
    rw [Bool.and_eq_true] at h
    rw [avEq1_ok h.1, avEqL_ok h.2]
theorem avEq_ok {u v : AV} (h : avEq u v = true) : u = v := by
  unfold avEq at h
  split at h
  · rw [avEqL_ok h]
  · rw [Bool.and_eq_true] at h; rw [Nat.eq_of_beq_eq_true h.1, avEqL_ok h.2]
  · rw [avEqL_ok h]
  · exact avEq1_ok h

theorem absorbP_miss (c : Nat → Bool) : ∀ (recs : List Rec) (k : Nat) (M : St) (id : Nat), (∀ (i : Nat) (B : AB) (v : AV), recs[i]? ≠ some (.mk id B v)) → (∀ (i id : Nat) (B : AB) (v : AV), recs[i]? = some (.mk id B v) → id < 1048575) →
    (absorbP c recs k M).heap.at id = M.heap.at id
  | [], _, _, _, _, _ => rfl
  | r :: recs, k, M, id, h, hl => by
    have h' : ∀ (i : Nat) (B : AB) (v : AV), recs[i]? ≠ some (.mk id B v) := fun i B v => by have := h (i + 1) B v; simpa using this
    have hl' : ∀ (i id : Nat) (B : AB) (v : AV), recs[i]? = some (.mk id B v) → id < 1048575 := fun i id B v hi => hl (i + 1) id B v (by simpa using hi)
    cases r with
    | mk id' B v =>
      show (Bool.rec (absorbP c recs (k + 1) M) (absorbP c recs (k + 1) ⟨M.heap.to id' B, M.next⟩) (c k) : St).heap.at id = _
      cases c k with
      | false => exact absorbP_miss c recs (k + 1) M id h' hl'
      | true =>
        refine (absorbP_miss c recs (k + 1) ⟨M.heap.to id' B, M.next⟩ id h' hl').trans ?_
        show (M.heap.to id' B).at id = _
        rw [Tr.at_to _ _ _ _ (hl 0 id' B v (by simp)), if_neg]
        intro e; subst e; exact h 0 B v (by simp)
    | skip => exact absorbP_miss c recs (k + 1) M id h' hl'
    | val _ => exact absorbP_miss c recs (k + 1) M id h' hl'
    | read _ => exact absorbP_miss c recs (k + 1) M id h' hl'
    | eff _ _ _ => exact absorbP_miss c recs (k + 1) M id h' hl'

theorem absorbP_hit (c : Nat → Bool) : ∀ (recs : List Rec) (k : Nat) (M : St), (∀ (i j id : Nat) (B B' : AB) (v v' : AV), recs[i]? = some (.mk id B v) → recs[j]? = some (.mk id B' v') → i = j) → (∀ (i id : Nat) (B : AB) (v : AV), recs[i]? = some (.mk id B v) → id < 1048575) →
    ∀ (i id : Nat) (B : AB) (v : AV), recs[i]? = some (.mk id B v) → c (k + i) = true → (absorbP c recs k M).heap.at id = some B
  | [], _, _, _, _, i, id, B, v, h, _ => by simp at h
  | r :: recs, k, M, hu, hl, i, id, B, v, h, hc => by
    have hu' : ∀ (i j id : Nat) (B B' : AB) (v v' : AV), recs[i]? = some (.mk id B v) → recs[j]? = some (.mk id B' v') → i = j := fun i j id B B' v v' h1 h2 => by
      have := hu (i + 1) (j + 1) id B B' v v' (by simpa using h1) (by simpa using h2); omega
    have hl' : ∀ (i id : Nat) (B : AB) (v : AV), recs[i]? = some (.mk id B v) → id < 1048575 := fun i id B v hi => hl (i + 1) id B v (by simpa using hi)
    cases i with
    | zero =>
      simp at h; subst h
      show (Bool.rec (absorbP c recs (k + 1) M) (absorbP c recs (k + 1) ⟨M.heap.to id B, M.next⟩) (c k) : St).heap.at id = _
      have hc : c k = true := by simpa using hc
      rw [hc]
      refine (absorbP_miss c recs (k + 1) ⟨M.heap.to id B, M.next⟩ id (fun j B' v' hj => ?_) hl').trans ?_
      · have := hu 0 (j + 1) id B B' v v' (by simp) (by simpa using hj); omega
      · show (M.heap.to id B).at id = _
        rw [Tr.at_to _ _ _ _ (hl 0 id B v (by simp)), if_pos rfl]
    | succ i =>
      have h : recs[i]? = some (.mk id B v) := by simpa using h
      have hc : c (k + 1 + i) = true := by rw [← hc]; congr 1; omega
      cases r with
      | mk id' B' v' =>
        show (Bool.rec (absorbP c recs (k + 1) M) (absorbP c recs (k + 1) ⟨M.heap.to id' B', M.next⟩) (c k) : St).heap.at id = _
        cases c k with
        | false => exact absorbP_hit c recs (k + 1) M hu' hl' i id B v h hc
        | true => exact absorbP_hit c recs (k + 1) _ hu' hl' i id B v h hc
      | skip => exact absorbP_hit c recs (k + 1) M hu' hl' i id B v h hc
      | val _ => exact absorbP_hit c recs (k + 1) M hu' hl' i id B v h hc
      | read _ => exact absorbP_hit c recs (k + 1) M hu' hl' i id B v h hc
      | eff _ _ _ => exact absorbP_hit c recs (k + 1) M hu' hl' i id B v h hc

/-! What an operation does is told by the slots that it looks at. -/
theorem mapO_congr {α β : Type} {f g : α → Option β} : ∀ {l : List α}, (∀ x ∈ l, f x = g x) → mapO f l = mapO g l
  | [], _ => rfl
  | x :: l, h => by
    have ih := mapO_congr (l := l) fun y hy => h y (List.mem_cons_of_mem _ hy)
    show (Option.rec none (fun y => Option.rec none (fun ys => some (y :: ys)) (mapO f l)) (f x) : Option (List β)) = Option.rec none (fun y => Option.rec none (fun ys => some (y :: ys)) (mapO g l)) (g x)
    rw [ih, h x (by simp)]
/-- Two frames say the same of what an operation looks at. -/
def Agr (o : Oper) (f g : Fm) : Prop := ∀ x ∈ o.op.operands.toList, aev f x = aev g x
theorem parts_congr {f g : Fm} {ps : List (Nat × Operand)} (h : ∀ p ∈ ps, aev f p.2 = aev g p.2) : parts f ps = parts g ps :=
  mapO_congr fun p hp => by rw [h p hp]
theorem oev_congr {f g : Fm} {x : Option Operand} (h : ∀ y, x = some y → aev f y = aev g y) : oev f x = oev g x := by
  cases x with
  | none => rfl
  | some y => simp only [oev, h y rfl]
theorem pureOp_congr {f g : Fm} {o : Oper} (h : Agr o f g) : pureOp P f o = pureOp P g o := by
  obtain ⟨dst, op, ty, pos, aft, gd⟩ := o
  unfold Agr at h
  cases op
  case call c =>
    simp only [Op.operands] at h
    have hargs : ∀ x ∈ c.args.toList, aev f x = aev g x := fun x hx => h x (by unfold Call.operands; simp; right; simpa using hx)
    unfold pureOp
    simp only
    cases hc : c.callee with
    | builtin b =>
      simp only
      have hm := mapO_congr hargs
      split
      · rename_i x t hx _
        rw [hargs x (by rw [hx]; simp)]
      · rename_i x t hx _
        rw [hargs x (by rw [hx]; simp)]
      · rw [hm]
      · rw [hm]
      · rfl
    | value x => rfl
    | invoke r m => rfl
  case slice t x lo hi mx =>
    simp only [Op.operands] at h
    have h0 := h x (by simp)
    have h1 : oev f lo = oev g lo := oev_congr fun y hy => h y (by simp [hy])
    have h2 : oev f hi = oev g hi := oev_congr fun y hy => h y (by simp [hy])
    have h3 : oev f mx = oev g mx := oev_congr fun y hy => h y (by simp [hy])
    unfold pureOp
    simp only [h0, h1, h2, h3]
  case build t ps =>
    simp only [Op.operands] at h
    have h1 : parts f ps.toList = parts g ps.toList := parts_congr fun p hp => h p.2 (by simp only [List.mem_map]; exact ⟨p, hp, rfl⟩)
    unfold pureOp
    simp only [h1]
  case makeFunc fn first captured =>
    simp only [Op.operands] at h
    have h1 : mapO (aev f) captured.toList = mapO (aev g) captured.toList := mapO_congr fun x hx => h x (by simp; right; simpa using hx)
    cases fn <;> first
      | rfl
      | (unfold pureOp; simp only [h1])
  all_goals first
    | rfl
    | (simp only [Op.operands, List.mem_cons, List.not_mem_nil, or_false, forall_eq_or_imp, forall_eq] at h
       unfold pureOp
       simp only [h])
theorem readOp_congr {f g : Fm} {o : Oper} (h : Agr o f g) (M : St) : readOp P f M o = readOp P g M o := by
  obtain ⟨dst, op, ty, pos, aft, gd⟩ := o
  unfold Agr at h
  cases op
  case call c =>
    simp only [Op.operands] at h
    have hargs : ∀ x ∈ c.args.toList, aev f x = aev g x := fun x hx => h x (by unfold Call.operands; simp; right; simpa using hx)
    unfold readOp
    simp only
    cases hc : c.callee with
    | builtin b =>
      simp only
      split
      · rename_i x hx
        rw [hargs x (by rw [hx]; simp)]
      · rfl
    | value x => rfl
    | invoke r m => rfl
  all_goals first
    | rfl
    | (simp only [Op.operands, List.mem_cons, List.not_mem_nil, or_false, forall_eq_or_imp, forall_eq] at h
       unfold readOp
       simp only [h])
theorem allocOp_congr {f g : Fm} {o : Oper} (h : Agr o f g) (id : Nat) : allocOp P id f o = allocOp P id g o := by
  obtain ⟨dst, op, ty, pos, aft, gd⟩ := o
  unfold Agr at h
  cases op
  case buildSlice t n ps =>
    simp only [Op.operands] at h
    have h1 : parts f ps.toList = parts g ps.toList := parts_congr fun p hp => h p.2 (by simp only [List.mem_map]; exact ⟨p, hp, rfl⟩)
    unfold allocOp
    simp only [h1]
  case makeMap t r =>
    cases r with
    | none => rfl
    | some x =>
      simp only [Op.operands] at h
      have h1 := h x (by simp)
      unfold allocOp
      simp only [h1]
  all_goals first
    | rfl
    | (simp only [Op.operands, List.mem_cons, List.not_mem_nil, or_false, forall_eq_or_imp, forall_eq] at h
       unfold allocOp
       simp only [h])
theorem effOp_congr {K : Nat} {f g : Fm} {o : Oper} (h : Agr o f g) (M : St) : effOp K P f M o = effOp K P g M o := by
  obtain ⟨dst, op, ty, pos, aft, gd⟩ := o
  unfold Agr at h
  cases op
  case call c =>
    simp only [Op.operands] at h
    have hargs : ∀ x ∈ c.args.toList, aev f x = aev g x := fun x hx => h x (by unfold Call.operands; simp; right; simpa using hx)
    unfold effOp
    simp only
    cases hc : c.callee with
    | builtin b =>
      simp only
      split
      · rename_i x y t u hx _
        rw [hargs x (by rw [hx]; simp), hargs y (by rw [hx]; simp)]
      · rename_i x y t u hx _
        rw [hargs x (by rw [hx]; simp), hargs y (by rw [hx]; simp)]
      · rename_i x y t u hx _
        rw [hargs x (by rw [hx]; simp), hargs y (by rw [hx]; simp)]
      · rfl
    | value x => rfl
    | invoke r m => rfl
  all_goals first
    | rfl
    | (simp only [Op.operands, List.mem_cons, List.not_mem_nil, or_false, forall_eq_or_imp, forall_eq] at h
       unfold effOp
       simp only [h])
theorem callee_congr {f g : Fm} {o : Oper} {c : Call} (h : Agr o f g) (ho : o.op = .call c) : callee f c = callee g c := by
  unfold Agr at h
  rw [ho] at h
  simp only [Op.operands] at h
  have hargs : ∀ x ∈ c.args.toList, aev f x = aev g x := fun x hx => h x (by unfold Call.operands; simp; right; simpa using hx)
  unfold callee
  split
  · rename_i x hx
    rw [mapO_congr hargs, h x (by unfold Call.operands; rw [hx]; simp)]
  · rfl
theorem want_congr {ops : List Oper} {f g : Fm} {o : Oper} (h : ∀ j b q d, o.guard = some (j, b) → ops[j]? = some q → q.dst = some d → f.t.at d = g.t.at d) : want ops f o = want ops g o := by
  unfold want
  split
  · rfl
  · rename_i j b hg
    split
    · rename_i q hq
      split
      · rename_i d hd
        rw [h j b q d hg hq hd]
      · rfl
    · rfl
/-- Two tries say the same of the slots that an operation looks at. -/
theorem agr_looks {ops : Array Oper} {o : Oper} {t t' : Tr AV} {n : Nat} (h : ∀ s ∈ o.looksAt ops, t.at s = t'.at s) : Agr o ⟨t, n⟩ ⟨t', n⟩ ∧ want ops.toList ⟨t, n⟩ o = want ops.toList ⟨t', n⟩ o := by
  refine ⟨fun x hx => ?_, want_congr fun j b q d hg hq hd => h d ?_⟩
  · cases x with
    | tmp s => exact h s (List.mem_append_left _ (List.mem_filterMap.2 ⟨.tmp s, hx, rfl⟩))
    | _ => rfl
  · unfold Oper.looksAt
    rw [hg]
    have hq : ops[j]? = some q := by simpa using hq
    simp [hq, hd]

end Ex
end Go.Proofs.YtdkijcmhjeaofaaGreatDoor
