/- A closed-run executor: its parts Eh to En, joined: proved sound against the model. No program is named; the one condition of the whole: the program follows the mixed orders. -/
import Derived.Test.YtjdmkgnlakonbaaGreatDoorEg
import Derived.Laws.CopyRow
namespace Go.Proofs.YtjdmkgnlakonbaaGreatDoor
namespace Ex

variable {P : Program}

theorem ix_mono {a b : Nat} {n : Int} {i : Nat} (h : ix a n = some i) (hab : a ≤ b) : ix b n = some i := by
  obtain ⟨e, hlt⟩ := ix_ok h
  subst e
  show (Bool.rec none (some i) (Nat.blt i b) : Option Nat) = some i
  rw [blt_t (by omega)]
theorem bd_mono {d d' a b : Nat} {v : AV} {n : Nat} (h : bd d a (some v) = some n) (hab : a ≤ b) : bd d' b (some v) = some n := by
  cases v <;> first | (simp only [bd] at h ⊢; exact ix_mono h (by omega)) | (simp [bd] at h)
theorem bds_mono {len a b : Nat} {lo hi mx : Option AV} {l h m : Nat} (he : bds len a lo hi mx = some (l, h, m)) (hab : a ≤ b) :
    bds len b lo hi mx = some (l, h, if mx.isNone then b else m) := by
  have e1 : ∀ d n, bd d n none = some d := fun _ _ => rfl
  unfold bds at he ⊢
  cases mx with
  | none =>
    simp only [e1] at he ⊢
    cases hi with
    | none =>
      simp only [e1] at he ⊢
      cases hl : bd 0 len lo with
      | none => simp [hl] at he
      | some l' => simp [hl] at he; simp [he]
    | some u =>
      cases hh : bd len a (some u) with
      | none => simp [hh] at he
      | some h' =>
        rw [bd_mono (d' := len) hh hab]
        cases hl : bd 0 h' lo with
        | none => simp [hh, hl] at he
        | some l' => simp [hh, hl] at he; obtain ⟨rfl, rfl, rfl⟩ := he; simp [hl]
  | some u =>
    cases hm : bd a a (some u) with
    | none => simp [hm] at he
    | some m' =>
      rw [bd_mono (d' := b) hm hab]
      cases hi with
      | none => simp [hm] at he
      | some v =>
        cases hh : bd len m' (some v) with
        | none => simp [hm, hh] at he
        | some h' =>
          cases hl : bd 0 h' lo with
          | none => simp [hm, hh, hl] at he
          | some l' => simp [hm, hh, hl] at he; obtain ⟨rfl, rfl, rfl⟩ := he; simp [hh, hl]

theorem bds_le {len cap : Nat} {lo hi mx : Option AV} {l h m : Nat} (he : bds len cap lo hi mx = some (l, h, m)) : l ≤ h ∨ lo = none := by
  unfold bds at he
  split at he
  · cases he
  · split at he
    · cases he
    · split at he
      · cases he
      · split at he
        · cases he
        · rename_i l' hl
          injection he with he; injection he with e1 e2; injection e2 with e2 e3
          subst e1; subst e2
          cases lo with
          | none => exact .inr rfl
          | some v =>
            left
            cases v <;> simp only [bd] at hl <;> first | cases hl | (exact Nat.lt_succ_iff.1 (ix_ok hl).2)

/-- A slice expression. -/
noncomputable def aSlice (P : Program) (t : TypeId) (a : AV) (lo hi mx : Option AV) : Option AV :=
  match P.underlying t, a with
  | some .string, .str l => match mx with
    | some _ => none
    | none => match bds l.length l.length lo hi none with
      | some (i, j, _) => some (fList ((l.take j).drop i) .str)
      | none => none
  | some (.slice e), .sl id off len cap => match bds len cap lo hi mx, tySize P e with
    | some (l, h, m), some s => some (.sl id (Bool.rec (Nat.add off (Nat.mul l s)) off (Nat.beq m l)) (Nat.sub h l) (Nat.sub m l))
    | _, _ => none
  | some (.slice e), .slu id off len sz lb => match bds len lb lo hi mx, tySize P e with
    | some (l, h, m), some s => match mx with
      | some _ => some (.sl id (Bool.rec (Nat.add off (Nat.mul l s)) off (Nat.beq m l)) (Nat.sub h l) (Nat.sub m l))
      | none => Bool.rec none (some (.slu id (Nat.add off (Nat.mul l s)) (Nat.sub h l) sz (Nat.sub lb l))) (Nat.beq sz s && (Nat.beq l 0 || Nat.blt l lb))
    | _, _ => none
  | some (.slice e), .nilSl => match bds 0 0 lo hi mx, tySize P e with
    | some (_, _, _), some _ => some .nilSl
    | _, _ => none
  | some (.array n e), .ptr id off => match bds n n lo hi mx, tySize P e with
    | some (l, h, m), some s => some (.sl id (Bool.rec (Nat.add off (Nat.mul l s)) off (Nat.beq m l)) (Nat.sub h l) (Nat.sub m l))
    | _, _ => none
  | _, _ => none

theorem off_eq (b off l s m : Nat) : (if m = l then (⟨b, off, none⟩ : Addr) else (⟨b, off, none⟩ : Addr).add (l * s)) = ⟨b, Bool.rec (Nat.add off (Nat.mul l s)) off (Nat.beq m l), none⟩ := by
  by_cases h : m = l
  · rw [if_pos h, beq_t h]
  · rw [if_neg h, beq_f h, addr_add]; rfl

theorem aSlice_ok {t : TypeId} {a v : AV} {lo hi mx : Option AV} {x : Value} {xl xh xm : Option Value} (h : aSlice P t a lo hi mx = some v) {ρ : Rho} (ha : VR ρ a x)
    (hl : OR ρ lo xl) (hh : OR ρ hi xh) (hm : OR ρ mx xm) (w : World) : ∃ z, (Instr.sliceAt t x xl xh xm).run P w = .ok z w ∧ VR ρ v z := by
  unfold aSlice at h
  split at h
  · rename_i l hu
    split at h
    · cases h
    · split at h
      · rename_i i j m hb
        injection h with h; subst h
        simp only [OR] at hm; subst hm
        simp only [VR] at ha; obtain ⟨e, hlt⟩ := ha; subst e
        have hr := bds_ok (P := P) (isSlice := false) hb hl hh (show OR ρ none none from rfl) w
        refine ⟨.string (bytesOf ((l.take j).drop i)), ?_, ?_⟩
        · simp only [Instr.sliceAt, Sem.run_bind, run_underlying hu, Result.andThen_ok, Instr.slice, bytesOf_size, hr, Sem.run_pure, Option.isSome_none, Bool.false_eq_true, if_false]
          congr 2
          apply ByteArray.ext
          simp [bytesOf, ByteArray.data_extract, List.map_drop, List.map_take, List.drop_take]
        · rw [fList_eq]; simp only [VR]; exact ⟨trivial, fun b hb => hlt b (List.mem_of_mem_take (List.mem_of_mem_drop hb))⟩
      · cases h
  · rename_i e id off len cap hu
    split at h
    · rename_i l h' m s hb hs
      injection h with h; subst h
      simp only [VR] at ha; obtain ⟨b, n, hr, e1⟩ := ha; subst e1
      have hr2 := bds_ok (P := P) (isSlice := true) hb hl hh hm w
      refine ⟨.slice (some ⟨b, Bool.rec (Nat.add off (Nat.mul l s)) off (Nat.beq m l), none⟩) (h' - l) (m - l), ?_, ?_⟩
      · simp only [Instr.sliceAt, Sem.run_bind, run_underlying hu, Result.andThen_ok, Instr.slice, hr2, run_size hs, Sem.run_pure]
        rw [← off_eq]; split <;> rfl
      · simp only [VR]; exact ⟨b, n, hr, rfl⟩
    · cases h
  · rename_i e id off len sz lb hu
    split at h
    · rename_i l h' m s hb hs
      simp only [VR] at ha; obtain ⟨b, n, c, hr, e1, hc, hn⟩ := ha; subst e1
      have hr2 := bds_ok (P := P) (isSlice := true) (bds_mono hb hc) hl hh hm w
      split at h
      · injection h with h; subst h
        refine ⟨.slice (some ⟨b, Bool.rec (Nat.add off (Nat.mul l s)) off (Nat.beq m l), none⟩) (h' - l) (m - l), ?_, ?_⟩
        · simp only [Instr.sliceAt, Sem.run_bind, run_underlying hu, Result.andThen_ok, Instr.slice, hr2, run_size hs, Sem.run_pure, Option.isNone_some, Bool.false_eq_true, if_false]
          rw [← off_eq]; split <;> rfl
        · simp only [VR]; exact ⟨b, n, hr, rfl⟩
      · cases hcnd : (Nat.beq sz s && (Nat.beq l 0 || Nat.blt l lb)) with
        | false => rw [hcnd] at h; cases h
        | true =>
          rw [hcnd] at h
          simp only [Option.some.injEq] at h; subst h
          simp only [Bool.and_eq_true, Bool.or_eq_true] at hcnd
          have e2 : sz = s := Nat.eq_of_beq_eq_true hcnd.1
          subst e2
          have hl0 : l = 0 ∨ l < lb := hcnd.2.imp Nat.eq_of_beq_eq_true (fun h => by rwa [Nat.blt_eq] at h)
          have hlc : l ≤ c := by omega
          refine ⟨.slice (some ⟨b, off + l * sz, none⟩) (h' - l) (c - l), ?_, ?_⟩
          · simp only [Instr.sliceAt, Sem.run_bind, run_underlying hu, Result.andThen_ok, Instr.slice, hr2, run_size hs, Sem.run_pure, Option.isNone_none, if_true, Option.map_some, addr_add]
            rcases hl0 with h0 | h0
            · subst h0; simp
            · rw [if_neg (by omega)]
          · simp only [VR]
            refine ⟨b, n, c - l, hr, rfl, by show lb - l ≤ c - l; omega, ?_⟩
            have : c * sz = l * sz + (c - l) * sz := by rw [← Nat.add_mul]; congr 1; omega
            show off + l * sz + (c - l) * sz ≤ n
            omega
    · cases h
  · rename_i e hu
    split at h
    · rename_i l h' m s hb hs
      injection h with h; subst h
      simp only [VR] at ha; subst ha
      have hr2 := bds_ok (P := P) (isSlice := true) hb hl hh hm w
      have hb0 : l = 0 ∧ h' = 0 ∧ m = 0 := by
        unfold bds at hb
        have hbd : ∀ o n, bd 0 0 o = some n → n = 0 := by
          intro o n ho
          cases o with
          | none => simp only [bd, Option.some.injEq] at ho; exact ho.symm
          | some v => cases v <;> simp only [bd] at ho <;> first | cases ho | (have := (ix_ok ho).2; omega)
        split at hb
        · cases hb
        · rename_i m' hm'
          have := hbd _ _ hm'; subst this
          split at hb
          · cases hb
          · split at hb
            · cases hb
            · rename_i h1 hh'
              have := hbd _ _ hh'; subst this
              split at hb
              · cases hb
              · rename_i l1 hl1
                have := hbd _ _ hl1; subst this
                injection hb with hb; injection hb with e1 e2; injection e2 with e2 e3
                exact ⟨e1.symm, e2.symm, e3.symm⟩
      obtain ⟨e1, e2, e3⟩ := hb0; subst e1; subst e2; subst e3
      refine ⟨.slice none 0 0, ?_, by simp only [VR]⟩
      simp [Instr.sliceAt, run_underlying hu, Instr.slice, hr2, run_size hs]
    · cases h
  · rename_i k e id off hu
    split at h
    · rename_i l h' m s hb hs
      injection h with h; subst h
      simp only [VR] at ha; obtain ⟨b, n, hr, e1⟩ := ha; subst e1
      have hr2 := bds_ok (P := P) (isSlice := false) hb hl hh hm w
      refine ⟨.slice (some ⟨b, Bool.rec (Nat.add off (Nat.mul l s)) off (Nat.beq m l), none⟩) (h' - l) (m - l), ?_, ?_⟩
      · simp only [Instr.sliceAt, Sem.run_bind, run_underlying hu, Result.andThen_ok, Instr.sureAddr, hr2, run_size hs, Sem.run_pure]
        rw [← off_eq]
      · simp only [VR]; exact ⟨b, n, hr, rfl⟩
    · cases h
  · cases h

end Ex
end Go.Proofs.YtjdmkgnlakonbaaGreatDoor
namespace Go.Proofs.YtjdmkgnlakonbaaGreatDoor
namespace Ex

variable {P : Program}

def AV.cells : AV → List AV
  | .agg cs => cs
  | v => [v]
theorem cells_ok {ρ : Rho} {v : AV} {x : Value} (h : VR ρ v x) : VRL ρ v.cells x.cells.toList := by
  cases v
  case agg cs => simp only [VR] at h; obtain ⟨xs, e, hx⟩ := h; subst e; simpa [AV.cells, Value.cells] using hx
  all_goals
    have h' := h
    simp only [VR] at h
    simp only [AV.cells, VRL]
    refine ⟨x, [], ?_, h', rfl⟩
    first
      | (obtain ⟨_, _, _, _, e, _⟩ := h; subst e; rfl)
      | (obtain ⟨_, _, _, e⟩ := h; subst e; rfl)
      | (obtain ⟨_, e, _⟩ := h; subst e; rfl)
      | (obtain ⟨e, _⟩ := h; subst e; rfl)
      | (subst h; rfl)

/-- Cells with others laid over them. -/
def splice (cs : List AV) (off : Nat) (vs : List AV) : List AV := cs.take off ++ (vs ++ cs.drop (off + vs.length))

theorem foldl_set (off : Nat) : ∀ (vs : List Value) (j : Nat) (c : Array Value), off + j + vs.length ≤ c.size →
    ((vs.zipIdx j).foldl (fun cs (p : Value × Nat) => cs.setIfInBounds (off + p.2) p.1) c).toList = c.toList.take (off + j) ++ (vs ++ c.toList.drop (off + j + vs.length))
  | [], j, c, _ => by simp
  | v :: vs, j, c, h => by
    simp only [List.zipIdx_cons, List.foldl_cons]
    rw [foldl_set off vs (j + 1) _ (by simp at h ⊢; omega)]
    have hlt : off + j < c.toList.length := by simp at h ⊢; omega
    simp only [Array.toList_setIfInBounds]
    have e1 : off + (j + 1) = off + j + 1 := by omega
    have e2 : off + j + (v :: vs).length = off + j + 1 + vs.length := by simp; omega
    rw [e1, e2, List.take_set, List.drop_set, if_pos (by omega), List.take_succ_eq_append_getElem hlt, List.set_append_right _ _ (by simp; omega)]
    have e3 : off + j - (List.take (off + j) c.toList).length = 0 := by rw [List.length_take]; omega
    rw [e3]
    simp

/-- The parts of a struct or an array laid over its zero. -/
noncomputable def aFill (place : Nat → Option (Nat × Nat)) (l : List (Nat × AV)) : List AV → Option (List AV) :=
  List.rec (motive := fun _ => List AV → Option (List AV)) (fun cs => some cs)
    (fun p _ ih cs => match place p.1 with
      | none => none
      | some (off, size) => Bool.rec none (ih (splice cs off p.2.cells)) (Nat.beq p.2.cells.length size && Nat.ble (off + p.2.cells.length) cs.length)) l

def PR (ρ : Rho) : List (Nat × AV) → List (Nat × Value) → Prop
  | [], xs => xs = []
  | (i, v) :: l, xs => ∃ y r, xs = (i, y) :: r ∧ VR ρ v y ∧ PR ρ l r

theorem aFill_ok {ρ : Rho} {place : Nat → Option (Nat × Nat)} : ∀ {l : List (Nat × AV)} {xs : List (Nat × Value)} {cs r : List AV} {c : Array Value},
    aFill place l cs = some r → PR ρ l xs → VRL ρ cs c.toList → ∃ d, Instr.fill place c xs = some d ∧ VRL ρ r d.toList
  | [], xs, cs, r, c, h, hp, hc => by
    simp only [PR] at hp; subst hp
    have h : some cs = some r := h
    injection h with h; subst h
    exact ⟨c, rfl, hc⟩
  | (i, v) :: l, xs, cs, r, c, h, hp, hc => by
    simp only [PR] at hp
    obtain ⟨y, rs, e, hv, hr⟩ := hp; subst e
    have h : (match place i with
      | none => none
      | some (off, size) => Bool.rec none (aFill place l (splice cs off v.cells)) (Nat.beq v.cells.length size && Nat.ble (off + v.cells.length) cs.length) : Option (List AV)) = some r := h
    split at h
    · cases h
    · rename_i off size hpl
      cases hcnd : (Nat.beq v.cells.length size && Nat.ble (off + v.cells.length) cs.length) with
      | false => rw [hcnd] at h; cases h
      | true =>
        rw [hcnd] at h
        simp only [Bool.and_eq_true] at hcnd
        have e1 : v.cells.length = size := Nat.eq_of_beq_eq_true hcnd.1
        have e2 : off + v.cells.length ≤ cs.length := Nat.le_of_ble_eq_true hcnd.2
        have hvc := cells_ok hv
        have l1 : y.cells.size = v.cells.length := by simpa using hvc.length
        have l2 : c.size = cs.length := by simpa using hc.length
        have hfold : VRL ρ (splice cs off v.cells) (y.cells.zipIdx.foldl (fun cs (p : Value × Nat) => cs.setIfInBounds (off + p.2) p.1) c).toList := by
          have hz : y.cells.zipIdx.foldl (fun cs (p : Value × Nat) => cs.setIfInBounds (off + p.2) p.1) c = (y.cells.toList.zipIdx 0).foldl (fun cs (p : Value × Nat) => cs.setIfInBounds (off + p.2) p.1) c := by
            rw [← Array.foldl_toList]; simp
          rw [hz, foldl_set off y.cells.toList 0 c (by simp; omega)]
          have l3 : y.cells.toList.length = v.cells.length := by simpa using l1
          rw [l3]
          exact (hc.take off).append (hvc.append (hc.drop (off + v.cells.length)))
        obtain ⟨d, hd, hdr⟩ := aFill_ok h hr hfold
        refine ⟨d, ?_, hdr⟩
        simp only [Instr.fill, hpl]
        rw [if_neg (by simp; omega)]
        exact hd

end Ex
end Go.Proofs.YtjdmkgnlakonbaaGreatDoor
namespace Go.Proofs.YtjdmkgnlakonbaaGreatDoor
namespace Ex

variable {P : Program}

noncomputable def aZero (P : Program) (t : TypeId) : Option AV := match P.info? t with
  | some i => match i.zero with
    | some z => cst z
    | none => none
  | none => none
theorem aZero_ok {t : TypeId} {v : AV} (h : aZero P t = some v) (ρ : Rho) (w : World) : ∃ z, (zeroValue t).run P w = .ok z w ∧ VR ρ v z := by
  unfold aZero at h
  split at h
  · rename_i i hi
    split at h
    · rename_i z hz
      exact ⟨z, by simp [zeroValue, run_typeInfo w hi, hz], cst_ok h⟩
    · cases h
  · cases h

/-- Where the fields of a struct lie, and how many cells they have. -/
noncomputable def places (P : Program) (fs : List Field) : Option (List (Nat × Nat)) := mapO (fun f => match tySize P f.type with | some n => some (f.offset, n) | none => none) fs
theorem places_ok : ∀ {fs : List Field} {l : List (Nat × Nat)}, places P fs = some l → ∀ w, (fs.mapM fun f => do pure (f.offset, ← sizeOf f.type) : Sem (List (Nat × Nat))).run P w = .ok l w
  | [], l, h, w => by
    have h : some [] = some l := h
    injection h with h; subst h; rfl
  | f :: fs, l, h, w => by
    obtain ⟨y, ys, h1, h2, h3⟩ := mapO_cons h
    split at h1
    · rename_i n hn
      injection h1 with h1; subst h1; subst h3
      have ih := places_ok (fs := fs) h2 w
      simp only [List.mapM_cons, Sem.run_bind, run_size hn, Result.andThen_ok, Sem.run_pure, ih]
    · cases h1

noncomputable def aBuild (P : Program) (t : TypeId) (ps : List (Nat × AV)) : Option AV :=
  match aZero P t, P.underlying t with
  | some z, some (.struct fs) => match places P fs.toList with
    | some pl => (aFill (fun i => pl[i]?) ps z.cells).map .agg
    | none => none
  | some z, some (.array _ e) => match tySize P e with
    | some s => (aFill (fun i => some (Nat.mul i s, s)) ps z.cells).map .agg
    | none => none
  | _, _ => none
theorem aBuild_ok {t : TypeId} {ps : List (Nat × AV)} {v : AV} {xs : List (Nat × Value)} (h : aBuild P t ps = some v) {ρ : Rho} (hp : PR ρ ps xs) (w : World) :
    ∃ z, (Instr.build t xs.toArray).run P w = .ok z w ∧ VR ρ v z := by
  unfold aBuild at h
  split at h
  · rename_i z fs hz hu
    obtain ⟨y, hy, hv⟩ := aZero_ok hz ρ w
    split at h
    · rename_i pl hpl
      cases hf : aFill (fun i => pl[i]?) ps z.cells with
      | none => simp [hf] at h
      | some r =>
        simp only [hf, Option.map_some, Option.some.injEq] at h; subst h
        obtain ⟨d, hd, hr⟩ := aFill_ok hf hp (cells_ok hv)
        refine ⟨.agg d, ?_, by simp only [VR]; exact ⟨d.toList, by simp, hr⟩⟩
        have hm : (fs.mapM fun f => do pure (f.offset, ← sizeOf f.type) : Sem (Array (Nat × Nat))).run P w = .ok pl.toArray w := by
          rw [Array.mapM_eq_mapM_toList]; simp only [Functor.map, Sem.run_bind', places_ok hpl w]; rfl
        simp only [Instr.build, Sem.run_bind, hy, Result.andThen_ok, run_underlying hu, hm]
        simp [hd]
    · cases h
  · rename_i z n e hz hu
    obtain ⟨y, hy, hv⟩ := aZero_ok hz ρ w
    split at h
    · rename_i s hs
      cases hf : aFill (fun i => some (Nat.mul i s, s)) ps z.cells with
      | none => rw [hf] at h; cases h
      | some r =>
        simp only [hf, Option.map_some, Option.some.injEq] at h; subst h
        obtain ⟨d, hd, hr⟩ := aFill_ok hf hp (cells_ok hv)
        refine ⟨.agg d, ?_, by simp only [VR]; exact ⟨d.toList, by simp, hr⟩⟩
        simp only [Instr.build, Sem.run_bind, hy, Result.andThen_ok, run_underlying hu, run_size hs]
        have e : (fun i => some (i * s, s)) = fun i => some (Nat.mul i s, s) := rfl
        simp [e, hd]
    · cases h
  · cases h

/-- Lengths and capacities; the least and the greatest of plain values. -/
noncomputable def aLen (P : Program) (t : TypeId) (a : AV) : Option AV :=
  match P.underlying t, a with
  | some .string, .str l => some (.int .i64 (.ofNat l.length))
  | some (.array n _), _ => some (.int .i64 (.ofNat n))
  | some (.slice _), .sl _ _ len _ => some (.int .i64 (.ofNat len))
  | some (.slice _), .slu _ _ len _ _ => some (.int .i64 (.ofNat len))
  | some (.slice _), .nilSl => some (.int .i64 0)
  | some (.map _ _), .nilMap => some (.int .i64 0)
  | _, _ => none
noncomputable def aCap (P : Program) (t : TypeId) (a : AV) : Option AV :=
  match P.underlying t, a with
  | some (.slice _), .sl _ _ _ cap => some (.int .i64 (.ofNat cap))
  | some (.slice _), .nilSl => some (.int .i64 0)
  | _, _ => none
theorem aLen_ok {t ty : TypeId} {a v : AV} {x : Value} (h : aLen P t a = some v) {ρ : Rho} (ha : VR ρ a x) (w : World) : ∃ z, (Builtin.len_ #[t] ty #[x]).run P w = .ok z w ∧ VR ρ v z := by
  unfold aLen at h
  split at h
  · rename_i l hu
    injection h with h; subst h; simp only [VR] at ha; obtain ⟨ha, _⟩ := ha; subst ha
    exact ⟨goInt l.length, by simp [Builtin.len_, run_underlying hu, bytesOf_size], by simp only [VR]; rfl⟩
  · rename_i n _ hu
    injection h with h; subst h
    exact ⟨goInt n, by simp [Builtin.len_, run_underlying hu], by simp only [VR]; rfl⟩
  · rename_i len _ hu
    injection h with h; subst h; simp only [VR] at ha; obtain ⟨_, _, _, ha⟩ := ha; subst ha
    exact ⟨goInt len, by simp [Builtin.len_, run_underlying hu], by simp only [VR]; rfl⟩
  · rename_i len _ _ hu
    injection h with h; subst h; simp only [VR] at ha; obtain ⟨_, _, _, _, ha, _⟩ := ha; subst ha
    exact ⟨goInt len, by simp [Builtin.len_, run_underlying hu], by simp only [VR]; rfl⟩
  · rename_i hu
    injection h with h; subst h; simp only [VR] at ha; subst ha
    exact ⟨goInt 0, by simp [Builtin.len_, run_underlying hu], by simp only [VR]; rfl⟩
  · rename_i hu
    injection h with h; subst h; simp only [VR] at ha; subst ha
    exact ⟨goInt 0, by simp [Builtin.len_, run_underlying hu], by simp only [VR]; rfl⟩
  · cases h
theorem aCap_ok {t ty : TypeId} {a v : AV} {x : Value} (h : aCap P t a = some v) {ρ : Rho} (ha : VR ρ a x) (w : World) : ∃ z, (Builtin.cap_ #[t] ty #[x]).run P w = .ok z w ∧ VR ρ v z := by
  unfold aCap at h
  split at h
  · rename_i cap hu
    injection h with h; subst h; simp only [VR] at ha; obtain ⟨_, _, _, ha⟩ := ha; subst ha
    exact ⟨goInt cap, by simp [Builtin.cap_, run_underlying hu], by simp only [VR]; rfl⟩
  · rename_i hu
    injection h with h; subst h; simp only [VR] at ha; subst ha
    exact ⟨goInt 0, by simp [Builtin.cap_, run_underlying hu], by simp only [VR]; rfl⟩
  · cases h

end Ex
end Go.Proofs.YtjdmkgnlakonbaaGreatDoor
namespace Go.Proofs.YtjdmkgnlakonbaaGreatDoor
namespace Ex

variable {P : Program}

noncomputable def parts (f : Fm) (ps : List (Nat × Operand)) : Option (List (Nat × AV)) := mapO (fun p => match aev f p.2 with | some v => some (p.1, v) | none => none) ps
theorem parts_ok {ρ : Rho} {f : Fm} {a : Act} (hf : FR ρ f a) : ∀ {ps : List (Nat × Operand)} {l : List (Nat × AV)}, parts f ps = some l → PR ρ l (ps.map fun p => (p.1, a.eval p.2))
  | [], l, h => by
    have h : some [] = some l := h
    injection h with h; subst h; simp [PR]
  | p :: ps, l, h => by
    obtain ⟨y, ys, h1, h2, h3⟩ := mapO_cons h
    split at h1
    · rename_i v hv
      injection h1 with h1; subst h1; subst h3
      simp only [List.map_cons, PR]
      exact ⟨_, _, rfl, aev_ok hf hv, parts_ok hf h2⟩
    · cases h1

noncomputable def oev (f : Fm) : Option Operand → Option (Option AV)
  | none => some none
  | some x => match aev f x with
    | some v => some (some v)
    | none => none
theorem oev_ok {ρ : Rho} {f : Fm} {a : Act} (hf : FR ρ f a) {o : Option Operand} {v : Option AV} (h : oev f o = some v) : OR ρ v (o.map a.eval) := by
  cases o with
  | none => simp only [oev, Option.some.injEq] at h; subst h; simp [OR]
  | some x =>
    simp only [oev] at h
    split at h
    · rename_i u hu
      injection h with h; subst h
      simp only [OR]; exact ⟨_, rfl, aev_ok hf hu⟩
    · cases h

/-- A builtin that looks at plain values alone, by the model's own text. -/
noncomputable def aPlain (P : Program) (b : Builtin) (ts : Array TypeId) (ty : TypeId) (cs : Array Bool) (vs : List AV) : Option AV :=
  match mapO conc1 vs with
  | some xs => match pureRun P (builtin b ts ty cs xs.toArray) with
    | some (.value z) => cst z
    | _ => none
  | none => none

/-- An operation that looks at slots alone. -/
noncomputable def pureOp (P : Program) (f : Fm) (o : Oper) : Option AV :=
  match o.op with
  | .move x | .assign x => aev f x
  | .pick c x y => match aev f c with
    | some (.bool true) => aev f x
    | some (.bool false) => aev f y
    | _ => none
  | .binOp op t x y _ => match aev f x, aev f y with
    | some u, some v => aBin P op t x y u v
    | _, _ => none
  | .unOp op _ x => match aev f x with
    | some u => aUn op u
    | none => none
  | .convert src dst x => match aev f x with
    | some u => aConv P src dst u
    | none => none
  | .fieldAddr s x i => match aev f x with
    | some u => aFieldAddr P s u i
    | none => none
  | .field t x i => match aev f x with
    | some u => aField P t u i
    | none => none
  | .indexAddr t x i => match aev f x, aev f i with
    | some u, some v => aIndexAddr P t u v
    | _, _ => none
  | .index t x i => match aev f x, aev f i with
    | some u, some v => aIndex P t u v
    | _, _ => none
  | .slice t x lo hi mx => match aev f x, oev f lo, oev f hi, oev f mx with
    | some u, some l, some h, some m => aSlice P t u l h m
    | _, _, _, _ => none
  | .extract x i => match aev f x with
    | some (.tup vs) => vs[i]?
    | _ => none
  | .build t ps => match parts f ps.toList with
    | some l => aBuild P t l
    | none => none
  | .nilCheck x => match aev f x with
    | some (.ptr i j) => some (.ptr i j)
    | some (.func g c) => some (.func g c)
    | _ => none
  | .makeInterface t x => match P.underlying t, aev f x with
    | some (.interface _), _ => none
    | some _, some v => some (.iface t v)
    | _, _ => none
  | .makeFunc (.func g) first captured => match first.toList, mapO (aev f) captured.toList with
    | [], some vs => some (.func g vs)
    | _, _ => none
  | .call c => match c.callee with
    | .builtin b => match b, c.args.toList, c.argTypes.toList with
      | .len, [x], [t] => match aev f x with
        | some u => aLen P t u
        | none => none
      | .cap, [x], [t] => match aev f x with
        | some u => aCap P t u
        | none => none
      | .min, xs, _ => match mapO (aev f) xs with
        | some vs => aPlain P .min c.argTypes o.type (c.args.map fun | .const _ => true | _ => false) vs
        | none => none
      | .max, xs, _ => match mapO (aev f) xs with
        | some vs => aPlain P .max c.argTypes o.type (c.args.map fun | .const _ => true | _ => false) vs
        | none => none
      | _, _, _ => none
    | _ => none
  | _ => none

theorem pureOp_ok {f : Fm} {o : Oper} {v : AV} (h : pureOp P f o = some v) {ρ : Rho} {a : Act} (hf : FR ρ f a) (w : World) : ∃ x, (execOp a.eval o).run P w = .ok (.value x) w ∧ VR ρ v x := by
  have lift : ∀ {s : Sem Value} {x : Value}, s.run P w = .ok x w → ((do pure (Next.value (← s)) : Sem Next)).run P w = .ok (.value x) w := by
    intro s x hs; simp [hs]
  unfold pureOp at h
  unfold execOp
  split at h
  · rename_i x ho; rw [ho]; exact ⟨_, rfl, aev_ok hf h⟩
  · rename_i x ho; rw [ho]; exact ⟨_, rfl, aev_ok hf h⟩
  · rename_i c x y ho; rw [ho]
    split at h
    · rename_i hc
      have := aev_ok hf hc; simp only [VR] at this
      exact ⟨_, by simp [this, asBool], aev_ok hf h⟩
    · rename_i hc
      have := aev_ok hf hc; simp only [VR] at this
      exact ⟨_, by simp [this, asBool], aev_ok hf h⟩
    · cases h
  · rename_i op t x y ty ho; rw [ho]
    split at h
    · rename_i u v' hu hv
      obtain ⟨z, hz, hr⟩ := aBin_ok h (aev_ok hf hu) (aev_ok hf hv) w
      exact ⟨z, lift hz, hr⟩
    · cases h
  · rename_i op ty x ho; rw [ho]
    split at h
    · rename_i u hu
      obtain ⟨z, hz, hr⟩ := aUn_ok (P := P) h (aev_ok hf hu) w
      exact ⟨z, lift hz, hr⟩
    · cases h
  · rename_i src dst x ho; rw [ho]
    split at h
    · rename_i u hu
      obtain ⟨z, hz, hr⟩ := aConv_ok h (aev_ok hf hu) w
      exact ⟨z, lift hz, hr⟩
    · cases h
  · rename_i s x i ho; rw [ho]
    split at h
    · rename_i u hu
      obtain ⟨z, hz, hr⟩ := aFieldAddr_ok h (aev_ok hf hu) w
      exact ⟨z, lift hz, hr⟩
    · cases h
  · rename_i t x i ho; rw [ho]
    split at h
    · rename_i u hu
      obtain ⟨z, hz, hr⟩ := aField_ok h (aev_ok hf hu) w
      exact ⟨z, lift hz, hr⟩
    · cases h
  · rename_i t x i ho; rw [ho]
    split at h
    · rename_i u v' hu hv
      obtain ⟨z, hz, hr⟩ := aIndexAddr_ok h (aev_ok hf hu) (aev_ok hf hv) w
      exact ⟨z, lift hz, hr⟩
    · cases h
  · rename_i t x i ho; rw [ho]
    split at h
    · rename_i u v' hu hv
      obtain ⟨z, hz, hr⟩ := aIndex_ok h (aev_ok hf hu) (aev_ok hf hv) w
      exact ⟨z, lift hz, hr⟩
    · cases h
  · rename_i t x lo hi mx ho; rw [ho]
    split at h
    · rename_i u l h' m hu hl hh hm
      obtain ⟨z, hz, hr⟩ := aSlice_ok h (aev_ok hf hu) (oev_ok hf hl) (oev_ok hf hh) (oev_ok hf hm) w
      exact ⟨z, lift hz, hr⟩
    · cases h
  · rename_i x i ho; rw [ho]
    split at h
    · rename_i vs hx
      have := aev_ok hf hx; simp only [VR] at this
      obtain ⟨xs, e, hxs⟩ := this
      obtain ⟨z, hz, hr⟩ := hxs.get i v h
      exact ⟨z, lift (by simp [e, Instr.extract, hz]), hr⟩
    · cases h
  · rename_i t ps ho; rw [ho]
    split at h
    · rename_i l hl
      obtain ⟨z, hz, hr⟩ := aBuild_ok h (parts_ok hf hl) w
      refine ⟨z, lift ?_, hr⟩
      have e : (ps.map fun (i, x) => (i, a.eval x)) = (ps.toList.map fun p => (p.1, a.eval p.2)).toArray := by
        apply Array.ext'; simp
      rw [e]; exact hz
    · cases h
  · rename_i x ho; rw [ho]
    split at h
    · rename_i i j hx
      injection h with h; subst h
      have hv := aev_ok hf hx
      have hv' := hv
      simp only [VR] at hv
      obtain ⟨b, n, hr, e⟩ := hv
      exact ⟨a.eval x, by dsimp only; rw [e]; rfl, hv'⟩
    · rename_i g c hx
      injection h with h; subst h
      have hv := aev_ok hf hx
      have hv' := hv
      simp only [VR] at hv
      obtain ⟨xs, e, _⟩ := hv
      exact ⟨a.eval x, by dsimp only; rw [e]; rfl, hv'⟩
    · cases h
  · rename_i t x ho; rw [ho]
    split at h
    · cases h
    · rename_i d hne hu hx
      injection h with h; subst h
      refine ⟨.iface t (a.eval x), lift ?_, by simp only [VR]; exact ⟨_, rfl, aev_ok hf hx⟩⟩
      simp only [Instr.makeInterface, Sem.run_bind, run_underlying hu, Result.andThen_ok]
      cases d <;> first | rfl | exact absurd rfl (hne _)
    · cases h
  · rename_i g first captured ho; rw [ho]
    split at h
    · rename_i vs hfi hc
      injection h with h; subst h
      refine ⟨.func (.func g) #[] (captured.toList.map a.eval).toArray, ?_, by simp only [VR]; exact ⟨_, rfl, mapO_VRL (fun x v hx => aev_ok hf hx) hc⟩⟩
      have e1 : first.map a.eval = #[] := by apply Array.ext'; simp [hfi]
      have e2 : captured.map a.eval = (captured.toList.map a.eval).toArray := by apply Array.ext'; simp
      dsimp only; rw [e1, e2]; rfl
    · cases h
  · rename_i c ho; rw [ho]
    split at h
    · rename_i b hb
      have args : ∀ {xs : List Operand}, c.args.toList = xs → c.args.map a.eval = (xs.map a.eval).toArray := by
        intro xs e; apply Array.ext'; simp [e]
      split at h
      · rename_i x t hx ht
        split at h
        · rename_i u hu
          obtain ⟨z, hz, hr⟩ := aLen_ok (ty := o.type) h (aev_ok hf hu) w
          refine ⟨z, ?_, hr⟩
          have e2 : c.argTypes = #[t] := by apply Array.ext'; simp [ht]
          simp [resolve, hb, invoke, builtin, args hx, e2, hz]
        · cases h
      · rename_i x t hx ht
        split at h
        · rename_i u hu
          obtain ⟨z, hz, hr⟩ := aCap_ok (ty := o.type) h (aev_ok hf hu) w
          refine ⟨z, ?_, hr⟩
          have e2 : c.argTypes = #[t] := by apply Array.ext'; simp [ht]
          simp [resolve, hb, invoke, builtin, args hx, e2, hz]
        · cases h
      · split at h
        · rename_i vs hvs
          unfold aPlain at h
          split at h
          · rename_i xs hxs
            split at h
            · rename_i z hz
              refine ⟨z, ?_, cst_ok h⟩
              have e := conc1_list hxs (mapO_VRL (fun x v hx => aev_ok hf hx) hvs)
              simp only [resolve, hb, invoke, Sem.run_bind, Sem.run_pure, Result.andThen_ok, args rfl, e]
              exact pureRun_ok _ hz w
            · cases h
          · cases h
        · cases h
      · split at h
        · rename_i vs hvs
          unfold aPlain at h
          split at h
          · rename_i xs hxs
            split at h
            · rename_i z hz
              refine ⟨z, ?_, cst_ok h⟩
              have e := conc1_list hxs (mapO_VRL (fun x v hx => aev_ok hf hx) hvs)
              simp only [resolve, hb, invoke, Sem.run_bind, Sem.run_pure, Result.andThen_ok, args rfl, e]
              exact pureRun_ok _ hz w
            · cases h
          · cases h
        · cases h
      · cases h
    · cases h
  · cases h

end Ex
end Go.Proofs.YtjdmkgnlakonbaaGreatDoor
namespace Go.Proofs.YtjdmkgnlakonbaaGreatDoor
namespace Ex

variable {P : Program}

/-- n cells from off on. -/
noncomputable def rd (t : Tr AV) (n : Nat) : Nat → Option (List AV) :=
  Nat.rec (motive := fun _ => Nat → Option (List AV)) (fun _ => some [])
    (fun _ ih off => Option.rec none (fun v => Option.rec none (fun vs => some (v :: vs)) (ih (Nat.succ off))) (t.at off)) n
theorem rd_succ {t : Tr AV} {n off : Nat} {l : List AV} (h : rd t (n + 1) off = some l) : ∃ v vs, t.at off = some v ∧ rd t n (off + 1) = some vs ∧ l = v :: vs := by
  have h : (Option.rec none (fun v => Option.rec none (fun vs => some (v :: vs)) (rd t n (off + 1))) (t.at off) : Option (List AV)) = some l := h
  cases h1 : t.at off with
  | none => simp [h1] at h
  | some v =>
    cases h2 : rd t n (off + 1) with
    | none => simp [h1, h2] at h
    | some vs => simp [h1, h2] at h; exact ⟨v, vs, rfl, rfl, h.symm⟩
theorem rd_ok {ρ : Rho} {t : Tr AV} {c : Array Value} {m : Nat} (hc : ∀ j v, t.at j = some v → j < m ∧ ∃ x, c[j]? = some x ∧ VR ρ v x) : ∀ {n off : Nat} {l : List AV}, rd t n off = some l →
    ∃ xs, VRL ρ l xs ∧ xs.length = n ∧ ∀ j x, xs[j]? = some x → c[off + j]? = some x
  | 0, off, l, h => by
    have h : some [] = some l := h
    injection h with h; subst h
    exact ⟨[], by simp [VRL], rfl, fun j x hx => by simp at hx⟩
  | n + 1, off, l, h => by
    obtain ⟨v, vs, h1, h2, h3⟩ := rd_succ h
    subst h3
    obtain ⟨_, x, hx, hv⟩ := hc off v h1
    obtain ⟨xs, h4, h5, h6⟩ := rd_ok hc h2
    refine ⟨x :: xs, by simp only [VRL]; exact ⟨x, xs, rfl, hv, h4⟩, by simp [h5], fun j y hj => ?_⟩
    cases j with
    | zero => simp at hj; subst hj; simpa using hx
    | succ j => have := h6 j y (by simpa using hj); rw [← this]; congr 1; omega

/-- Cells written from off on. -/
noncomputable def wr (vs : List AV) : Tr AV → Nat → Tr AV :=
  List.rec (motive := fun _ => Tr AV → Nat → Tr AV) (fun t _ => t) (fun v _ ih t off => ih (t.to off v) (Nat.succ off)) vs
theorem wr_nil (t : Tr AV) (off : Nat) : wr [] t off = t := rfl
theorem wr_cons (v : AV) (vs : List AV) (t : Tr AV) (off : Nat) : wr (v :: vs) t off = wr vs (t.to off v) (off + 1) := rfl
theorem wr_at : ∀ (vs : List AV) (t : Tr AV) (off j : Nat), off + vs.length ≤ 1048575 →
    (wr vs t off).at j = if off ≤ j ∧ j < off + vs.length then vs[j - off]? else t.at j
  | [], t, off, j, _ => by rw [wr_nil, if_neg (by simp)]
  | v :: vs, t, off, j, h => by
    simp only [List.length_cons] at h
    rw [wr_cons, wr_at vs _ (off + 1) j (by omega)]
    by_cases h1 : off + 1 ≤ j ∧ j < off + 1 + vs.length
    · rw [if_pos h1, if_pos (by simp; omega)]
      obtain ⟨d, rfl⟩ : ∃ d, j = off + 1 + d := ⟨j - (off + 1), by omega⟩
      have e1 : off + 1 + d - (off + 1) = d := by omega
      have e2 : off + 1 + d - off = d + 1 := by omega
      rw [e1, e2]; simp
    · rw [if_neg h1, Tr.at_to _ _ _ _ (by omega)]
      by_cases h2 : j = off
      · subst h2; rw [if_pos rfl, if_pos (by simp)]; simp
      · rw [if_neg h2, if_neg (by simp; omega)]

def AV.one : AV → Bool
  | .agg _ | .tup _ => false
  | _ => true
theorem one_ok {ρ : Rho} {v : AV} {x : Value} (h : VR ρ v x) (h1 : v.one = true) : x.oneCell' = true := by
  cases v
  case agg => cases h1
  case tup => cases h1
  all_goals
    simp only [VR] at h
    first
      | (obtain ⟨_, _, _, _, e, _⟩ := h; subst e; rfl)
      | (obtain ⟨_, _, _, e⟩ := h; subst e; rfl)
      | (obtain ⟨_, e, _⟩ := h; subst e; rfl)
      | (obtain ⟨e, _⟩ := h; subst e; rfl)
      | (subst h; rfl)
theorem ones_ok {ρ : Rho} : ∀ {vs : List AV} {xs : List Value}, VRL ρ vs xs → vs.all AV.one = true → ∀ x ∈ xs, x.oneCell' = true
  | [], xs, h, _, x, hx => by simp only [VRL] at h; subst h; simp at hx
  | v :: vs, xs, h, h1, x, hx => by
    simp only [VRL] at h
    obtain ⟨y, ys, e, hv, hr⟩ := h; subst e
    simp only [List.all_cons, Bool.and_eq_true] at h1
    rcases List.mem_cons.1 hx with rfl | hx
    · exact one_ok hv h1.1
    · exact ones_ok hr h1.2 x hx

/-! Memory that changes at one block, or grows by one. -/
theorem WR.upd {ρ : Rho} {S : St} {w w' : World} (h : WR ρ S w) {id b n : Nat} {B B' : AB} (hid : S.heap.at id = some B) (hl : B.live = true) (hr : ρ id = some (b, n)) (hB : BR ρ n B' w'.heap[b]?)
    (hs : w'.heap.size = w.heap.size) (ho : ∀ k, k ≠ b → w'.heap[k]? = w.heap[k]?) : WR ρ ⟨S.heap.to id B', S.next⟩ w' := by
  have hlt : id < S.next := Nat.lt_of_not_le fun hle => by rw [(h.dom id hle).2] at hid; cases hid
  have hat : ∀ i A, (S.heap.to id B').at i = some A → (i = id ∧ A = B') ∨ (i ≠ id ∧ S.heap.at i = some A) := by
    intro i A hi
    have := h.lim
    rw [Tr.at_to _ _ _ _ (by omega)] at hi
    by_cases e : i = id
    · rw [if_pos e] at hi; injection hi with hi; exact .inl ⟨e, hi.symm⟩
    · rw [if_neg e] at hi; exact .inr ⟨e, hi⟩
  have old : ∀ i A, (S.heap.to id B').at i = some A → A.live = true → ∃ A', S.heap.at i = some A' ∧ A'.live = true := by
    intro i A hi hA
    rcases hat i A hi with ⟨e, _⟩ | ⟨_, e⟩
    · exact ⟨B, e ▸ hid, hl⟩
    · exact ⟨A, e, hA⟩
  refine ⟨fun i j b m n A C hi hj hA hC => ?_, fun i hi => ⟨(h.dom i hi).1, ?_⟩, h.lim, fun i b n hi => by rw [hs]; exact h.low i b n hi, fun i A hi => ?_⟩
  · obtain ⟨A', h1, h2⟩ := old i A hi hA
    obtain ⟨C', h3, h4⟩ := old j C hj hC
    exact h.inj i j b m n A' C' h1 h3 h2 h4
  · have := h.lim
    show (S.heap.to id B').at i = none
    have hi : S.next ≤ i := hi
    rw [Tr.at_to _ _ _ _ (by omega), if_neg (by omega)]; exact (h.dom i hi).2
  · rcases hat i A hi with ⟨e, e2⟩ | ⟨e, e2⟩
    · subst e; subst e2; exact ⟨b, n, hr, hB⟩
    · obtain ⟨b2, n2, h1, h2⟩ := h.blk i A e2
      refine ⟨b2, n2, h1, ?_⟩
      cases hA : A.live with
      | true => rw [ho b2 fun eb => e (h.inj i id b n2 n A B e2 hid hA hl (eb ▸ h1) hr)]; exact h2
      | false => cases A <;> first | trivial | cases hA

def Rho.set (ρ : Rho) (i : Nat) (p : Nat × Nat) : Rho := fun j => if j = i then some p else ρ j
theorem Rho.le_set {ρ : Rho} {i : Nat} {p : Nat × Nat} (h : ρ i = none) : ρ.le (ρ.set i p) := by
  intro j q hj
  unfold Rho.set
  by_cases e : j = i
  · subst e; rw [h] at hj; cases hj
  · rw [if_neg e]; exact hj
theorem Rho.set_same (ρ : Rho) (i : Nat) (p : Nat × Nat) : ρ.set i p i = some p := by simp [Rho.set]

/-- A new block, under a number that is free. -/
theorem WR.newAt {ρ : Rho} {S : St} {w w' : World} (h : WR ρ S w) {id nx : Nat} {B : AB} {n : Nat} {o : Obj} (hf : ρ id = none) (hid : S.heap.at id = none) (hnx : S.next ≤ nx) (hi : id < nx) (hlim : nx < 1048575)
    (hB : BR (ρ.set id (w.heap.size, n)) n B (some o)) (hw : w'.heap = w.heap.push o) :
    WR (ρ.set id (w.heap.size, n)) ⟨S.heap.to id B, nx⟩ w' := by
  have hle := Rho.le_set (p := (w.heap.size, n)) hf
  have hat : ∀ i A, (S.heap.to id B).at i = some A → (i = id ∧ A = B) ∨ (i ≠ id ∧ S.heap.at i = some A) := by
    intro i A hi
    rw [Tr.at_to _ _ _ _ (by omega)] at hi
    by_cases e : i = id
    · rw [if_pos e] at hi; injection hi with hi; exact .inl ⟨e, hi.symm⟩
    · rw [if_neg e] at hi; exact .inr ⟨e, hi⟩
  have hget : ∀ i p, (ρ.set id (w.heap.size, n)) i = some p → (i = id ∧ p = (w.heap.size, n)) ∨ (i ≠ id ∧ ρ i = some p) := by
    intro i p hi
    unfold Rho.set at hi
    by_cases e : i = id
    · rw [if_pos e] at hi; injection hi with hi; exact .inl ⟨e, hi.symm⟩
    · rw [if_neg e] at hi; exact .inr ⟨e, hi⟩
  refine ⟨fun i j b m k A C hi hj hA hC hri hrj => ?_, fun i hi => ?_, hlim, fun i b k hi => ?_, fun i A hi => ?_⟩
  · rcases hget i _ hri with ⟨e1, p1⟩ | ⟨e1, p1⟩ <;> rcases hget j _ hrj with ⟨e2, p2⟩ | ⟨e2, p2⟩
    · rw [e1, e2]
    · injection p1 with p1; subst p1; exact absurd (h.low j _ _ p2) (Nat.lt_irrefl _)
    · injection p2 with p2; subst p2; exact absurd (h.low i _ _ p1) (Nat.lt_irrefl _)
    · rcases hat i A hi with ⟨e, _⟩ | ⟨_, e3⟩
      · exact absurd e e1
      · rcases hat j C hj with ⟨e, _⟩ | ⟨_, e4⟩
        · exact absurd e e2
        · exact h.inj i j b m k A C e3 e4 hA hC p1 p2
  · have hi' : nx ≤ i := hi
    constructor
    · unfold Rho.set; rw [if_neg (by omega)]; exact (h.dom i (by omega)).1
    · show (S.heap.to id B).at i = none
      rw [Tr.at_to _ _ _ _ (by omega), if_neg (by omega)]; exact (h.dom i (by omega)).2
  · rw [hw, Array.size_push]
    rcases hget i _ hi with ⟨_, e⟩ | ⟨_, e⟩
    · injection e with e; subst e; omega
    · exact Nat.lt_succ_of_lt (h.low i b k e)
  · rcases hat i A hi with ⟨e, e2⟩ | ⟨e, e2⟩
    · subst e; subst e2
      exact ⟨w.heap.size, n, Rho.set_same _ _ _, by rw [hw]; simpa using hB⟩
    · obtain ⟨b2, n2, h1, h2⟩ := h.blk i A e2
      refine ⟨b2, n2, hle _ _ h1, ?_⟩
      have hlt := h.low i _ _ h1
      rw [hw, Array.getElem?_push, if_neg (by omega)]
      exact h2.mono hle

theorem WR.new {ρ : Rho} {S : St} {w w' : World} (h : WR ρ S w) {B : AB} {n : Nat} {o : Obj} (hB : BR (ρ.set S.next (w.heap.size, n)) n B (some o)) (hw : w'.heap = w.heap.push o) (hl : S.next + 1 < 1048575) :
    WR (ρ.set S.next (w.heap.size, n)) ⟨S.heap.to S.next B, S.next + 1⟩ w' :=
  h.newAt (h.dom S.next (Nat.le_refl _)).1 (h.dom S.next (Nat.le_refl _)).2 (Nat.le_succ _) (Nat.lt_succ_self _) hl hB hw

theorem Up.set {K : Nat} {ρ : Rho} {S : St} {w : World} (h : WR ρ S w) (hK : K ≤ S.next) (n : Nat) (B : AB) : Up K S ⟨S.heap.to S.next B, S.next + 1⟩ ρ (ρ.set S.next (w.heap.size, n)) w := by
  have := h.lim
  refine ⟨Rho.le_set (h.dom S.next (Nat.le_refl _)).1, Nat.le_succ _, fun i hi => by unfold Rho.set; rw [if_neg (by omega)], fun i hi h0 => by show (S.heap.to S.next B).at i = none; rw [Tr.at_to _ _ _ _ (by omega), if_neg (by omega)]; exact h0, fun i b m A hA hl hi => ?_⟩
  have hA : (S.heap.to S.next B).at i = some A := hA
  rw [Tr.at_to _ _ _ _ (by omega)] at hA
  unfold Rho.set at hi
  by_cases e : i = S.next
  · rw [if_pos e] at hi; injection hi with hi; injection hi with h1 h2; subst h1; subst e; exact .inr ⟨hK, .inl (Nat.le_refl _)⟩
  · rw [if_neg e] at hi hA; exact .inl ⟨hi, A, hA, hl⟩

theorem Up.upd {K : Nat} {ρ : Rho} {S : St} {w : World} (h : WR ρ S w) {id : Nat} {B B' : AB} (hid : S.heap.at id = some B) (hlv : B.live = true) : Up K S ⟨S.heap.to id B', S.next⟩ ρ ρ w := by
  have hlt : id < S.next := Nat.lt_of_not_le fun hle => by rw [(h.dom id hle).2] at hid; cases hid
  have := h.lim
  refine ⟨Rho.le_refl _, Nat.le_refl _, fun _ _ => rfl, fun i hi h0 => ?_, fun i b m A hA hl hi => .inl ⟨hi, ?_⟩⟩
  · show (S.heap.to id B').at i = none
    rw [Tr.at_to _ _ _ _ (by omega)]
    by_cases e : i = id
    · subst e; rw [h0] at hid; cases hid
    · rw [if_neg e]; exact h0
  have hA : (S.heap.to id B').at i = some A := hA
  rw [Tr.at_to _ _ _ _ (by omega)] at hA
  by_cases e : i = id
  · subst e; exact ⟨B, hid, hlv⟩
  · rw [if_neg e] at hA; exact ⟨A, hA, hl⟩

end Ex
end Go.Proofs.YtjdmkgnlakonbaaGreatDoor
namespace Go.Proofs.YtjdmkgnlakonbaaGreatDoor
namespace Ex

variable {P : Program}

/-- What an operation with an effect gives: a value, and memory. -/
def Eff (K : Nat) (S : St) (ρ : Rho) (w : World) (S' : St) (v : AV) (r : Result Value) : Prop :=
  ∃ x w' σ, r = .ok x w' ∧ Up K S S' ρ σ w ∧ WR σ S' w' ∧ VR σ v x ∧ Fr K S ρ w w'

/-- A load. -/
noncomputable def aLoad (P : Program) (S : St) (t : TypeId) (p : AV) : Option AV :=
  match p, P.underlying t with
  | .ptr id off, some d => match S.heap.at id with
    | some (.cells tr _ _ _) => match tyAgg (some d) with
      | true => match tySize P t with
        | some n => match rd tr n off with
          | some l => some (.agg l)
          | none => none
        | none => none
      | false => tr.at off
    | _ => none
  | _, _ => none
theorem aLoad_ok {S : St} {t : TypeId} {p v : AV} {x : Value} {w : World} {ρ : Rho} (h : aLoad P S t p = some v) (hw : WR ρ S w) (hp : VR ρ p x) : ∃ z, (Instr.loadAt t x).run P w = .ok z w ∧ VR ρ v z := by
  unfold aLoad at h
  split at h
  · rename_i id off d hu
    split at h
    · rename_i tr m e fr hid
      obtain ⟨b, n, hr, c, f, e1, e2, e3, hc, _⟩ := hw.blk id _ hid
      simp only [VR] at hp
      obtain ⟨b', n', hr', e4⟩ := hp
      rw [hr] at hr'; injection hr' with hr'; injection hr' with q1 q2; subst q1; subst q2; subst e4
      have ha := run_isAgg (P := P) (t := t) (by rw [hu]; simp) w
      rw [hu] at ha
      split at h
      · rename_i ht
        rw [ht] at ha
        split at h
        · rename_i k hk
          split at h
          · rename_i l hl
            injection h with h; subst h
            obtain ⟨xs, hx, hlen, hget⟩ := rd_ok hc hl
            refine ⟨.agg xs.toArray, ?_, by simp only [VR]; exact ⟨xs, rfl, hx⟩⟩
            have hload := run_loadCells_list (P := P) w ⟨b, off, none⟩ xs (fun j y hy => by rw [addr_add]; simp [World.cell?, e1, hget j y hy])
            rw [hlen] at hload
            simp [Instr.loadAt, Instr.sureAddr, loadVar, ha, run_size hk, hload]
          · cases h
        · cases h
      · rename_i ht
        rw [ht] at ha
        obtain ⟨_, y, hy, hv⟩ := hc off v h
        refine ⟨y, ?_, hv⟩
        have : w.cell? ⟨b, off, none⟩ = some y := by simp [World.cell?, e1, hy]
        simp [Instr.loadAt, Instr.sureAddr, loadVar, ha, this]
    · cases h
  · cases h

/-- Cells written into a block of the run's own. -/
noncomputable def aWrite (K : Nat) (S : St) (id off : Nat) (vs : List AV) : Option St :=
  match S.heap.at id with
  | some (.cells tr m e true) => Bool.rec none (headC (wr vs tr off) fun tr => fNat m fun m => headC (S.heap.to id (.cells tr m e true)) fun h => fNat S.next fun nx => some ⟨h, nx⟩) (Nat.ble K id && (vs.all AV.one && (Nat.ble (off + vs.length) m && Nat.ble (off + vs.length) 1000000)))
  | _ => none
theorem aWrite_old (K : Nat) (S : St) (id off : Nat) (vs : List AV) : aWrite K S id off vs = match S.heap.at id with
  | some (.cells tr m e true) => Bool.rec none (some ⟨S.heap.to id (.cells (wr vs tr off) m e true), S.next⟩) (Nat.ble K id && (vs.all AV.one && (Nat.ble (off + vs.length) m && Nat.ble (off + vs.length) 1000000)))
  | _ => none := by
  unfold aWrite
  simp only [headC_eq, fNat_eq]
theorem aWrite_ok {K : Nat} {S S' : St} {id off : Nat} {vs : List AV} {xs : List Value} {w : World} {ρ : Rho} {b n : Nat} (h : aWrite K S id off vs = some S') (hw : WR ρ S w) (hr : ρ id = some (b, n)) (hv : VRL ρ vs xs) :
    ∃ w', (storeCells ⟨b, off, none⟩ xs).run P w = .ok () w' ∧ WR ρ S' w' ∧ Fr K S ρ w w' ∧ Up K S S' ρ ρ w := by
  rw [aWrite_old] at h
  split at h
  · rename_i tr m e hid
    cases hcnd : (Nat.ble K id && (vs.all AV.one && (Nat.ble (off + vs.length) m && Nat.ble (off + vs.length) 1000000))) with
    | false => rw [hcnd] at h; cases h
    | true =>
      rw [hcnd] at h
      simp only [Option.some.injEq] at h; subst h
      simp only [Bool.and_eq_true] at hcnd
      obtain ⟨c1, c2, c3, c4⟩ := hcnd
      have c1 : K ≤ id := Nat.le_of_ble_eq_true c1
      have c3 : off + vs.length ≤ m := Nat.le_of_ble_eq_true c3
      have c4 : off + vs.length ≤ 1000000 := Nat.le_of_ble_eq_true c4
      obtain ⟨b', n', hr', c, f, e1, e2, e3, hc, hf⟩ := hw.blk id _ hid
      rw [hr] at hr'; injection hr' with hr'; injection hr' with q1 q2; subst q1; subst q2
      have hf := hf rfl; subst hf
      have hlen := hv.length
      have hst := run_storeCells_at P b off e xs 0 c w e1 (by omega) (ones_ok hv c2)
      refine ⟨_, hst, ?_, ?_, Up.upd hw hid rfl⟩
      · refine hw.upd hid rfl hr ?_ (by simp) (fun k hk => setRow_other w b k _ hk)
        refine ⟨_, (0, 0), setRow_heap w b c _ e (0, 0) e1, ?_, e3, fun j v hj => ?_, fun _ => rfl⟩
        · simp; omega
        · rw [wr_at _ _ _ _ (by omega)] at hj
          by_cases hin : off ≤ j ∧ j < off + vs.length
          · rw [if_pos hin] at hj
            obtain ⟨y, hy, hyv⟩ := hv.get _ v hj
            refine ⟨by omega, y, ?_, hyv⟩
            simp only [List.getElem?_toArray, Nat.add_zero]
            rw [List.append_assoc, List.getElem?_append_right (by simp; omega), List.getElem?_append_left (by simp; omega)]
            rw [← hy]; congr 1; simp; omega
          · rw [if_neg hin] at hj
            obtain ⟨hjm, y, hy, hyv⟩ := hc j v hj
            refine ⟨hjm, y, ?_, hyv⟩
            have hjc : j < c.size := by
              by_cases hh : j < c.size
              · exact hh
              · rw [Array.getElem?_eq_none (by omega)] at hy; cases hy
            simp only [List.getElem?_toArray, Nat.add_zero]
            by_cases hlt : j < off
            · rw [List.append_assoc, List.getElem?_append_left (by simp; omega), List.getElem?_take, if_pos hlt]; simpa using hy
            · rw [List.getElem?_append_right (by simp; omega), List.getElem?_drop]
              have : off + xs.length + (j - (List.take off c.toList ++ xs).length) = j := by simp; omega
              rw [this]; simpa using hy
      · exact ⟨rfl, rfl, rfl, by simp, fun k hk hn => setRow_other w b k _ fun e => hn id n _ c1 hid rfl (e ▸ hr)⟩
  · cases h

/-- A store. -/
noncomputable def aStore (K : Nat) (P : Program) (S : St) (t : TypeId) (p v : AV) : Option St :=
  match p, tySize P t with
  | .ptr id off, some n => Bool.rec none (aWrite K S id off v.cells) (Nat.beq v.cells.length n)
  | _, _ => none
theorem aStore_ok {K : Nat} {S S' : St} {t : TypeId} {p v : AV} {x y : Value} {w : World} {ρ : Rho} (h : aStore K P S t p v = some S') (hw : WR ρ S w) (hp : VR ρ p x) (hv : VR ρ v y) :
    ∃ w', (Instr.storeAt t x y).run P w = .ok () w' ∧ WR ρ S' w' ∧ Fr K S ρ w w' ∧ Up K S S' ρ ρ w := by
  unfold aStore at h
  split at h
  · rename_i id off n hn
    cases hc : Nat.beq v.cells.length n with
    | false => rw [hc] at h; cases h
    | true =>
      rw [hc] at h
      have hl : v.cells.length = n := Nat.eq_of_beq_eq_true hc
      simp only [VR] at hp
      obtain ⟨b, m, hr, e⟩ := hp; subst e
      have hvc := cells_ok hv
      have hlen : y.cells.size = n := by have := hvc.length; rw [hl] at this; simpa using this
      obtain ⟨w', h1, h2, h3, h4⟩ := aWrite_ok (P := P) h hw hr hvc
      exact ⟨w', by simp [Instr.storeAt, Instr.sureAddr, storeVar, run_size hn, hlen, h1], h2, h3, h4⟩
  · cases h

/-- What an operation that makes one new block gives: a value that names it by id, and the block. -/
def Mk (ρ : Rho) (w : World) (id : Nat) (v : AV) (B : AB) (r : Result Value) : Prop :=
  ∃ x o n w', r = .ok x w' ∧ w'.heap = w.heap.push o ∧ w'.os = w.os ∧ w'.tape = w.tape ∧ w'.output = w.output ∧ ∀ σ : Rho, ρ.le σ → σ id = some (w.heap.size, n) → VR σ v x ∧ BR σ n B (some o)

/-- A new row of cells. -/
noncomputable def aRow (e : TypeId) (cs : List AV) : Option AB :=
  Bool.rec none (headC (wr cs .e 0) fun t => fNat cs.length fun n => some (.cells t n e true)) (Nat.ble cs.length 1000000)
theorem aRow_old (e : TypeId) (cs : List AV) : aRow e cs = Bool.rec none (some (.cells (wr cs .e 0) cs.length e true)) (Nat.ble cs.length 1000000) := by
  unfold aRow
  simp only [headC_eq, fNat_eq]
theorem aRow_ok {e : TypeId} {cs : List AV} {xs : List Value} {B : AB} {w : World} {ρ : Rho} (h : aRow e cs = some B) (hv : VRL ρ cs xs) :
    (newRow e xs.toArray).run P w = .ok ⟨w.heap.size, 0, none⟩ (w.alloc (.cells xs.toArray e)) ∧ ∀ σ : Rho, ρ.le σ → BR σ cs.length B (some (.cells xs.toArray e)) := by
  rw [aRow_old] at h
  cases hc : Nat.ble cs.length 1000000 with
  | false => rw [hc] at h; cases h
  | true =>
    rw [hc] at h
    simp only [Option.some.injEq] at h; subst h
    have c2 : cs.length ≤ 1000000 := Nat.le_of_ble_eq_true hc
    have hlen := hv.length
    refine ⟨rfl, fun σ hσ => ⟨xs.toArray, (0, 0), rfl, by simp [hlen], Nat.le_refl _, fun j v hj => ?_, fun _ => rfl⟩⟩
    rw [wr_at _ _ _ _ (by omega)] at hj
    by_cases hin : 0 ≤ j ∧ j < 0 + cs.length
    · rw [if_pos hin] at hj
      obtain ⟨y, hy, hyv⟩ := hv.get _ v hj
      exact ⟨by omega, y, by simpa using hy, VR.mono hσ _ _ hyv⟩
    · rw [if_neg hin, Tr.at_e] at hj; cases hj

theorem Mk.of_row {e : TypeId} {cs : List AV} {xs : List Value} {B : AB} {w : World} {ρ : Rho} {id : Nat} {v : AV} {r : Result Value} {f : Addr → Value} (h : aRow e cs = some B) (hv : VRL ρ cs xs)
    (hr : r = .ok (f ⟨w.heap.size, 0, none⟩) (w.alloc (.cells xs.toArray e))) (hf : ∀ σ : Rho, ρ.le σ → σ id = some (w.heap.size, cs.length) → VR σ v (f ⟨w.heap.size, 0, none⟩)) : Mk ρ w id v B r :=
  ⟨_, _, cs.length, _, hr, rfl, rfl, rfl, rfl, fun σ h1 h2 => ⟨hf σ h1 h2, (aRow_ok (P := default) (w := w) h hv).2 σ h1⟩⟩

end Ex
end Go.Proofs.YtjdmkgnlakonbaaGreatDoor
namespace Go.Proofs.YtjdmkgnlakonbaaGreatDoor
namespace Ex

variable {P : Program}

/-- n cells, the cells of a zero again and again. -/
noncomputable def cyc (zs : List AV) (n : Nat) : Option (List AV) := mapO (fun j => zs[j % zs.length]?) (List.range n)
theorem cyc_ok {ρ : Rho} {zs : List AV} {xs : List Value} (hz : VRL ρ zs xs) {n : Nat} {l : List AV} (h : cyc zs n = some l) : VRL ρ l ((Array.range n).map (xs.toArray[· % xs.toArray.size]!)).toList := by
  have hl := hz.length
  have e : ((Array.range n).map (xs.toArray[· % xs.toArray.size]!)).toList = (List.range n).map fun j => xs.toArray[j % xs.toArray.size]! := by simp
  rw [e]
  refine mapO_VRL (fun j v hj => ?_) h
  obtain ⟨x, hx, hv⟩ := hz.get _ v hj
  simp only [List.size_toArray, hl]
  have : xs.toArray[j % zs.length]! = x := by simp [getElem!_def, hx]
  rw [this]; exact hv

/-- The zero's cells of a type, n of them, if there is one to be made at all. -/
noncomputable def aZeros (P : Program) (e : TypeId) (n : Nat) : Option (List AV) :=
  Nat.rec (some []) (fun m _ => match aZero P e with
    | some z => cyc z.cells (Nat.succ m)
    | none => none) n
theorem aZeros_ok {e : TypeId} {n : Nat} {l : List AV} (h : aZeros P e n = some l) (ρ : Rho) (w : World) :
    (n = 0 ∧ l = []) ∨ (n ≠ 0 ∧ ∃ z, (zeroValue e).run P w = .ok z w ∧ VRL ρ l ((Array.range n).map (z.cells[· % z.cells.size]!)).toList) := by
  cases n with
  | zero =>
    have h : some [] = some l := h
    injection h with h; exact .inl ⟨rfl, h.symm⟩
  | succ m =>
    have h : (match aZero P e with | some z => cyc z.cells (m + 1) | none => none) = some l := h
    split at h
    · rename_i z hz
      obtain ⟨x, hx, hv⟩ := aZero_ok hz ρ w
      refine .inr ⟨by omega, x, hx, ?_⟩
      have := cyc_ok (cells_ok hv) h
      simpa using this
    · cases h

/-- make([]T, len, cap). -/
noncomputable def aMake (P : Program) (id : Nat) (t : TypeId) (a b : AV) : Option (AV × AB) :=
  match P.underlying t, a, b with
  | some (.slice e), .int _ m, .int _ n => match P.info? e, ix 1000000 m, ix 1000000 n with
    | some i, some l, some c => match Nat.ble l c && Nat.ble (Nat.mul i.bytes 1000000) 140737488355328 with
      | true => match aZeros P e (Nat.mul c i.size) with
        | some cs => match aRow e cs with
          | some B => some (.sl id 0 l c, B)
          | none => none
        | none => none
      | false => none
    | _, _, _ => none
  | _, _, _ => none
theorem aMake_ok {id : Nat} {B : AB} {t : TypeId} {a b v : AV} {x y : Value} {w : World} {ρ : Rho} (h : aMake P id t a b = some (v, B)) (ha : VR ρ a x) (hb : VR ρ b y) :
    Mk ρ w id v B ((Instr.makeSlice t x y).run P w) := by
  unfold aMake at h
  split at h
  · rename_i e k1 m k2 n hu
    split at h
    · rename_i i l c hi hl hc
      split at h
      · rename_i hcnd
        split at h
        · rename_i cs hcs
          split at h
          · rename_i B1 hS
            injection h with h; injection h with h1 h2; subst h1; subst h2
            simp only [VR] at ha hb; subst ha; subst hb
            obtain ⟨e1, hlt⟩ := ix_ok hl; obtain ⟨e2, hct⟩ := ix_ok hc; subst e1; subst e2
            simp only [Bool.and_eq_true] at hcnd
            have c1 : l ≤ c := Nat.le_of_ble_eq_true hcnd.1
            have c2 : i.bytes * 1000000 ≤ 140737488355328 := Nat.le_of_ble_eq_true hcnd.2
            have wl : IntKind.i64.wrap (l : Int) = l := by rw [← fwrap_eq]; show fwrap .i64 (.ofNat l) = _; unfold fwrap; show (Bool.rec _ _ (Nat.blt l (top .i64)) : Int) = _; rw [blt_t (by show l < 9223372036854775808; omega)]; rfl
            have wc : IntKind.i64.wrap (c : Int) = c := by rw [← fwrap_eq]; show fwrap .i64 (.ofNat c) = _; unfold fwrap; show (Bool.rec _ _ (Nat.blt c (top .i64)) : Int) = _; rw [blt_t (by show c < 9223372036854775808; omega)]; rfl
            have hbig : ∀ z : Nat, z < 1000000 → ¬ ((i.bytes : Int) * (z : Int) > 2 ^ 48) := by
              intro z hz hgt
              have : i.bytes * z ≤ i.bytes * 1000000 := Nat.mul_le_mul_left _ (by omega)
              have h3 : ((i.bytes * z : Nat) : Int) > 2 ^ 48 := by simpa using hgt
              have : (2 : Int) ^ 48 = 281474976710656 := by decide
              omega
            have hroom : ¬ (c * i.bytes > roomBytes) := by
              have h3 : c * i.bytes ≤ 1000000 * i.bytes := Nat.mul_le_mul_right _ (by omega)
              have : roomBytes = 140737488355328 := by decide
              omega
            have g1 : ¬ ((decide ((c : Int) < 0) || decide ((i.bytes : Int) * (c : Int) > 2 ^ 48)) || decide ((l : Int) < 0) || decide ((l : Int) > (c : Int))) = true := by
              have := hbig c hct
              simp only [Bool.or_eq_true, decide_eq_true_eq, not_or]; exact ⟨⟨⟨by omega, this⟩, by omega⟩, by omega⟩
            have hsz : tySize P e = some i.size := by simp [tySize, hi]
            have har : (askRoom (c * i.bytes)).run P w = .ok () w := by simp [askRoom, hroom]
            rcases aZeros_ok hcs ρ w with ⟨h0, hcs0⟩ | ⟨h0, z, hz, hv⟩
            · subst hcs0
              have h0 : c * i.size = 0 := h0
              have h1 : (newRow e #[]).run P w = .ok ⟨w.heap.size, 0, none⟩ (w.alloc (.cells #[] e)) := rfl
              refine Mk.of_row (f := fun a => .slice (some a) l c) (xs := []) hS (show VRL ρ [] [] by simp [VRL]) ?_ (fun σ _ hσ => by simp only [VR]; exact ⟨_, _, hσ, rfl⟩)
              simp only [Instr.makeSlice, Sem.run_bind, run_underlying hu, Result.andThen_ok, asInt, asIntOf, Sem.run_pure, run_typeInfo w hi, wl, wc, if_neg g1, Int.toNat_natCast, har, run_size hsz, h0, if_true]
              have e3 : (Array.range 0).map ((#[] : Array Value)[· % (#[] : Array Value).size]!) = #[] := by simp
              rw [e3, h1]; rfl
            · have h0 : ¬ c * i.size = 0 := h0
              refine Mk.of_row (f := fun a => .slice (some a) l c) hS hv ?_ (fun σ _ hσ => by simp only [VR]; exact ⟨_, _, hσ, rfl⟩)
              rw [Array.toArray_toList]
              have h1 : ∀ cs, (newRow e cs).run P w = .ok ⟨w.heap.size, 0, none⟩ (w.alloc (.cells cs e)) := fun _ => rfl
              simp only [Instr.makeSlice, Sem.run_bind, run_underlying hu, Result.andThen_ok, asInt, asIntOf, Sem.run_pure, run_typeInfo w hi, wl, wc, if_neg g1, Int.toNat_natCast, har, run_size hsz, if_neg h0, hz, h1]
              rfl
          · cases h
        · cases h
      · cases h
    · cases h
  · cases h

end Ex
end Go.Proofs.YtjdmkgnlakonbaaGreatDoor
