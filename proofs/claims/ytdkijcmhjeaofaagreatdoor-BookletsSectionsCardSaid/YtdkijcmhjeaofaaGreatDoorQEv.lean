/- Joined texts. A closed-run executor, part 13: loads, stores, new variables and slices. No program is named; no condition. · A closed-run executor, part 14: make, slice literals, append, copy. No program is named; no condition. · A closed-run executor, part 15: append and copy. No program is named; no condition. · A closed-run executor, part 16: append. No program is named; no condition. · A closed-run executor, part 17: append and copy, the operations. No program is named; no condition. · A closed-run executor, part 18: append and copy are as the model has them. No program is named; no condition. · A closed-run executor, part 19: operations that make a block. No program is named; no condition. · A closed-run executor, part 20: all operations that make a block; copy; append to nil of what make makes. No program is named; no condition. · A closed-run executor, part 21: append to nil of what make makes; unsafe.String, SliceData; conversions that look at memory. No program is named; no condition. · A closed-run executor, part 22: unsafe.String, SliceData; conversions that look at memory. No program is named; no condition. -/
import Derived.Test.YtdkijcmhjeaofaaGreatDoorQEl
namespace Go.Proofs.YtdkijcmhjeaofaaGreatDoor
namespace Ex

variable {P : Program}

/-- What an operation with an effect gives: a value, and memory. -/
def Eff (K : Nat) (S : St) (ρ : Rho) (w : World) (S' : St) (v : AV) (r : Result Value) : Prop :=
  ∃ x w' σ, r = .ok x w' ∧ Up K S S' ρ σ w ∧ WR σ S' w' ∧ VR σ v x ∧ Fr K S ρ w w'

/-- A load. -/
noncomputable def aLoad (P : Program) (S : St) (t : TypeId) (p : AV) : Option AV :=
  match p, P.underlying t with
  | .ptr id off, some d => match S.heap.at id with
    | some (.cells tr _ _ _) => match tyAgg (some d) with
      | true => match tySize P t with
        | some n => match rd tr n off with
          | some l => some (.agg l)
          | none => none
        | none => none
      | false => tr.at off
    | _ => none
  | _, _ => none
theorem aLoad_ok {S : St} {t : TypeId} {p v : AV} {x : Value} {w : World} {ρ : Rho} (h : aLoad P S t p = some v) (hw : WR ρ S w) (hp : VR ρ p x) : ∃ z, (Instr.loadAt t x).run P w = .ok z w ∧ VR ρ v z := by
  unfold aLoad at h
  split at h
  · rename_i id off d hu
    split at h
    · rename_i tr m e fr hid
      obtain ⟨b, n, hr, c, f, e1, e2, e3, hc, _⟩ := hw.blk id _ hid
      simp only [VR] at hp
      obtain ⟨b', n', hr', e4⟩ := hp
      rw [hr] at hr'; injection hr' with hr'; injection hr' with q1 q2; subst q1; subst q2; subst e4
      have ha := run_isAgg (P := P) (t := t) (by rw [hu]; simp) w
      rw [hu] at ha
      split at h
      · rename_i ht
        rw [ht] at ha
        split at h
        · rename_i k hk
          split at h
          · rename_i l hl
            injection h with h; subst h
            obtain ⟨xs, hx, hlen, hget⟩ := rd_ok hc hl
            refine ⟨.agg xs.toArray, ?_, by simp only [VR]; exact ⟨xs, rfl, hx⟩⟩
            have hload := run_loadCells_list (P := P) w ⟨b, off, none⟩ xs (fun j y hy => by rw [addr_add]; simp [World.cell?, e1, hget j y hy])
            rw [hlen] at hload
            simp [Instr.loadAt, Instr.sureAddr, loadVar, ha, run_size hk, hload]
          · cases h
        · cases h
      · rename_i ht
        rw [ht] at ha
        obtain ⟨_, y, hy, hv⟩ := hc off v h
        refine ⟨y, ?_, hv⟩
        have : w.cell? ⟨b, off, none⟩ = some y := by simp [World.cell?, e1, hy]
        simp [Instr.loadAt, Instr.sureAddr, loadVar, ha, this]
    · cases h
  · cases h

/-- Cells written into a block of the run's own. -/
noncomputable def aWrite (K : Nat) (S : St) (id off : Nat) (vs : List AV) : Option St :=
  match S.heap.at id with
  | some (.cells tr m e true) => Bool.rec none (headC (wr vs tr off) fun tr => fNat m fun m => headC (S.heap.to id (.cells tr m e true)) fun h => fNat S.next fun nx => some ⟨h, nx⟩) (Nat.ble K id && (vs.all AV.one && (Nat.ble (off + vs.length) m && Nat.ble (off + vs.length) 1000000)))
  | _ => none
theorem aWrite_old (K : Nat) (S : St) (id off : Nat) (vs : List AV) : aWrite K S id off vs = match S.heap.at id with
  | some (.cells tr m e true) => Bool.rec none (some ⟨S.heap.to id (.cells (wr vs tr off) m e true), S.next⟩) (Nat.ble K id && (vs.all AV.one && (Nat.ble (off + vs.length) m && Nat.ble (off + vs.length) 1000000)))
  | _ => none := by
  unfold aWrite
  simp only [headC_eq, fNat_eq]
theorem aWrite_ok {K : Nat} {S S' : St} {id off : Nat} {vs : List AV} {xs : List Value} {w : World} {ρ : Rho} {b n : Nat} (h : aWrite K S id off vs = some S') (hw : WR ρ S w) (hr : ρ id = some (b, n)) (hv : VRL ρ vs xs) :
    ∃ w', (storeCells ⟨b, off, none⟩ xs).run P w = .ok () w' ∧ WR ρ S' w' ∧ Fr K S ρ w w' ∧ Up K S S' ρ ρ w := by
  rw [aWrite_old] at h
  split at h
  · rename_i tr m e hid
    cases hcnd : (Nat.ble K id && (vs.all AV.one && (Nat.ble (off + vs.length) m && Nat.ble (off + vs.length) 1000000))) with
    | false => rw [hcnd] at h; cases h
    | true =>
      rw [hcnd] at h
      simp only [Option.some.injEq] at h; subst h
      simp only [Bool.and_eq_true] at hcnd
      obtain ⟨c1, c2, c3, c4⟩ := hcnd
      have c1 : K ≤ id := Nat.le_of_ble_eq_true c1
      have c3 : off + vs.length ≤ m := Nat.le_of_ble_eq_true c3
      have c4 : off + vs.length ≤ 1000000 := Nat.le_of_ble_eq_true c4
      obtain ⟨b', n', hr', c, f, e1, e2, e3, hc, hf⟩ := hw.blk id _ hid
      rw [hr] at hr'; injection hr' with hr'; injection hr' with q1 q2; subst q1; subst q2
      have hf := hf rfl; subst hf
      have hlen := hv.length
      have hst := run_storeCells_at P b off e xs 0 c w e1 (by omega) (ones_ok hv c2)
      refine ⟨_, hst, ?_, ?_, Up.upd hw hid rfl⟩
      · refine hw.upd hid rfl hr ?_ (by simp) (fun k hk => setRow_other w b k _ hk)
        refine ⟨_, (0, 0), setRow_heap w b c _ e (0, 0) e1, ?_, e3, fun j v hj => ?_, fun _ => rfl⟩
        · simp; omega
        · rw [wr_at _ _ _ _ (by omega)] at hj
          by_cases hin : off ≤ j ∧ j < off + vs.length
          · rw [if_pos hin] at hj
            obtain ⟨y, hy, hyv⟩ := hv.get _ v hj
            refine ⟨by omega, y, ?_, hyv⟩
            simp only [List.getElem?_toArray, Nat.add_zero]
            rw [List.append_assoc, List.getElem?_append_right (by simp; omega), List.getElem?_append_left (by simp; omega)]
            rw [← hy]; congr 1; simp; omega
          · rw [if_neg hin] at hj
            obtain ⟨hjm, y, hy, hyv⟩ := hc j v hj
            refine ⟨hjm, y, ?_, hyv⟩
            have hjc : j < c.size := by
              by_cases hh : j < c.size
              · exact hh
              · rw [Array.getElem?_eq_none (by omega)] at hy; cases hy
            simp only [List.getElem?_toArray, Nat.add_zero]
            by_cases hlt : j < off
            · rw [List.append_assoc, List.getElem?_append_left (by simp; omega), List.getElem?_take, if_pos hlt]; simpa using hy
            · rw [List.getElem?_append_right (by simp; omega), List.getElem?_drop]
              have : off + xs.length + (j - (List.take off c.toList ++ xs).length) = j := by simp; omega
              rw [this]; simpa using hy
      · exact ⟨rfl, rfl, rfl, by simp, fun k hk hn => setRow_other w b k _ fun e => hn id n _ c1 hid rfl (e ▸ hr)⟩
  · cases h

/-- A store. -/
noncomputable def aStore (K : Nat) (P : Program) (S : St) (t : TypeId) (p v : AV) : Option St :=
  match p, tySize P t with
  | .ptr id off, some n => Bool.rec none (aWrite K S id off v.cells) (Nat.beq v.cells.length n)
  | _, _ => none
theorem aStore_ok {K : Nat} {S S' : St} {t : TypeId} {p v : AV} {x y : Value} {w : World} {ρ : Rho} (h : aStore K P S t p v = some S') (hw : WR ρ S w) (hp : VR ρ p x) (hv : VR ρ v y) :
    ∃ w', (Instr.storeAt t x y).run P w = .ok () w' ∧ WR ρ S' w' ∧ Fr K S ρ w w' ∧ Up K S S' ρ ρ w := by
  unfold aStore at h
  split at h
  · rename_i id off n hn
    cases hc : Nat.beq v.cells.length n with
    | false => rw [hc] at h; cases h
    | true =>
      rw [hc] at h
      have hl : v.cells.length = n := Nat.eq_of_beq_eq_true hc
      simp only [VR] at hp
      obtain ⟨b, m, hr, e⟩ := hp; subst e
      have hvc := cells_ok hv
      have hlen : y.cells.size = n := by have := hvc.length; rw [hl] at this; simpa using this
      obtain ⟨w', h1, h2, h3, h4⟩ := aWrite_ok (P := P) h hw hr hvc
      exact ⟨w', by simp [Instr.storeAt, Instr.sureAddr, storeVar, run_size hn, hlen, h1], h2, h3, h4⟩
  · cases h

/-- What an operation that makes one new block gives: a value that names it by id, and the block. -/
def Mk (ρ : Rho) (w : World) (id : Nat) (v : AV) (B : AB) (r : Result Value) : Prop :=
  ∃ x o n w', r = .ok x w' ∧ w'.heap = w.heap.push o ∧ w'.os = w.os ∧ w'.tape = w.tape ∧ w'.output = w.output ∧ ∀ σ : Rho, ρ.le σ → σ id = some (w.heap.size, n) → VR σ v x ∧ BR σ n B (some o)

/-- A new row of cells. -/
noncomputable def aRow (e : TypeId) (cs : List AV) : Option AB :=
  Bool.rec none (headC (wr cs .e 0) fun t => fNat cs.length fun n => some (.cells t n e true)) (Nat.ble cs.length 1000000)
theorem aRow_old (e : TypeId) (cs : List AV) : aRow e cs = Bool.rec none (some (.cells (wr cs .e 0) cs.length e true)) (Nat.ble cs.length 1000000) := by
  unfold aRow
  simp only [headC_eq, fNat_eq]
theorem aRow_ok {e : TypeId} {cs : List AV} {xs : List Value} {B : AB} {w : World} {ρ : Rho} (h : aRow e cs = some B) (hv : VRL ρ cs xs) :
    (newRow e xs.toArray).run P w = .ok ⟨w.heap.size, 0, none⟩ (w.alloc (.cells xs.toArray e)) ∧ ∀ σ : Rho, ρ.le σ → BR σ cs.length B (some (.cells xs.toArray e)) := by
  rw [aRow_old] at h
  cases hc : Nat.ble cs.length 1000000 with
  | false => rw [hc] at h; cases h
  | true =>
    rw [hc] at h
    simp only [Option.some.injEq] at h; subst h
    have c2 : cs.length ≤ 1000000 := Nat.le_of_ble_eq_true hc
    have hlen := hv.length
    refine ⟨rfl, fun σ hσ => ⟨xs.toArray, (0, 0), rfl, by simp [hlen], Nat.le_refl _, fun j v hj => ?_, fun _ => rfl⟩⟩
    rw [wr_at _ _ _ _ (by omega)] at hj
    by_cases hin : 0 ≤ j ∧ j < 0 + cs.length
    · rw [if_pos hin] at hj
      obtain ⟨y, hy, hyv⟩ := hv.get _ v hj
      exact ⟨by omega, y, by simpa using hy, VR.mono hσ _ _ hyv⟩
    · rw [if_neg hin, Tr.at_e] at hj; cases hj

theorem Mk.of_row {e : TypeId} {cs : List AV} {xs : List Value} {B : AB} {w : World} {ρ : Rho} {id : Nat} {v : AV} {r : Result Value} {f : Addr → Value} (h : aRow e cs = some B) (hv : VRL ρ cs xs)
    (hr : r = .ok (f ⟨w.heap.size, 0, none⟩) (w.alloc (.cells xs.toArray e))) (hf : ∀ σ : Rho, ρ.le σ → σ id = some (w.heap.size, cs.length) → VR σ v (f ⟨w.heap.size, 0, none⟩)) : Mk ρ w id v B r :=
  ⟨_, _, cs.length, _, hr, rfl, rfl, rfl, rfl, fun σ h1 h2 => ⟨hf σ h1 h2, (aRow_ok (P := default) (w := w) h hv).2 σ h1⟩⟩

end Ex
end Go.Proofs.YtdkijcmhjeaofaaGreatDoor
namespace Go.Proofs.YtdkijcmhjeaofaaGreatDoor
namespace Ex

variable {P : Program}

/-- n cells, the cells of a zero again and again. -/
noncomputable def cyc (zs : List AV) (n : Nat) : Option (List AV) := mapO (fun j => zs[j % zs.length]?) (List.range n)
theorem cyc_ok {ρ : Rho} {zs : List AV} {xs : List Value} (hz : VRL ρ zs xs) {n : Nat} {l : List AV} (h : cyc zs n = some l) : VRL ρ l ((Array.range n).map (xs.toArray[· % xs.toArray.size]!)).toList := by
  have hl := hz.length
  have e : ((Array.range n).map (xs.toArray[· % xs.toArray.size]!)).toList = (List.range n).map fun j => xs.toArray[j % xs.toArray.size]! := by simp
  rw [e]
  refine mapO_VRL (fun j v hj => ?_) h
  obtain ⟨x, hx, hv⟩ := hz.get _ v hj
  simp only [List.size_toArray, hl]
  have : xs.toArray[j % zs.length]! = x := by simp [getElem!_def, hx]
  rw [this]; exact hv

/-- The zero's cells of a type, n of them, if there is one to be made at all. -/
noncomputable def aZeros (P : Program) (e : TypeId) (n : Nat) : Option (List AV) :=
  Nat.rec (some []) (fun m _ => match aZero P e with
    | some z => cyc z.cells (Nat.succ m)
    | none => none) n
theorem aZeros_ok {e : TypeId} {n : Nat} {l : List AV} (h : aZeros P e n = some l) (ρ : Rho) (w : World) :
    (n = 0 ∧ l = []) ∨ (n ≠ 0 ∧ ∃ z, (zeroValue e).run P w = .ok z w ∧ VRL ρ l ((Array.range n).map (z.cells[· % z.cells.size]!)).toList) := by
  cases n with
  | zero =>
    have h : some [] = some l := h
    injection h with h; exact .inl ⟨rfl, h.symm⟩
  | succ m =>
    have h : (match aZero P e with | some z => cyc z.cells (m + 1) | none => none) = some l := h
    split at h
    · rename_i z hz
      obtain ⟨x, hx, hv⟩ := aZero_ok hz ρ w
      refine .inr ⟨by omega, x, hx, ?_⟩
      have := cyc_ok (cells_ok hv) h
      simpa using this
    · cases h

/-- make([]T, len, cap). -/
noncomputable def aMake (P : Program) (id : Nat) (t : TypeId) (a b : AV) : Option (AV × AB) :=
  match P.underlying t, a, b with
  | some (.slice e), .int _ m, .int _ n => match P.info? e, ix 1000000 m, ix 1000000 n with
    | some i, some l, some c => match Nat.ble l c && Nat.ble (Nat.mul i.bytes 1000000) 140737488355328 with
      | true => match aZeros P e (Nat.mul c i.size) with
        | some cs => match aRow e cs with
          | some B => some (.sl id 0 l c, B)
          | none => none
        | none => none
      | false => none
    | _, _, _ => none
  | _, _, _ => none
theorem aMake_ok {id : Nat} {B : AB} {t : TypeId} {a b v : AV} {x y : Value} {w : World} {ρ : Rho} (h : aMake P id t a b = some (v, B)) (ha : VR ρ a x) (hb : VR ρ b y) :
    Mk ρ w id v B ((Instr.makeSlice t x y).run P w) := by
  unfold aMake at h
  split at h
  · rename_i e k1 m k2 n hu
    split at h
    · rename_i i l c hi hl hc
      split at h
      · rename_i hcnd
        split at h
        · rename_i cs hcs
          split at h
          · rename_i B1 hS
            injection h with h; injection h with h1 h2; subst h1; subst h2
            simp only [VR] at ha hb; subst ha; subst hb
            obtain ⟨e1, hlt⟩ := ix_ok hl; obtain ⟨e2, hct⟩ := ix_ok hc; subst e1; subst e2
            simp only [Bool.and_eq_true] at hcnd
            have c1 : l ≤ c := Nat.le_of_ble_eq_true hcnd.1
            have c2 : i.bytes * 1000000 ≤ 140737488355328 := Nat.le_of_ble_eq_true hcnd.2
            have wl : IntKind.i64.wrap (l : Int) = l := by rw [← fwrap_eq]; show fwrap .i64 (.ofNat l) = _; unfold fwrap; show (Bool.rec _ _ (Nat.blt l (top .i64)) : Int) = _; rw [blt_t (by show l < 9223372036854775808; omega)]; rfl
            have wc : IntKind.i64.wrap (c : Int) = c := by rw [← fwrap_eq]; show fwrap .i64 (.ofNat c) = _; unfold fwrap; show (Bool.rec _ _ (Nat.blt c (top .i64)) : Int) = _; rw [blt_t (by show c < 9223372036854775808; omega)]; rfl
            have hbig : ∀ z : Nat, z < 1000000 → ¬ ((i.bytes : Int) * (z : Int) > 2 ^ 48) := by
              intro z hz hgt
              have : i.bytes * z ≤ i.bytes * 1000000 := Nat.mul_le_mul_left _ (by omega)
              have h3 : ((i.bytes * z : Nat) : Int) > 2 ^ 48 := by simpa using hgt
              have : (2 : Int) ^ 48 = 281474976710656 := by decide
              omega
            have hroom : ¬ (c * i.bytes > roomBytes) := by
              have h3 : c * i.bytes ≤ 1000000 * i.bytes := Nat.mul_le_mul_right _ (by omega)
              have : roomBytes = 140737488355328 := by decide
              omega
            have g1 : ¬ ((decide ((c : Int) < 0) || decide ((i.bytes : Int) * (c : Int) > 2 ^ 48)) || decide ((l : Int) < 0) || decide ((l : Int) > (c : Int))) = true := by
              have := hbig c hct
              simp only [Bool.or_eq_true, decide_eq_true_eq, not_or]; exact ⟨⟨⟨by omega, this⟩, by omega⟩, by omega⟩
            have hsz : tySize P e = some i.size := by simp [tySize, hi]
            have har : (askRoom (c * i.bytes)).run P w = .ok () w := by simp [askRoom, hroom]
            rcases aZeros_ok hcs ρ w with ⟨h0, hcs0⟩ | ⟨h0, z, hz, hv⟩
            · subst hcs0
              have h0 : c * i.size = 0 := h0
              have h1 : (newRow e #[]).run P w = .ok ⟨w.heap.size, 0, none⟩ (w.alloc (.cells #[] e)) := rfl
              refine Mk.of_row (f := fun a => .slice (some a) l c) (xs := []) hS (show VRL ρ [] [] by simp [VRL]) ?_ (fun σ _ hσ => by simp only [VR]; exact ⟨_, _, hσ, rfl⟩)
              simp only [Instr.makeSlice, Sem.run_bind, run_underlying hu, Result.andThen_ok, asInt, asIntOf, Sem.run_pure, run_typeInfo w hi, wl, wc, if_neg g1, Int.toNat_natCast, har, run_size hsz, h0, if_true]
              have e3 : (Array.range 0).map ((#[] : Array Value)[· % (#[] : Array Value).size]!) = #[] := by simp
              rw [e3, h1]; rfl
            · have h0 : ¬ c * i.size = 0 := h0
              refine Mk.of_row (f := fun a => .slice (some a) l c) hS hv ?_ (fun σ _ hσ => by simp only [VR]; exact ⟨_, _, hσ, rfl⟩)
              rw [Array.toArray_toList]
              have h1 : ∀ cs, (newRow e cs).run P w = .ok ⟨w.heap.size, 0, none⟩ (w.alloc (.cells cs e)) := fun _ => rfl
              simp only [Instr.makeSlice, Sem.run_bind, run_underlying hu, Result.andThen_ok, asInt, asIntOf, Sem.run_pure, run_typeInfo w hi, wl, wc, if_neg g1, Int.toNat_natCast, har, run_size hsz, if_neg h0, hz, h1]
              rfl
          · cases h
        · cases h
      · cases h
    · cases h
  · cases h

end Ex
end Go.Proofs.YtdkijcmhjeaofaaGreatDoor
namespace Go.Proofs.YtdkijcmhjeaofaaGreatDoor
namespace Ex

variable {P : Program}

theorem WR.drew {ρ : Rho} {S : St} {w : World} (h : WR ρ S w) : WR ρ S w.drew := ⟨h.inj, h.dom, h.lim, h.low, h.blk⟩
theorem Fr.drew {K : Nat} {S : St} {ρ : Rho} {w w' : World} (h : Fr K S ρ w.drew w') : Fr K S ρ w w' := ⟨h.os, h.tape, h.output, h.size, h.block⟩
theorem Up.drew {K : Nat} {S S' : St} {ρ σ : Rho} {w : World} (h : Up K S S' ρ σ w.drew) : Up K S S' ρ σ w := ⟨h.le, h.next, h.old, h.keep, h.new⟩

/-- How many elements a slice or a string has. -/
def lenAV : AV → Option Nat
  | .sl _ _ len _ => some len
  | .slu _ _ len _ _ => some len
  | .nilSl => some 0
  | .str l => some l.length
  | _ => none
theorem lenAV_ok {ρ : Rho} {v : AV} {x : Value} {n : Nat} (h : lenAV v = some n) (hv : VR ρ v x) (w : World) : (Builtin.lenOf x).run P w = .ok n w := by
  unfold lenAV at h
  split at h <;> first | cases h | skip
  · simp only [VR] at hv; obtain ⟨_, _, _, e⟩ := hv; subst e; rfl
  · simp only [VR] at hv; obtain ⟨_, _, _, _, e, _⟩ := hv; subst e; rfl
  · simp only [VR] at hv; subst hv; rfl
  · simp only [VR] at hv; obtain ⟨e, _⟩ := hv; subst e
    show Result.ok (bytesOf _).size w = _
    rw [bytesOf_size]

/-- The first n elements of a slice or a string. -/
noncomputable def aRead (S : St) (size n : Nat) : AV → Option (List AV)
  | .sl id off _ _ => rdAt S id off (Nat.mul n size)
  | .slu id off _ _ _ => rdAt S id off (Nat.mul n size)
  | .nilSl => some []
  | .str l => Bool.rec none (some ((l.take n).map fun b => .int .u8 (.ofNat b))) (Nat.beq size 1)
  | _ => none
where
  rdAt (S : St) (id off n : Nat) : Option (List AV) := match S.heap.at id with
    | some (.cells tr _ _ _) => rd tr n off
    | _ => none
theorem rdAt_ok {ρ : Rho} {S : St} {w : World} (hw : WR ρ S w) {id off n b m : Nat} {l : List AV} (h : aRead.rdAt S id off n = some l) (hr : ρ id = some (b, m)) :
    ∃ xs, VRL ρ l xs ∧ xs.length = n ∧ (loadCells ⟨b, off, none⟩ n).run P w = .ok xs.toArray w := by
  unfold aRead.rdAt at h
  split at h
  · rename_i tr k e f hid
    obtain ⟨b', m', hr', c, fz, e1, e2, e3, hc, _⟩ := hw.blk id _ hid
    rw [hr] at hr'; injection hr' with hr'; injection hr' with q1 q2; subst q1; subst q2
    obtain ⟨xs, hx, hlen, hget⟩ := rd_ok hc h
    refine ⟨xs, hx, hlen, ?_⟩
    have hload := run_loadCells_list (P := P) w ⟨b, off, none⟩ xs (fun j y hy => by rw [addr_add]; simp [World.cell?, e1, hget j y hy])
    rw [hlen] at hload; exact hload
  · cases h
theorem aRead_ok {ρ : Rho} {S : St} {w : World} (hw : WR ρ S w) {size n : Nat} {v : AV} {x : Value} {l : List AV} (h : aRead S size n v = some l) (hv : VR ρ v x) :
    ∃ xs, VRL ρ l xs ∧ (Builtin.firstCells size n x).run P w = .ok xs.toArray w := by
  unfold aRead at h
  split at h
  · simp only [VR] at hv; obtain ⟨b, m, hr, e⟩ := hv; subst e
    obtain ⟨xs, h1, _, h2⟩ := rdAt_ok (P := P) hw h hr
    exact ⟨xs, h1, h2⟩
  · simp only [VR] at hv; obtain ⟨b, m, c, hr, e, _⟩ := hv; subst e
    obtain ⟨xs, h1, _, h2⟩ := rdAt_ok (P := P) hw h hr
    exact ⟨xs, h1, h2⟩
  · injection h with h; subst h; simp only [VR] at hv; subst hv
    exact ⟨[], by simp [VRL], rfl⟩
  · rename_i l'
    simp only [VR] at hv; obtain ⟨e, hb⟩ := hv; subst e
    cases hs : Nat.beq size 1 with
    | false => rw [hs] at h; cases h
    | true =>
      rw [hs] at h
      simp only [Option.some.injEq] at h; subst h
      refine ⟨(l'.take n).map fun b => .int .u8 (.ofNat b), ?_, ?_⟩
      · refine VRL.of_get (by simp) fun i v x hi hx => ?_
        simp only [List.getElem?_map, Option.map_eq_some_iff] at hi hx
        obtain ⟨a, ha, rfl⟩ := hi
        obtain ⟨a', ha', rfl⟩ := hx
        rw [ha] at ha'; injection ha' with ha'; subst ha'
        simp only [VR]
      · simp only [Builtin.firstCells, Sem.run_pure]
        congr 1
        apply Array.ext'
        simp only [bytesOf, ByteArray.data_extract, Array.toList_map, List.extract_toArray, List.extract_eq_take_drop, Nat.sub_zero, List.drop_zero, ← List.map_take, List.map_map]
        refine List.map_congr_left fun b hb' => ?_
        have : b < 256 := hb b (List.mem_of_mem_take hb')
        simp [Nat.mod_eq_of_lt this]
  · cases h

/-- What a slice may be appended to, or copied from. -/
def srcTy : Option TypeDesc → Bool
  | some (.slice _) | some .string => true
  | _ => false

theorem srcTy_cases {o : Option TypeDesc} (h : srcTy o = true) : (∃ e, o = some (.slice e)) ∨ o = some .string := by
  cases o with
  | none => cases h
  | some d => cases d <;> first | exact .inr rfl | exact .inl ⟨_, rfl⟩ | cases h

theorem run_append_in {sT xT ty elem : TypeId} {w w' : World} {b off sLen sCap n size : Nat} {y : Value} {new : Array Value} (hu : P.underlying sT = some (.slice elem)) (hx : srcTy (P.underlying xT) = true)
    (hs : tySize P elem = some size) (hn : (Builtin.lenOf y).run P w = .ok n w) (hc : sLen + n ≤ sCap) (hf : (Builtin.firstCells size n y).run P w = .ok new w)
    (hst : (storeCells ⟨b, off + sLen * size, none⟩ new.toList).run P w = .ok () w') :
    (Builtin.append_ #[sT, xT] ty #[.slice (some ⟨b, off, none⟩) sLen sCap, y]).run P w = .ok (.slice (some ⟨b, off, none⟩) (sLen + n) sCap) w' := by
  rcases srcTy_cases hx with ⟨e, hd⟩ | hd
  · simp [Builtin.append_, run_underlying hu, run_underlying hd, run_size hs, hn, hc, hf, addr_add, hst]
  · simp [Builtin.append_, run_underlying hu, run_underlying hd, run_size hs, hn, hc, hf, addr_add, hst]

theorem run_append_nothing {sT xT ty elem : TypeId} {w : World} {size : Nat} {y : Value} {new : Array Value} (hu : P.underlying sT = some (.slice elem)) (hx : srcTy (P.underlying xT) = true)
    (hs : tySize P elem = some size) (hn : (Builtin.lenOf y).run P w = .ok 0 w) (hf : (Builtin.firstCells size 0 y).run P w = .ok new w) :
    (Builtin.append_ #[sT, xT] ty #[.slice none 0 0, y]).run P w = .ok (.slice none 0 0) w := by
  rcases srcTy_cases hx with ⟨e, hd⟩ | hd
  · simp [Builtin.append_, run_underlying hu, run_underlying hd, run_size hs, hn, hf]
  · simp [Builtin.append_, run_underlying hu, run_underlying hd, run_size hs, hn, hf]

theorem growBy_le (newLen B : Nat) (hB : newLen ≤ B) : ∀ (r c : Nat), c ≤ 2 * B → Builtin.growBy newLen r c ≤ 2 * B + B / 4 + 1000
  | 0, c, hc => by simp only [Builtin.growBy]; omega
  | r + 1, c, hc => by
    simp only [Builtin.growBy]
    split
    · omega
    · rename_i h
      by_cases h2 : c + (c + 768) / 4 ≤ 2 * B
      · exact growBy_le newLen B hB r _ h2
      · have h3 : newLen ≤ c + (c + 768) / 4 := by omega
        cases r with
        | zero => simp only [Builtin.growBy]; omega
        | succ r => simp only [Builtin.growBy]; rw [if_pos h3]; omega
theorem nextcap_le {need cap : Nat} (h1 : need ≤ 1000000) (h2 : cap < need) : Builtin.nextslicecap need cap ≤ 3000000 := by
  unfold Builtin.nextslicecap
  split
  · omega
  · split
    · omega
    · have := growBy_le need 1000000 h1 4 cap (by omega)
      omega

theorem run_append_new {sT xT ty elem : TypeId} {w : World} {base : Option Addr} {sLen sCap n size : Nat} {y z : Value} {i : TypeInfo} {old new : Array Value} (hu : P.underlying sT = some (.slice elem)) (hx : srcTy (P.underlying xT) = true)
    (hi : P.info? elem = some i) (hs : i.size = size) (hb : i.bytes * 3000000 ≤ 281474976710656) (hn : (Builtin.lenOf y).run P w = .ok n w) (hc : sCap < sLen + n) (hl : sLen + n ≤ 1000000)
    (ho : (Builtin.firstCells size sLen (.slice base sLen sCap)).run P w.drew = .ok old w.drew) (hf : (Builtin.firstCells size n y).run P w.drew = .ok new w.drew) (hz : (zeroValue elem).run P w.drew = .ok z w.drew) :
    ∃ newCap, sLen + n ≤ newCap ∧ (Builtin.append_ #[sT, xT] ty #[.slice base sLen sCap, y]).run P w =
      .ok (.slice (some ⟨w.heap.size, 0, none⟩) (sLen + n) newCap) (w.drew.alloc (.cells (old ++ new ++ Builtin.zeroCells z.cells (newCap - (sLen + n))) elem)) := by
  have h2 : ¬ (Builtin.nextslicecap (sLen + n) sCap * i.bytes > 2 ^ 48) := by
    have := nextcap_le hl hc
    have h3 : Builtin.nextslicecap (sLen + n) sCap * i.bytes ≤ 3000000 * i.bytes := Nat.mul_le_mul_right _ this
    have : (2 : Nat) ^ 48 = 281474976710656 := by decide
    omega
  have h4 : ¬ (((sLen + n : Nat) : Int) > IntKind.i64.max) := by
    have : IntKind.i64.max = 9223372036854775807 := by decide
    omega
  have h5 : ¬ (sLen + n ≤ sCap) := by omega
  have hsz : tySize P elem = some size := by simp [tySize, hi, hs]
  have hch : (choose (.appendCap (sLen + n) sCap elem)).run P w = .ok (sLen + n + w.tape w.drawn (.appendCap (sLen + n) sCap elem) % (2 ^ 63 - (sLen + n))) w.drew := by
    rfl
  refine ⟨sLen + n + w.tape w.drawn (.appendCap (sLen + n) sCap elem) % (2 ^ 63 - (sLen + n)), by omega, ?_⟩
  generalize hq : sLen + n + w.tape w.drawn (.appendCap (sLen + n) sCap elem) % (2 ^ 63 - (sLen + n)) = q at hch
  have har : ∀ m, (askRoom m).run P w.drew = .ok () w.drew := by
    intro m; unfold askRoom; split <;> rfl
  have hnew : ∀ cs, (newRow elem cs).run P w.drew = .ok ⟨w.heap.size, 0, none⟩ (w.drew.alloc (.cells cs elem)) := fun cs => rfl
  rcases srcTy_cases hx with ⟨e, hd⟩ | hd
  · simp only [Builtin.append_, List.getElem?_toArray, List.getElem?_cons_zero, List.getElem?_cons_succ, Sem.run_bind, run_underlying hu, run_underlying hd, Result.andThen_ok, run_size hsz, Sem.run_pure, hn, if_neg h5, h4, false_and, if_false, run_typeInfo w hi, if_neg h2, hch, run_typeInfo w.drew hi, har, ho, hf, hz, hnew, Bool.false_eq_true, Bool.not_false, if_true]
  · simp only [Builtin.append_, List.getElem?_toArray, List.getElem?_cons_zero, List.getElem?_cons_succ, Sem.run_bind, run_underlying hu, run_underlying hd, Result.andThen_ok, run_size hsz, Sem.run_pure, hn, if_neg h5, h4, false_and, if_false, run_typeInfo w hi, if_neg h2, hch, run_typeInfo w.drew hi, har, ho, hf, hz, hnew, Bool.false_eq_true, Bool.not_false, if_true]

end Ex
end Go.Proofs.YtdkijcmhjeaofaaGreatDoor
namespace Go.Proofs.YtdkijcmhjeaofaaGreatDoor
namespace Ex

variable {P : Program}

theorem WR.kill {ρ : Rho} {S : St} {w : World} (h : WR ρ S w) {id b n : Nat} {B : AB} (hid : S.heap.at id = some B) (hl : B.live = true) (hr : ρ id = some (b, n)) : WR ρ ⟨S.heap.to id .dead, S.next⟩ w :=
  h.upd hid hl hr (B' := .dead) trivial rfl fun _ _ => rfl

/-- A block goes on under a new number. -/
theorem WR.ren {ρ : Rho} {S : St} {w w' : World} (h : WR ρ S w) {id b n : Nat} {B B' : AB} (hid : S.heap.at id = some B) (hlv : B.live = true) (hr : ρ id = some (b, n))
    (hB : BR (ρ.set S.next (b, n)) n B' w'.heap[b]?) (hs : w'.heap.size = w.heap.size) (ho : ∀ k, k ≠ b → w'.heap[k]? = w.heap[k]?) (hl : S.next + 1 < 1048575) :
    WR (ρ.set S.next (b, n)) ⟨(S.heap.to id .dead).to S.next B', S.next + 1⟩ w' := by
  have hlt : id < S.next := Nat.lt_of_not_le fun hle => by rw [(h.dom id hle).2] at hid; cases hid
  have hle := Rho.le_set (p := (b, n)) (h.dom S.next (Nat.le_refl _)).1
  have hat : ∀ i A, ((S.heap.to id .dead).to S.next B').at i = some A → A.live = true → (i = S.next ∧ A = B') ∨ (i ≠ S.next ∧ i ≠ id ∧ S.heap.at i = some A) := by
    intro i A hi hA
    rw [Tr.at_to _ _ _ _ (by omega), Tr.at_to _ _ _ _ (by omega)] at hi
    by_cases e : i = S.next
    · rw [if_pos e] at hi; injection hi with hi; exact .inl ⟨e, hi.symm⟩
    · rw [if_neg e] at hi
      by_cases e2 : i = id
      · rw [if_pos e2] at hi; injection hi with hi; subst hi; cases hA
      · rw [if_neg e2] at hi; exact .inr ⟨e, e2, hi⟩
  have hget : ∀ i p, (ρ.set S.next (b, n)) i = some p → (i = S.next ∧ p = (b, n)) ∨ (i ≠ S.next ∧ ρ i = some p) := by
    intro i p hi
    unfold Rho.set at hi
    by_cases e : i = S.next
    · rw [if_pos e] at hi; injection hi with hi; exact .inl ⟨e, hi.symm⟩
    · rw [if_neg e] at hi; exact .inr ⟨e, hi⟩
  refine ⟨fun i j c m k A C hi hj hA hC hri hrj => ?_, fun i hi => ?_, hl, fun i c k hi => ?_, fun i A hi => ?_⟩
  · rcases hat i A hi hA with ⟨e1, p1⟩ | ⟨e1, p1, q1⟩ <;> rcases hat j C hj hC with ⟨e2, p2⟩ | ⟨e2, p2, q2⟩
    · rw [e1, e2]
    · rcases hget i _ hri with ⟨_, r1⟩ | ⟨r, _⟩
      · injection r1 with r1; subst r1
        rcases hget j _ hrj with ⟨r, _⟩ | ⟨_, r2⟩
        · exact absurd r e2
        · exact absurd (h.inj j id c k n C B q2 hid hC hlv r2 hr) p2
      · exact absurd e1 r
    · rcases hget j _ hrj with ⟨_, r1⟩ | ⟨r, _⟩
      · injection r1 with r1; subst r1
        rcases hget i _ hri with ⟨r, _⟩ | ⟨_, r2⟩
        · exact absurd r e1
        · exact absurd (h.inj i id c m n A B q1 hid hA hlv r2 hr) p1
      · exact absurd e2 r
    · rcases hget i _ hri with ⟨r, _⟩ | ⟨_, r1⟩
      · exact absurd r e1
      · rcases hget j _ hrj with ⟨r, _⟩ | ⟨_, r2⟩
        · exact absurd r e2
        · exact h.inj i j c m k A C q1 q2 hA hC r1 r2
  · have hi : S.next + 1 ≤ i := hi
    constructor
    · unfold Rho.set; rw [if_neg (by omega)]; exact (h.dom i (by omega)).1
    · show ((S.heap.to id .dead).to S.next B').at i = none
      rw [Tr.at_to _ _ _ _ (by omega), if_neg (by omega), Tr.at_to _ _ _ _ (by omega), if_neg (by omega)]; exact (h.dom i (by omega)).2
  · rw [hs]
    rcases hget i _ hi with ⟨_, e⟩ | ⟨_, e⟩
    · injection e with e; subst e; exact h.low id _ _ hr
    · exact h.low i c k e
  · cases hA : A.live with
    | false =>
      have hi' := hi
      rw [Tr.at_to _ _ _ _ (by omega), Tr.at_to _ _ _ _ (by omega)] at hi'
      by_cases e : i = S.next
      · subst e; exact ⟨b, n, Rho.set_same _ _ _, by cases A <;> first | trivial | cases hA⟩
      · rw [if_neg e] at hi'
        by_cases e2 : i = id
        · subst e2; exact ⟨b, n, hle _ _ hr, by cases A <;> first | trivial | cases hA⟩
        · rw [if_neg e2] at hi'
          obtain ⟨b2, n2, h1, _⟩ := h.blk i A hi'
          exact ⟨b2, n2, hle _ _ h1, by cases A <;> first | trivial | cases hA⟩
    | true =>
      rcases hat i A hi hA with ⟨e, e2⟩ | ⟨e, e2, e3⟩
      · subst e; subst e2; exact ⟨b, n, Rho.set_same _ _ _, hB⟩
      · obtain ⟨b2, n2, h1, h2⟩ := h.blk i A e3
        refine ⟨b2, n2, hle _ _ h1, ?_⟩
        rw [ho b2 fun eb => e2 (h.inj i id b n2 n A B e3 hid hA hlv (eb ▸ h1) hr)]
        exact h2.mono hle

theorem Up.ren {K : Nat} {ρ : Rho} {S : St} {w : World} (h : WR ρ S w) (hK : K ≤ S.next) {id b n : Nat} {B B' : AB} (hat : S.heap.at id = some B) (hlv : B.live = true) (hid : K ≤ id) (hr : ρ id = some (b, n)) :
    Up K S ⟨(S.heap.to id .dead).to S.next B', S.next + 1⟩ ρ (ρ.set S.next (b, n)) w := by
  have hlt : id < S.next := Nat.lt_of_not_le fun hle => by rw [(h.dom id hle).2] at hat; cases hat
  have := h.lim
  refine ⟨Rho.le_set (h.dom S.next (Nat.le_refl _)).1, Nat.le_succ _, fun i hi => by unfold Rho.set; rw [if_neg (by omega)], fun i hi h0 => ?_, fun i c m A hA hl hi => ?_⟩
  · show ((S.heap.to id .dead).to S.next B').at i = none
    rw [Tr.at_to _ _ _ _ (by omega), if_neg (by omega), Tr.at_to _ _ _ _ (by omega)]
    by_cases e : i = id
    · subst e; rw [h0] at hat; cases hat
    · rw [if_neg e]; exact h0
  have hA : ((S.heap.to id .dead).to S.next B').at i = some A := hA
  rw [Tr.at_to _ _ _ _ (by omega)] at hA
  unfold Rho.set at hi
  by_cases e : i = S.next
  · rw [if_pos e] at hi; injection hi with hi; injection hi with h1 h2; subst h1; subst e; exact .inr ⟨hK, .inr ⟨id, n, B, hid, hat, hlv, hr⟩⟩
  · rw [if_neg e] at hi hA
    rw [Tr.at_to _ _ _ _ (by omega)] at hA
    by_cases e2 : i = id
    · rw [if_pos e2] at hA; injection hA with hA; subst hA; cases hl
    · rw [if_neg e2] at hA; exact .inl ⟨hi, A, hA, hl⟩

/-- A row that append has made: its known cells, and zeros behind them. -/
noncomputable def aGrow (S : St) (e : TypeId) (t : Tr AV) (m : Nat) : Option St :=
  Bool.rec none (headC t fun t => fNat m fun m => headC (S.heap.to S.next (.cells t m e true)) fun h => fNat S.next fun nx => some ⟨h, Nat.succ nx⟩) (Nat.blt (Nat.succ S.next) 1048575 && Nat.ble m 1000000)
theorem aGrow_old (S : St) (e : TypeId) (t : Tr AV) (m : Nat) : aGrow S e t m = Bool.rec none (some ⟨S.heap.to S.next (.cells t m e true), Nat.succ S.next⟩) (Nat.blt (Nat.succ S.next) 1048575 && Nat.ble m 1000000) := by
  unfold aGrow
  simp only [headC_eq, fNat_eq]

theorem aGrow_ok {K : Nat} {S S' : St} {e : TypeId} {t : Tr AV} {m n : Nat} {c : Array Value} {w : World} {ρ : Rho} (h : aGrow S e t m = some S') (hw : WR ρ S w) (hK : K ≤ S.next) (hn : c.size = n) (hm : m ≤ n)
    (ht : ∀ j v, t.at j = some v → j < m ∧ ∃ x, c[j]? = some x ∧ VR ρ v x) :
    ∃ σ, Up K S S' ρ σ w ∧ WR σ S' (w.drew.alloc (.cells c e)) ∧ σ S.next = some (w.heap.size, n) ∧ Fr K S ρ w (w.drew.alloc (.cells c e)) := by
  rw [aGrow_old] at h
  cases hc : (Nat.blt (Nat.succ S.next) 1048575 && Nat.ble m 1000000) with
  | false => rw [hc] at h; cases h
  | true =>
    rw [hc] at h
    simp only [Option.some.injEq] at h; subst h
    simp only [Bool.and_eq_true] at hc
    have c1 : S.next + 1 < 1048575 := by have := hc.1; rwa [Nat.blt_eq] at this
    refine ⟨ρ.set S.next (w.heap.size, n), Up.set hw hK _ _, ?_, Rho.set_same _ _ _, ?_⟩
    · refine hw.drew.new (o := .cells c e) ?_ rfl c1
      refine ⟨c, (0, 0), rfl, hn, hm, fun j v hj => ?_, fun _ => rfl⟩
      obtain ⟨h1, x, h2, h3⟩ := ht j v hj
      exact ⟨h1, x, h2, VR.mono (Rho.le_set (hw.dom S.next (Nat.le_refl _)).1) _ _ h3⟩
    · exact ⟨rfl, rfl, rfl, by simp, fun k hk _ => RowKit.Below.heap_alloc w.drew _ _ hk⟩

end Ex
end Go.Proofs.YtdkijcmhjeaofaaGreatDoor
namespace Go.Proofs.YtdkijcmhjeaofaaGreatDoor
namespace Ex

variable {P : Program}

/-- Whether a row of a type can grow to so many elements. -/
noncomputable def mayGrow (P : Program) (e : TypeId) (i : TypeInfo) (need : Nat) : Bool :=
  Nat.ble (Nat.mul i.bytes 3000000) 281474976710656 && (Nat.ble need 1000000 && match aZero P e with
    | some z => Nat.beq z.cells.length i.size
    | none => false)

def both (c : Bool) (r : Option St) (v : AV) : Option (AV × St) :=
  match c, r with
  | true, some S' => some (v, S')
  | _, _ => none
theorem both_ok {c : Bool} {r : Option St} {v u : AV} {S' : St} (h : both c r v = some (u, S')) : c = true ∧ r = some S' ∧ u = v := by
  cases c <;> cases r <;> simp [both] at h
  exact ⟨rfl, by rw [h.2], h.1.symm⟩

/-- Onto nil. -/
noncomputable def aAppNil (P : Program) (S : St) (e : TypeId) (i : TypeInfo) (n : Nat) (xs : List AV) : Option (AV × St) :=
  match Nat.beq n 0 with
  | true => some (.nilSl, S)
  | false => both (mayGrow P e i n && Nat.beq xs.length (Nat.mul n i.size)) (aGrow S e (wr xs .e 0) xs.length) (.slu S.next 0 n i.size n)

/-- Onto a slice whose capacity is known. -/
noncomputable def aAppSl (K : Nat) (P : Program) (S : St) (e : TypeId) (i : TypeInfo) (n : Nat) (xs : List AV) (id off len cap : Nat) : Option (AV × St) :=
  match Nat.ble (len + n) cap with
  | true => match aWrite K S id (off + len * i.size) xs with
    | some S' => some (.sl id off (len + n) cap, S')
    | none => none
  | false => match aRead.rdAt S id off (len * i.size) with
    | none => none
    | some old => both (mayGrow P e i (len + n) && Nat.beq xs.length (Nat.mul n i.size)) (aGrow S e (wr (old ++ xs) .e 0) (old ++ xs).length) (.slu S.next 0 (len + n) i.size (len + n))

/-- Onto a slice whose capacity is not known, beyond what is known of it. -/
noncomputable def aAppOn (K : Nat) (P : Program) (S : St) (e : TypeId) (i : TypeInfo) (n : Nat) (xs : List AV) (id off len : Nat) : Option (AV × St) :=
  match S.heap.at id with
  | some (.cells tr m e' true) => both (Nat.beq off 0 && (Nat.ble K id && (Nat.beq m (Nat.mul len i.size) && (Nat.beq e' e && (xs.all AV.one && (mayGrow P e i (len + n) && Nat.beq xs.length (Nat.mul n i.size)))))))
      (aGrow ⟨S.heap.to id .dead, S.next⟩ e (wr xs tr m) (m + xs.length)) (.slu S.next 0 (len + n) i.size (len + n))
  | _ => none

noncomputable def aAppSlu (K : Nat) (P : Program) (S : St) (e : TypeId) (i : TypeInfo) (n : Nat) (xs : List AV) (id off len sz lb : Nat) : Option (AV × St) :=
  match Nat.beq sz i.size && Nat.ble len lb with
  | false => none
  | true => match Nat.ble (len + n) lb with
    | true => match aWrite K S id (off + len * i.size) xs with
      | some S' => some (.slu id off (len + n) sz lb, S')
      | none => none
    | false => aAppOn K P S e i n xs id off len

noncomputable def aApp (K : Nat) (P : Program) (S : St) (sT xT : TypeId) (s x : AV) : Option (AV × St) :=
  match P.underlying sT, srcTy (P.underlying xT), lenAV x with
  | some (.slice e), true, some n => match P.info? e with
    | none => none
    | some i => match aRead S i.size n x with
      | none => none
      | some xs => match s with
        | .nilSl => aAppNil P S e i n xs
        | .sl id off len cap => aAppSl K P S e i n xs id off len cap
        | .slu id off len sz lb => aAppSlu K P S e i n xs id off len sz lb
        | _ => none
  | _, _, _ => none

theorem zeroCells_size (z : Array Value) (n : Nat) : (Builtin.zeroCells z n).size = n * z.size := by simp [Builtin.zeroCells]

theorem wr_e_at {cs : List AV} {j : Nat} {v : AV} (hl : cs.length ≤ 1000000) (h : (wr cs .e 0).at j = some v) : j < cs.length ∧ cs[j]? = some v := by
  rw [wr_at _ _ _ _ (by omega)] at h
  by_cases hin : 0 ≤ j ∧ j < 0 + cs.length
  · rw [if_pos hin] at h; exact ⟨by omega, by simpa using h⟩
  · rw [if_neg hin, Tr.at_e] at h; cases h

theorem mayGrow_ok {e : TypeId} {i : TypeInfo} {need : Nat} (h : mayGrow P e i need = true) (ρ : Rho) (w : World) :
    i.bytes * 3000000 ≤ 281474976710656 ∧ need ≤ 1000000 ∧ ∃ z, (zeroValue e).run P w = .ok z w ∧ z.cells.size = i.size := by
  unfold mayGrow at h
  simp only [Bool.and_eq_true] at h
  obtain ⟨h1, h2, h3⟩ := h
  refine ⟨Nat.le_of_ble_eq_true h1, Nat.le_of_ble_eq_true h2, ?_⟩
  split at h3
  · rename_i z hz
    obtain ⟨x, hx, hv⟩ := aZero_ok hz ρ w
    refine ⟨x, hx, ?_⟩
    have := (cells_ok hv).length
    rw [Nat.eq_of_beq_eq_true h3] at this
    simpa using this
  · cases h3

theorem aGrow_len {S S' : St} {e : TypeId} {t : Tr AV} {m : Nat} (h : aGrow S e t m = some S') : m ≤ 1000000 := by
  rw [aGrow_old] at h
  cases hc : (Nat.blt (Nat.succ S.next) 1048575 && Nat.ble m 1000000) with
  | false => rw [hc] at h; cases h
  | true => simp only [Bool.and_eq_true] at hc; exact Nat.le_of_ble_eq_true hc.2

/-- The row is made anew. -/
theorem app_new {K : Nat} {S S' : St} {sT xT ty e : TypeId} {i : TypeInfo} {n sLen sCap : Nat} {base : Option Addr} {y : Value} {w : World} {ρ : Rho} {old xs : List AV} {xo xn : List Value}
    (hu : P.underlying sT = some (.slice e)) (hx : srcTy (P.underlying xT) = true) (hi : P.info? e = some i) (hw : WR ρ S w) (hK : K ≤ S.next) (hg : mayGrow P e i (sLen + n) = true)
    (hlen : (Builtin.lenOf y).run P w = .ok n w) (hc : sCap < sLen + n) (ho : (Builtin.firstCells i.size sLen (.slice base sLen sCap)).run P w.drew = .ok xo.toArray w.drew)
    (hf : (Builtin.firstCells i.size n y).run P w.drew = .ok xn.toArray w.drew) (hold : VRL ρ old xo) (hxs : VRL ρ xs xn) (hl1 : old.length = sLen * i.size) (hl2 : xs.length = n * i.size)
    (hS : aGrow S e (wr (old ++ xs) .e 0) (old ++ xs).length = some S') :
    Eff K S ρ w S' (.slu S.next 0 (sLen + n) i.size (sLen + n)) ((Builtin.append_ #[sT, xT] ty #[.slice base sLen sCap, y]).run P w) := by
  obtain ⟨g1, g2, z, hz, hzs⟩ := mayGrow_ok hg ρ w.drew
  obtain ⟨newCap, hcap, hrun⟩ := run_append_new (P := P) (sT := sT) (xT := xT) (ty := ty) hu hx hi rfl g1 hlen hc g2 ho hf hz
  have hvl := hold.append hxs
  have l1 := hold.length
  have l2 := hxs.length
  have hsize : (xo.toArray ++ xn.toArray ++ Builtin.zeroCells z.cells (newCap - (sLen + n))).size = newCap * i.size := by
    simp only [Array.size_append, List.size_toArray, zeroCells_size, hzs, l1, l2, hl1, hl2]
    rw [← Nat.add_mul, ← Nat.add_mul]; congr 1; omega
  have hmul : (sLen + n) * i.size ≤ newCap * i.size := Nat.mul_le_mul_right _ hcap
  have hm : (old ++ xs).length = (sLen + n) * i.size := by rw [List.length_append, hl1, hl2, Nat.add_mul]
  obtain ⟨σ, h1, h2, h3, h4⟩ := aGrow_ok (K := K) (c := xo.toArray ++ xn.toArray ++ Builtin.zeroCells z.cells (newCap - (sLen + n))) hS hw hK hsize (by rw [hm]; exact hmul) (fun j v hj => by
    obtain ⟨q1, q2⟩ := wr_e_at (aGrow_len hS) hj
    obtain ⟨x, hx1, hx2⟩ := hvl.get j v q2
    refine ⟨q1, x, ?_, hx2⟩
    have hlt : j < (xo ++ xn).length := by rw [hvl.length]; exact q1
    have e1 : xo.toArray ++ xn.toArray = (xo ++ xn).toArray := by simp
    rw [e1, Array.getElem?_append_left (by simpa using hlt)]
    simpa using hx1)
  refine ⟨_, _, σ, hrun, h1, h2, ?_, h4⟩
  simp only [VR]
  exact ⟨_, _, newCap, h3, rfl, hcap, by omega⟩

end Ex
end Go.Proofs.YtdkijcmhjeaofaaGreatDoor
namespace Go.Proofs.YtdkijcmhjeaofaaGreatDoor
namespace Ex

variable {P : Program}

theorem eff_write {K : Nat} {S S' : St} {ρ : Rho} {w w' : World} {v : AV} {x : Value} {r : Result Value} (hr : r = .ok x w') (h1 : WR ρ S' w') (h2 : Fr K S ρ w w') (h3 : VR ρ v x) (hn : Up K S S' ρ ρ w) : Eff K S ρ w S' v r :=
  ⟨x, w', ρ, hr, hn, h1, h3, h2⟩

theorem aGrow_eq {S S' : St} {e : TypeId} {t : Tr AV} {m : Nat} (h : aGrow S e t m = some S') : S' = ⟨S.heap.to S.next (.cells t m e true), S.next + 1⟩ ∧ S.next + 1 < 1048575 := by
  rw [aGrow_old] at h
  cases hq : (Nat.blt (Nat.succ S.next) 1048575 && Nat.ble m 1000000) with
  | false => rw [hq] at h; cases h
  | true =>
    rw [hq] at h; simp only [Option.some.injEq] at h
    simp only [Bool.and_eq_true] at hq; have := hq.1
    rw [Nat.blt_eq] at this
    exact ⟨h.symm, this⟩

theorem wr_cases {xs : List AV} {tr : Tr AV} {k j : Nat} {v : AV} (hl : k + xs.length ≤ 1000000) (hj : (wr xs tr k).at j = some v) : (k ≤ j ∧ j < k + xs.length ∧ xs[j - k]? = some v) ∨ (¬ (k ≤ j ∧ j < k + xs.length) ∧ tr.at j = some v) := by
  rw [wr_at _ _ _ _ (by omega)] at hj
  by_cases hin : k ≤ j ∧ j < k + xs.length
  · rw [if_pos hin] at hj; exact .inl ⟨hin.1, hin.2, hj⟩
  · rw [if_neg hin] at hj; exact .inr ⟨hin, hj⟩

/-- The row, of a capacity that is not known, has room. -/
theorem app_move {K : Nat} {S S' : St} {sT xT ty e : TypeId} {size n len c id k b m : Nat} {y : Value} {w : World} {ρ : Rho} {tr : Tr AV} {xs : List AV} {xn : List Value}
    (hu : P.underlying sT = some (.slice e)) (hx : srcTy (P.underlying xT) = true) (hsz : tySize P e = some size) (hw : WR ρ S w) (hK : K ≤ S.next)
    (hlen : (Builtin.lenOf y).run P w = .ok n w) (hroom : len + n ≤ c) (hf : (Builtin.firstCells size n y).run P w = .ok xn.toArray w) (hxs : VRL ρ xs xn) (hone : xs.all AV.one = true)
    (hid : S.heap.at id = some (.cells tr k e true)) (hKi : K ≤ id) (hr : ρ id = some (b, m)) (hcm : 0 + c * size ≤ m) (hk : k = len * size) (hl2 : xs.length = n * size)
    (hS : aGrow ⟨S.heap.to id .dead, S.next⟩ e (wr xs tr k) (k + xs.length) = some S') :
    Eff K S ρ w S' (.slu S.next 0 (len + n) size (len + n)) ((Builtin.append_ #[sT, xT] ty #[.slice (some ⟨b, 0, none⟩) len c, y]).run P w) := by
  obtain ⟨b', m', hr', cc, fz, q1, q2, q3, q4, q5⟩ := hw.blk id _ hid
  rw [hr] at hr'; injection hr' with hr'; injection hr' with p1 p2; subst p1; subst p2
  have q5 := q5 rfl; subst q5
  have hvl := hxs.length
  have hglen := aGrow_len hS
  obtain ⟨hS', hlim⟩ := aGrow_eq hS
  have hlim : S.next + 1 < 1048575 := hlim
  have hfit : k + xs.length ≤ m := by
    have : (len + n) * size ≤ c * size := Nat.mul_le_mul_right _ hroom
    rw [Nat.add_mul] at this; omega
  have hst := run_storeCells_at P b k e xn 0 cc w q1 (by omega) (ones_ok hxs hone)
  have hrun := run_append_in (P := P) (ty := ty) (b := b) (off := 0) (sLen := len) (sCap := c) hu hx hsz hlen hroom hf (w' := w.setRow b (cc.toList.take (k + 0) ++ xn ++ cc.toList.drop (k + 0 + xn.length)).toArray) (by rw [← hk]; simpa using hst)
  rw [hS']
  refine ⟨_, _, ρ.set S.next (b, m), hrun, Up.ren hw hK hid rfl hKi hr, ?_, ?_, ?_⟩
  · refine hw.ren hid rfl hr ?_ (by simp) (fun j hj => setRow_other w b j _ hj) hlim
    refine ⟨_, (0, 0), setRow_heap w b cc _ e (0, 0) q1, ?_, hfit, fun j v hj => ?_, fun _ => rfl⟩
    · simp; omega
    · have mono := VR.mono (Rho.le_set (p := (b, m)) (hw.dom S.next (Nat.le_refl _)).1)
      rcases wr_cases hglen hj with ⟨h1, h2, h3⟩ | ⟨h1, h2⟩
      · obtain ⟨z, hz1, hz2⟩ := hxs.get _ v h3
        refine ⟨h2, z, ?_, mono _ _ hz2⟩
        simp only [List.getElem?_toArray, Nat.add_zero]
        rw [List.append_assoc, List.getElem?_append_right (by simp; omega), List.getElem?_append_left (by simp; omega)]
        rw [← hz1]; congr 1; simp; omega
      · obtain ⟨hjk, z, hz1, hz2⟩ := q4 j v h2
        refine ⟨by omega, z, ?_, mono _ _ hz2⟩
        simp only [List.getElem?_toArray, Nat.add_zero]
        rw [List.append_assoc, List.getElem?_append_left (by simp; omega), List.getElem?_take, if_pos hjk]; simpa using hz1
  · simp only [VR]; exact ⟨b, m, c, Rho.set_same _ _ _, rfl, hroom, hcm⟩
  · exact ⟨rfl, rfl, rfl, by simp, fun j hj hn => setRow_other w b j _ fun e => hn id m _ hKi hid rfl (e ▸ hr)⟩

/-- It has none. -/
theorem app_over {K : Nat} {S S' : St} {sT xT ty e : TypeId} {i : TypeInfo} {n len c id k b m : Nat} {y : Value} {w : World} {ρ : Rho} {tr : Tr AV} {xs : List AV} {xn : List Value}
    (hu : P.underlying sT = some (.slice e)) (hx : srcTy (P.underlying xT) = true) (hi : P.info? e = some i) (hw : WR ρ S w) (hK : K ≤ S.next) (hg : mayGrow P e i (len + n) = true)
    (hlen : (Builtin.lenOf y).run P w = .ok n w) (hc2 : c < len + n) (hf' : (Builtin.firstCells i.size n y).run P w.drew = .ok xn.toArray w.drew) (hxs : VRL ρ xs xn)
    (hid : S.heap.at id = some (.cells tr k e true)) (hr : ρ id = some (b, m)) (hk : k = len * i.size) (hl2 : xs.length = n * i.size)
    (hS : aGrow ⟨S.heap.to id .dead, S.next⟩ e (wr xs tr k) (k + xs.length) = some S') :
    Eff K S ρ w S' (.slu S.next 0 (len + n) i.size (len + n)) ((Builtin.append_ #[sT, xT] ty #[.slice (some ⟨b, 0, none⟩) len c, y]).run P w) := by
  obtain ⟨b', m', hr', cc, fz, q1, q2, q3, q4, q5⟩ := hw.blk id _ hid
  rw [hr] at hr'; injection hr' with hr'; injection hr' with p1 p2; subst p1; subst p2
  have hvl' := hxs.length
  have hglen := aGrow_len hS
  have hkill := hw.kill hid rfl hr
  obtain ⟨g1, g2, z, hz, hzs⟩ := mayGrow_ok hg ρ w.drew
  have hold : (Builtin.firstCells i.size len (.slice (some ⟨b, 0, none⟩) len c)).run P w.drew = .ok (cc.toList.take k).toArray w.drew := by
    have hl : (cc.toList.take k).length = len * i.size := by simp; omega
    have := run_loadCells_list (P := P) w.drew ⟨b, 0, none⟩ (cc.toList.take k) (fun j y hy => by
      rw [addr_add]
      rw [List.getElem?_take] at hy
      by_cases hjk : j < k
      · rw [if_pos hjk] at hy
        have q1' : w.drew.heap[b]? = some (.cells cc e fz) := q1
        simp only [World.cell?, q1', Option.isSome_none, Bool.false_eq_true, if_false]
        simpa using hy
      · rw [if_neg hjk] at hy; cases hy)
    rw [hl] at this; exact this
  obtain ⟨newCap, hcap, hrun⟩ := run_append_new (P := P) (sT := sT) (xT := xT) (ty := ty) hu hx hi rfl g1 hlen hc2 g2 hold hf' hz
  have hsize : ((cc.toList.take k).toArray ++ xn.toArray ++ Builtin.zeroCells z.cells (newCap - (len + n))).size = newCap * i.size := by
    simp only [Array.size_append, List.size_toArray, zeroCells_size, hzs, hvl', hl2, List.length_take, Array.length_toList]
    have : min k cc.size = len * i.size := by omega
    rw [this, ← Nat.add_mul, ← Nat.add_mul]; congr 1; omega
  have hmul2 : (len + n) * i.size ≤ newCap * i.size := Nat.mul_le_mul_right _ hcap
  rw [Nat.add_mul] at hmul2
  obtain ⟨σ, h1, h2, h3, h4⟩ := aGrow_ok (K := K) (c := (cc.toList.take k).toArray ++ xn.toArray ++ Builtin.zeroCells z.cells (newCap - (len + n))) hS hkill hK hsize (by omega) (fun j v hj => by
    have e1 : (cc.toList.take k).toArray ++ xn.toArray = (cc.toList.take k ++ xn).toArray := by simp
    rcases wr_cases hglen hj with ⟨r1, r2, r3⟩ | ⟨r1, r2⟩
    · obtain ⟨y, hy1, hy2⟩ := hxs.get _ v r3
      refine ⟨r2, y, ?_, hy2⟩
      rw [e1, Array.getElem?_append_left (by simp; omega)]
      simp only [List.getElem?_toArray]
      rw [List.getElem?_append_right (by simp; omega), ← hy1]; congr 1; simp; omega
    · obtain ⟨hjk, y, hy1, hy2⟩ := q4 j v r2
      refine ⟨by omega, y, ?_, hy2⟩
      rw [e1, Array.getElem?_append_left (by simp; omega)]
      simp only [List.getElem?_toArray]
      rw [List.getElem?_append_left (by simp; omega), List.getElem?_take, if_pos hjk]; simpa using hy1)
  have u0 : Up K S ⟨S.heap.to id .dead, S.next⟩ ρ ρ w := Up.upd hw hid rfl
  have f0 : Fr K S ρ w w := Fr.refl K S ρ w
  refine ⟨_, _, σ, hrun, u0.trans (Nat.le_refl _) h1, h2, ?_, f0.trans u0 h4⟩
  simp only [VR]
  exact ⟨_, _, newCap, h3, rfl, hcap, by omega⟩

theorem aAppNil_ok {K : Nat} {S S' : St} {sT xT ty e : TypeId} {i : TypeInfo} {n : Nat} {v : AV} {y : Value} {w : World} {ρ : Rho} {xs : List AV} {xn xn' : List Value} (h : aAppNil P S e i n xs = some (v, S'))
    (hu : P.underlying sT = some (.slice e)) (hx : srcTy (P.underlying xT) = true) (hi : P.info? e = some i) (hw : WR ρ S w) (hK : K ≤ S.next)
    (hlen : (Builtin.lenOf y).run P w = .ok n w) (hf : (Builtin.firstCells i.size n y).run P w = .ok xn.toArray w)
    (hf' : (Builtin.firstCells i.size n y).run P w.drew = .ok xn'.toArray w.drew) (hv' : VRL ρ xs xn') :
    Eff K S ρ w S' v ((Builtin.append_ #[sT, xT] ty #[.slice none 0 0, y]).run P w) := by
  have hsz : tySize P e = some i.size := by simp [tySize, hi]
  unfold aAppNil at h
  split at h
  · rename_i h0
    have h0 : n = 0 := Nat.eq_of_beq_eq_true h0
    subst h0
    injection h with h; injection h with e1 e2; subst e1; subst e2
    exact ⟨_, w, ρ, run_append_nothing hu hx hsz hlen hf, Up.refl K S ρ w, hw, by simp only [VR], Fr.refl K S ρ w⟩
  · rename_i h0
    have h0 : n ≠ 0 := fun e => by rw [beq_t e] at h0; cases h0
    obtain ⟨hc, hS, e1⟩ := both_ok h
    subst e1
    simp only [Bool.and_eq_true] at hc
    have hl2 : xs.length = n * i.size := Nat.eq_of_beq_eq_true hc.2
    have hg : mayGrow P e i (0 + n) = true := by rw [Nat.zero_add]; exact hc.1
    have := app_new (K := K) (sLen := 0) (sCap := 0) (base := none) (old := []) (xo := []) (ty := ty) hu hx hi hw hK hg hlen (by omega) rfl hf' (by simp [VRL]) hv' (by simp) hl2 (by rw [List.nil_append]; exact hS)
    rw [Nat.zero_add] at this
    exact this

theorem aAppSl_ok {K : Nat} {S S' : St} {sT xT ty e : TypeId} {i : TypeInfo} {n id off len cap b m : Nat} {v : AV} {y : Value} {w : World} {ρ : Rho} {xs : List AV} {xn xn' : List Value} (h : aAppSl K P S e i n xs id off len cap = some (v, S'))
    (hu : P.underlying sT = some (.slice e)) (hx : srcTy (P.underlying xT) = true) (hi : P.info? e = some i) (hw : WR ρ S w) (hK : K ≤ S.next) (hr : ρ id = some (b, m))
    (hlen : (Builtin.lenOf y).run P w = .ok n w) (hf : (Builtin.firstCells i.size n y).run P w = .ok xn.toArray w) (hv : VRL ρ xs xn)
    (hf' : (Builtin.firstCells i.size n y).run P w.drew = .ok xn'.toArray w.drew) (hv' : VRL ρ xs xn') :
    Eff K S ρ w S' v ((Builtin.append_ #[sT, xT] ty #[.slice (some ⟨b, off, none⟩) len cap, y]).run P w) := by
  have hsz : tySize P e = some i.size := by simp [tySize, hi]
  unfold aAppSl at h
  split at h
  · rename_i hc
    have hc : len + n ≤ cap := Nat.le_of_ble_eq_true hc
    split at h
    · rename_i S1 hS
      injection h with h; injection h with e1 e2; subst e1; subst e2
      obtain ⟨w', h1, h2, h3, h4⟩ := aWrite_ok (P := P) hS hw hr hv
      exact eff_write (run_append_in hu hx hsz hlen hc hf (by simpa using h1)) h2 h3 (by simp only [VR]; exact ⟨b, m, hr, rfl⟩) h4
    · cases h
  · rename_i hc
    have hc : cap < len + n := by
      refine Nat.lt_of_not_le fun hle => ?_
      rw [Nat.ble_eq_true_of_le hle] at hc; cases hc
    split at h
    · cases h
    · rename_i old hold
      obtain ⟨hcn, hS, e1⟩ := both_ok h
      subst e1
      simp only [Bool.and_eq_true] at hcn
      obtain ⟨xo, ho1, ho2, ho3⟩ := rdAt_ok (P := P) hw.drew hold hr
      have hl1 : old.length = len * i.size := by rw [← ho1.length, ho2]
      exact app_new (K := K) (base := some ⟨b, off, none⟩) (ty := ty) hu hx hi hw hK hcn.1 hlen hc ho3 hf' ho1 hv' hl1 (Nat.eq_of_beq_eq_true hcn.2) hS

theorem aAppOn_ok {K : Nat} {S S' : St} {sT xT ty e : TypeId} {i : TypeInfo} {n id off len c b m : Nat} {v : AV} {y : Value} {w : World} {ρ : Rho} {xs : List AV} {xn xn' : List Value} (h : aAppOn K P S e i n xs id off len = some (v, S'))
    (hu : P.underlying sT = some (.slice e)) (hx : srcTy (P.underlying xT) = true) (hi : P.info? e = some i) (hw : WR ρ S w) (hK : K ≤ S.next) (hr : ρ id = some (b, m)) (hcm : off + c * i.size ≤ m)
    (hlen : (Builtin.lenOf y).run P w = .ok n w) (hf : (Builtin.firstCells i.size n y).run P w = .ok xn.toArray w) (hv : VRL ρ xs xn)
    (hf' : (Builtin.firstCells i.size n y).run P w.drew = .ok xn'.toArray w.drew) (hv' : VRL ρ xs xn') :
    Eff K S ρ w S' v ((Builtin.append_ #[sT, xT] ty #[.slice (some ⟨b, off, none⟩) len c, y]).run P w) := by
  have hsz : tySize P e = some i.size := by simp [tySize, hi]
  unfold aAppOn at h
  split at h
  · rename_i tr k e' hid
    · obtain ⟨hcnd, hS, e1⟩ := both_ok h
      subst e1
      simp only [Bool.and_eq_true] at hcnd
      obtain ⟨c1, c2, c3, c4, c5, c6, c7⟩ := hcnd
      have c1 : off = 0 := Nat.eq_of_beq_eq_true c1
      have c2 : K ≤ id := Nat.le_of_ble_eq_true c2
      have c3 : k = len * i.size := Nat.eq_of_beq_eq_true c3
      have c4 : e' = e := Nat.eq_of_beq_eq_true c4
      have c7 : xs.length = n * i.size := Nat.eq_of_beq_eq_true c7
      subst c1; subst c4
      by_cases hroom : len + n ≤ c
      · exact app_move (ty := ty) hu hx hsz hw hK hlen hroom hf hv c5 hid c2 hr hcm c3 c7 hS
      · exact app_over (ty := ty) hu hx hi hw hK c6 hlen (by omega) hf' hv' hid hr c3 c7 hS
  · cases h

theorem aAppSlu_ok {K : Nat} {S S' : St} {sT xT ty e : TypeId} {i : TypeInfo} {n id off len sz lb c b m : Nat} {v : AV} {y : Value} {w : World} {ρ : Rho} {xs : List AV} {xn xn' : List Value} (h : aAppSlu K P S e i n xs id off len sz lb = some (v, S'))
    (hu : P.underlying sT = some (.slice e)) (hx : srcTy (P.underlying xT) = true) (hi : P.info? e = some i) (hw : WR ρ S w) (hK : K ≤ S.next) (hr : ρ id = some (b, m)) (hlb : lb ≤ c) (hcm : off + c * sz ≤ m)
    (hlen : (Builtin.lenOf y).run P w = .ok n w) (hf : (Builtin.firstCells i.size n y).run P w = .ok xn.toArray w) (hv : VRL ρ xs xn)
    (hf' : (Builtin.firstCells i.size n y).run P w.drew = .ok xn'.toArray w.drew) (hv' : VRL ρ xs xn') :
    Eff K S ρ w S' v ((Builtin.append_ #[sT, xT] ty #[.slice (some ⟨b, off, none⟩) len c, y]).run P w) := by
  have hsz : tySize P e = some i.size := by simp [tySize, hi]
  unfold aAppSlu at h
  split at h
  · cases h
  · rename_i hcz
    simp only [Bool.and_eq_true] at hcz
    have e2 : sz = i.size := Nat.eq_of_beq_eq_true hcz.1
    subst e2
    split at h
    · rename_i hc
      have hc : len + n ≤ lb := Nat.le_of_ble_eq_true hc
      split at h
      · rename_i S1 hS
        injection h with h; injection h with e1 e2; subst e1; subst e2
        obtain ⟨w', h1, h2, h3, h4⟩ := aWrite_ok (P := P) hS hw hr hv
        exact eff_write (run_append_in hu hx hsz hlen (by omega) hf (by simpa using h1)) h2 h3 (by simp only [VR]; exact ⟨b, m, c, hr, rfl, hlb, hcm⟩) h4
      · cases h
    · exact aAppOn_ok h hu hx hi hw hK hr hcm hlen hf hv hf' hv'

theorem aApp_ok {K : Nat} {S S' : St} {sT xT ty : TypeId} {s x v : AV} {u y : Value} {w : World} {ρ : Rho} (h : aApp K P S sT xT s x = some (v, S')) (hw : WR ρ S w) (hK : K ≤ S.next) (hs : VR ρ s u) (hx : VR ρ x y) :
    Eff K S ρ w S' v ((Builtin.append_ #[sT, xT] ty #[u, y]).run P w) := by
  unfold aApp at h
  split at h
  · rename_i e n hu hsrc hn
    split at h
    · cases h
    · rename_i i hi
      split at h
      · cases h
      · rename_i xs hxs
        have hlen := lenAV_ok (P := P) hn hx w
        obtain ⟨xn, hv, hf⟩ := aRead_ok (P := P) hw hxs hx
        obtain ⟨xn', hv', hf'⟩ := aRead_ok (P := P) hw.drew hxs hx
        split at h
        · simp only [VR] at hs; subst hs
          exact aAppNil_ok h hu hsrc hi hw hK hlen hf hf' hv'
        · simp only [VR] at hs; obtain ⟨b, m, hr, e1⟩ := hs; subst e1
          exact aAppSl_ok h hu hsrc hi hw hK hr hlen hf hv hf' hv'
        · simp only [VR] at hs; obtain ⟨b, m, c, hr, e1, hlb, hcm⟩ := hs; subst e1
          exact aAppSlu_ok h hu hsrc hi hw hK hr hlb hcm hlen hf hv hf' hv'
        · cases h
  · cases h

end Ex
end Go.Proofs.YtdkijcmhjeaofaaGreatDoor
namespace Go.Proofs.YtdkijcmhjeaofaaGreatDoor
namespace Ex

variable {P : Program}

/-- A slice literal. -/
noncomputable def aBuildSlice (P : Program) (id : Nat) (t : TypeId) (len : Nat) (ps : List (Nat × AV)) : Option (AV × AB) :=
  match P.underlying t with
  | some (.slice e) => match tySize P e with
    | some s => match Nat.ble (Nat.mul len s) 1000000 with
      | true => match aZeros P e (Nat.mul len s) with
        | some zs => match aFill (fun i => some (Nat.mul i s, s)) ps zs with
          | some cs => match aRow e cs with
            | some B => some (.sl id 0 len len, B)
            | none => none
          | none => none
        | none => none
      | false => none
    | none => none
  | _ => none
theorem aBuildSlice_ok {id len : Nat} {t : TypeId} {ps : List (Nat × AV)} {xs : List (Nat × Value)} {v : AV} {B : AB} {w : World} {ρ : Rho} (h : aBuildSlice P id t len ps = some (v, B)) (hp : PR ρ ps xs) :
    Mk ρ w id v B ((Instr.buildSlice t len xs.toArray).run P w) := by
  unfold aBuildSlice at h
  split at h
  · rename_i e hu
    split at h
    · rename_i s hs
      split at h
      · rename_i hc
        have hc : len * s ≤ 1000000 := Nat.le_of_ble_eq_true hc
        split at h
        · rename_i zs hz
          split at h
          · rename_i cs hf
            split at h
            · rename_i B1 hB
              injection h with h; injection h with e1 e2; subst e1; subst e2
              have hlim : ¬ (len * s > 2 ^ 24) := by
                have : (2 : Nat) ^ 24 = 16777216 := by decide
                omega
              have hnew : ∀ cs, (newRow e cs).run P w = .ok ⟨w.heap.size, 0, none⟩ (w.alloc (.cells cs e)) := fun _ => rfl
              have hpl : (fun i => some (i * s, s)) = fun i => some (Nat.mul i s, s) := rfl
              rcases aZeros_ok hz ρ w with ⟨h0, hz0⟩ | ⟨h0, z, hzr, hzv⟩
              · subst hz0
                have h0 : len * s = 0 := h0
                obtain ⟨d, hd, hr⟩ := aFill_ok (c := #[]) hf hp (by simp [VRL])
                refine Mk.of_row (f := fun a => .slice (some a) len len) hB hr ?_ (fun σ _ hσ => by simp only [VR]; exact ⟨_, _, hσ, rfl⟩)
                rw [Array.toArray_toList]
                have e3 : (Array.range 0).map ((#[] : Array Value)[· % (#[] : Array Value).size]!) = #[] := by simp
                have h2 : ¬ (0 > 2 ^ 24) := by decide
                simp only [Instr.buildSlice, Sem.run_bind, run_underlying hu, Result.andThen_ok, run_size hs, h0, if_neg h2, if_true, Sem.run_pure, e3, hpl, hd, hnew]
              · have h0 : ¬ len * s = 0 := h0
                obtain ⟨d, hd, hr⟩ := aFill_ok hf hp hzv
                refine Mk.of_row (f := fun a => .slice (some a) len len) hB hr ?_ (fun σ _ hσ => by simp only [VR]; exact ⟨_, _, hσ, rfl⟩)
                rw [Array.toArray_toList]
                have hd : Instr.fill (fun i => some (i * s, s)) ((Array.range (len * s)).map (z.cells[· % z.cells.size]!)) xs = some d := hd
                simp only [Instr.buildSlice, Sem.run_bind, run_underlying hu, Result.andThen_ok, run_size hs, if_neg hlim, if_neg h0, hzr, Sem.run_pure, hd, hnew]
            · cases h
          · cases h
        · cases h
      · cases h
    · cases h
  · cases h

/-- The bytes of a string, in a new row. -/
noncomputable def aConvB (P : Program) (id : Nat) (src dst : TypeId) (a : AV) : Option (AV × AB) :=
  match P.underlying src, P.underlying dst, a with
  | some .string, some (.slice e), .str l => match P.underlying e with
    | some (.int .u8) => Bool.rec none (some (.slu id 0 l.length 1 l.length, .cells (wr (l.map fun b => .int .u8 (.ofNat b)) .e 0) l.length e false)) (Nat.ble l.length 1000000)
    | _ => none
  | _, _, _ => none
theorem aConvB_ok {id : Nat} {src dst : TypeId} {a v : AV} {x : Value} {B : AB} {w : World} {ρ : Rho} (h : aConvB P id src dst a = some (v, B)) (ha : VR ρ a x) :
    Mk ρ w id v B ((convert src dst x).run P w) := by
  unfold aConvB at h
  split at h
  · rename_i e l hs hd
    split at h
    · rename_i he
      cases hc : Nat.ble l.length 1000000 with
      | false => rw [hc] at h; cases h
      | true =>
        rw [hc] at h
        have hl : l.length ≤ 1000000 := Nat.le_of_ble_eq_true hc
        simp only [Option.some.injEq, Prod.mk.injEq] at h
        obtain ⟨e1, e2⟩ := h; subst e1; subst e2
        simp only [VR] at ha; obtain ⟨ha, hb⟩ := ha; subst ha
        have hsz := bytesOf_size l
        have hch : (choose (.appendCap (bytesOf l).size 0 e)).run P w = .ok ((bytesOf l).size + w.tape w.drawn (.appendCap (bytesOf l).size 0 e) % (2 ^ 63 - (bytesOf l).size)) w.drew := rfl
        generalize hq : (bytesOf l).size + w.tape w.drawn (.appendCap (bytesOf l).size 0 e) % (2 ^ 63 - (bytesOf l).size) = q at hch
        have hq2 : l.length ≤ q := by omega
        have hdata : ((bytesOf l).data.map fun b => Value.int .u8 b.toNat) = (l.map fun b => Value.int .u8 (.ofNat b)).toArray := by
          apply Array.ext'
          simp only [bytesOf, Array.toList_map, List.map_map]
          refine List.map_congr_left fun b hb' => ?_
          simp [Nat.mod_eq_of_lt (hb b hb')]
        generalize hC : (l.map fun b => Value.int .u8 (.ofNat b)).toArray ++ Array.replicate (q - l.length) (Value.int .u8 0) = C
        have hCs : C.size = q := by rw [← hC]; simp; omega
        have hfr : (w.drew.alloc (.cells C e)).freeze { block := w.heap.size, off := C.size } 1 = { w.drew with heap := w.heap.push (.cells C e (C.size, C.size + 1)) } := by
          have hm : ∀ (o : Obj) (f : Obj → Obj), (w.heap.push o).modify w.heap.size f = w.heap.push (f o) := by
            intro o f
            apply Array.ext_getElem?
            intro j
            rw [Array.getElem?_modify, Array.getElem?_push, Array.getElem?_push]
            by_cases hj : j = w.heap.size
            · subst hj; simp
            · rw [if_neg (Ne.symm hj), if_neg hj, if_neg hj]
          unfold World.freeze
          rw [if_neg (by decide)]
          show ({ w.drew with heap := (w.heap.push (.cells C e)).modify w.heap.size _ } : World) = _
          rw [hm]; rfl
        have hshape : (w.drew.alloc (.cells C e)).shape? w.heap.size = some (e, C.size) := by
          have : (w.drew.alloc (.cells C e)).heap[w.heap.size]? = some (.cells C e) := by
            show (w.heap.push (.cells C e))[w.heap.size]? = _
            simp
          unfold World.shape?; rw [this]
        have hmark : (markStringish ⟨w.heap.size, 0, none⟩).run P (w.drew.alloc (.cells C e)) = .ok () { w.drew with heap := w.heap.push (.cells C e (C.size, C.size + 1)) } := by
          rw [← hfr]
          unfold markStringish
          simp only [Sem.run_bind]
          show ((Result.ok ((w.drew.alloc (.cells C e)).shape? w.heap.size) (w.drew.alloc (.cells C e))).andThen _) = _
          rw [hshape]; rfl
        refine ⟨.slice (some ⟨w.heap.size, 0, none⟩) l.length q, .cells C e (C.size, C.size + 1), q, { w.drew with heap := w.heap.push (.cells C e (C.size, C.size + 1)) }, ?_, rfl, rfl, rfl, rfl, fun σ hσ hid => ⟨?_, ?_⟩⟩
        · have hnew : (newRow e C).run P w.drew = .ok ⟨w.heap.size, 0, none⟩ (w.drew.alloc (.cells C e)) := rfl
          simp only [convert, Sem.run_bind, run_underlying hs, run_underlying hd, Result.andThen_ok, run_underlying he, Conv.stringToBytes, hch, hdata]
          rw [hsz, hC]
          simp only [hnew, Result.andThen_ok, hmark, Sem.run_pure]
        · simp only [VR]; exact ⟨_, _, q, hid, rfl, hq2, by omega⟩
        · refine ⟨C, (C.size, C.size + 1), rfl, hCs, hq2, fun j v hj => ?_, fun h => by cases h⟩
          obtain ⟨q1, q2⟩ := wr_e_at (by simpa using hl) hj
          simp only [List.length_map] at q1
          refine ⟨q1, ?_⟩
          rw [List.getElem?_map] at q2
          cases hlj : l[j]? with
          | none => simp [hlj] at q2
          | some b =>
            simp only [hlj, Option.map_some, Option.some.injEq] at q2; subst q2
            refine ⟨.int .u8 (.ofNat b), ?_, by simp only [VR]⟩
            rw [← hC, Array.getElem?_append_left (by simpa using q1)]
            simp [hlj]
    · cases h
  · cases h

end Ex
end Go.Proofs.YtdkijcmhjeaofaaGreatDoor
namespace Go.Proofs.YtdkijcmhjeaofaaGreatDoor
namespace Ex

variable {P : Program}

/-- An operation that makes one new block, to be named id. -/
noncomputable def allocOp (P : Program) (id : Nat) (f : Fm) (o : Oper) : Option (AV × AB) :=
  match o.op with
  | .alloc e => match aZero P e with
    | some z => match aRow e z.cells with
      | some B => some (.ptr id 0, B)
      | none => none
    | none => none
  | .box e x => match aev f x with
    | some v => match aRow e v.cells with
      | some B => some (.ptr id 0, B)
      | none => none
    | none => none
  | .makeSlice t x y => match aev f x, aev f y with
    | some a, some b => aMake P id t a b
    | _, _ => none
  | .buildSlice t len ps => match parts f ps.toList with
    | some l => aBuildSlice P id t len l
    | none => none
  | .makeMap _ none => some (.map id, .map [] 0)
  | .makeMap t (some x) => match P.underlying t, aev f x with
    | some (.map _ _), some (.int _ _) => some (.map id, .map [] 0)
    | _, _ => none
  | .convert src dst x => match aev f x with
    | some a => aConvB P id src dst a
    | none => none
  | _ => none

/-- The same of the model's next step. -/
def MkN (ρ : Rho) (w : World) (id : Nat) (v : AV) (B : AB) (r : Result Next) : Prop :=
  ∃ x o n w', r = .ok (.value x) w' ∧ w'.heap = w.heap.push o ∧ w'.os = w.os ∧ w'.tape = w.tape ∧ w'.output = w.output ∧ ∀ σ : Rho, ρ.le σ → σ id = some (w.heap.size, n) → VR σ v x ∧ BR σ n B (some o)

theorem Mk.lift {ρ : Rho} {w : World} {id : Nat} {v : AV} {B : AB} {s : Sem Value} (h : Mk ρ w id v B (s.run P w)) : MkN ρ w id v B ((do pure (Next.value (← s)) : Sem Next).run P w) := by
  obtain ⟨x, o, n, w', h1, h2⟩ := h
  exact ⟨x, o, n, w', by simp [h1], h2⟩

theorem allocOp_ok {id : Nat} {f : Fm} {o : Oper} {v : AV} {B : AB} (h : allocOp P id f o = some (v, B)) {ρ : Rho} {a : Act} (hf : FR ρ f a) (w : World) : MkN ρ w id v B ((execOp a.eval o).run P w) := by
  unfold allocOp at h
  unfold execOp
  split at h
  · rename_i e ho; rw [ho]
    split at h
    · rename_i z hz
      split at h
      · rename_i B1 hB
        injection h with h; injection h with e1 e2; subst e1; subst e2
        obtain ⟨x, hx, hv⟩ := aZero_ok hz ρ w
        refine Mk.lift (Mk.of_row (f := fun a => .pointer (some a)) hB (cells_ok hv) ?_ (fun σ _ hσ => by simp only [VR]; exact ⟨_, _, hσ, rfl⟩))
        have hnew : ∀ cs, (newRow e cs).run P w = .ok ⟨w.heap.size, 0, none⟩ (w.alloc (.cells cs e)) := fun _ => rfl
        simp [Instr.alloc, hx, newVar, hnew]
      · cases h
    · cases h
  · rename_i e x ho; rw [ho]
    split at h
    · rename_i u hu
      split at h
      · rename_i B1 hB
        injection h with h; injection h with e1 e2; subst e1; subst e2
        refine Mk.lift (Mk.of_row (f := fun a => .pointer (some a)) hB (cells_ok (aev_ok hf hu)) ?_ (fun σ _ hσ => by simp only [VR]; exact ⟨_, _, hσ, rfl⟩))
        have hnew : ∀ cs, (newRow e cs).run P w = .ok ⟨w.heap.size, 0, none⟩ (w.alloc (.cells cs e)) := fun _ => rfl
        simp [Instr.box, newVar, hnew]
      · cases h
    · cases h
  · rename_i t x y ho; rw [ho]
    split at h
    · rename_i p q hp hq
      exact Mk.lift (aMake_ok h (aev_ok hf hp) (aev_ok hf hq))
    · cases h
  · rename_i t len ps ho; rw [ho]
    split at h
    · rename_i l hl
      have := aBuildSlice_ok (P := P) (w := w) h (parts_ok hf hl)
      have e : (ps.map fun (i, x) => (i, a.eval x)) = (ps.toList.map fun p => (p.1, a.eval p.2)).toArray := by
        apply Array.ext'; simp
      dsimp only
      rw [e]
      exact Mk.lift this
    · cases h
  · rename_i t ho; rw [ho]
    injection h with h; injection h with e1 e2; subst e1; subst e2
    exact ⟨.map (some w.heap.size), .map #[] 0, 0, w.alloc (.map #[] 0), rfl, rfl, rfl, rfl, rfl, fun σ _ hσ => ⟨by simp only [VR]; exact ⟨_, _, hσ, rfl⟩, #[], rfl, by simp [ER]⟩⟩
  · rename_i t x ho; rw [ho]
    split at h
    · rename_i k1 e1 j n hu hx
      injection h with h; injection h with e1 e2; subst e1; subst e2
      have hv := aev_ok hf hx
      simp only [VR] at hv
      refine ⟨.map (some w.heap.size), .map #[] 0, 0, w.alloc (.map #[] 0), ?_, rfl, rfl, rfl, rfl, fun σ _ hσ => ⟨by simp only [VR]; exact ⟨_, _, hσ, rfl⟩, #[], rfl, by simp [ER]⟩⟩
      have hm : (Instr.makeMap t (some (a.eval x))).run P w = .ok (.map (some w.heap.size)) (w.alloc (.map #[] 0)) := by
        rw [hv]
        unfold Instr.makeMap
        simp [run_underlying hu, asInt]
        rfl
      simp [hm]
    · cases h
  · rename_i src dst x ho; rw [ho]
    split at h
    · rename_i u hu
      exact Mk.lift (aConvB_ok h (aev_ok hf hu))
    · cases h
  · cases h

/-- copy(dst, src). -/
noncomputable def aCopy (K : Nat) (P : Program) (S : St) (dT : TypeId) (d s : AV) : Option (AV × St) :=
  match P.underlying dT, lenAV d, lenAV s with
  | some (.slice e), some dl, some sl => match tySize P e with
    | some z => match aRead S z (Nat.min sl dl) s with
      | some cs => match d with
        | .nilSl => some (.int .i64 (.ofNat (Nat.min sl dl)), S)
        | .sl id off _ _ => match aWrite K S id off cs with
          | some S' => some (.int .i64 (.ofNat (Nat.min sl dl)), S')
          | none => none
        | .slu id off _ _ _ => match aWrite K S id off cs with
          | some S' => some (.int .i64 (.ofNat (Nat.min sl dl)), S')
          | none => none
        | _ => none
      | none => none
    | none => none
  | _, _, _ => none

theorem aCopy_ok {K : Nat} {S S' : St} {dT sT ty : TypeId} {d s v : AV} {x y : Value} {w : World} {ρ : Rho} (h : aCopy K P S dT d s = some (v, S')) (hw : WR ρ S w) (hd : VR ρ d x) (hs : VR ρ s y) :
    Eff K S ρ w S' v ((Builtin.copy_ #[dT, sT] ty #[x, y]).run P w) := by
  unfold aCopy at h
  split at h
  · rename_i e dl sl hu hdl hsl
    split at h
    · rename_i z hz
      split at h
      · rename_i cs hcs
        have hlen := lenAV_ok (P := P) hsl hs w
        obtain ⟨xs, hv, hf⟩ := aRead_ok (P := P) hw hcs hs
        split at h
        · injection h with h; injection h with e1 e2; subst e1; subst e2
          simp only [VR] at hd; subst hd
          simp only [lenAV, Option.some.injEq] at hdl; subst hdl
          exact ⟨goInt (Nat.min sl 0), w, ρ, by simp only [Builtin.copy_, List.getElem?_toArray, List.getElem?_cons_zero, List.getElem?_cons_succ, Sem.run_bind, run_underlying hu, Result.andThen_ok, hlen, run_size hz, hf, Sem.run_pure], Up.refl K S ρ w, hw, by simp only [VR]; rfl, Fr.refl K S ρ w⟩
        · rename_i id off len _
          split at h
          · rename_i S1 hS
            injection h with h; injection h with e1 e2; subst e1; subst e2
            simp only [VR] at hd; obtain ⟨b, m, hr, e1⟩ := hd; subst e1
            simp only [lenAV, Option.some.injEq] at hdl; subst hdl
            obtain ⟨w', h1, h2, h3, h4⟩ := aWrite_ok (P := P) hS hw hr hv
            refine eff_write (x := goInt (Nat.min sl len)) ?_ h2 h3 (by simp only [VR]; rfl) h4
            simp only [Builtin.copy_, List.getElem?_toArray, List.getElem?_cons_zero, List.getElem?_cons_succ, Sem.run_bind, run_underlying hu, Result.andThen_ok, hlen, run_size hz, hf, Sem.run_pure, h1]
          · cases h
        · rename_i id off len _ _
          split at h
          · rename_i S1 hS
            injection h with h; injection h with e1 e2; subst e1; subst e2
            simp only [VR] at hd; obtain ⟨b, m, c, hr, e1, _⟩ := hd; subst e1
            simp only [lenAV, Option.some.injEq] at hdl; subst hdl
            obtain ⟨w', h1, h2, h3, h4⟩ := aWrite_ok (P := P) hS hw hr hv
            refine eff_write (x := goInt (Nat.min sl len)) ?_ h2 h3 (by simp only [VR]; rfl) h4
            simp only [Builtin.copy_, List.getElem?_toArray, List.getElem?_cons_zero, List.getElem?_cons_succ, Sem.run_bind, run_underlying hu, Result.andThen_ok, hlen, run_size hz, hf, Sem.run_pure, h1]
          · cases h
        · cases h
      · cases h
    · cases h
  · cases h

end Ex
end Go.Proofs.YtdkijcmhjeaofaaGreatDoor
namespace Go.Proofs.YtdkijcmhjeaofaaGreatDoor
namespace Ex

variable {P : Program}

/-- append(nil, make([]T, n)...). -/
noncomputable def aAppZ (P : Program) (S : St) (sT xT : TypeId) (s x : AV) : Option (AV × St) :=
  match P.underlying sT, P.underlying xT, s, x with
  | some (.slice e), some (.int _), .nilSl, .int _ n => match P.info? e, ix 1000000 n with
    | some i, some l => match Nat.beq l 0 with
      | true => none
      | false => match aZeros P e (Nat.mul l i.size) with
        | some zs => both (mayGrow P e i l && Nat.beq zs.length (Nat.mul l i.size)) (aGrow S e (wr zs .e 0) zs.length) (.slu S.next 0 l i.size l)
        | none => none
    | _, _ => none
  | _, _, _, _ => none

theorem aAppZ_ok {K : Nat} {S S' : St} {sT xT ty : TypeId} {s x v : AV} {u y : Value} {w : World} {ρ : Rho} (h : aAppZ P S sT xT s x = some (v, S')) (hw : WR ρ S w) (hK : K ≤ S.next) (hs : VR ρ s u) (hx : VR ρ x y) :
    Eff K S ρ w S' v ((Builtin.append_ #[sT, xT] ty #[u, y]).run P w) := by
  unfold aAppZ at h
  split at h
  · rename_i e k1 k2 n hu hd
    split at h
    · rename_i i l hi hl
      split at h
      · cases h
      · rename_i h0
        have h0 : l ≠ 0 := fun e => by rw [beq_t e] at h0; cases h0
        split at h
        · rename_i zs hz
          obtain ⟨hc, hS, e1⟩ := both_ok h
          subst e1
          simp only [Bool.and_eq_true] at hc
          have hl2 : zs.length = l * i.size := Nat.eq_of_beq_eq_true hc.2
          obtain ⟨en, hlt⟩ := ix_ok hl
          simp only [VR] at hs hx; subst hs; subst hx; subst en
          obtain ⟨g1, g2, z, hzr, hzs⟩ := mayGrow_ok hc.1 ρ w.drew
          have hsz : tySize P e = some i.size := by simp [tySize, hi]
          have wl : IntKind.i64.wrap (l : Int) = l := by rw [← fwrap_eq]; show fwrap .i64 (.ofNat l) = _; unfold fwrap; show (Bool.rec _ _ (Nat.blt l (top .i64)) : Int) = _; rw [blt_t (by show l < 9223372036854775808; omega)]; rfl
          have hneg : ¬ ((l : Int) < 0) := by omega
          have hbig : ¬ ((l : Int) * (i.bytes : Int) > 2 ^ 48) := by
            intro hgt
            have h3 : ((l * i.bytes : Nat) : Int) > 2 ^ 48 := by simpa using hgt
            have h4 : l * i.bytes ≤ 1000000 * i.bytes := Nat.mul_le_mul_right _ (by omega)
            have : (2 : Int) ^ 48 = 281474976710656 := by decide
            omega
          have h2 : ¬ (Builtin.nextslicecap (0 + l) 0 * i.bytes > 2 ^ 48) := by
            have := nextcap_le (need := 0 + l) (cap := 0) (by omega) (by omega)
            have h3 : Builtin.nextslicecap (0 + l) 0 * i.bytes ≤ 3000000 * i.bytes := Nat.mul_le_mul_right _ this
            have : (2 : Nat) ^ 48 = 281474976710656 := by decide
            omega
          have h4 : ¬ (((0 + l : Nat) : Int) > IntKind.i64.max) := by
            have : IntKind.i64.max = 9223372036854775807 := by decide
            omega
          have h5 : ¬ (0 + l ≤ 0) := by omega
          have hch : (choose (.appendCap (0 + l) 0 e)).run P w = .ok (0 + l + w.tape w.drawn (.appendCap (0 + l) 0 e) % (2 ^ 63 - (0 + l))) w.drew := rfl
          have hcap : l ≤ 0 + l + w.tape w.drawn (.appendCap (0 + l) 0 e) % (2 ^ 63 - (0 + l)) := by omega
          generalize 0 + l + w.tape w.drawn (.appendCap (0 + l) 0 e) % (2 ^ 63 - (0 + l)) = q at hch hcap
          have har : ∀ m, (askRoom m).run P w.drew = .ok () w.drew := by
            intro m; unfold askRoom; split <;> rfl
          have hnew : ∀ cs, (newRow e cs).run P w.drew = .ok ⟨w.heap.size, 0, none⟩ (w.drew.alloc (.cells cs e)) := fun cs => rfl
          have hold : (Builtin.firstCells i.size 0 (.slice none 0 0)).run P w.drew = .ok #[] w.drew := rfl
          -- the new cells
          have hcells : ∃ nc : Array Value, VRL ρ zs nc.toList ∧ (if l * i.size = 0 then (pure #[] : Sem (Array Value)) else do pure (Builtin.zeroCells (← zeroValue e).cells l)).run P w.drew = .ok nc w.drew := by
            rcases aZeros_ok hz ρ w.drew with ⟨hz0, hzl⟩ | ⟨hz0, z', hzr', hzv⟩
            · have hz0 : l * i.size = 0 := hz0
              subst hzl
              exact ⟨#[], by simp [VRL], by rw [if_pos hz0]; rfl⟩
            · have hz0 : ¬ l * i.size = 0 := hz0
              rw [hzr] at hzr'; injection hzr' with hzr'; subst hzr'
              refine ⟨Builtin.zeroCells z.cells l, ?_, by rw [if_neg hz0]; simp [hzr]⟩
              unfold Builtin.zeroCells
              rw [hzs]
              rw [hzs] at hzv
              exact hzv
          obtain ⟨nc, hnv, hnr⟩ := hcells
          have hrun : (Builtin.append_ #[sT, xT] ty #[.slice none 0 0, .int k2 (l : Int)]).run P w = .ok (.slice (some ⟨w.heap.size, 0, none⟩) (0 + l) q) (w.drew.alloc (.cells (#[] ++ nc ++ Builtin.zeroCells z.cells (q - (0 + l))) e)) := by
            simp only [Builtin.append_, List.getElem?_toArray, List.getElem?_cons_zero, List.getElem?_cons_succ, Sem.run_bind, run_underlying hu, run_underlying hd, Result.andThen_ok, run_size hsz, Sem.run_pure, if_true, asInt, asIntOf, wl, if_neg hneg, run_typeInfo w hi, if_neg hbig, Int.toNat_natCast, if_neg h5, h4, false_and, if_false, if_neg h2, hch, run_typeInfo w.drew hi, har, hold, Bool.not_true, Bool.false_eq_true, hnr, hzr, hnew]
          have hnl := hnv.length
          have hnl : nc.size = l * i.size := by rw [hl2] at hnl; simpa using hnl
          have hsize : (#[] ++ nc ++ Builtin.zeroCells z.cells (q - (0 + l))).size = q * i.size := by
            simp only [Array.size_append, zeroCells_size, hzs, hnl]
            rw [show (#[] : Array Value).size = 0 from rfl, Nat.zero_add, ← Nat.add_mul]; congr 1; omega
          have hmul : l * i.size ≤ q * i.size := Nat.mul_le_mul_right _ hcap
          obtain ⟨σ, h1, h2', h3, h4'⟩ := aGrow_ok (K := K) (c := #[] ++ nc ++ Builtin.zeroCells z.cells (q - (0 + l))) hS hw hK hsize (by omega) (fun j v hj => by
            obtain ⟨q1, q2⟩ := wr_e_at (aGrow_len hS) hj
            obtain ⟨x, hx1, hx2⟩ := hnv.get j v q2
            refine ⟨q1, x, ?_, hx2⟩
            rw [Array.getElem?_append_left (by simp; omega)]
            simpa using hx1)
          refine ⟨_, _, σ, hrun, h1, h2', ?_, h4'⟩
          simp only [VR]
          exact ⟨_, _, q, h3, by rw [Nat.zero_add], hcap, by omega⟩
        · cases h
    · cases h
  · cases h

end Ex
end Go.Proofs.YtdkijcmhjeaofaaGreatDoor
namespace Go.Proofs.YtdkijcmhjeaofaaGreatDoor
namespace Ex

variable {P : Program}

/-- The bytes of cells. -/
noncomputable def aBytes (l : List AV) : Option (List Nat) := mapO (fun v => match v with
  | .int .u8 (.ofNat b) => Bool.rec none (fNat b some) (Nat.blt b 256)
  | _ => none) l

theorem aBytes_ok {ρ : Rho} : ∀ {l : List AV} {bs : List Nat} {xs : List Value}, aBytes l = some bs → VRL ρ l xs → xs = bs.map (fun b : Nat => Value.int .u8 (b : Int)) ∧ (∀ b ∈ bs, b < 256)
  | [], bs, xs, h, hv => by
    have h : some [] = some bs := h
    injection h with h; subst h; simp only [VRL] at hv; subst hv; exact ⟨rfl, fun b hb => by simp at hb⟩
  | v :: l, bs, xs, h, hv => by
    obtain ⟨y, ys, h1, h2, h3⟩ := mapO_cons h
    simp only [VRL] at hv
    obtain ⟨z, zs, e, hz, hzs⟩ := hv
    obtain ⟨i1, i2⟩ := aBytes_ok (l := l) h2 hzs
    subst h3; subst e
    split at h1
    · rename_i b
      by_cases hb : b < 256
      · rw [blt_t hb] at h1
        simp only [fNat_eq, Option.some.injEq] at h1; subst h1
        simp only [VR] at hz
        refine ⟨by rw [hz, i1]; rfl, fun c hc => ?_⟩
        rcases List.mem_cons.1 hc with rfl | hc
        · exact hb
        · exact i2 c hc
      · rw [blt_f hb] at h1; cases h1
    · cases h1

theorem run_loadBytes {w : World} {b : Nat} : ∀ (bs : List Nat) (off : Nat) (acc : List Nat), (∀ x ∈ bs, x < 256) → (∀ j x : Nat, bs[j]? = some x → w.cell? ⟨b, off + j, none⟩ = some (.int .u8 (x : Int))) →
    (loadBytes ⟨b, off, none⟩ (bytesOf acc) bs.length).run P w = .ok (bytesOf (acc ++ bs)) w
  | [], off, acc, _, _ => by simp [loadBytes]
  | x :: bs, off, acc, hb, hc => by
    have h0 := hc 0 x (by simp)
    simp only [Nat.add_zero] at h0
    have hp : (bytesOf acc).push ((x : Int).toNat.toUInt8) = bytesOf (acc ++ [x]) := by
      apply ByteArray.ext
      simp [bytesOf, ByteArray.push]
    have ih := run_loadBytes (w := w) (b := b) bs (off + 1) (acc ++ [x]) (fun y hy => hb y (by simp [hy])) (fun j y hy => by
      have := hc (j + 1) y (by simpa using hy)
      rw [← this]; congr 2; omega)
    simp only [List.length_cons, loadBytes, Sem.run_bind, run_load, h0, Result.andThen_ok, hp, addr_add, ih]
    simp

/-- unsafe.String. -/
noncomputable def aUStr (K : Nat) (P : Program) (S : St) (pt : TypeId) (p n : AV) : Option (AV × St) :=
  match P.underlying pt, p, n with
  | some (.pointer e), .ptr id off, .int _ z => match ix 1000000 z, S.heap.at id with
    | some l, some (.cells tr m e' _) => match Nat.beq e e' && (Nat.ble (Nat.add off l) m && (Nat.blt 0 l && (Nat.ble K id && Nat.beq (P.cellsOf e) 1))) with
      | true => match rd tr l off with
        | some cs => match aBytes cs with
          | some bs => some (.str bs, ⟨S.heap.to id (.cells tr m e' false), S.next⟩)
          | none => none
        | none => none
      | false => none
    | _, _ => none
  | _, _, _ => none

theorem liesAt_same {e : TypeId} {count off n : Nat} (hs : P.cellsOf e = 1) (h : off + n ≤ count) (d : Nat) : liesAt P (d + 1) e count off e n = true := by
  have hd : P.depth = (P.depth - 1) + 1 := by unfold Program.depth; omega
  have hl : sameLayout P (P.depth - 1 + 1) e e = true := by simp [sameLayout]
  have hr : rowAt P (sameLayout P P.depth · e) P.depth e count off n = true := by
    rw [hd]; simp [rowAt, hs, hl, h, Nat.mod_one]
  simp only [liesAt, hr, Bool.true_or]

theorem aUStr_ok {K : Nat} {S S' : St} {pt lt ty : TypeId} {p n v : AV} {x y : Value} {w : World} {ρ : Rho} (h : aUStr K P S pt p n = some (v, S')) (hw : WR ρ S w) (hp : VR ρ p x) (hn : VR ρ n y) :
    Eff K S ρ w S' v ((Builtin.unsafeString_ #[pt, lt] ty #[x, y]).run P w) := by
  unfold aUStr at h
  split at h
  · rename_i e id off k z hu
    split at h
    · rename_i l tr m e' fr hl hid
      split at h
      · rename_i hc
        split at h
        · rename_i cs hcs
          split at h
          · rename_i bs hbs
            injection h with h; injection h with e1 e2; subst e1; subst e2
            simp only [Bool.and_eq_true] at hc
            obtain ⟨c1, c2, c3, c4, c5⟩ := hc
            have c1 : e = e' := Nat.eq_of_beq_eq_true c1
            have c2 : off + l ≤ m := Nat.le_of_ble_eq_true c2
            have c3 : 0 < l := by rwa [Nat.blt_eq] at c3
            have c4 : K ≤ id := Nat.le_of_ble_eq_true c4
            have c5 : P.cellsOf e = 1 := Nat.eq_of_beq_eq_true c5
            subst c1
            obtain ⟨en, hlt⟩ := ix_ok hl
            simp only [VR] at hp hn
            obtain ⟨b, m1, hr, e1⟩ := hp; subst e1; subst hn; subst en
            obtain ⟨b', n', hr', c, f, q1, q2, q3, q4, _⟩ := hw.blk id _ hid
            rw [hr] at hr'; injection hr' with hr'; injection hr' with p1 p2; subst p1; subst p2
            obtain ⟨xs, hx, hxl, hget⟩ := rd_ok q4 hcs
            obtain ⟨hb1, hb2⟩ := aBytes_ok hbs hx
            have hbl : bs.length = l := by rw [← hxl, hb1]; simp
            have hload := run_loadBytes (P := P) (w := w) (b := b) bs off [] hb2 (fun j x hj => by
              have : c[off + j]? = some (.int .u8 (x : Int)) := hget j _ (by rw [hb1]; simp [hj])
              simp [World.cell?, q1, this])
            rw [hbl] at hload
            have hload : (loadBytes ⟨b, off, none⟩ .empty l).run P w = .ok (bytesOf bs) w := hload
            have hshape : (shape b).run P w = .ok (some (e, c.size)) w := by
              show Result.ok (w.shape? b) w = _
              unfold World.shape?; rw [q1]
            have hd : P.depth = (P.depth - 1) + 1 := by unfold Program.depth; omega
            have hvar : (variablesAt ⟨b, off, none⟩ e l).run P w = .ok true w := by
              simp only [variablesAt, Sem.run_bind, run_program, Result.andThen_ok, hshape, Sem.run_pure]
              rw [hd, liesAt_same c5 (by rw [c5, Nat.div_one]; omega)]
            have hel : (elemOf pt).run P w = .ok e w := by simp [elemOf, run_underlying hu]
            have hmax : ¬ ((l : Int) > IntKind.i64.max) := by
              have : IntKind.i64.max = 9223372036854775807 := by decide
              omega
            have hneg : ¬ ((l : Int) < 0) := by omega
            have h0 : ¬ ((l : Int) = 0) := by omega
            have hfz : (freeze ⟨b, off, none⟩ l).run P w = .ok () (w.freeze ⟨b, off, none⟩ l) := rfl
            have hheap : ∀ k, (w.freeze ⟨b, off, none⟩ l).heap[k]? = if b = k then (w.heap[k]?).map (fun o => match o with | .cells c elem (lo, hi) => .cells c elem (if lo == hi then (off, off + l) else (min lo off, max hi (off + l))) | o => o) else w.heap[k]? := by
              intro k
              unfold World.freeze
              rw [if_neg (by omega)]
              simp only [Array.getElem?_modify]
              split
              · rename_i hk; subst hk; rfl
              · rfl
            refine ⟨.string (bytesOf bs), w.freeze ⟨b, off, none⟩ l, ρ, ?_, Up.upd hw hid rfl, ?_, by simp only [VR]; exact ⟨trivial, hb2⟩, ?_⟩
            · change Sem.run P (asInt (Value.int k (l : Int)) >>= _) w = _
              simp only [Sem.run_bind, asInt, asIntOf, Sem.run_pure, Result.andThen_ok, List.getElem?_toArray, List.getElem?_cons_zero, if_neg hneg, if_neg hmax, if_neg h0, hel, Int.toNat_natCast, hvar, if_true, hload, hfz]
            · refine hw.upd hid rfl hr ?_ ?_ ?_
              · rw [hheap b, if_pos rfl, q1]
                obtain ⟨lo, hi⟩ := f
                exact ⟨c, _, rfl, q2, q3, q4, fun h => by cases h⟩
              · unfold World.freeze; rw [if_neg (by omega)]; simp
              · intro k hk; rw [hheap k, if_neg (Ne.symm hk)]
            · refine ⟨?_, ?_, ?_, ?_, fun k hk hn => ?_⟩
              · unfold World.freeze; rw [if_neg (by omega)]
              · unfold World.freeze; rw [if_neg (by omega)]
              · unfold World.freeze; rw [if_neg (by omega)]
              · unfold World.freeze; rw [if_neg (by omega)]; simp
              · rw [hheap k, if_neg (fun e : b = k => hn id m1 _ c4 hid rfl (e ▸ hr))]
          · cases h
        · cases h
      · cases h
    · cases h
  · cases h

end Ex
end Go.Proofs.YtdkijcmhjeaofaaGreatDoor
