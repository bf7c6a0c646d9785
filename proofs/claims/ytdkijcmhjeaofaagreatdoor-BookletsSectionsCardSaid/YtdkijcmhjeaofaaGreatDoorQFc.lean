/- Joined texts. A closed-run executor, part 23: conversions that look at memory; unsafe.SliceData; maps. No program is named; no condition. · A closed-run executor, part 24: maps. No program is named; no condition. · A closed-run executor, part 25: maps looked up and written; all operations that read memory, and all that change it. No program is named; no condition. · A closed-run executor, part 26: the executor. No program is named; no condition. · A closed-run executor, part 27: operations one after the other are as the model has them, in a plain frame and in a round's. No program is named; no condition. · A closed-run executor, part 28: a loop is its first round and the loop again; scopes; in a plain frame and in a round's. No program is named; no condition. -/
import Derived.Test.YtdkijcmhjeaofaaGreatDoorQEv
import Derived.Below
import Derived.RangeFuncSeq
import Derived.TacticsIn
import Derived.CallsIn
import Derived.Scope
namespace Go.Proofs.YtdkijcmhjeaofaaGreatDoor
namespace Ex

variable {P : Program}

/-- unsafe.SliceData. -/
def aUData (a : AV) : Option AV :=
  match a with
  | .sl id off _ (_ + 1) => some (.ptr id off)
  | .slu id off _ _ (_ + 1) => some (.ptr id off)
  | .nilSl => some .nilPtr
  | _ => none
theorem aUData_ok {a v : AV} {x : Value} {ts : Array TypeId} {ty : TypeId} {w : World} {ρ : Rho} (h : aUData a = some v) (ha : VR ρ a x) : ∃ z, (Builtin.unsafeSliceData_ ts ty #[x]).run P w = .ok z w ∧ VR ρ v z := by
  unfold aUData at h
  split at h
  · rename_i id off len c
    injection h with h; subst h
    simp only [VR] at ha; obtain ⟨b, n, hr, e⟩ := ha; subst e
    exact ⟨.pointer (some ⟨b, off, none⟩), rfl, by simp only [VR]; exact ⟨b, n, hr, rfl⟩⟩
  · rename_i id off len sz lb
    injection h with h; subst h
    simp only [VR] at ha; obtain ⟨b, n, c, hr, e, hlb, _⟩ := ha; subst e
    obtain ⟨c', rfl⟩ : ∃ c', c = c' + 1 := ⟨c - 1, by omega⟩
    exact ⟨.pointer (some ⟨b, off, none⟩), rfl, by simp only [VR]; exact ⟨b, n, hr, rfl⟩⟩
  · injection h with h; subst h
    simp only [VR] at ha; subst ha
    exact ⟨.pointer none, rfl, by simp only [VR]⟩
  · cases h

/-- Conversions that look at memory: pointers to unsafe.Pointer and back to their own type, bytes to a string. -/
noncomputable def aConvM (P : Program) (S : St) (src dst : TypeId) (a : AV) : Option AV :=
  match P.underlying src, P.underlying dst, a with
  | some (.pointer t), some .unsafePointer, .ptr id off => match S.heap.at id, tySize P t with
    | some (.cells _ m _ _), some (_ + 1) => Bool.rec none (some (.ptr id off)) (Nat.blt off m)
    | _, _ => none
  | some .unsafePointer, some (.pointer u), .ptr id off => match S.heap.at id, tySize P u with
    | some (.cells _ m e _), some (s + 1) => Bool.rec none (some (.ptr id off)) (Nat.beq e u && (Nat.beq off 0 && Nat.ble (Nat.succ s) m))
    | _, _ => none
  | some (.slice e), some .string, .nilSl => match P.underlying e with
    | some (.int .u8) => some (.str [])
    | _ => none
  | some (.slice e), some .string, .sl id off len _ => match P.underlying e, aRead.rdAt S id off len with
    | some (.int .u8), some cs => match aBytes cs with
      | some bs => some (.str bs)
      | none => none
    | _, _ => none
  | some (.slice e), some .string, .slu id off len _ _ => match P.underlying e, aRead.rdAt S id off len with
    | some (.int .u8), some cs => match aBytes cs with
      | some bs => some (.str bs)
      | none => none
    | _, _ => none
  | _, _, _ => none

theorem shape_of {ρ : Rho} {S : St} {w : World} (hw : WR ρ S w) {id b n m : Nat} {tr : Tr AV} {e : TypeId} {fr : Bool} (hid : S.heap.at id = some (.cells tr m e fr)) (hr : ρ id = some (b, n)) :
    (shape b).run P w = .ok (some (e, n)) w ∧ m ≤ n ∧ (viewAt b).run P w = .ok none w := by
  obtain ⟨b', n', hr', c, f, q1, q2, q3, q4, _⟩ := hw.blk id _ hid
  rw [hr] at hr'; injection hr' with hr'; injection hr' with p1 p2; subst p1; subst p2
  have hs : (shape b).run P w = .ok (some (e, c.size)) w := by
    show Result.ok (w.shape? b) w = _
    unfold World.shape?; rw [q1]
  rw [q2] at hs
  exact ⟨hs, q3, by simp [viewAt, hs]⟩

theorem liesAt_one {e : TypeId} {count s : Nat} (hs : P.cellsOf e = s + 1) (h : 1 ≤ count) (d : Nat) : liesAt P (d + 1) e count 0 e 1 = true := by
  have hd : P.depth = (P.depth - 1) + 1 := by unfold Program.depth; omega
  have hl : sameLayout P (P.depth - 1 + 1) e e = true := by simp [sameLayout]
  have hr : rowAt P (sameLayout P P.depth · e) P.depth e count 0 1 = true := by
    rw [hd]; simp [rowAt, hs, hl, h]
  simp only [liesAt, hr, Bool.true_or]

theorem bytesToString_ok {ρ : Rho} {cs : List AV} {bs : List Nat} {xs : List Value} {b off len cap : Nat} {w : World} (h : aBytes cs = some bs) (hv : VRL ρ cs xs) (hl : (loadCells ⟨b, off, none⟩ len).run P w = .ok xs.toArray w) :
    (Conv.bytesToString (.slice (some ⟨b, off, none⟩) len cap)).run P w = .ok (.string (bytesOf bs)) w ∧ ∀ x ∈ bs, x < 256 := by
  obtain ⟨h1, h2⟩ := aBytes_ok h hv
  refine ⟨?_, h2⟩
  have loop : ∀ (g : Value → ByteArray → Sem (ForInStep ByteArray)), (∀ n s, g (.int .u8 n) s = pure (ForInStep.yield (s.push (UInt8.ofNat n.toNat)))) → ∀ (l : List Nat) (acc : List Nat),
      (forIn (m := Sem) (l.map fun b : Nat => Value.int .u8 (b : Int)) (bytesOf acc) g).run P w = .ok (bytesOf (acc ++ l)) w := by
    intro g hg l
    induction l with
    | nil => intro acc; simp
    | cons x l ih =>
      intro acc
      have hp : (bytesOf acc).push (UInt8.ofNat (x : Int).toNat) = bytesOf (acc ++ [x]) := by
        apply ByteArray.ext
        simp [bytesOf, ByteArray.push]
      have := ih (acc ++ [x])
      simp only [List.map_cons, List.forIn_cons, Sem.run_bind, hg, Sem.run_pure, Result.andThen_ok, hp, this]
      simp
  rw [h1] at hl
  simp only [Conv.bytesToString, Sem.run_bind, hl, Result.andThen_ok]
  rw [← Array.forIn_toList]
  have hnil : ByteArray.empty = bytesOf [] := rfl
  rw [hnil, loop _ (fun n s => rfl) bs []]
  simp

theorem aConvM_ok {S : St} {src dst : TypeId} {a v : AV} {x : Value} {w : World} {ρ : Rho} (h : aConvM P S src dst a = some v) (hw : WR ρ S w) (ha : VR ρ a x) : ∃ z, (convert src dst x).run P w = .ok z w ∧ VR ρ v z := by
  unfold aConvM at h
  split at h
  · rename_i t id off hs hd
    split at h
    · rename_i tr m e fr s hid hz
      have ha' := ha
      simp only [VR] at ha; obtain ⟨b, n, hr, e1⟩ := ha
      obtain ⟨hsh, hmn, hview⟩ := shape_of (P := P) hw hid hr
      by_cases hlt : off < m
      · rw [blt_t hlt] at h
        simp only [Option.some.injEq] at h; subst h
        refine ⟨x, ?_, ha'⟩
        subst e1
        have hseen : (Conv.seenAt ⟨b, off, none⟩).run P w = .ok ⟨b, off, none⟩ w := by simp [Conv.seenAt, hview]
        have hin : (cellsIn b).run P w = .ok (some n) w := by simp [cellsIn, hsh]
        simp only [convert, Sem.run_bind, run_underlying hs, run_underlying hd, Result.andThen_ok, Conv.unsafePointer, hseen, hin, run_size hz]
        have h1 : ¬ (off ≥ n) := by omega
        simp [h1]
      · rw [blt_f hlt] at h; cases h
    · cases h
  · rename_i u id off hs hd
    split at h
    · rename_i tr m e fr s hid hz
      have ha' := ha
      simp only [VR] at ha; obtain ⟨b, n, hr, e1⟩ := ha
      obtain ⟨hsh, hmn, hview⟩ := shape_of (P := P) hw hid hr
      cases hc : (Nat.beq e u && (Nat.beq off 0 && Nat.ble (Nat.succ s) m)) with
      | false => rw [hc] at h; cases h
      | true =>
        rw [hc] at h
        simp only [Option.some.injEq] at h; subst h
        simp only [Bool.and_eq_true] at hc
        have c1 : e = u := Nat.eq_of_beq_eq_true hc.1
        have c2 : off = 0 := Nat.eq_of_beq_eq_true hc.2.1
        have c3 : s + 1 ≤ m := Nat.le_of_ble_eq_true hc.2.2
        subst c1; subst c2
        refine ⟨x, ?_, ha'⟩
        subst e1
        have hseen : (Conv.seenAt ⟨b, 0, none⟩).run P w = .ok ⟨b, 0, none⟩ w := by simp [Conv.seenAt, hview]
        have hco : P.cellsOf e = s + 1 := by
          unfold tySize at hz
          simp [Program.cellsOf, hz]
        have hdp : P.depth = (P.depth - 1) + 1 := by unfold Program.depth; omega
        have hdiv : 1 ≤ n / (s + 1) := by rw [Nat.le_div_iff_mul_le (by omega)]; omega
        have hvar : (variablesAt ⟨b, 0, none⟩ e 1).run P w = .ok true w := by
          simp only [variablesAt, Sem.run_bind, run_program, Result.andThen_ok, hsh, Sem.run_pure]
          rw [hdp, liesAt_one hco (by rw [hco]; exact hdiv)]
        simp [convert, run_underlying hs, run_underlying hd, Conv.unsafePointer, hseen, run_size hz, hvar]
    · cases h
  · rename_i e hs hd
    split at h
    · rename_i he
      injection h with h; subst h
      simp only [VR] at ha; subst ha
      refine ⟨.string .empty, ?_, by simp only [VR]; exact ⟨rfl, fun b hb => by simp at hb⟩⟩
      simp [convert, run_underlying hs, run_underlying hd, run_underlying he, Conv.bytesToString]
    · cases h
  · rename_i e id off len cap hs hd
    split at h
    · rename_i cs he hcs
      split at h
      · rename_i bs hbs
        injection h with h; subst h
        simp only [VR] at ha; obtain ⟨b, n, hr, e1⟩ := ha; subst e1
        obtain ⟨xs, h1, _, h2⟩ := rdAt_ok (P := P) hw hcs hr
        obtain ⟨h3, h4⟩ := bytesToString_ok (cap := cap) hbs h1 h2
        exact ⟨_, by simp [convert, run_underlying hs, run_underlying hd, run_underlying he, h3]; rfl, by simp only [VR]; exact ⟨trivial, h4⟩⟩
      · cases h
    · cases h
  · rename_i e id off len sz lb hs hd
    split at h
    · rename_i cs he hcs
      split at h
      · rename_i bs hbs
        injection h with h; subst h
        simp only [VR] at ha; obtain ⟨b, n, cap, hr, e1, _⟩ := ha; subst e1
        obtain ⟨xs, h1, _, h2⟩ := rdAt_ok (P := P) hw hcs hr
        obtain ⟨h3, h4⟩ := bytesToString_ok (cap := cap) hbs h1 h2
        exact ⟨_, by simp [convert, run_underlying hs, run_underlying hd, run_underlying he, h3]; rfl, by simp only [VR]; exact ⟨trivial, h4⟩⟩
      · cases h
    · cases h
  · cases h

end Ex
end Go.Proofs.YtdkijcmhjeaofaaGreatDoor
namespace Go.Proofs.YtdkijcmhjeaofaaGreatDoor
namespace Ex

variable {P : Program}

/-- Equality of plain values, by the model's own text. -/
noncomputable def aSame (P : Program) (t : TypeId) (u v : AV) : Option Bool :=
  match conc u, conc v with
  | some x, some y => pureRun P (Op.equal t x y)
  | _, _ => none

/-- The place of a key among entries. -/
noncomputable def aFind (P : Program) (t : TypeId) (k : AV) (l : List (AV × AV)) : Option (Option (Nat × AV)) :=
  List.rec (some none) (fun e _ ih => match aSame P t k e.1 with
    | some true => some (some (0, e.2))
    | some false => match ih with
      | some (some (i, v)) => some (some (Nat.succ i, v))
      | some none => some none
      | none => none
    | none => none) l

/-- A key's type whose keys the model compares by asking: an array or a struct. -/
def askTy : Option TypeDesc → Bool
  | some (.array _ _) | some (.struct _) => true
  | _ => false

theorem findAsking_ok {ρ : Rho} {t : TypeId} {k : AV} {x : Value} {w : World} (hk : VR ρ k x) : ∀ {l : List (AV × AV)} {es : List MapEntry} {r : Option (Nat × AV)} (n : Nat), aFind P t k l = some r → ER ρ l es →
    (match r with
      | none => (Instr.findAsking t x es n).run P w = .ok none w
      | some (i, v) => ∃ y, (Instr.findAsking t x es n).run P w = .ok (some (n + i, y)) w ∧ VR ρ v y ∧ i < es.length)
  | [], es, r, n, h, he => by
    have h : some none = some r := h
    injection h with h; subst h
    simp only [ER] at he; subst he
    simp [Instr.findAsking]
  | (k1, v1) :: l, es, r, n, h, he => by
    simp only [ER] at he
    obtain ⟨e, rs, e1, hk1, hv1, hr⟩ := he; subst e1
    have h : (match aSame P t k k1 with
      | some true => some (some (0, v1))
      | some false => match aFind P t k l with
        | some (some (i, v)) => some (some (Nat.succ i, v))
        | some none => some none
        | none => none
      | none => none) = some r := h
    have same : ∀ b, aSame P t k k1 = some b → (Op.equal t x e.key).run P w = .ok b w := by
      intro b hb
      unfold aSame at hb
      split at hb
      · rename_i a c ha hc
        rw [conc_ok ha hk, conc_ok hc hk1]
        exact pureRun_ok _ hb w
      · cases hb
    split at h
    · rename_i hs
      injection h with h; subst h
      refine ⟨e.val, ?_, hv1, by simp⟩
      simp [Instr.findAsking, same _ hs]
    · rename_i hs
      split at h
      · rename_i i v hf
        injection h with h; subst h
        have ih := findAsking_ok (w := w) hk (n + 1) hf hr
        simp only at ih
        obtain ⟨y, h1, h2, h3⟩ := ih
        refine ⟨y, ?_, h2, by simp; omega⟩
        have e2 : n + 1 + i = n + Nat.succ i := by omega
        rw [e2] at h1
        simp [Instr.findAsking, same _ hs, h1]
      · rename_i hf
        injection h with h; subst h
        have ih := findAsking_ok (w := w) hk (n + 1) hf hr
        simp only at ih
        simp [Instr.findAsking, same _ hs, ih]
      · cases h
    · cases h

theorem findKey_ok {ρ : Rho} {t : TypeId} {k : AV} {x : Value} {w : World} (hk : VR ρ k x) {l : List (AV × AV)} {es : List MapEntry} {r : Option (Nat × AV)} (ht : askTy (P.underlying t) = true) (h : aFind P t k l = some r) (he : ER ρ l es) :
    (match r with
      | none => (Instr.findKey t x es).run P w = .ok none w
      | some (i, v) => ∃ y, (Instr.findKey t x es).run P w = .ok (some (i, y)) w ∧ VR ρ v y ∧ i < es.length) := by
  have hu : ∃ d, P.underlying t = some d ∧ ∀ a b, Instr.sameNow d a b = none := by
    cases hd : P.underlying t with
    | none => rw [hd] at ht; cases ht
    | some d =>
      rw [hd] at ht
      cases d <;> first
        | exact ⟨_, rfl, fun a b => rfl⟩
        | cases ht
  obtain ⟨d, hd, hsn⟩ := hu
  have hrun : (Instr.findKey t x es).run P w = (match es with | [] => .ok none w | _ => (Instr.findAsking t x es).run P w) := by
    cases es with
    | nil => simp [Instr.findKey, run_underlying hd, Instr.findNow]
    | cons e r => simp [Instr.findKey, run_underlying hd, Instr.findNow, hsn]
  have := findAsking_ok (P := P) (w := w) hk 0 h he
  cases r with
  | none =>
    simp only at this ⊢
    rw [hrun]
    cases es with
    | nil => rfl
    | cons e r => exact this
  | some p =>
    obtain ⟨i, v⟩ := p
    simp only at this ⊢
    obtain ⟨y, h1, h2, h3⟩ := this
    refine ⟨y, ?_, h2, h3⟩
    rw [hrun]
    cases es with
    | nil => simp at h3
    | cons e r => simpa using h1

end Ex
end Go.Proofs.YtdkijcmhjeaofaaGreatDoor
namespace Go.Proofs.YtdkijcmhjeaofaaGreatDoor
namespace Ex

variable {P : Program}

/-- The key can be hashed. -/
noncomputable def keyOk (P : Program) (e : Bool) (kt : TypeId) (k : AV) : Bool :=
  match conc k with
  | some x => match pureRun P (Instr.checkKey e 10000 kt x) with
    | some () => askTy (P.underlying kt)
    | none => false
  | none => false
theorem keyOk_ok {e : Bool} {kt : TypeId} {k : AV} {x : Value} {w : World} {ρ : Rho} (h : keyOk P e kt k = true) (hk : VR ρ k x) : (Instr.checkKey e 10000 kt x).run P w = .ok () w ∧ askTy (P.underlying kt) = true := by
  unfold keyOk at h
  split at h
  · rename_i y hy
    split at h
    · rename_i hp
      rw [conc_ok hy hk]
      exact ⟨pureRun_ok _ hp w, h⟩
    · cases h
  · cases h

def noEntries (l : List (AV × AV)) : Bool := match l with
  | [] => true
  | _ => false
theorem noEntries_ok {ρ : Rho} {l : List (AV × AV)} {es : Array MapEntry} (h : ER ρ l es.toList) : es.isEmpty = noEntries l := by
  cases l with
  | nil => simp only [ER] at h; simpa [noEntries] using h
  | cons p l => obtain ⟨k, v⟩ := p; simp only [ER] at h; obtain ⟨e, r, e1, _⟩ := h; simp [noEntries]; intro h0; simp [h0] at e1

def okPair (ok : Bool) (u : AV) (b : Bool) : AV := match ok with
  | true => .tup [u, .bool b]
  | false => u
theorem okPair_ok {ρ : Rho} (ok : Bool) {u : AV} {z : Value} (b : Bool) (hu : VR ρ u z) : VR ρ (okPair ok u b) (if ok then .tuple #[z, .bool b] else z) := by
  cases ok
  · exact hu
  · simp only [okPair, VR, if_true]
    exact ⟨[z, .bool b], rfl, by simp only [VRL, VR]; exact ⟨z, [.bool b], rfl, hu, _, [], rfl, rfl, rfl⟩⟩

noncomputable def aLookup (P : Program) (S : St) (t : TypeId) (m k : AV) (ok : Bool) : Option AV :=
  match P.underlying t, m with
  | some (.map kt et), .map id => match S.heap.at id with
    | some (.map l _) => match keyOk P (noEntries l) kt k with
      | true => match aFind P kt k l with
        | some (some (_, v)) => some (okPair ok v true)
        | some none => match aZero P et with
          | some z => some (okPair ok z false)
          | none => none
        | none => none
      | false => none
    | _ => none
  | _, _ => none

theorem aLookup_ok {S : St} {t : TypeId} {m k v : AV} {ok : Bool} {x y : Value} {w : World} {ρ : Rho} (h : aLookup P S t m k ok = some v) (hw : WR ρ S w) (hm : VR ρ m x) (hk : VR ρ k y) :
    ∃ z, (Instr.lookup t x y ok).run P w = .ok z w ∧ VR ρ v z := by
  unfold aLookup at h
  split at h
  · rename_i kt et id hu
    split at h
    · rename_i l c hid
      split at h
      · rename_i hko
        obtain ⟨b, n, hr, es, e1, he⟩ := hw.blk id _ hid
        simp only [VR] at hm
        obtain ⟨b', n', hr', e2⟩ := hm
        rw [hr] at hr'; injection hr' with hr'; injection hr' with p1 p2; subst p1; subst e2
        have hobj : (getObj b).run P w = .ok (.map es c) w := by simp [getObj, Sem.run, e1]
        obtain ⟨hck, hask⟩ := keyOk_ok (w := w) hko hk
        rw [← noEntries_ok he] at hck
        split at h
        · rename_i i u hf
          injection h with h; subst h
          have := findKey_ok (P := P) (w := w) hk hask hf he
          simp only at this
          obtain ⟨z, h1, h2, _⟩ := this
          refine ⟨_, ?_, okPair_ok ok true h2⟩
          simp only [Instr.lookup, Sem.run_bind, run_underlying hu, Result.andThen_ok, hobj, Sem.run_pure, hck, h1]
        · rename_i hf
          have := findKey_ok (P := P) (w := w) hk hask hf he
          simp only at this
          split at h
          · rename_i z hz
            injection h with h; subst h
            obtain ⟨zz, hz1, hz2⟩ := aZero_ok hz ρ w
            refine ⟨_, ?_, okPair_ok ok false hz2⟩
            simp only [Instr.lookup, Sem.run_bind, run_underlying hu, Result.andThen_ok, hobj, Sem.run_pure, hck, this, hz1]
          · cases h
        · cases h
      · cases h
    · cases h
  · cases h

/-- m[k] = v, k new. -/
noncomputable def aMapUpdate (K : Nat) (P : Program) (S : St) (t : TypeId) (m k v : AV) : Option St :=
  match P.underlying t, m with
  | some (.map kt _), .map id => match S.heap.at id with
    | some (.map l c) => match keyOk P false kt k && Nat.ble K id with
      | true => match aFind P kt k l with
        | some none => some ⟨S.heap.to id (.map (l ++ [(k, v)]) (Nat.succ c)), S.next⟩
        | _ => none
      | false => none
    | _ => none
  | _, _ => none

theorem ER.append {ρ : Rho} : ∀ {l r : List (AV × AV)} {es fs : List MapEntry}, ER ρ l es → ER ρ r fs → ER ρ (l ++ r) (es ++ fs)
  | [], _, _, _, h, k => by simp only [ER] at h; subst h; simpa using k
  | (a, b) :: l, _, _, _, h, k => by
    simp only [ER] at h
    obtain ⟨e, r, e1, h1, h2, h3⟩ := h; subst e1
    simp only [List.cons_append, ER]
    exact ⟨e, _, rfl, h1, h2, ER.append h3 k⟩

theorem aMapUpdate_ok {K : Nat} {S S' : St} {t : TypeId} {m k v : AV} {x y z : Value} {w : World} {ρ : Rho} (h : aMapUpdate K P S t m k v = some S') (hw : WR ρ S w) (hm : VR ρ m x) (hk : VR ρ k y) (hv : VR ρ v z) :
    ∃ w', (Instr.mapUpdate t x y z).run P w = .ok () w' ∧ WR ρ S' w' ∧ Fr K S ρ w w' ∧ Up K S S' ρ ρ w := by
  unfold aMapUpdate at h
  split at h
  · rename_i kt et id hu
    split at h
    · rename_i l c hid
      split at h
      · rename_i hc
        simp only [Bool.and_eq_true] at hc
        have hKi : K ≤ id := Nat.le_of_ble_eq_true hc.2
        split at h
        · rename_i hf
          injection h with h; subst h
          obtain ⟨b, n, hr, es, e1, he⟩ := hw.blk id _ hid
          simp only [VR] at hm
          obtain ⟨b', n', hr', e2⟩ := hm
          rw [hr] at hr'; injection hr' with hr'; injection hr' with p1 p2; subst p1; subst e2
          have hobj : (getObj b).run P w = .ok (.map es c) w := by simp [getObj, Sem.run, e1]
          obtain ⟨hck, hask⟩ := keyOk_ok (w := w) hc.1 hk
          have hfk := findKey_ok (P := P) (w := w) hk hask hf he
          simp only at hfk
          have hset : ∀ o, (setObj b o).run P w = .ok () { w with heap := w.heap.setIfInBounds b o } := by intro o; simp [setObj, Sem.run, e1]
          have hlt := hw.low id _ _ hr
          refine ⟨{ w with heap := w.heap.setIfInBounds b (.map (es.push { key := y, val := z, born := c }) (c + 1)) }, ?_, ?_, ?_, Up.upd hw hid rfl⟩
          · simp only [Instr.mapUpdate, Sem.run_bind, run_underlying hu, Result.andThen_ok, hobj, hck, hfk, hset]
          · refine hw.upd hid rfl hr ?_ (by simp) ?_
            · refine ⟨es.push { key := y, val := z, born := c }, by simp [hlt], ?_⟩
              rw [Array.toList_push]
              exact he.append (by simp only [ER]; exact ⟨_, [], rfl, hk, hv, rfl⟩)
            · intro j hj; simp [Ne.symm hj]
          · exact ⟨rfl, rfl, rfl, by simp, fun j hj hn => by
              have : b ≠ j := fun e => hn id n _ hKi hid rfl (e ▸ hr)
              simp [this]⟩
        · cases h
      · cases h
    · cases h
  · cases h

/-- An operation that reads memory. -/
noncomputable def readOp (P : Program) (f : Fm) (S : St) (o : Oper) : Option AV :=
  match o.op with
  | .load t x => match aev f x with
    | some p => aLoad P S t p
    | none => none
  | .convert src dst x => match aev f x with
    | some a => match aConv P src dst a with
      | some v => some v
      | none => aConvM P S src dst a
    | none => none
  | .lookup t x y ok => match aev f x, aev f y with
    | some m, some k => aLookup P S t m k ok
    | _, _ => none
  | .call c => match c.callee with
    | .builtin b => match b, c.args.toList with
      | .unsafeSliceData, [x] => match aev f x with
        | some a => aUData a
        | none => none
      | _, _ => none
    | _ => none
  | _ => none

theorem readOp_ok {f : Fm} {S : St} {o : Oper} {v : AV} (h : readOp P f S o = some v) {ρ : Rho} {a : Act} (hf : FR ρ f a) {w : World} (hw : WR ρ S w) : ∃ x, (execOp a.eval o).run P w = .ok (.value x) w ∧ VR ρ v x := by
  have lift : ∀ {s : Sem Value} {x : Value}, s.run P w = .ok x w → ((do pure (Next.value (← s)) : Sem Next)).run P w = .ok (.value x) w := by
    intro s x hs; simp [hs]
  unfold readOp at h
  unfold execOp
  split at h
  · rename_i t x ho; rw [ho]
    split at h
    · rename_i p hp
      obtain ⟨z, h1, h2⟩ := aLoad_ok h hw (aev_ok hf hp)
      exact ⟨z, lift h1, h2⟩
    · cases h
  · rename_i src dst x ho; rw [ho]
    split at h
    · rename_i u hu
      split at h
      · rename_i r hr
        injection h with h; subst h
        obtain ⟨z, h1, h2⟩ := aConv_ok hr (aev_ok hf hu) w
        exact ⟨z, lift h1, h2⟩
      · obtain ⟨z, h1, h2⟩ := aConvM_ok h hw (aev_ok hf hu)
        exact ⟨z, lift h1, h2⟩
    · cases h
  · rename_i t x y ok ho; rw [ho]
    split at h
    · rename_i m k hm hk
      obtain ⟨z, h1, h2⟩ := aLookup_ok h hw (aev_ok hf hm) (aev_ok hf hk)
      exact ⟨z, lift h1, h2⟩
    · cases h
  · rename_i c ho; rw [ho]
    split at h
    · rename_i b hb
      split at h
      · rename_i x hx
        split at h
        · rename_i u hu
          obtain ⟨z, h1, h2⟩ := aUData_ok (P := P) (w := w) (ts := c.argTypes) (ty := o.type) h (aev_ok hf hu)
          refine ⟨z, ?_, h2⟩
          have e : c.args.map a.eval = #[a.eval x] := by apply Array.ext'; simp [hx]
          simp [resolve, hb, invoke, builtin, e, h1]
        · cases h
      · cases h
    · cases h
  · cases h

/-- An operation that changes memory. -/
noncomputable def effOp (K : Nat) (P : Program) (f : Fm) (S : St) (o : Oper) : Option (AV × St) :=
  match o.op with
  | .store t x y => match aev f x, aev f y with
    | some p, some v => match aStore K P S t p v with
      | some S' => some (.tup [], S')
      | none => none
    | _, _ => none
  | .mapUpdate t x y z => match aev f x, aev f y, aev f z with
    | some m, some k, some v => match aMapUpdate K P S t m k v with
      | some S' => some (.tup [], S')
      | none => none
    | _, _, _ => none
  | .call c => match c.callee with
    | .builtin b => match b, c.args.toList, c.argTypes.toList with
      | .append, [x, y], [t, u] => match aev f x, aev f y with
        | some s, some v => match aApp K P S t u s v with
          | some r => some r
          | none => aAppZ P S t u s v
        | _, _ => none
      | .copy, [x, y], [t, _] => match aev f x, aev f y with
        | some d, some s => aCopy K P S t d s
        | _, _ => none
      | .unsafeString, [x, y], [t, _] => match aev f x, aev f y with
        | some p, some n => aUStr K P S t p n
        | _, _ => none
      | _, _, _ => none
    | _ => none
  | _ => none

/-- What it gives in the model: a value, or nothing at all. -/
def EffN (K : Nat) (S : St) (ρ : Rho) (w : World) (S' : St) (v : AV) (r : Result Next) : Prop :=
  ∃ x w' σ, (r = .ok (.value x) w' ∨ (r = .ok .skip w' ∧ x = undef)) ∧ Up K S S' ρ σ w ∧ WR σ S' w' ∧ VR σ v x ∧ Fr K S ρ w w'

theorem Eff.lift {K : Nat} {S S' : St} {ρ : Rho} {w : World} {v : AV} {s : Sem Value} (h : Eff K S ρ w S' v (s.run P w)) : EffN K S ρ w S' v ((do pure (Next.value (← s)) : Sem Next).run P w) := by
  obtain ⟨x, w', σ, h1, h2⟩ := h
  exact ⟨x, w', σ, .inl (by simp [h1]), h2⟩

theorem effOp_ok {K : Nat} {f : Fm} {S S' : St} {o : Oper} {v : AV} (h : effOp K P f S o = some (v, S')) {ρ : Rho} {a : Act} (hf : FR ρ f a) {w : World} (hw : WR ρ S w) (hK : K ≤ S.next) :
    EffN K S ρ w S' v ((execOp a.eval o).run P w) := by
  have nothing : VR ρ (.tup []) undef := by simp only [VR]; exact ⟨[], rfl, by simp [VRL]⟩
  unfold effOp at h
  unfold execOp
  split at h
  · rename_i t x y ho; rw [ho]
    split at h
    · rename_i p u hp hu
      split at h
      · rename_i S1 hS
        injection h with h; injection h with e1 e2; subst e1; subst e2
        obtain ⟨w', h1, h2, h3, h4⟩ := aStore_ok hS hw (aev_ok hf hp) (aev_ok hf hu)
        exact ⟨undef, w', ρ, .inr ⟨by simp [h1], rfl⟩, h4, h2, nothing, h3⟩
      · cases h
    · cases h
  · rename_i t x y z ho; rw [ho]
    split at h
    · rename_i m k u hm hk hu
      split at h
      · rename_i S1 hS
        injection h with h; injection h with e1 e2; subst e1; subst e2
        obtain ⟨w', h1, h2, h3, h4⟩ := aMapUpdate_ok hS hw (aev_ok hf hm) (aev_ok hf hk) (aev_ok hf hu)
        exact ⟨undef, w', ρ, .inr ⟨by simp [h1], rfl⟩, h4, h2, nothing, h3⟩
      · cases h
    · cases h
  · rename_i c ho; rw [ho]
    split at h
    · rename_i b hb
      have two : ∀ {x y : Operand}, c.args.toList = [x, y] → c.args.map a.eval = #[a.eval x, a.eval y] := by
        intro x y e; apply Array.ext'; simp [e]
      have twot : ∀ {t u : TypeId}, c.argTypes.toList = [t, u] → c.argTypes = #[t, u] := by
        intro t u e; apply Array.ext'; simp [e]
      split at h
      · rename_i x y t u hx ht
        split at h
        · rename_i s d hs hd
          have : Eff K S ρ w S' v ((Builtin.append_ #[t, u] o.type #[a.eval x, a.eval y]).run P w) := by
            split at h
            · rename_i r hr
              injection h with h; subst h
              exact aApp_ok hr hw hK (aev_ok hf hs) (aev_ok hf hd)
            · exact aAppZ_ok h hw hK (aev_ok hf hs) (aev_ok hf hd)
          have := Eff.lift this
          simpa [resolve, hb, invoke, builtin, two hx, twot ht] using this
        · cases h
      · rename_i x y t u hx ht
        split at h
        · rename_i d s hd hs
          have := Eff.lift (aCopy_ok (sT := u) (ty := o.type) h hw (aev_ok hf hd) (aev_ok hf hs))
          simpa [resolve, hb, invoke, builtin, two hx, twot ht] using this
        · cases h
      · rename_i x y t u hx ht
        split at h
        · rename_i p n hp hn
          have := Eff.lift (aUStr_ok (lt := u) (ty := o.type) h hw (aev_ok hf hp) (aev_ok hf hn))
          simpa [resolve, hb, invoke, builtin, two hx, twot ht] using this
        · cases h
      · cases h
    · cases h
  · cases h

end Ex
end Go.Proofs.YtdkijcmhjeaofaaGreatDoor
namespace Go.Proofs.YtdkijcmhjeaofaaGreatDoor
namespace Ex

inductive Cls where
  | pure | read | alloc | eff | call | no
def cls (P : Program) : Op → Cls
  | .move _ | .assign _ | .pick .. | .binOp .. | .unOp .. | .fieldAddr .. | .field .. | .indexAddr .. | .index .. | .slice .. | .extract .. | .build .. | .nilCheck _ | .makeInterface .. | .makeFunc .. => .pure
  | .load .. | .lookup .. => .read
  | .convert _ dst _ => match P.underlying dst with
    | some (.slice _) => .alloc
    | _ => .read
  | .alloc _ | .box .. | .makeSlice .. | .buildSlice .. | .makeMap .. => .alloc
  | .store .. | .mapUpdate .. => .eff
  | .call c => match c.callee with
    | .builtin b => match b with
      | .len | .cap | .min | .max => .pure
      | .unsafeSliceData => .read
      | .append | .copy | .unsafeString => .eff
      | _ => .no
    | .value _ => .call
    | _ => .no
  | _ => .no

inductive Res where
  | normal (f : Fm) (S : St)
  | exit (id : Nat) (f : Fm) (S : St)
  | ret (f : Fm) (S : St)
  | no (why : List Nat)

inductive CRes where
  | ok (v : AV) (S : St)
  | no (why : List Nat)

/-- What a call of a function value enters; yield of the loop y has the number 2^20 + y. -/
noncomputable def callee (f : Fm) (c : Call) : Option (FuncId × List AV) :=
  match c.callee with
  | .value x => match aev f x, mapO (aev f) c.args.toList with
    | some (.func g cap), some vs => Bool.rec none (some (g, vs ++ cap)) (Nat.blt g 1048576)
    | some (.yld y), some vs => some (Nat.add 1048576 y, vs)
    | _, _ => none
  | _ => none

/-- Whether an operation is wanted: its guard. -/
noncomputable def want (ops : List Oper) (f : Fm) (o : Oper) : Option Bool :=
  match o.guard with
  | none => some true
  | some (j, b) => match ops[j]? with
    | some q => match q.dst with
      | some d => match f.t.at d with
        | some (.bool c) => some (c == b)
        | some (.tup []) => some false
        | _ => none
      | none => none
    | none => none

/-- A value, forced. -/
noncomputable def forceV {γ : Type} (v : AV) (k : AV → γ) : γ := match v with
  | .int kd n => fInt n fun n => k (.int kd n)
  | .bool b => Bool.rec (k (.bool false)) (k (.bool true)) b
  | .ptr id off => fNat id fun id => fNat off fun off => k (.ptr id off)
  | .sl id off len cap => fNat id fun id => fNat off fun off => fNat len fun len => fNat cap fun cap => k (.sl id off len cap)
  | .slu id off len sz lb => fNat id fun id => fNat off fun off => fNat len fun len => fNat lb fun lb => k (.slu id off len sz lb)
  | v => k v
theorem forceV_eq {γ : Type} (v : AV) (k : AV → γ) : forceV v k = k v := by
  unfold forceV
  split
  · rw [fInt_eq]
  · rename_i b
    cases b <;> rfl
  · simp only [fNat_eq]
  · simp only [fNat_eq]
  · simp only [fNat_eq]
  · rfl
/-- Memory, forced. -/
noncomputable def forceS {γ : Type} (S : St) (k : St → γ) : γ := headC S.heap fun h => fNat S.next fun nx => k ⟨h, nx⟩
theorem forceS_eq {γ : Type} (S : St) (k : St → γ) : forceS S k = k S := by unfold forceS; simp only [headC_eq, fNat_eq]

/-- A slot is written, if there is such a slot. -/
noncomputable def putK (f : Fm) (d : Option Nat) (v : AV) (k : Fm → Res) (no : Res) : Res :=
  match d with
  | none => k f
  | some d => Bool.rec no (forceV v fun v => headC (f.t.to d v) fun t => fNat f.n fun n => k ⟨t, n⟩) (Nat.blt d f.n && Nat.blt d 1048575)
theorem putK_old (f : Fm) (d : Nat) (v : AV) (k : Fm → Res) (no : Res) : putK f (some d) v k no = Bool.rec no (k ⟨f.t.to d v, f.n⟩) (Nat.blt d f.n && Nat.blt d 1048575) := by
  unfold putK
  simp only [forceV_eq, headC_eq, fNat_eq]

/-- A new block in memory. -/
noncomputable def addB (S : St) (B : AB) (k : St → Res) (no : Res) : Res :=
  Bool.rec no (headC (S.heap.to S.next B) fun h => fNat S.next fun nx => k ⟨h, Nat.succ nx⟩) (Nat.blt (Nat.succ S.next) 1048575)
theorem addB_old (S : St) (B : AB) (k : St → Res) (no : Res) : addB S B k no = Bool.rec no (k ⟨S.heap.to S.next B, Nat.succ S.next⟩) (Nat.blt (Nat.succ S.next) 1048575) := by
  unfold addB
  simp only [headC_eq, fNat_eq]

/-! Operands and slots, told ahead: closed texts, which the kernel reduces once. -/
structure Gt where
  g : Fm → Option AV
noncomputable def cstW (c : Option AV) : Gt := Option.rec ⟨fun _ => none⟩ (fun u => forceV u fun u => ⟨fun _ => some u⟩) c
noncomputable def slotW (t : Nat) : Gt := Bool.rec ⟨fun f => f.t.at t⟩ (Wp.rec (fun p => ⟨fun f => Fm.rec (motive := fun _ => Option AV) (fun tr _ => getP p tr) f⟩) (pathW t)) (Nat.blt t 1048575)
noncomputable def getC (x : Operand) : Gt := match x with
  | .tmp t => slotW t
  | .const v => cstW (cst v)
  | .global _ => ⟨fun _ => none⟩
  | .func g => ⟨fun _ => some (.func g [])⟩
theorem slotW_eq (t : Nat) (f : Fm) : (slotW t).g f = f.t.at t := by
  unfold slotW
  cases hb : Nat.blt t 1048575 with
  | false => rfl
  | true =>
    rw [Nat.blt_eq] at hb
    obtain ⟨tr, n⟩ := f
    exact pathW_get hb tr
theorem getC_eq (x : Operand) (f : Fm) : (getC x).g f = aev f x := by
  cases x with
  | tmp t => exact slotW_eq t f
  | const v =>
    show (cstW (cst v)).g f = cst v
    unfold cstW
    cases cst v with
    | none => rfl
    | some u => simp only [forceV_eq]
  | global _ => rfl
  | func _ => rfl
/-- A slot that is written, told ahead. -/
structure Dw where
  put : Fm → AV → (Fm → Res) → Res → Res
noncomputable def dstW (d : Option Nat) : Dw := Option.rec ⟨fun f _ k _ => k f⟩ (fun d => Bool.rec ⟨fun f v k no => putK f (some d) v k no⟩ (Wp.rec (fun p => ⟨fun f v k no => Fm.rec (motive := fun _ => Res) (fun t n => Bool.rec no (forceV v fun v => putP v p t fun t => k ⟨t, n⟩) (Nat.blt d n)) f⟩) (pathW d)) (Nat.blt d 1048575)) d
theorem dstW_eq (d : Option Nat) (f : Fm) (v : AV) (k : Fm → Res) (no : Res) : (dstW d).put f v k no = putK f d v k no := by
  cases d with
  | none => rfl
  | some d =>
    show Dw.put (Bool.rec ⟨fun f v k no => putK f (some d) v k no⟩ (Wp.rec (fun p => ⟨fun f v k no => Fm.rec (motive := fun _ => Res) (fun t n => Bool.rec no (forceV v fun v => putP v p t fun t => k ⟨t, n⟩) (Nat.blt d n)) f⟩) (pathW d)) (Nat.blt d 1048575) : Dw) f v k no = _
    cases hb : Nat.blt d 1048575 with
    | false => rfl
    | true =>
      have hd := hb
      rw [Nat.blt_eq] at hd
      obtain ⟨t, n⟩ := f
      rw [putK_old, hb, Bool.and_true]
      show (Bool.rec no (forceV v fun v => putP v (pathW d).p t fun t => k ⟨t, n⟩) (Nat.blt d n) : Res) = _
      rw [forceV_eq, pathW_put hd]

/-- What an operation does, told from its text alone. -/
inductive OpC where
  | pure (g : Fm → Option AV)
  | read (g : Fm → St → Option AV)
  | alloc (g : Nat → Fm → Option (AV × AB))
  | eff (g : Nat → Fm → St → Option (AV × St))
  | call (g : Fm → Option (FuncId × List AV))
  | no (n : Nat)
structure BinC where
  g : AV → AV → Option AV
noncomputable def binC (P : Program) (op : BinOp) (t : TypeId) (X Y : Operand) : BinC := match op with
  | .add => ⟨fun a b => match a, b with
    | .int k m, .int j n => Bool.rec none (some (fInt (fwrap k (Int.add m n)) (.int k))) (ksame k j)
    | a, b => aBin P .add t X Y a b⟩
  | .sub => ⟨fun a b => match a, b with
    | .int k m, .int j n => Bool.rec none (some (fInt (fwrap k (Int.sub m n)) (.int k))) (ksame k j)
    | a, b => aBin P .sub t X Y a b⟩
  | .lss => ⟨fun a b => match a, b with
    | .int k m, .int j n => Bool.rec none (some (.bool (ilt m n))) (ksame k j)
    | a, b => aBin P .lss t X Y a b⟩
  | .gtr => ⟨fun a b => match a, b with
    | .int k m, .int j n => Bool.rec none (some (.bool (ilt n m))) (ksame k j)
    | a, b => aBin P .gtr t X Y a b⟩
  | .eql => ⟨fun a b => match a, b with
    | .int k m, .int j n => Bool.rec none (some (.bool (ieq m n))) (ksame k j)
    | a, b => aBin P .eql t X Y a b⟩
  | .neq => ⟨fun a b => match a, b with
    | .int k m, .int j n => Bool.rec none (some (.bool (not (ieq m n)))) (ksame k j)
    | a, b => aBin P .neq t X Y a b⟩
  | op => ⟨fun a b => aBin P op t X Y a b⟩
theorem binC_eq (P : Program) (op : BinOp) (t : TypeId) (X Y : Operand) (a b : AV) : (binC P op t X Y).g a b = aBin P op t X Y a b := by
  cases op <;> first | rfl | (cases a <;> first | rfl | (cases b <;> rfl))
noncomputable def one1 {β : Type} (g : AV → Option β) (a : Option AV) : Option β := Option.rec none g a
noncomputable def two2 {β : Type} (g : AV → AV → Option β) (a b : Option AV) : Option β := Option.rec none (fun u => Option.rec none (fun v => g u v) b) a
noncomputable def pureC (P : Program) (o : Oper) : OpC := match o.op with
  | .move x => Gt.rec (fun g => .pure g) (getC x)
  | .assign x => Gt.rec (fun g => .pure g) (getC x)
  | .binOp op t x y _ => Gt.rec (fun gx => Gt.rec (fun gy => BinC.rec (fun h => .pure fun f => two2 h (gx f) (gy f)) (binC P op t x y)) (getC y)) (getC x)
  | .fieldAddr s x i => Gt.rec (fun g => .pure fun f => one1 (fun u => aFieldAddr P s u i) (g f)) (getC x)
  | .field t x i => Gt.rec (fun g => .pure fun f => one1 (fun u => aField P t u i) (g f)) (getC x)
  | .indexAddr t x i => Gt.rec (fun gx => Gt.rec (fun gy => .pure fun f => two2 (fun u v => aIndexAddr P t u v) (gx f) (gy f)) (getC i)) (getC x)
  | .convert s d x => Gt.rec (fun g => .pure fun f => one1 (fun u => aConv P s d u) (g f)) (getC x)
  | .unOp op _ x => Gt.rec (fun g => .pure fun f => one1 (fun u => aUn op u) (g f)) (getC x)
  | .extract x i => Gt.rec (fun g => .pure fun f => one1 (fun u => match u with
    | .tup vs => vs[i]?
    | _ => none) (g f)) (getC x)
  | _ => .pure fun f => pureOp P f o
theorem pureC_eq (P : Program) (o : Oper) : pureC P o = .pure fun f => pureOp P f o := by
  obtain ⟨dst, op, ty, pos, aft, gd⟩ := o
  cases op
  case move x =>
    show OpC.pure (getC x).g = _
    congr 1; funext f; rw [getC_eq]; rfl
  case assign x =>
    show OpC.pure (getC x).g = _
    congr 1; funext f; rw [getC_eq]; rfl
  case binOp op t x y ty' =>
    show OpC.pure (fun f => two2 (binC P op t x y).g ((getC x).g f) ((getC y).g f)) = _
    congr 1; funext f; rw [getC_eq, getC_eq]
    unfold pureOp two2
    simp only
    cases aev f x <;> cases aev f y <;> first | rfl | exact binC_eq P op t x y _ _
  case fieldAddr s x i =>
    show OpC.pure (fun f => one1 (fun u => aFieldAddr P s u i) ((getC x).g f)) = _
    congr 1; funext f; rw [getC_eq]
    unfold pureOp one1
    simp only
    cases aev f x <;> rfl
  case field t x i =>
    show OpC.pure (fun f => one1 (fun u => aField P t u i) ((getC x).g f)) = _
    congr 1; funext f; rw [getC_eq]
    unfold pureOp one1
    simp only
    cases aev f x <;> rfl
  case indexAddr t x i =>
    show OpC.pure (fun f => two2 (fun u v => aIndexAddr P t u v) ((getC x).g f) ((getC i).g f)) = _
    congr 1; funext f; rw [getC_eq, getC_eq]
    unfold pureOp two2
    simp only
    cases aev f x <;> cases aev f i <;> rfl
  case convert s d x =>
    show OpC.pure (fun f => one1 (fun u => aConv P s d u) ((getC x).g f)) = _
    congr 1; funext f; rw [getC_eq]
    unfold pureOp one1
    simp only
    cases aev f x <;> rfl
  case unOp op ty' x =>
    show OpC.pure (fun f => one1 (fun u => aUn op u) ((getC x).g f)) = _
    congr 1; funext f; rw [getC_eq]
    unfold pureOp one1
    simp only
    cases aev f x <;> rfl
  case extract x i =>
    show OpC.pure (fun f => one1 (fun u => match u with | .tup vs => vs[i]? | _ => none) ((getC x).g f)) = _
    congr 1; funext f; rw [getC_eq]
    unfold pureOp one1
    simp only
    cases aev f x with
    | none => rfl
    | some u => cases u <;> rfl
  all_goals rfl
noncomputable def readC (P : Program) (o : Oper) : OpC := match o.op with
  | .load t x => Gt.rec (fun g => .read fun f S => one1 (fun p => aLoad P S t p) (g f)) (getC x)
  | _ => .read fun f S => readOp P f S o
theorem readC_eq (P : Program) (o : Oper) : readC P o = .read fun f S => readOp P f S o := by
  obtain ⟨dst, op, ty, pos, aft, gd⟩ := o
  cases op
  case load t x =>
    show OpC.read (fun f S => one1 (fun p => aLoad P S t p) ((getC x).g f)) = _
    congr 1; funext f S; rw [getC_eq]
    unfold readOp one1
    simp only
    cases aev f x <;> rfl
  all_goals rfl
noncomputable def effC (P : Program) (o : Oper) : OpC := match o.op with
  | .store t x y => Gt.rec (fun gx => Gt.rec (fun gy => .eff fun K f S => two2 (fun p v => Option.rec none (fun S' => some (.tup [], S')) (aStore K P S t p v)) (gx f) (gy f)) (getC y)) (getC x)
  | _ => .eff fun K f S => effOp K P f S o
theorem effC_eq (P : Program) (o : Oper) : effC P o = .eff fun K f S => effOp K P f S o := by
  obtain ⟨dst, op, ty, pos, aft, gd⟩ := o
  cases op
  case store t x y =>
    show OpC.eff (fun K f S => two2 (fun p v => Option.rec none (fun S' => some (.tup [], S')) (aStore K P S t p v)) ((getC x).g f) ((getC y).g f)) = _
    congr 1; funext K f S; rw [getC_eq, getC_eq]
    unfold effOp two2
    simp only
    cases aev f x with
    | none => cases aev f y <;> rfl
    | some p =>
      cases aev f y with
      | none => rfl
      | some v =>
        simp only
        cases aStore K P S t p v <;> rfl
  all_goals rfl
noncomputable def allocC (P : Program) (o : Oper) : OpC := match o.op with
  | .box e x => Gt.rec (fun g => .alloc fun id f => one1 (fun v => Option.rec none (fun B => some (.ptr id 0, B)) (aRow e v.cells)) (g f)) (getC x)
  | _ => .alloc fun nx f => allocOp P nx f o
theorem allocC_eq (P : Program) (o : Oper) : allocC P o = .alloc fun nx f => allocOp P nx f o := by
  obtain ⟨dst, op, ty, pos, aft, gd⟩ := o
  cases op
  case box e x =>
    show OpC.alloc (fun id f => one1 (fun v => Option.rec none (fun B => some (.ptr id 0, B)) (aRow e v.cells)) ((getC x).g f)) = _
    congr 1; funext id f; rw [getC_eq]
    unfold allocOp one1
    simp only
    cases aev f x with
    | none => rfl
    | some v =>
      simp only
      cases aRow e v.cells <;> rfl
  all_goals rfl
/-- A call's operands, told ahead. -/
structure Gl where
  g : Fm → Option (List AV)
noncomputable def argsW (l : List Operand) : Gl := List.rec ⟨fun _ => some []⟩ (fun x _ ih => Gt.rec (fun g => Gl.rec (fun r => ⟨fun f => Option.rec none (fun y => Option.rec none (fun ys => some (y :: ys)) (r f)) (g f)⟩) ih) (getC x)) l
theorem argsW_eq (f : Fm) : ∀ l : List Operand, (argsW l).g f = mapO (aev f) l
  | [] => rfl
  | x :: l => by
    have e : (argsW (x :: l)).g f = Option.rec none (fun y => Option.rec none (fun ys => some (y :: ys)) ((argsW l).g f)) ((getC x).g f) := rfl
    rw [e, argsW_eq f l, getC_eq]; rfl
structure Kw where
  k : Fm → Option (FuncId × List AV)
noncomputable def calleeW (c : Call) : Kw := match c.callee with
  | .value x => match x with
    | .func g => Gl.rec (fun r => Bool.rec ⟨fun _ => none⟩ ⟨fun f => Option.rec none (fun vs => some (g, vs)) (r f)⟩ (Nat.blt g 1048576)) (argsW c.args.toList)
    | _ => ⟨fun f => callee f c⟩
  | _ => ⟨fun _ => none⟩
theorem calleeW_eq (c : Call) (f : Fm) : (calleeW c).k f = callee f c := by
  obtain ⟨cal, args, tys⟩ := c
  cases cal with
  | value x =>
    cases x with
    | func g =>
      show Kw.k (Bool.rec ⟨fun _ => none⟩ ⟨fun f => Option.rec none (fun vs => some (g, vs)) ((argsW args.toList).g f)⟩ (Nat.blt g 1048576) : Kw) f = _
      unfold callee
      simp only [aev]
      cases hb : Nat.blt g 1048576 with
      | false =>
        simp only
        cases mapO (aev f) args.toList <;> simp [hb]
      | true =>
        simp only [argsW_eq]
        cases mapO (aev f) args.toList with
        | none => rfl
        | some vs => simp [hb]
    | _ => rfl
  | _ => rfl
noncomputable def callC (o : Oper) : OpC := match o.op with
  | .call c => Kw.rec (fun k => .call k) (calleeW c)
  | _ => .no 14
noncomputable def opC (P : Program) (o : Oper) : OpC := match cls P o.op with
  | .pure => pureC P o
  | .read => readC P o
  | .alloc => allocC P o
  | .eff => effC P o
  | .call => callC o
  | .no => .no 15
/-- Whether an operation is wanted, told ahead. -/
inductive Ww where
  | yes
  | ask (g : Fm → Option AV) (b : Bool)
  | no
noncomputable def wantW (ops : List Oper) (o : Oper) : Ww := match o.guard with
  | none => .yes
  | some (j, b) => match ops[j]? with
    | some q => match q.dst with
      | some d => Gt.rec (fun g => .ask g b) (slotW d)
      | none => .no
    | none => .no
noncomputable def askF (b : Bool) (v : Option AV) : Option Bool := match v with
  | some (.bool c) => some (c == b)
  | some (.tup []) => some false
  | _ => none
noncomputable def Ww.f (w : Ww) (f : Fm) : Option Bool := Ww.rec (some true) (fun g b => askF b (g f)) none w
theorem wantW_eq (ops : List Oper) (o : Oper) (f : Fm) : (wantW ops o).f f = want ops f o := by
  unfold wantW want
  split
  · rfl
  · rename_i j b h
    cases ops[j]? with
    | none => rfl
    | some q =>
      simp only
      cases q.dst with
      | none => rfl
      | some d =>
        show askF b ((slotW d).g f) = match f.t.at d with
          | some (.bool c) => some (c == b)
          | some (.tup []) => some false
          | _ => none
        rw [slotW_eq]
        rfl

noncomputable def oPure (put : Fm → AV → (Fm → Res) → Res → Res) (f : Fm) (S : St) (k : Fm → St → Res) (why : List Nat) (r : Option AV) : Res := Option.rec (.no (2 :: why)) (fun v => put f v (fun f => k f S) (.no (1 :: why))) r
noncomputable def oRead (put : Fm → AV → (Fm → Res) → Res → Res) (f : Fm) (S : St) (k : Fm → St → Res) (why : List Nat) (r : Option AV) : Res := Option.rec (.no (4 :: why)) (fun v => put f v (fun f => k f S) (.no (3 :: why))) r
noncomputable def oAlloc (put : Fm → AV → (Fm → Res) → Res → Res) (f : Fm) (S : St) (k : Fm → St → Res) (why : List Nat) (r : Option (AV × AB)) : Res := Option.rec (.no (7 :: why)) (fun p => Prod.rec (fun v B => addB S B (fun S => put f v (fun f => k f S) (.no (5 :: why))) (.no (6 :: why))) p) r
noncomputable def oEff (put : Fm → AV → (Fm → Res) → Res → Res) (f : Fm) (k : Fm → St → Res) (why : List Nat) (r : Option (AV × St)) : Res := Option.rec (.no (9 :: why)) (fun p => Prod.rec (fun v S => forceS S fun S => put f v (fun f => k f S) (.no (8 :: why))) p) r
noncomputable def oCall (put : Fm → AV → (Fm → Res) → Res → Res) (ext : FuncId → List AV → Option AV) (call : FuncId → List AV → St → CRes) (f : Fm) (S : St) (k : Fm → St → Res) (why : List Nat) (r : Option (FuncId × List AV)) : Res :=
  Option.rec (.no (13 :: why)) (fun p => Prod.rec (fun g vs => Option.rec (CRes.rec (fun v S => put f v (fun f => k f S) (.no (11 :: why))) (fun w => .no (12 :: w ++ why)) (call g vs S)) (fun v => put f v (fun f => k f S) (.no (10 :: why))) (ext g vs)) p) r
/-- A step, told ahead. -/
structure StC where
  s : Nat → (FuncId → List AV → Option AV) → (FuncId → List AV → St → CRes) → Fm → St → (Fm → St → Res) → List Nat → Res
noncomputable def stepY (put : Fm → AV → (Fm → Res) → Res → Res) (c : OpC) : StC :=
  OpC.rec (fun g => ⟨fun _ _ _ f S k why => oPure put f S k why (g f)⟩) (fun g => ⟨fun _ _ _ f S k why => oRead put f S k why (g f S)⟩) (fun g => ⟨fun _ _ _ f S k why => fNat S.next fun nx => oAlloc put f S k why (g nx f)⟩)
    (fun g => ⟨fun K _ _ f S k why => oEff put f k why (g K f S)⟩) (fun g => ⟨fun _ ext call f S k why => oCall put ext call f S k why (g f)⟩) (fun n => ⟨fun _ _ _ _ _ _ why => .no (n :: why)⟩) c
noncomputable def stepW (put : Fm → AV → (Fm → Res) → Res → Res) (w : Ww) (c : OpC) : StC :=
  Ww.rec (stepY put c) (fun g b => StC.rec (fun s => ⟨fun K ext call f S k why => Option.rec (.no (17 :: why)) (fun a => Bool.rec (put f (.tup []) (fun f => k f S) (.no (16 :: why))) (s K ext call f S k why) a) (askF b (g f))⟩) (stepY put c)) ⟨fun _ _ _ _ _ _ why => .no (17 :: why)⟩ w
noncomputable def stepC (P : Program) (ops : List Oper) (o : Oper) : StC := Dw.rec (fun put => stepW put (wantW ops o) (opC P o)) (dstW o.dst)
/-- One operation, as it is read. -/
noncomputable def doOp (K : Nat) (P : Program) (ext : FuncId → List AV → Option AV) (call : FuncId → List AV → St → CRes) (f : Fm) (S : St) (o : Oper) (k : Fm → St → Res) (why : List Nat) : Res := match cls P o.op with
  | .pure => match pureOp P f o with
    | some v => putK f o.dst v (fun f => k f S) (.no (1 :: why))
    | none => .no (2 :: why)
  | .read => match readOp P f S o with
    | some v => putK f o.dst v (fun f => k f S) (.no (3 :: why))
    | none => .no (4 :: why)
  | .alloc => fNat S.next fun nx => match allocOp P nx f o with
    | some (v, B) => addB S B (fun S => putK f o.dst v (fun f => k f S) (.no (5 :: why))) (.no (6 :: why))
    | none => .no (7 :: why)
  | .eff => match effOp K P f S o with
    | some (v, S) => forceS S fun S => putK f o.dst v (fun f => k f S) (.no (8 :: why))
    | none => .no (9 :: why)
  | .call => match o.op with
    | .call c => match callee f c with
      | some (g, vs) => match ext g vs with
        | some v => putK f o.dst v (fun f => k f S) (.no (10 :: why))
        | none => match call g vs S with
          | .ok v S => putK f o.dst v (fun f => k f S) (.no (11 :: why))
          | .no w => .no (12 :: w ++ why)
      | none => .no (13 :: why)
    | _ => .no (14 :: why)
  | .no => .no (15 :: why)
theorem stepY_eq (K : Nat) (P : Program) (ext : FuncId → List AV → Option AV) (call : FuncId → List AV → St → CRes) (f : Fm) (S : St) (o : Oper) (k : Fm → St → Res) (why : List Nat) :
    (stepY (dstW o.dst).put (opC P o)).s K ext call f S k why = doOp K P ext call f S o k why := by
  unfold doOp opC
  cases hc : cls P o.op with
  | pure =>
    simp only; rw [pureC_eq]
    show oPure (dstW o.dst).put f S k why (pureOp P f o) = _
    unfold oPure
    cases pureOp P f o with
    | none => rfl
    | some v => exact dstW_eq _ _ _ _ _
  | read =>
    simp only; rw [readC_eq]
    show oRead (dstW o.dst).put f S k why (readOp P f S o) = _
    unfold oRead
    cases readOp P f S o with
    | none => rfl
    | some v => exact dstW_eq _ _ _ _ _
  | alloc =>
    simp only; rw [allocC_eq]
    show (fNat S.next fun nx => oAlloc (dstW o.dst).put f S k why (allocOp P nx f o)) = _
    rw [fNat_eq, fNat_eq]
    unfold oAlloc
    cases allocOp P S.next f o with
    | none => rfl
    | some p =>
      obtain ⟨v, B⟩ := p
      show addB S B (fun S => (dstW o.dst).put f v (fun f => k f S) (.no (5 :: why))) _ = _
      simp only [dstW_eq]
  | eff =>
    simp only; rw [effC_eq]
    show oEff (dstW o.dst).put f k why (effOp K P f S o) = _
    unfold oEff
    cases effOp K P f S o with
    | none => rfl
    | some p =>
      obtain ⟨v, S'⟩ := p
      show forceS S' (fun S => (dstW o.dst).put f v (fun f => k f S) (.no (8 :: why))) = _
      simp only [dstW_eq]
  | call =>
    simp only
    unfold callC
    split
    · rename_i c ho
      show oCall (dstW o.dst).put ext call f S k why ((calleeW c).k f) = _
      rw [calleeW_eq]
      unfold oCall
      cases callee f c with
      | none => rfl
      | some p =>
        obtain ⟨g, vs⟩ := p
        simp only
        cases ext g vs with
        | some v => exact dstW_eq _ _ _ _ _
        | none =>
          simp only
          cases call g vs S with
          | ok v S' => exact dstW_eq _ _ _ _ _
          | no w => rfl
    · rfl
  | no => rfl

noncomputable def doOps (K : Nat) (P : Program) (ext : FuncId → List AV → Option AV) (call : FuncId → List AV → St → CRes) (ops : List Oper) (id : Nat) (l : List Oper) : Fm → St → Res :=
  List.rec (motive := fun _ => Fm → St → Res) (fun f S => .normal f S)
    (fun o l ih f S => StC.rec (fun s => s K ext call f S ih [id, l.length]) (stepC P ops o)) l
theorem doOps_cons (K : Nat) (P : Program) (ext : FuncId → List AV → Option AV) (call : FuncId → List AV → St → CRes) (ops : List Oper) (id : Nat) (o : Oper) (l : List Oper) (f : Fm) (S : St) :
    doOps K P ext call ops id (o :: l) f S = match want ops f o with
      | some true => doOp K P ext call f S o (doOps K P ext call ops id l) [id, l.length]
      | some false => putK f o.dst (.tup []) (fun f => doOps K P ext call ops id l f S) (.no [16, id, l.length])
      | none => .no [17, id, l.length] := by
  show (stepW (dstW o.dst).put (wantW ops o) (opC P o)).s K ext call f S (doOps K P ext call ops id l) [id, l.length] = _
  rw [← wantW_eq]
  cases hw : wantW ops o with
  | yes => exact stepY_eq K P ext call f S o _ _
  | no => rfl
  | ask g b =>
    show (Option.rec (.no (17 :: [id, l.length])) (fun a => Bool.rec ((dstW o.dst).put f (.tup []) (fun f => doOps K P ext call ops id l f S) (.no (16 :: [id, l.length]))) ((stepY (dstW o.dst).put (opC P o)).s K ext call f S (doOps K P ext call ops id l) [id, l.length]) a) (askF b (g f)) : Res) = match askF b (g f) with
      | some true => doOp K P ext call f S o (doOps K P ext call ops id l) [id, l.length]
      | some false => putK f o.dst (.tup []) (fun f => doOps K P ext call ops id l f S) (.no [16, id, l.length])
      | none => .no [17, id, l.length]
    rw [stepY_eq, dstW_eq]
    cases askF b (g f) with
    | none => rfl
    | some a => cases a <;> rfl

/-- The results of a function. -/
noncomputable def resOf (P : Program) (f : Fm) (S : St) (r : ResultVar) : Option AV := match r with
  | .tmp t => f.t.at t
  | .cell a t => match f.t.at a with
    | some p => aLoad P S t p
    | none => none
noncomputable def aRes (P : Program) (fn : Func) (f : Fm) (S : St) : Option AV :=
  match mapO (resOf P f S) fn.results.toList with
  | some [v] => some v
  | some vs => some (.tup vs)
  | none => none

noncomputable def fin (P : Program) (fn : Func) (g : FuncId) : Res → CRes
  | .normal f S => match aRes P fn f S with
    | some v => .ok v S
    | none => .no [32, g]
  | .ret f S => match aRes P fn f S with
    | some v => .ok v S
    | none => .no [33, g]
  | .exit _ _ _ => .no [34, g]
  | .no w => .no (35 :: g :: w)

noncomputable def callB (P : Program) (run : Code → Fm → St → Res) (g : FuncId) (vs : List AV) (S : St) : CRes :=
  match P.funcs[g]? with
  | none => .no [30, g]
  | some fn => match fn.name == "runtime.NumGoroutine", fn.body with
    | false, some c => match Nat.ble vs.length fn.ntmps && (Nat.blt fn.ntmps 1048575 && Nat.blt g 1048576) with
      | true => fin P fn g (run c ⟨wr vs .e 0, fn.ntmps⟩ S)
      | false => .no [36, g]
    | _, _ => .no [31, g]

end Ex
end Go.Proofs.YtdkijcmhjeaofaaGreatDoor
namespace Go.Proofs.YtdkijcmhjeaofaaGreatDoor
namespace Ex

variable {P : Program}

/-- The widest fence, for a plain frame or for a round's. -/
abbrev wf (r : Option Nat) : Fence := { Fence.wide with round := r }

/-- No live block of S lies at b. -/
def Unl (S : St) (ρ : Rho) (b : Nat) : Prop := ∀ i n A, S.heap.at i = some A → A.live = true → ρ i ≠ some (b, n)

/-- A step of the run. -/
structure Stp (K : Nat) (S S' : St) (ρ σ : Rho) (w w' : World) : Prop where
  le : ρ.le σ
  new : ∀ i b n A, S'.heap.at i = some A → A.live = true → σ i = some (b, n) →
    (ρ i = some (b, n) ∧ ∃ A', S.heap.at i = some A' ∧ A'.live = true) ∨ (K ≤ i ∧ (w.heap.size ≤ b ∨ ∃ j m A', K ≤ j ∧ S.heap.at j = some A' ∧ A'.live = true ∧ ρ j = some (b, m)))
  fr : Fr K S ρ w w'
theorem Up.stp {K : Nat} {S S' : St} {ρ σ : Rho} {w w' : World} (u : Up K S S' ρ σ w) (f : Fr K S ρ w w') : Stp K S S' ρ σ w w' := ⟨u.le, u.new, f⟩
theorem Stp.unl {K : Nat} {S S' : St} {ρ σ : Rho} {w w' : World} (s : Stp K S S' ρ σ w w') {b : Nat} (h : Unl S ρ b) (hb : b < w.heap.size) : Unl S' σ b := by
  intro i n A hA hl hr
  rcases s.new i b n A hA hl hr with ⟨h1, A', h2, h3⟩ | ⟨_, h1 | ⟨j, m, A', _, h2, h3, h4⟩⟩
  · exact h i n A' h2 h3 h1
  · omega
  · exact h j m A' h2 h3 h4
theorem Stp.block {K : Nat} {S S' : St} {ρ σ : Rho} {w w' : World} (s : Stp K S S' ρ σ w w') {b : Nat} (h : Unl S ρ b) (hb : b < w.heap.size) : w'.heap[b]? = w.heap[b]? :=
  s.fr.block b hb fun i n A _ hA hl => h i n A hA hl

/-- What a run keeps of the world around it. -/
structure Kept (K : Nat) where
  p : St → Rho → World → Prop
  base : Nat
  step : ∀ {S S' : St} {ρ σ : Rho} {w w' : World}, p S ρ w → Stp K S S' ρ σ w w' → p S' σ w'
  put : ∀ {S : St} {ρ : Rho} {w : World} (b : Nat) (o : Obj), p S ρ w → base ≤ b → p S ρ (w.putObj b o)
  size : ∀ {S : St} {ρ : Rho} {w : World}, p S ρ w → base ≤ w.heap.size

/-- The mark of a loop over a function. -/
def mark (b : Nat) : Deferred := { target := .collected b, args := #[] }
/-- The deferred calls are marks, whose blocks are untouched. -/
def MkOk (lo : Nat) (S : St) (ρ : Rho) (w : World) (ds : List Deferred) : Prop :=
  lo ≤ w.heap.size ∧ ∃ l : List Nat, ds = l.map mark ∧ l.Nodup ∧ ∀ b ∈ l, lo ≤ b ∧ b < w.heap.size ∧ w.heap[b]? = some (.deferred (some [])) ∧ Unl S ρ b
theorem MkOk.step {lo K : Nat} {S S' : St} {ρ σ : Rho} {w w' : World} {ds : List Deferred} (h : MkOk lo S ρ w ds) (s : Stp K S S' ρ σ w w') : MkOk lo S' σ w' ds := by
  obtain ⟨h0, l, h1, h2, h3⟩ := h
  refine ⟨Nat.le_trans h0 s.fr.size, l, h1, h2, fun b hb => ?_⟩
  obtain ⟨g1, g2, g3, g4⟩ := h3 b hb
  exact ⟨g1, Nat.lt_of_lt_of_le g2 s.fr.size, (s.block g4 g2).trans g3, s.unl g4 g2⟩
theorem MkOk.nil {S : St} {ρ : Rho} {w : World} : MkOk w.heap.size S ρ w [] := ⟨Nat.le_refl _, [], rfl, List.nodup_nil, by simp⟩
theorem put_defers (a : Act) (d : Option Nat) (x : Value) : (a.put d x).defers = a.defers := by cases d <;> rfl

/-- What is asked of a post-condition, if the executor ends so. -/
def RelQ (K lo : Nat) (S : St) (ρ : Rho) (w : World) (Q : Exit → Act → World → Prop) : Res → Prop
  | .normal f S' => ∀ a' w' σ, FR σ f a' → WR σ S' w' → MkOk lo S' σ w' a'.defers → Up K S S' ρ σ w → Fr K S ρ w w' → Q .normal a' w'
  | .exit id f S' => ∀ a' w' σ, FR σ f a' → WR σ S' w' → MkOk lo S' σ w' a'.defers → Up K S S' ρ σ w → Fr K S ρ w w' → Q (.exit id) a' w'
  | .ret f S' => ∀ a' w' σ, FR σ f a' → WR σ S' w' → MkOk lo S' σ w' a'.defers → Up K S S' ρ σ w → Fr K S ρ w w' → Q .ret a' w'
  | .no _ => False

theorem RelQ.step {K lo : Nat} {S S₁ : St} {ρ σ₁ : Rho} {w w₁ : World} {Q : Exit → Act → World → Prop} {r : Res} (h : RelQ K lo S ρ w Q r) (u : Up K S S₁ ρ σ₁ w) (fr : Fr K S ρ w w₁) : RelQ K lo S₁ σ₁ w₁ Q r := by
  cases r with
  | normal f S' => exact fun a' w' σ h1 h2 hm h3 h4 => h a' w' σ h1 h2 hm (u.trans fr.size h3) (fr.trans u h4)
  | exit id f S' => exact fun a' w' σ h1 h2 hm h3 h4 => h a' w' σ h1 h2 hm (u.trans fr.size h3) (fr.trans u h4)
  | ret f S' => exact fun a' w' σ h1 h2 hm h3 h4 => h a' w' σ h1 h2 hm (u.trans fr.size h3) (fr.trans u h4)
  | no w => exact h

/-- The run's own blocks lie beyond the world W, and W's blocks are as they were. -/
structure Zz (W : World) (K : Nat) (S : St) (ρ : Rho) (w : World) : Prop where
  out : ∀ i b n A, K ≤ i → S.heap.at i = some A → A.live = true → ρ i = some (b, n) → W.heap.size ≤ b
  below : RowKit.Below W.heap.size W w
theorem Zz.step {W : World} {K : Nat} {S S' : St} {ρ σ : Rho} {w w' : World} (h : Zz W K S ρ w) (s : Stp K S S' ρ σ w w') : Zz W K S' σ w' := by
  have f := s.fr
  refine ⟨fun i b n A hi hA hl hr => ?_, h.below.trans ⟨f.os, f.tape, f.output, f.size, fun b hb => f.block b (Nat.lt_of_lt_of_le hb h.below.size) fun i n A hi hA hl hr => ?_⟩⟩
  · rcases s.new i b n A hA hl hr with ⟨h1, A', h2, h3⟩ | ⟨_, h1 | ⟨j, m, A', hj, h2, h3, h4⟩⟩
    · exact h.out i b n A' hi h2 h3 h1
    · exact Nat.le_trans h.below.size h1
    · exact h.out j b m A' hj h2 h3 h4
  · have := h.out i b n A hi hA hl hr; omega
theorem below_put {B : Nat} {w w' : World} (h : RowKit.Below B w w') {b : Nat} (hb : B ≤ b) (o : Obj) : RowKit.Below B w (w'.putObj b o) :=
  ⟨h.os, h.tape, h.output, by rw [World.putObj_size]; exact h.size, fun k hk => by rw [World.putObj_heap_other (by omega)]; exact h.block k hk⟩
/-- What lies in the world W is kept. -/
def Kept.zz (W : World) (K : Nat) : Kept K where
  p := Zz W K
  base := W.heap.size
  step := Zz.step
  put := fun _ o h hb => ⟨h.out, below_put h.below hb o⟩
  size := fun h => h.below.size

/-- What a call of g promises; a number from 2^20 on is yield, of the loop whose record has that number less 2^20. -/
def Ent (P : Program) (g : FuncId) (ρ : Rho) (xs : Array Value) (w : World) (R : Ending → World → Prop) : Prop :=
  (g < 1048576 ∧ (∀ w₀, (callFunc g xs).run P w₀ = .ok (.enter g xs) w₀) ∧ Calls P g xs w R) ∨
  ∃ y b n, g = 1048576 + y ∧ ρ y = some (b, n) ∧ YieldAt Fence.wide 0 P b xs w R

theorem Ent.mono {g : FuncId} {ρ : Rho} {xs : Array Value} {w : World} {R R' : Ending → World → Prop} (h : Ent P g ρ xs w R) (hr : ∀ e w', R e w' → R' e w') : Ent P g ρ xs w R' := by
  rcases h with ⟨h0, h1, h2⟩ | ⟨y, b, n, h0, h1, fn, tmps, assign, body, h2, h3⟩
  · exact .inl ⟨h0, h1, h2.mono hr⟩
  · exact .inr ⟨y, b, n, h0, h1, fn, tmps, assign, body, h2, h3.mono hr⟩

/-- What a call gives. -/
def CallOk {K : Nat} (Z : Kept K) (P : Program) (call : FuncId → List AV → St → CRes) : Prop :=
  ∀ g vs S v S', call g vs S = .ok v S' → ∀ ρ xs w, VRL ρ vs xs → WR ρ S w → K ≤ S.next → Z.p S ρ w →
    Ent P g ρ xs.toArray w fun e w' => ∃ x σ, e = .returned x ∧ VR σ v x ∧ WR σ S' w' ∧ Up K S S' ρ σ w ∧ Fr K S ρ w w'

def ExtOk (P : Program) (ext : FuncId → List AV → Option AV) : Prop :=
  ∀ g vs v, ext g vs = some v → g < 1048576 ∧ ∀ ρ xs w, VRL ρ vs xs → ∃ x, (callFunc g xs.toArray).run P w = .ok (.value x) w ∧ VR ρ v x

/-- The same, or a call that gives a value without addresses and leaves all memory as it was. -/
def Ext2Ok {K : Nat} (Z : Kept K) (P : Program) (ext : FuncId → List AV → Option AV) : Prop :=
  ∀ g vs v, ext g vs = some v → g < 1048576 ∧ ∀ ρ xs w S, VRL ρ vs xs → Z.p S ρ w → (∃ x, (callFunc g xs.toArray).run P w = .ok (.value x) w ∧ VR ρ v x) ∨
    ((∀ w₀, (callFunc g xs.toArray).run P w₀ = .ok (.enter g xs.toArray) w₀) ∧ Calls P g xs.toArray w fun e w' => ∃ x, e = .returned x ∧ VR ρ v x ∧ RowKit.Below w.heap.size w w')
theorem ExtOk.two {K : Nat} {Z : Kept K} {ext : FuncId → List AV → Option AV} (h : ExtOk P ext) : Ext2Ok Z P ext :=
  fun g vs v hv => ⟨(h g vs v hv).1, fun ρ xs w _ hx _ => .inl ((h g vs v hv).2 ρ xs w hx)⟩
theorem Ext2Ok.sub {K : Nat} {Z Z' : Kept K} {ext : FuncId → List AV → Option AV} (h : Ext2Ok Z P ext) (hz : ∀ S ρ w, Z'.p S ρ w → Z.p S ρ w) : Ext2Ok Z' P ext :=
  fun g vs v hv => ⟨(h g vs v hv).1, fun ρ xs w S hx hp => (h g vs v hv).2 ρ xs w S hx (hz _ _ _ hp)⟩

theorem putK_ok {f : Fm} {d : Option Nat} {v : AV} {k : Fm → Res} {no : Res} {K lo : Nat} {S : St} {ρ : Rho} {w : World} {Q : Exit → Act → World → Prop} {a : Act} {x : Value} (h : RelQ K lo S ρ w Q (putK f d v k no)) (hno : RelQ K lo S ρ w Q no → False)
    (hf : FR ρ f a) (hv : VR ρ v x) : ∃ f', FR ρ f' (a.put d x) ∧ RelQ K lo S ρ w Q (k f') := by
  cases d with
  | none => exact ⟨f, hf, h⟩
  | some d =>
    rw [putK_old] at h
    cases hc : (Nat.blt d f.n && Nat.blt d 1048575) with
    | false => rw [hc] at h; exact (hno h).elim
    | true =>
      rw [hc] at h
      simp only [Bool.and_eq_true, Nat.blt_eq] at hc
      exact ⟨_, hf.put (d := some d) (fun i hi => by injection hi with hi; subst hi; exact hc.1) (fun i hi => by injection hi with hi; subst hi; exact hc.2) hv, h⟩

theorem want_ok {ops : Array Oper} {f : Fm} {o : Oper} {b : Bool} {ρ : Rho} {a : Act} (h : want ops.toList f o = some b) (hf : FR ρ f a) : Region.wanted o (yielded ops a.tmps) = b := by
  unfold want at h
  unfold Region.wanted
  split at h
  · rename_i hg; rw [hg]; injection h
  · rename_i j c hg; rw [hg]
    split at h
    · rename_i q hq
      have hq : ops[j]? = some q := by simpa using hq
      split at h
      · rename_i d hd
        split at h
        · rename_i c' hc
          obtain ⟨x, hx, hv⟩ := hf.2.2 d _ hc
          simp only [VR] at hv; subst hv
          injection h with h; subst h
          cases c <;> cases c' <;> simp [yielded, hq, hd, hx]
        · rename_i hc
          obtain ⟨x, hx, hv⟩ := hf.2.2 d _ hc
          simp only [VR] at hv
          obtain ⟨xs, e, hxs⟩ := hv
          simp only [VRL] at hxs; subst hxs; subst e
          injection h with h; subst h
          simp [yielded, hq, hd, hx]
        · cases h
      · cases h
    · cases h

theorem callee_ok {f : Fm} {c : Call} {g : FuncId} {vs : List AV} {ρ : Rho} {a : Act} (h : callee f c = some (g, vs)) (hf : FR ρ f a) (ty : TypeId) (w : World) :
    ∃ xs, VRL ρ vs xs ∧ ((g < 1048576 ∧ (do let d ← resolve a.eval c ty; invoke d.target d.args : Sem Next).run P w = (callFunc g xs.toArray).run P w) ∨
      ∃ y b n, g = 1048576 + y ∧ ρ y = some (b, n) ∧ (do let d ← resolve a.eval c ty; invoke d.target d.args : Sem Next).run P w = (Instr.yield b xs.toArray).run P w) := by
  unfold callee at h
  split at h
  · rename_i x hx
    split at h
    · rename_i g' cap us hg hu
      cases hb : Nat.blt g' 1048576 with
      | false => rw [hb] at h; cases h
      | true =>
        rw [hb] at h
        rw [Nat.blt_eq] at hb
        injection h with h; injection h with e1 e2; subst e1; subst e2
        have h1 := aev_ok hf hg
        simp only [VR] at h1
        obtain ⟨ys, e, hys⟩ := h1
        have h2 := mapO_VRL (e := a.eval) (fun x v hx => aev_ok hf hx) hu
        refine ⟨_, h2.append hys, .inl ⟨hb, ?_⟩⟩
        have e3 : c.args.map a.eval = (c.args.toList.map a.eval).toArray := by apply Array.ext'; simp
        simp only [resolve, hx, e, Deferred.ofValue, Sem.run_bind, Sem.run_pure, Result.andThen_ok, invoke, e3]
        congr 2
        simp
    · rename_i y us hg hu
      injection h with h; injection h with e1 e2; subst e1; subst e2
      have h1 := aev_ok hf hg
      simp only [VR] at h1
      obtain ⟨b, n, hy, e⟩ := h1
      have h2 := mapO_VRL (e := a.eval) (fun x v hx => aev_ok hf hx) hu
      refine ⟨_, h2, .inr ⟨y, b, n, rfl, hy, ?_⟩⟩
      have e3 : c.args.map a.eval = (c.args.toList.map a.eval).toArray := by apply Array.ext'; simp
      simp only [resolve, hx, e, Deferred.ofValue, Sem.run_bind, Sem.run_pure, Result.andThen_ok, invoke, e3]
      congr 2
      simp
    · cases h
  · cases h

theorem fid_no {g : FuncId} {y : Nat} (h : g < 1048576) (e : g = 1048576 + y) : False := by
  have h : @LT.lt Nat _ g 1048576 := h
  have e : @Eq Nat g (1048576 + y) := e
  omega
theorem fid_eq {g : FuncId} {y y' : Nat} (h : g = 1048576 + y) (e : g = 1048576 + y') : y' = y := by
  have h : @Eq Nat g (1048576 + y) := h
  have e : @Eq Nat g (1048576 + y') := e
  omega
/-- An operation that calls. -/
theorem callOp_ok {K : Nat} {Z : Kept K} {call : FuncId → List AV → St → CRes} (hcall : CallOk Z P call) {o : Oper} {c : Call} (ho : o.op = .call c) {f : Fm} {g : FuncId} {vs : List AV} {S S' : St} {v : AV} {ρ : Rho} {a : Act} {w : World}
    (hg : callee f c = some (g, vs)) (hv : call g vs S = .ok v S') (hf : FR ρ f a) (hw : WR ρ S w) (hK : K ≤ S.next) (hz : Z.p S ρ w) {r : Option Nat} {n : Nat} {next : Act → World → Prop} {Q : Exit → Act → World → Prop}
    (hn : ∀ x σ w', VR σ v x → WR σ S' w' → Up K S S' ρ σ w → Fr K S ρ w w' → next (a.put o.dst x) w') : o.wpIn (wf r) n P a w next Q := by
  have hex : execOp a.eval o = (do let d ← resolve a.eval c o.type; invoke d.target d.args : Sem Next) := by unfold execOp; rw [ho]
  obtain ⟨xs, hxs, hrun⟩ := callee_ok (P := P) hg hf o.type w
  refine ⟨fun _ _ => trivial, ?_⟩
  rw [Oper.semAt_eq _ _ _ (by rw [ho]; intro c h; cases h), hex]
  rcases hcall g vs S v S' hv ρ xs w hxs hw hK hz with ⟨h0, h1, h2⟩ | ⟨y, b, m, h0, h1, h2⟩
  · rcases hrun with ⟨_, hr⟩ | ⟨y, b, m, e, _⟩
    · rw [hr, h1, Oper.uponIn_enter]
      refine ⟨fun h => (by cases h), (callsIn_wide (n := n - 1)).2 (h2.mono ?_)⟩
      rintro e w' ⟨x, σ, rfl, q1, q2, q3, q4⟩
      exact hn x σ w' q1 q2 q3 q4
    · exact (fid_no h0 e).elim
  · rcases hrun with ⟨h, _⟩ | ⟨y', b', m', e, e2, hr⟩
    · exact (fid_no h h0).elim
    · have ey : y' = y := fid_eq h0 e
      subst ey
      rw [h1] at e2; injection e2 with e2; injection e2 with e2 e3; subst e2
      obtain ⟨fn, tmps, assign, body, q1, q2⟩ := h2
      rw [hr, q1, Oper.uponIn_round]
      refine ⟨fun h => (by cases h), RoundIn.mono (F := wf r) ⟨trivial, fun c cs _ => q2.2 c cs (room_wide _)⟩ ?_⟩
      rintro e w' ⟨x, σ, rfl, q1, q2, q3, q4⟩
      exact hn x σ w' q1 q2 q3 q4

/-- An operation that gives a value, or nothing. -/
theorem valOp_ok {o : Oper} (hd : ∀ c, o.op ≠ .defer c) {a : Act} {w w' : World} {x : Value} (h : (execOp a.eval o).run P w = .ok (.value x) w') {r : Option Nat} {n : Nat} {next : Act → World → Prop} {Q : Exit → Act → World → Prop}
    (hn : next (a.put o.dst x) w') : o.wpIn (wf r) n P a w next Q := by
  refine ⟨fun _ _ => trivial, ?_⟩
  rw [Oper.semAt_eq _ _ _ hd, h, Oper.uponIn_value]; exact hn
theorem skipOp_ok {o : Oper} (hd : ∀ c, o.op ≠ .defer c) {a : Act} {w w' : World} (h : (execOp a.eval o).run P w = .ok .skip w') {r : Option Nat} {n : Nat} {next : Act → World → Prop} {Q : Exit → Act → World → Prop}
    (hn : next (a.put o.dst undef) w') : o.wpIn (wf r) n P a w next Q := by
  refine ⟨fun _ _ => trivial, ?_⟩
  rw [Oper.semAt_eq _ _ _ hd, h, Oper.uponIn_skip]; exact hn
theorem value_no_defer {o : Oper} {e : Operand → Value} {w w' : World} {x : Value} (h : (execOp e o).run P w = .ok (.value x) w') : ∀ c, o.op ≠ .defer c := by
  intro c hc
  unfold execOp at h
  rw [hc] at h
  simp only [Sem.run_bind] at h
  cases hr : (resolve e c o.type).run P w with
  | ok d w1 => rw [hr] at h; simp [Result.andThen] at h
  | halt s w1 => rw [hr] at h; simp [Result.andThen] at h
theorem skip_no_defer {o : Oper} {e : Operand → Value} {w w' : World} (h : (execOp e o).run P w = .ok .skip w') : ∀ c, o.op ≠ .defer c := by
  intro c hc
  unfold execOp at h
  rw [hc] at h
  simp only [Sem.run_bind] at h
  cases hr : (resolve e c o.type).run P w with
  | ok d w1 => rw [hr] at h; simp [Result.andThen] at h
  | halt s w1 => rw [hr] at h; simp [Result.andThen] at h

theorem doOps_ok {K : Nat} {Z : Kept K} {r : Option Nat} {n lo : Nat} {ext : FuncId → List AV → Option AV} {call : FuncId → List AV → St → CRes} (hext : ExtOk P ext) (hcall : CallOk Z P call) {ops : Array Oper} {id : Nat} {Q : Exit → Act → World → Prop} :
    ∀ (l : List Oper) (f : Fm) (S : St) (ρ : Rho) (a : Act) (w : World), FR ρ f a → WR ρ S w → MkOk lo S ρ w a.defers → K ≤ S.next → Z.p S ρ w → RelQ K lo S ρ w Q (doOps K P ext call ops.toList id l f S) → wpListIn (wf r) n P ops Q l a w
  | [], f, S, ρ, a, w, hf, hw, hm, hK, hz, h => h a w ρ hf hw hm (Up.refl K S ρ w) (Fr.refl K S ρ w)
  | o :: l, f, S, ρ, a, w, hf, hw, hm, hK, hz, h => by
    rw [doOps_cons] at h
    have ih := doOps_ok (r := r) (n := n) (lo := lo) hext hcall (ops := ops) (id := id) (Q := Q) l
    unfold wpListIn
    split at h
    · rename_i hwant
      rw [want_ok hwant hf]
      simp only [if_true]
      unfold doOp at h
      split at h
      · split at h
        · rename_i v hv
          obtain ⟨x, h1, h2⟩ := pureOp_ok hv hf w
          obtain ⟨f', h3, h4⟩ := putK_ok h (fun h => h) hf h2
          exact valOp_ok (value_no_defer h1) h1 (ih f' S ρ _ w h3 hw (by rw [put_defers]; exact hm) hK hz h4)
        · exact h.elim
      · split at h
        · rename_i v hv
          obtain ⟨x, h1, h2⟩ := readOp_ok hv hf hw
          obtain ⟨f', h3, h4⟩ := putK_ok h (fun h => h) hf h2
          exact valOp_ok (value_no_defer h1) h1 (ih f' S ρ _ w h3 hw (by rw [put_defers]; exact hm) hK hz h4)
        · exact h.elim
      · rw [fNat_eq] at h
        split at h
        · rename_i v B hv
          obtain ⟨x, ob, n, w', h1, h2, h3, h4, h5, h6⟩ := allocOp_ok hv hf w
          rw [addB_old] at h
          cases hc : Nat.blt (Nat.succ S.next) 1048575 with
          | false => rw [hc] at h; exact h.elim
          | true =>
            rw [hc] at h
            rw [Nat.blt_eq] at hc
            have hle := Rho.le_set (p := (w.heap.size, n)) (hw.dom S.next (Nat.le_refl _)).1
            obtain ⟨hv', hB⟩ := h6 _ hle (Rho.set_same _ _ _)
            have hu : Up K S ⟨S.heap.to S.next B, S.next + 1⟩ ρ (ρ.set S.next (w.heap.size, n)) w := Up.set hw hK _ _
            have hfr : Fr K S ρ w w' := ⟨h3, h4, h5, by rw [h2]; simp, fun b hb _ => by rw [h2, Array.getElem?_push, if_neg (by omega)]⟩
            have h := h.step hu hfr
            obtain ⟨f', q3, q4⟩ := putK_ok h (fun h => h) (hf.mono hle) hv'
            exact valOp_ok (value_no_defer h1) h1 (ih f' _ _ _ w' q3 (hw.new hB h2 hc) (by rw [put_defers]; exact hm.step (hu.stp hfr)) (Nat.le_succ_of_le hK) (Z.step hz (hu.stp hfr)) q4)
        · exact h.elim
      · split at h
        · rename_i v S' hv
          obtain ⟨x, w', σ, h1, h2, h3, h4, h5⟩ := effOp_ok hv hf hw hK
          rw [forceS_eq] at h
          have h := h.step h2 h5
          obtain ⟨f', q3, q4⟩ := putK_ok h (fun h => h) (hf.mono h2.le) h4
          rcases h1 with h1 | ⟨h1, hx⟩
          · exact valOp_ok (value_no_defer h1) h1 (ih f' S' σ _ w' q3 h3 (by rw [put_defers]; exact hm.step (h2.stp h5)) (Nat.le_trans hK h2.next) (Z.step hz (h2.stp h5)) q4)
          · subst hx
            exact skipOp_ok (skip_no_defer h1) h1 (ih f' S' σ _ w' q3 h3 (by rw [put_defers]; exact hm.step (h2.stp h5)) (Nat.le_trans hK h2.next) (Z.step hz (h2.stp h5)) q4)
        · exact h.elim
      · split at h
        · rename_i c hc
          split at h
          · rename_i g vs hg
            split at h
            · rename_i v hv
              obtain ⟨xs, hxs, hrun⟩ := callee_ok (P := P) hg hf o.type w
              obtain ⟨hlt, he⟩ := hext g vs v hv
              obtain ⟨x, h1, h2⟩ := he ρ xs w hxs
              obtain ⟨f', h3, h4⟩ := putK_ok h (fun h => h) hf h2
              rcases hrun with ⟨_, hr⟩ | ⟨y, b, m, e, _⟩
              · have hex : execOp a.eval o = (do let d ← resolve a.eval c o.type; invoke d.target d.args : Sem Next) := by unfold execOp; rw [hc]
                exact valOp_ok (by rw [hc]; intro c h; cases h) (by rw [hex, hr, h1]) (ih f' S ρ _ w h3 hw (by rw [put_defers]; exact hm) hK hz h4)
              · exact (fid_no hlt e).elim
            · split at h
              · rename_i v S' hv
                refine callOp_ok hcall hc hg hv hf hw hK hz fun x σ w' hx hw' hu hfr => ?_
                have h := h.step hu hfr
                obtain ⟨f', h3, h4⟩ := putK_ok h (fun h => h) (hf.mono hu.le) hx
                exact ih f' S' σ _ w' h3 hw' (by rw [put_defers]; exact hm.step (hu.stp hfr)) (Nat.le_trans hK hu.next) (Z.step hz (hu.stp hfr)) h4
              · exact h.elim
          · exact h.elim
        · exact h.elim
      · exact h.elim
    · rename_i hwant
      rw [want_ok hwant hf]
      simp only [Bool.false_eq_true, if_false]
      obtain ⟨f', h3, h4⟩ := putK_ok h (fun h => h) hf (show VR ρ (.tup []) undef by simp only [VR]; exact ⟨[], rfl, by simp [VRL]⟩)
      exact ⟨fun _ _ => trivial, ih f' S ρ _ w h3 hw (by rw [put_defers]; exact hm) hK hz h4⟩
    · exact h.elim

end Ex
end Go.Proofs.YtdkijcmhjeaofaaGreatDoor
namespace Go.Proofs.YtdkijcmhjeaofaaGreatDoor
namespace Ex

variable {P : Program}

/-- The ends that the executor knows. -/
def Known (e : Exit) : Prop := e = .normal ∨ (∃ id, e = .exit id) ∨ e = .ret

theorem exitTo_le {id : Nat} : ∀ {k k' : List Item}, exitTo id k = some k' → k'.length ≤ k.length
  | [], k', h => by simp [exitTo] at h
  | x :: k, k', h => by
    cases x <;> simp only [exitTo] at h <;> first
      | exact Nat.le_succ_of_le (exitTo_le h)
      | (split at h
         · injection h with h; subst h; simp
         · exact Nat.le_succ_of_le (exitTo_le h))

theorem steps_tail {I : Machine → Prop} {m X m' : Machine} (h : StepsIn I P m m') (hs : step P m = .next X) (hne : m ≠ m') : StepsIn I P X m' := by
  cases h with
  | refl => exact absurd rfl hne
  | head _ h1 h2 =>
    rw [hs] at h1
    injection h1 with h1
    rw [h1]; exact h2

theorem todo_ne {b : Frame} {a a' : Act} {t t' : List Item} {cs : List Frame} {w w' : World} (h : t ≠ t') : lone (b.atR a t) cs w ≠ lone (b.atR a' t') cs w' := by
  intro e
  have e := congrArg (fun m : Machine => (m.gs[0]?).map fun g => g.frame.todo) e
  simp [lone, Frame.atR] at e
  exact h e

theorem mode_ne {b : Frame} {a a' : Act} {t t' : List Item} {cs : List Frame} {w w' : World} : lone (b.atR a t) cs w ≠ lone { b.atR a' t' with mode := .returning } cs w' := by
  intro e
  have e := congrArg (fun m : Machine => (m.gs[0]?).map fun g => (match g.frame.mode with | .run => true | _ => false)) e
  simp [lone, Frame.atR] at e

theorem wp_unroll {F : Fence} {n : Nat} {c : Code} {Q : Exit → Act → World → Prop} {a : Act} {w : World} (hq : ∀ e a w, Q e a w → Known e) (h : c.wpIn F n P (Exit.then ((Code.loop c).wpIn F n P Q) Q) a w) : (Code.loop c).wpIn F n P Q a w := by
  intro b k cs hro hb hr
  have h0 : (lone (b.atR a (.code (.loop c) :: k)) cs w).fenced P F := fenced_calm hb hr rfl
  obtain ⟨e, a1, w1, hq1, harr⟩ := h b (.inLoop c :: k) cs hro hb hr
  cases e with
  | normal =>
    obtain ⟨e2, a2, w2, hQ, harr2⟩ := hq1 b k cs hro hb hr
    refine ⟨e2, a2, w2, hQ, ?_⟩
    have s1 : StepsIn (Machine.fenced P F) P (lone (b.atR a (.code (.loop c) :: k)) cs w) (lone (b.atR a1 (.code c :: .inLoop c :: k)) cs w1) :=
      .head h0 stepR_loop (StepsIn.trans harr (.one (fenced_calm hb hr rfl) stepR_inLoop))
    refine ArrivesIn.of_steps s1 ?_
    rcases hq e2 a2 w2 hQ with rfl | ⟨id, rfl⟩ | rfl
    · exact steps_tail harr2 stepR_loop (todo_ne (by intro h; exact absurd (congrArg List.length h) (by simp)))
    · refine ⟨fun k' hk => steps_tail (harr2.1 k' hk) stepR_loop (todo_ne (by intro h; have := exitTo_le hk; rw [← h] at this; simp at this; omega)), fun hr' hk => ?_⟩
      obtain ⟨k₁, q1, q2⟩ := harr2.2 hr' hk
      exact ⟨k₁, q1, steps_tail q2 stepR_loop (todo_ne (by intro h; injection h with h; injection h with h; cases h))⟩
    · refine ⟨fun hr' => ?_, fun hr' => ?_⟩
      · obtain ⟨todo, hs⟩ := harr2.1 hr'
        exact ⟨todo, steps_tail hs stepR_loop mode_ne⟩
      · obtain ⟨k₁, hs⟩ := harr2.2 hr'
        exact ⟨k₁, steps_tail hs stepR_loop (todo_ne (by intro h; injection h with h; injection h with h; cases h))⟩
  | exit id => exact ⟨_, a1, w1, hq1, .of_steps (.one h0 stepR_loop) (.pass (x := .inLoop c) rfl (fun _ _ => .inl (by simp)) harr)⟩
  | goto l => exact ⟨_, a1, w1, hq1, .of_steps (.one h0 stepR_loop) (.pass (x := .inLoop c) rfl (fun _ _ => .inl (by simp)) harr)⟩
  | ret => exact ⟨_, a1, w1, hq1, .of_steps (.one h0 stepR_loop) (.pass (x := .inLoop c) rfl (fun _ _ => .inl (by simp)) harr)⟩
  | panic ch => exact ⟨_, a1, w1, hq1, .of_steps (.one h0 stepR_loop) (.pass (x := .inLoop c) rfl (fun _ _ => .inl (by simp)) harr)⟩
  | outgrown => exact ⟨_, a1, w1, hq1, .of_steps (.one h0 stepR_loop) (.pass (x := .inLoop c) rfl (fun _ _ => .inl (by simp)) harr)⟩

theorem stepR_scope {b : Frame} {a : Act} {k : List Item} {cs : List Frame} {w : World} {c : Code} : step P (lone (b.atR a (.code (.scope c) :: k)) cs w) = .next (lone (b.atR a (.code c :: .inScope c :: k)) cs w) :=
  step_lone_go (by simp [stepG, stepG.exec, Frame.atR])
theorem stepR_inScope {b : Frame} {a : Act} {k : List Item} {cs : List Frame} {w : World} {c : Code} : step P (lone (b.atR a (.inScope c :: k)) cs w) = .next (lone (b.atR a k) cs w) :=
  step_lone_go (by simp [stepG, stepG.exec, Frame.atR])

theorem wpIn_scope_straight {F : Fence} {n : Nat} {c : Code} {Q : Exit → Act → World → Prop} {a : Act} {w : World} (h : c.wpIn F n P (Exit.noGoto Q) a w) : (Code.scope c).wpIn F n P Q a w := by
  intro b k cs hro hb hr
  have h0 : (lone (b.atR a (.code (.scope c) :: k)) cs w).fenced P F := fenced_calm hb hr rfl
  obtain ⟨e, a₁, w₁, hq, harr⟩ := h b (.inScope c :: k) cs hro hb hr
  cases e with
  | normal => exact ⟨.normal, a₁, w₁, hq, .head h0 stepR_scope (StepsIn.trans harr (.one (fenced_calm hb hr rfl) stepR_inScope))⟩
  | exit id =>
    have hx : exitTo id (.inScope c :: k) = exitTo id k := by simp [exitTo]
    exact ⟨.exit id, a₁, w₁, hq, fun k' hk => .head h0 stepR_scope (harr.1 k' (by rw [hx]; exact hk)),
      fun hr' hk => let ⟨k₁, h1, h2⟩ := harr.2 hr' (by rw [hx]; exact hk); ⟨k₁, h1, .head h0 stepR_scope h2⟩⟩
  | goto l => exact hq.elim
  | ret => exact ⟨_, a₁, w₁, hq, .of_steps (.one h0 stepR_scope) harr⟩
  | panic ch => exact ⟨_, a₁, w₁, hq, .of_steps (.one h0 stepR_scope) harr⟩
  | outgrown => exact ⟨_, a₁, w₁, hq, .of_steps (.one h0 stepR_scope) harr⟩

end Ex
end Go.Proofs.YtdkijcmhjeaofaaGreatDoor
