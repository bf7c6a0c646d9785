/- Joined texts. A closed-run executor, part 4: the operations that look at slots alone. No program is named; no condition. · A closed-run executor, part 5: the operations that look at slots alone, and what they give in the model. No program is named; no condition. · A closed-run executor, part 6: further operations that look at slots alone. No program is named; no condition. · A closed-run executor, part 7: slices, parts, structs that are built, lengths; all operations that look at slots alone. No program is named; no condition. · A closed-run executor, part 8: slice expressions, parts of tuples, structs that are built. No program is named; no condition. · A closed-run executor, part 9: structs that are built, lengths, and all operations that look at slots alone. No program is named; no condition. · A closed-run executor, part 10: all operations that look at slots alone. No program is named; no condition. · A closed-run executor, part 11: all operations that look at slots alone. No program is named; no condition. · A closed-run executor, part 12: cells that are read, written and made. No program is named; no condition. -/
import Derived.Test.YtdkijcmhjeaofaaGreatDoorQEc
import Derived.Laws.Slices
import Derived.ChangeKeysEq
import Derived.Laws.CopyRow
namespace Go.Proofs.YtdkijcmhjeaofaaGreatDoor
namespace Ex

/-! Integers, as the kernel likes them. -/
noncomputable def top (k : IntKind) : Nat := IntKind.rec 128 32768 2147483648 9223372036854775808 256 65536 4294967296 18446744073709551616 k
noncomputable def bot (k : IntKind) : Nat := IntKind.rec 128 32768 2147483648 9223372036854775808 0 0 0 0 k
noncomputable def fwrap (k : IntKind) (n : Int) : Int :=
  Int.rec (fun m => Bool.rec (k.wrap (.ofNat m)) (.ofNat m) (Nat.blt m (top k))) (fun m => Bool.rec (k.wrap (.negSucc m)) (.negSucc m) (Nat.blt m (bot k))) n
theorem fwrap_eq (k : IntKind) (n : Int) : fwrap k n = k.wrap n := by
  cases n with
  | ofNat m =>
    show (Bool.rec (k.wrap (.ofNat m)) (.ofNat m) (Nat.blt m (top k)) : Int) = _
    cases h : Nat.blt m (top k) with
    | false => rfl
    | true =>
      have h : m < top k := by simpa [Nat.blt_eq] using h
      show Int.ofNat m = _
      cases k <;> simp [top, IntKind.wrap, IntKind.bits, IntKind.signed] at h ⊢ <;> omega
  | negSucc m =>
    show (Bool.rec (k.wrap (.negSucc m)) (.negSucc m) (Nat.blt m (bot k)) : Int) = _
    cases h : Nat.blt m (bot k) with
    | false => rfl
    | true =>
      have h : m < bot k := by simpa [Nat.blt_eq] using h
      show Int.negSucc m = _
      have e : Int.negSucc m = -(m : Int) - 1 := by omega
      rw [e]
      cases k <;> simp [bot, IntKind.wrap, IntKind.bits, IntKind.signed] at h ⊢ <;> omega

theorem blt_t {a b : Nat} (h : a < b) : Nat.blt a b = true := by rw [Nat.blt_eq]; exact h
theorem blt_f {a b : Nat} (h : ¬ a < b) : Nat.blt a b = false := by
  cases e : Nat.blt a b with
  | false => rfl
  | true => rw [Nat.blt_eq] at e; exact absurd e h

noncomputable def ilt (m n : Int) : Bool :=
  Int.rec (fun a => Int.rec (fun b => Nat.blt a b) (fun _ => false) n) (fun a => Int.rec (fun _ => true) (fun b => Nat.blt b a) n) m
theorem ilt_eq (m n : Int) : ilt m n = decide (m < n) := by
  cases m <;> cases n <;> rename_i a b
  · show Nat.blt a b = _
    by_cases h : a < b
    · rw [blt_t h]; symm; simp; omega
    · rw [blt_f h]; symm; simp; omega
  · show false = _
    symm; simp; omega
  · show true = _
    symm; simp; omega
  · show Nat.blt b a = _
    by_cases h : b < a
    · rw [blt_t h]; symm; simp; omega
    · rw [blt_f h]; symm; simp; omega
noncomputable def ieq (m n : Int) : Bool :=
  Int.rec (fun a => Int.rec (fun b => Nat.beq a b) (fun _ => false) n) (fun a => Int.rec (fun _ => false) (fun b => Nat.beq a b) n) m
theorem ieq_eq (m n : Int) : ieq m n = decide (m = n) := by
  cases m <;> cases n <;> rename_i a b
  · show Nat.beq a b = _
    by_cases h : a = b
    · rw [beq_t h]; symm; rw [decide_eq_true_eq, h]
    · rw [beq_f h]; symm; rw [decide_eq_false_iff_not]; exact fun e => h (Int.ofNat.inj e)
  · show false = _
    symm; rw [decide_eq_false_iff_not]; exact fun e => by cases e
  · show false = _
    symm; rw [decide_eq_false_iff_not]; exact fun e => by cases e
  · show Nat.beq a b = _
    by_cases h : a = b
    · rw [beq_t h]; symm; rw [decide_eq_true_eq, h]
    · rw [beq_f h]; symm; rw [decide_eq_false_iff_not]; exact fun e => h (Int.negSucc.inj e)

noncomputable def ksame (j k : IntKind) : Bool := Nat.beq (IntKind.rec 0 1 2 3 4 5 6 7 j) (IntKind.rec 0 1 2 3 4 5 6 7 k)
theorem ksame_eq {j k : IntKind} (h : ksame j k = true) : j = k := by
  cases j <;> cases k <;> first | rfl | exact absurd h (by simp [ksame])

/-- Equality of byte strings. -/
noncomputable def leq (l : List Nat) : List Nat → Bool :=
  List.rec (motive := fun _ => List Nat → Bool) (fun r => List.rec true (fun _ _ _ => false) r)
    (fun x _ ih r => List.rec false (fun y r' _ => Bool.rec false (ih r') (Nat.beq x y)) r) l
theorem leq_eq : ∀ (l r : List Nat), leq l r = decide (l = r)
  | [], [] => rfl
  | [], _ :: _ => rfl
  | _ :: _, [] => rfl
  | x :: l, y :: r => by
    show (Bool.rec false (leq l r) (Nat.beq x y) : Bool) = _
    by_cases h : x = y
    · subst h
      rw [beq_t rfl]; show leq l r = _; rw [leq_eq l r]; simp
    · rw [beq_f h]; symm; simp [h]

theorem bytesOf_inj {l r : List Nat} (hl : ∀ b ∈ l, b < 256) (hr : ∀ b ∈ r, b < 256) (h : bytesOf l = bytesOf r) : l = r := by
  have h : l.map UInt8.ofNat = r.map UInt8.ofNat := by simpa [bytesOf] using h
  have e : ∀ (l : List Nat), (∀ b ∈ l, b < 256) → (l.map UInt8.ofNat).map UInt8.toNat = l := by
    intro l hl
    rw [List.map_map]
    conv => rhs; rw [← List.map_id l]
    exact List.map_congr_left fun b hb => by simp [Nat.mod_eq_of_lt (hl b hb)]
  rw [← e l hl, ← e r hr, h]

theorem bytesOf_size (l : List Nat) : (bytesOf l).size = l.length := by simp [bytesOf, ByteArray.size]

/-- A binary operation on two integers. -/
noncomputable def aInt (op : BinOp) (k : IntKind) (m n : Int) : Option AV :=
  match op with
  | .add => some (fInt (fwrap k (Int.add m n)) (.int k))
  | .sub => some (fInt (fwrap k (Int.sub m n)) (.int k))
  | .mul => some (fInt (fwrap k (Int.mul m n)) (.int k))
  | .quo => Bool.rec (some (fInt (fwrap k (Int.tdiv m n)) (.int k))) none (ieq n 0)
  | .rem => Bool.rec (some (fInt (Int.tmod m n) (.int k))) none (ieq n 0)
  | .eql => some (.bool (ieq m n))
  | .neq => some (.bool (not (ieq m n)))
  | .lss => some (.bool (ilt m n))
  | .leq => some (.bool (not (ilt n m)))
  | .gtr => some (.bool (ilt n m))
  | .geq => some (.bool (not (ilt m n)))
  | .and => some (fInt (k.wrap (BitVec.ofInt k.bits m &&& BitVec.ofInt k.bits n).toNat) (.int k))
  | .or => some (fInt (k.wrap (BitVec.ofInt k.bits m ||| BitVec.ofInt k.bits n).toNat) (.int k))
  | .xor => some (fInt (k.wrap (BitVec.ofInt k.bits m ^^^ BitVec.ofInt k.bits n).toNat) (.int k))
  | .andNot => some (fInt (k.wrap (BitVec.ofInt k.bits m &&& ~~~ BitVec.ofInt k.bits n).toNat) (.int k))
  | _ => none

variable {P : Program}

theorem aInt_ok {op : BinOp} {k : IntKind} {m n : Int} {v : AV} (h : aInt op k m n = some v) {ρ : Rho} (t : TypeId) (w : World) :
    ∃ x, (binOp op t (.int k m) (.int k n)).run P w = .ok x w ∧ VR ρ v x := by
  cases op <;> simp only [aInt, fInt_eq, fwrap_eq, ieq_eq, ilt_eq, Option.some.injEq, reduceCtorEq] at h
  case quo =>
    by_cases hn : n = 0
    · simp [hn] at h
    · simp [hn] at h; subst h
      exact ⟨.int k (k.wrap (m.tdiv n)), by simp [binOp, Op.intDiv, hn], by simp only [VR]⟩
  case rem =>
    by_cases hn : n = 0
    · simp [hn] at h
    · simp [hn] at h; subst h
      exact ⟨.int k (m.tmod n), by simp [binOp, Op.intDiv, hn], by simp only [VR]⟩
  case add => subst h; exact ⟨.int k (k.wrap (m + n)), by simp [binOp, Op.intArith], by simp only [VR]; rfl⟩
  case sub => subst h; exact ⟨.int k (k.wrap (m - n)), by simp [binOp, Op.intArith], by simp only [VR]; rfl⟩
  case mul => subst h; exact ⟨.int k (k.wrap (m * n)), by simp [binOp, Op.intArith], by simp only [VR]; rfl⟩
  case and => subst h; exact ⟨.int k (k.wrap (BitVec.ofInt k.bits m &&& BitVec.ofInt k.bits n).toNat), by simp only [binOp, Op.intBits, ne_eq, not_true_eq_false, if_false, Sem.run_pure], by simp only [VR]⟩
  case or => subst h; exact ⟨.int k (k.wrap (BitVec.ofInt k.bits m ||| BitVec.ofInt k.bits n).toNat), by simp only [binOp, Op.intBits, ne_eq, not_true_eq_false, if_false, Sem.run_pure], by simp only [VR]⟩
  case xor => subst h; exact ⟨.int k (k.wrap (BitVec.ofInt k.bits m ^^^ BitVec.ofInt k.bits n).toNat), by simp only [binOp, Op.intBits, ne_eq, not_true_eq_false, if_false, Sem.run_pure], by simp only [VR]⟩
  case andNot => subst h; exact ⟨.int k (k.wrap (BitVec.ofInt k.bits m &&& ~~~BitVec.ofInt k.bits n).toNat), by simp only [binOp, Op.intBits, ne_eq, not_true_eq_false, if_false, Sem.run_pure], by simp only [VR]⟩
  case eql => subst h; exact ⟨.bool (m == n), by simp [binOp, Op.intCmp], by simp only [VR]; rfl⟩
  case neq => subst h; exact ⟨.bool (m != n), by simp [binOp, Op.intCmp], by simp only [VR]; rfl⟩
  case lss => subst h; exact ⟨.bool (decide (m < n)), by simp [binOp, Op.intCmp], by simp only [VR]⟩
  case leq => subst h; exact ⟨.bool (decide (m ≤ n)), by simp [binOp, Op.intCmp], by simp only [VR]; rw [Value.bool.injEq, Bool.eq_iff_iff]; simp⟩
  case gtr => subst h; exact ⟨.bool (decide (m > n)), by simp [binOp, Op.intCmp], by simp only [VR]⟩
  case geq => subst h; exact ⟨.bool (decide (m ≥ n)), by simp [binOp, Op.intCmp], by simp only [VR]; rw [Value.bool.injEq, Bool.eq_iff_iff]; simp⟩

end Ex
end Go.Proofs.YtdkijcmhjeaofaaGreatDoor
namespace Go.Proofs.YtdkijcmhjeaofaaGreatDoor
namespace Ex

variable {P : Program}

/-! What a run without memory gives. -/
noncomputable def pureRun (P : Program) {α : Type} (s : Sem α) : Option α :=
  Sem.rec (motive := fun _ => Option α) (fun a => some a) (fun _ _ _ _ => none) (fun _ _ _ _ _ => none) (fun _ _ _ => none) (fun _ _ _ => none) (fun _ _ _ _ => none)
    (fun _ _ _ => none) (fun _ _ _ => none) (fun _ _ _ _ => none) (fun _ _ _ => none) (fun _ _ _ => none) (fun _ ih => ih P) (fun _ _ _ => none) (fun _ => none) s
theorem pureRun_ok {α : Type} (s : Sem α) {a : α} (h : pureRun P s = some a) (w : World) : s.run P w = .ok a w := by
  induction s with
  | pure b => simp only [pureRun] at h; injection h with h; subst h; rfl
  | program k ih => exact ih P h
  | _ => simp [pureRun] at h

/-- A value without addresses, as it stands in the model. -/
def conc1 : AV → Option Value
  | .bool b => some (.bool b)
  | .int k n => some (.int k n)
  | .str l => some (.string (bytesOf l))
  | .nilPtr => some (.pointer none)
  | .nilSl => some (.slice none 0 0)
  | .nilMap => some (.map none)
  | .nilFunc => some .nilFunc
  | .nilIface => some .nilIface
  | _ => none
noncomputable def conc : AV → Option Value
  | .agg cs => (mapO conc1 cs).map fun l => .agg l.toArray
  | v => conc1 v
theorem conc1_ok {ρ : Rho} {v : AV} {x y : Value} (h : conc1 v = some x) (hv : VR ρ v y) : y = x := by
  unfold conc1 at h
  split at h <;> first | (injection h with h; subst h; simp only [VR] at hv; first | exact hv | exact hv.1) | simp at h
theorem conc1_list {ρ : Rho} : ∀ {vs : List AV} {xs ys : List Value}, mapO conc1 vs = some xs → VRL ρ vs ys → ys = xs
  | [], xs, ys, h, hv => by simp only [mapO_nil, Option.some.injEq] at h; simp only [VRL] at hv; rw [hv, h]
  | v :: vs, xs, ys, h, hv => by
    obtain ⟨z, zs, h1, h2, h3⟩ := mapO_cons h
    simp only [VRL] at hv
    obtain ⟨y, ys', e, h4, h5⟩ := hv
    rw [h3, e, conc1_ok h1 h4, conc1_list h2 h5]
theorem conc_ok {ρ : Rho} {v : AV} {x y : Value} (h : conc v = some x) (hv : VR ρ v y) : y = x := by
  unfold conc at h
  split at h
  · rename_i cs
    cases hm : mapO conc1 cs with
    | none => simp [hm] at h
    | some l =>
      simp [hm] at h
      simp only [VR] at hv
      obtain ⟨xs, e, hx⟩ := hv
      rw [e, conc1_list hm hx, h]
  · exact conc1_ok h hv

/-! Strings. -/
noncomputable def fList {γ : Type} (l : List Nat) : (List Nat → γ) → γ :=
  List.rec (motive := fun _ => (List Nat → γ) → γ) (fun k => k []) (fun x _ ih k => fNat x fun x => ih fun r => k (x :: r)) l
theorem fList_eq {γ : Type} : ∀ (l : List Nat) (k : List Nat → γ), fList l k = k l
  | [], _ => rfl
  | x :: l, k => by
    show fNat x (fun x => fList l fun r => k (x :: r)) = _
    rw [fNat_eq, fList_eq l]

noncomputable def aStr (op : BinOp) (l r : List Nat) : Option AV :=
  match op with
  | .add => Bool.rec none (some (fList (l ++ r) .str)) (Nat.blt (l.length + r.length) 1000000)
  | .eql => some (.bool (leq l r))
  | .neq => some (.bool (not (leq l r)))
  | _ => none

theorem bytesOf_append (l r : List Nat) : bytesOf l ++ bytesOf r = bytesOf (l ++ r) := by
  apply ByteArray.ext
  simp [bytesOf]

theorem bytesOf_toList (l : List Nat) : (bytesOf l).toList = l.map UInt8.ofNat := by
  rw [ByteArray.toList_eq]; simp [bytesOf]

theorem aStr_ok {op : BinOp} {l r : List Nat} {v : AV} (h : aStr op l r = some v) {ρ : Rho} (hl : ∀ b ∈ l, b < 256) (hr : ∀ b ∈ r, b < 256) (t : TypeId) (w : World) :
    ∃ x, (binOp op t (.string (bytesOf l)) (.string (bytesOf r))).run P w = .ok x w ∧ VR ρ v x := by
  have heq : ((bytesOf l).toList == (bytesOf r).toList) = leq l r := by
    rw [leq_eq, bytesOf_toList, bytesOf_toList, Bool.eq_iff_iff]
    simp only [beq_iff_eq, decide_eq_true_eq]
    exact ⟨fun h => bytesOf_inj hl hr (by simp [bytesOf, h]), fun h => by rw [h]⟩
  cases op <;> simp only [aStr, Option.some.injEq, reduceCtorEq] at h
  case add =>
    by_cases hn : l.length + r.length < 1000000
    · rw [blt_t hn] at h
      simp only [Option.some.injEq, fList_eq] at h; subst h
      refine ⟨.string (bytesOf (l ++ r)), ?_, ?_⟩
      · have h2 : ¬ (((bytesOf l).size + (bytesOf r).size : Nat) : Int) > IntKind.i64.max := by
          rw [bytesOf_size, bytesOf_size]
          have : IntKind.i64.max = 9223372036854775807 := by decide
          omega
        simp only [binOp, Op.stringOp, if_neg h2, bytesOf_append, Sem.run_pure]
      · simp only [VR]
        exact ⟨trivial, fun b hb => (List.mem_append.1 hb).elim (hl b) (hr b)⟩
    · rw [blt_f hn] at h; cases h
  case eql => subst h; exact ⟨.bool (leq l r), by simp only [binOp, Op.stringOp, Sem.run_pure, heq], by simp only [VR]⟩
  case neq => subst h; exact ⟨.bool !leq l r, by simp only [binOp, Op.stringOp, Sem.run_pure, heq], by simp only [VR]⟩

/-- A binary operation on two integers, shifts too. -/
noncomputable def aInts (op : BinOp) (k j : IntKind) (m n : Int) : Option AV :=
  match op with
  | .shl => Bool.rec (some (fInt (fwrap k (Int.mul m (2 ^ Nat.min n.toNat k.bits))) (.int k))) none (ilt n 0)
  | .shr => Bool.rec (some (fInt (Int.fdiv m (2 ^ Nat.min n.toNat k.bits)) (.int k))) none (ilt n 0)
  | op => Bool.rec none (aInt op k m n) (ksame k j)

theorem aInts_ok {op : BinOp} {k j : IntKind} {m n : Int} {v : AV} (h : aInts op k j m n = some v) {ρ : Rho} (t : TypeId) (w : World) :
    ∃ x, (binOp op t (.int k m) (.int j n)).run P w = .ok x w ∧ VR ρ v x := by
  unfold aInts at h
  split at h
  · by_cases hn : n < 0
    · simp [ilt_eq, hn] at h
    · simp [ilt_eq, hn, fInt_eq, fwrap_eq] at h; subst h
      exact ⟨.int k (k.wrap (m * 2 ^ (min n.toNat k.bits))), by simp [binOp, Op.shift, hn], by simp only [VR]⟩
  · by_cases hn : n < 0
    · simp [ilt_eq, hn] at h
    · simp [ilt_eq, hn, fInt_eq] at h; subst h
      exact ⟨.int k (m.fdiv (2 ^ (min n.toNat k.bits))), by simp [binOp, Op.shift, hn], by simp only [VR]⟩
  · cases hk : ksame k j with
    | false => simp [hk] at h
    | true => simp [hk] at h; have := ksame_eq hk; subst this; exact aInt_ok h t w

/-- Whether a value that is not nil is nil. -/
def aNil (d : Option TypeDesc) (a b : AV) : Bool :=
  match d, a, b with
  | some (.pointer _), .ptr _ _, .nilPtr => true
  | some (.pointer _), .nilPtr, .ptr _ _ => true
  | some (.slice _), .sl _ _ _ _, .nilSl => true
  | some (.slice _), .slu _ _ _ _ _, .nilSl => true
  | some (.map _ _), .map _, .nilMap => true
  | some (.func _ _ _), .func _ _, .nilFunc => true
  | some (.interface _), .iface _ _, .nilIface => true
  | _, _, _ => false

theorem equal_of {t : TypeId} {x y : Value} {b : Bool} {w : World} (h : ∀ d, (Op.equalIn (d + 1) t x y).run P w = .ok b w) : (Op.equal t x y).run P w = .ok b w := h 9999

theorem aNil_ok {t : TypeId} {a b : AV} {x y : Value} (h : aNil (P.underlying t) a b = true) {ρ : Rho} (ha : VR ρ a x) (hb : VR ρ b y) (w : World) (X Y : Operand) :
    (do eqGuard .eql t X Y x y; binOp .eql t x y : Sem Value).run P w = .ok (.bool false) w ∧ (do eqGuard .neq t X Y x y; binOp .neq t x y : Sem Value).run P w = .ok (.bool true) w := by
  unfold aNil at h
  split at h
  · rename_i hu
    simp only [VR] at ha hb; obtain ⟨_, _, _, ha⟩ := ha; subst ha; subst hb
    have he : ∀ d a, (Op.equalIn (d + 1) t (.pointer (some a)) (.pointer none)).run P w = .ok false w := fun d a => by simp [Op.equalIn, run_underlying hu]
    simp [eqGuard, binOp, equal_of fun d => he d _]
  · rename_i hu
    simp only [VR] at ha hb; obtain ⟨_, _, _, hb⟩ := hb; subst ha; subst hb
    have he : ∀ d a, (Op.equalIn (d + 1) t (.pointer none) (.pointer (some a))).run P w = .ok false w := fun d a => by simp [Op.equalIn, run_underlying hu]
    simp [eqGuard, binOp, equal_of fun d => he d _]
  · rename_i hu
    simp only [VR] at ha hb; obtain ⟨_, _, _, ha⟩ := ha; subst ha; subst hb
    have he : ∀ d a l c, (Op.equalIn (d + 1) t (.slice (some a) l c) (.slice none 0 0)).run P w = .ok false w := fun d a l c => by simp [Op.equalIn, run_underlying hu]
    simp [eqGuard, binOp, equal_of fun d => he d _ _ _]
  · rename_i hu
    simp only [VR] at ha hb; obtain ⟨_, _, _, _, ha, _⟩ := ha; subst ha; subst hb
    have he : ∀ d a l c, (Op.equalIn (d + 1) t (.slice (some a) l c) (.slice none 0 0)).run P w = .ok false w := fun d a l c => by simp [Op.equalIn, run_underlying hu]
    simp [eqGuard, binOp, equal_of fun d => he d _ _ _]
  · rename_i hu
    simp only [VR] at ha hb; obtain ⟨_, _, _, ha⟩ := ha; subst ha; subst hb
    have he : ∀ d a, (Op.equalIn (d + 1) t (.map (some a)) (.map none)).run P w = .ok false w := fun d a => by simp [Op.equalIn, run_underlying hu]
    simp [eqGuard, binOp, equal_of fun d => he d _]
  · rename_i hu
    simp only [VR] at ha hb; obtain ⟨_, ha, _⟩ := ha; subst ha; subst hb
    have he : ∀ d f a b, (Op.equalIn (d + 1) t (.func f a b) .nilFunc).run P w = .ok false w := fun d f a b => by simp [Op.equalIn, run_underlying hu]
    simp [eqGuard, binOp, equal_of fun d => he d _ _ _]
  · rename_i hu
    simp only [VR] at ha hb; obtain ⟨_, ha, _⟩ := ha; subst ha; subst hb
    have he : ∀ d f a, (Op.equalIn (d + 1) t (.iface f a) .nilIface).run P w = .ok false w := fun d f a => by simp [Op.equalIn, run_underlying hu]
    simp [eqGuard, binOp, equal_of fun d => he d _ _]
  · cases h

/-- Two addresses in one block. -/
noncomputable def aPtr (P : Program) (t : TypeId) (a b : AV) : Option Bool :=
  match P.underlying t, a, b with
  | some (.pointer e), .ptr i o, .ptr j q => match P.info? e with
    | some d => match d.size with
      | 0 => none
      | _ + 1 => Bool.rec none (some (Nat.beq o q)) (Nat.beq i j)
    | none => none
  | _, _, _ => none
theorem aPtr_ok {t : TypeId} {a b : AV} {x y : Value} {c : Bool} (h : aPtr P t a b = some c) {ρ : Rho} (ha : VR ρ a x) (hb : VR ρ b y) (w : World) (X Y : Operand) :
    (do eqGuard .eql t X Y x y; binOp .eql t x y : Sem Value).run P w = .ok (.bool c) w ∧ (do eqGuard .neq t X Y x y; binOp .neq t x y : Sem Value).run P w = .ok (.bool !c) w := by
  unfold aPtr at h
  split at h
  · rename_i e i o j q hu
    split at h
    · rename_i d hd
      split at h
      · cases h
      · rename_i n hn
        cases hij : Nat.beq i j with
        | false => rw [hij] at h; cases h
        | true =>
          rw [hij] at h
          simp only [Option.some.injEq] at h; subst h
          have := Nat.eq_of_beq_eq_true hij; subst this
          simp only [VR] at ha hb
          obtain ⟨b1, n1, hr1, e1⟩ := ha; obtain ⟨b2, n2, hr2, e2⟩ := hb
          rw [hr1] at hr2; injection hr2 with hr2; injection hr2 with q1 q2; subst q1; subst e1; subst e2
          have hs : (sizeOf e).run P w = .ok (n + 1) w := by simp [sizeOf, typeInfo, hd, hn]
          have hq : ((⟨b1, o, none⟩ : Addr) == ⟨b1, q, none⟩) = Nat.beq o q := by
            rw [Bool.eq_iff_iff]; simp
          have he : ∀ d, (Op.equalIn (d + 1) t (.pointer (some ⟨b1, o, none⟩)) (.pointer (some ⟨b1, q, none⟩))).run P w = .ok (Nat.beq o q) w := fun d => by
            simp only [Op.equalIn, Sem.run_bind, run_underlying hu, Result.andThen_ok, hs]
            rw [if_pos (by omega)]
            simp only [sameAddr, beq_self_eq_true, if_true, hq, Sem.run_pure]
          simp [eqGuard, binOp, equal_of he]
    · cases h
  · cases h

/-- A binary operation. -/
noncomputable def aBin (P : Program) (op : BinOp) (t : TypeId) (X Y : Operand) (a b : AV) : Option AV :=
  match a, b with
  | .int k m, .int j n => aInts op k j m n
  | .str l, .str r => aStr op l r
  | a, b =>
    match conc a, conc b with
    | some u, some v => (pureRun P (do eqGuard op t X Y u v; binOp op t u v)).bind cst
    | _, _ => match op, aNil (P.underlying t) a b with
      | .eql, true => some (.bool false)
      | .neq, true => some (.bool true)
      | .eql, false => match aPtr P t a b with
        | some c => some (.bool c)
        | none => none
      | .neq, false => match aPtr P t a b with
        | some c => some (.bool (not c))
        | none => none
      | _, _ => none

theorem eqGuard_int {op : BinOp} {t : TypeId} {X Y : Operand} {k j : IntKind} {m n : Int} {w : World} : (eqGuard op t X Y (.int k m) (.int j n)).run P w = .ok () w := by
  cases op <;> simp [eqGuard]
theorem eqGuard_str {op : BinOp} {t : TypeId} {X Y : Operand} {l r : ByteArray} {w : World} : (eqGuard op t X Y (.string l) (.string r)).run P w = .ok () w := by
  cases op <;> simp [eqGuard]

theorem aBin_ok {op : BinOp} {t : TypeId} {X Y : Operand} {a b v : AV} {x y : Value} (h : aBin P op t X Y a b = some v) {ρ : Rho} (ha : VR ρ a x) (hb : VR ρ b y) (w : World) :
    ∃ z, (do eqGuard op t X Y x y; binOp op t x y : Sem Value).run P w = .ok z w ∧ VR ρ v z := by
  unfold aBin at h
  split at h
  · simp only [VR] at ha hb; subst ha; subst hb
    obtain ⟨z, hz, hv⟩ := aInts_ok (P := P) h (ρ := ρ) t w
    exact ⟨z, by simp [eqGuard_int, hz], hv⟩
  · simp only [VR] at ha hb; obtain ⟨ha, hl⟩ := ha; obtain ⟨hb, hr⟩ := hb; subst ha; subst hb
    obtain ⟨z, hz, hv⟩ := aStr_ok (P := P) h (ρ := ρ) hl hr t w
    exact ⟨z, by simp [eqGuard_str, hz], hv⟩
  · split at h
    · rename_i u v' hu hv'
      rw [conc_ok hu ha, conc_ok hv' hb]
      cases hp : pureRun P (do eqGuard op t X Y u v'; binOp op t u v') with
      | none => simp [hp] at h
      | some z =>
        simp only [hp, Option.bind_some] at h
        exact ⟨z, pureRun_ok _ hp w, cst_ok h⟩
    · split at h
      · rename_i hn
        injection h with h; subst h
        exact ⟨_, (aNil_ok hn ha hb w X Y).1, by simp only [VR]⟩
      · rename_i hn
        injection h with h; subst h
        exact ⟨_, (aNil_ok hn ha hb w X Y).2, by simp only [VR]⟩
      · split at h
        · rename_i c hc
          injection h with h; subst h
          exact ⟨_, (aPtr_ok hc ha hb w X Y).1, by simp only [VR]⟩
        · cases h
      · split at h
        · rename_i c hc
          injection h with h; subst h
          exact ⟨_, (aPtr_ok hc ha hb w X Y).2, by simp only [VR]⟩
        · cases h
      · cases h

end Ex
end Go.Proofs.YtdkijcmhjeaofaaGreatDoor
namespace Go.Proofs.YtdkijcmhjeaofaaGreatDoor
namespace Ex

variable {P : Program}

theorem addr_add (b off n : Nat) : (⟨b, off, none⟩ : Addr).add n = ⟨b, off + n, none⟩ := by
  unfold Addr.add; split
  · rename_i h; subst h; rfl
  · rfl

/-- The index of an element, if it is there. -/
noncomputable def ix (len : Nat) (n : Int) : Option Nat := Int.rec (fun m => Bool.rec none (some m) (Nat.blt m len)) (fun _ => none) n
theorem ix_ok {len : Nat} {n : Int} {i : Nat} (h : ix len n = some i) : n = (i : Int) ∧ i < len := by
  cases n with
  | ofNat m =>
    have h : (Bool.rec none (some m) (Nat.blt m len) : Option Nat) = some i := h
    by_cases hm : m < len
    · rw [blt_t hm] at h; simp only [Option.some.injEq] at h; subst h; exact ⟨rfl, hm⟩
    · rw [blt_f hm] at h; cases h
  | negSucc m => cases h

/-- Whether a type is a struct or an array, and its cells. -/
def tyAgg : Option TypeDesc → Bool
  | some (.struct _) | some (.array _ _) => true
  | _ => false
def tySize (P : Program) (t : TypeId) : Option Nat := (P.info? t).map (·.size)

theorem run_size {t : TypeId} {n : Nat} (h : tySize P t = some n) (w : World) : (sizeOf t).run P w = .ok n w := by
  unfold tySize at h
  cases hi : P.info? t with
  | none => simp [hi] at h
  | some i =>
    simp only [hi, Option.map_some, Option.some.injEq] at h
    simp [sizeOf, run_typeInfo w hi, h]
theorem run_isAgg {t : TypeId} (h : P.underlying t ≠ none) (w : World) : (isAgg t).run P w = .ok (tyAgg (P.underlying t)) w := by
  cases hu : P.underlying t with
  | none => exact absurd hu h
  | some d => cases d <;> simp [isAgg, run_underlying hu, tyAgg]

/-- A part of an aggregate. -/
noncomputable def aPart (P : Program) (t : TypeId) (cs : List AV) (off : Nat) : Option AV :=
  match P.underlying t with
  | none => none
  | some d => match tyAgg (some d) with
    | true => match tySize P t with
      | some n => some (.agg ((cs.drop off).take n))
      | none => none
    | false => cs[off]?
theorem aPart_ok {t : TypeId} {cs : List AV} {off : Nat} {v : AV} (h : aPart P t cs off = some v) {ρ : Rho} {xs : List Value} (hx : VRL ρ cs xs) (w : World) :
    ∃ z, (part t xs.toArray off).run P w = .ok z w ∧ VR ρ v z := by
  unfold aPart at h
  split at h
  · cases h
  · rename_i d hu
    have ha := run_isAgg (P := P) (t := t) (by rw [hu]; simp) w
    rw [hu] at ha
    split at h
    · rename_i ht
      rw [ht] at ha
      split at h
      · rename_i n hn
        injection h with h; subst h
        refine ⟨.agg ((xs.drop off).take n).toArray, ?_, ?_⟩
        · simp [part, ha, run_size hn]
        · simp only [VR]; exact ⟨_, rfl, (hx.drop off).take n⟩
      · cases h
    · rename_i ht
      rw [ht] at ha
      obtain ⟨x, hx1, hx2⟩ := hx.get off v h
      exact ⟨x, by simp [part, ha, hx1], hx2⟩

/-- Unary operations, conversions. -/
noncomputable def aUn (op : UnOp) (a : AV) : Option AV :=
  match op, a with
  | .not, .bool b => some (.bool (not b))
  | .neg, .int k n => some (fInt (fwrap k (Int.neg n)) (.int k))
  | .xor, .int k n => some (fInt (k.wrap (BitVec.ofInt k.bits (if k.signed then -1 else k.max) ^^^ BitVec.ofInt k.bits n).toNat) (.int k))
  | _, _ => none
theorem aUn_ok {op : UnOp} {a v : AV} {x : Value} (h : aUn op a = some v) {ρ : Rho} (ha : VR ρ a x) (w : World) : ∃ z, (Op.unary op x).run P w = .ok z w ∧ VR ρ v z := by
  unfold aUn at h
  split at h
  · injection h with h; subst h; simp only [VR] at ha; subst ha
    exact ⟨_, rfl, by simp only [VR]⟩
  · injection h with h; subst h; simp only [VR] at ha; subst ha
    exact ⟨_, rfl, by simp only [fInt_eq, fwrap_eq, VR, Int.zero_sub]; rfl⟩
  · injection h with h; subst h; simp only [VR] at ha; subst ha
    exact ⟨_, rfl, by simp only [fInt_eq, VR]⟩
  · cases h

noncomputable def aConv (P : Program) (src dst : TypeId) (a : AV) : Option AV :=
  match P.underlying src, P.underlying dst, a with
  | some _, some (.int k), .int _ n => some (fInt (fwrap k n) (.int k))
  | some _, some .string, .str l => some (.str l)
  | _, _, _ => none
theorem aConv_ok {src dst : TypeId} {a v : AV} {x : Value} (h : aConv P src dst a = some v) {ρ : Rho} (ha : VR ρ a x) (w : World) : ∃ z, (convert src dst x).run P w = .ok z w ∧ VR ρ v z := by
  unfold aConv at h
  split at h
  · rename_i k _ n hs hd
    injection h with h; subst h; simp only [VR] at ha; subst ha
    exact ⟨.int k (k.wrap n), by simp only [convert, Sem.run_bind, run_underlying hs, run_underlying hd, Result.andThen_ok, Conv.intToInt, Sem.run_pure], by simp only [fInt_eq, fwrap_eq, VR]⟩
  · rename_i l hs hd
    injection h with h; subst h; simp only [VR] at ha; obtain ⟨ha, hl⟩ := ha; subst ha
    refine ⟨.string (bytesOf l), ?_, by simp only [VR]; exact ⟨trivial, hl⟩⟩
    simp only [convert, Sem.run_bind, run_underlying hs, run_underlying hd, Result.andThen_ok]
    rfl
  · cases h

/-- The address of a field. -/
noncomputable def aFieldAddr (P : Program) (s : TypeId) (a : AV) (i : Nat) : Option AV :=
  match P.underlying s, a with
  | some (.struct fs), .ptr id off => match fs[i]? with
    | some fd => match tySize P fd.type with
      | some (_ + 1) => some (fNat (Nat.add off fd.offset) (.ptr id))
      | _ => none
    | none => none
  | _, _ => none
theorem aFieldAddr_ok {s : TypeId} {a v : AV} {i : Nat} {x : Value} (h : aFieldAddr P s a i = some v) {ρ : Rho} (ha : VR ρ a x) (w : World) : ∃ z, (Instr.fieldAt s x i).run P w = .ok z w ∧ VR ρ v z := by
  unfold aFieldAddr at h
  split at h
  · rename_i fs id off hu
    split at h
    · rename_i fd hf
      split at h
      · rename_i n hn
        injection h with h; subst h
        simp only [VR] at ha
        obtain ⟨b, m, hb, e⟩ := ha; subst e
        refine ⟨.pointer (some ⟨b, off + fd.offset, none⟩), ?_, ?_⟩
        · simp [Instr.fieldAt, run_underlying hu, hf, Instr.sureAddr, fieldPlace, run_size hn, addr_add]
        · rw [fNat_eq]; simp only [VR]; exact ⟨b, m, hb, rfl⟩
      · cases h
    · cases h
  · cases h

/-- A field of a struct. -/
noncomputable def aField (P : Program) (t : TypeId) (a : AV) (i : Nat) : Option AV :=
  match P.underlying t, a with
  | some (.struct fs), .agg cs => match fs[i]? with
    | some fd => aPart P fd.type cs fd.offset
    | none => none
  | _, _ => none
theorem aField_ok {t : TypeId} {a v : AV} {i : Nat} {x : Value} (h : aField P t a i = some v) {ρ : Rho} (ha : VR ρ a x) (w : World) : ∃ z, (Instr.field t x i).run P w = .ok z w ∧ VR ρ v z := by
  unfold aField at h
  split at h
  · rename_i fs cs hu
    split at h
    · rename_i fd hf
      simp only [VR] at ha
      obtain ⟨xs, e, hx⟩ := ha; subst e
      obtain ⟨z, hz, hv⟩ := aPart_ok h hx w
      exact ⟨z, by simp [Instr.field, run_underlying hu, hf, asAgg, hz], hv⟩
    · cases h
  · cases h

/-- The address of an element. -/
noncomputable def aIndexAddr (P : Program) (t : TypeId) (a i : AV) : Option AV :=
  match P.underlying t, a, i with
  | some (.array len e), .ptr id off, .int _ n => elemAt P e id off len n
  | some (.slice e), .sl id off len _, .int _ n => elemAt P e id off len n
  | some (.slice e), .slu id off len _ _, .int _ n => elemAt P e id off len n
  | _, _, _ => none
where
  elemAt (P : Program) (e : TypeId) (id off len : Nat) (n : Int) : Option AV :=
    match ix len n, tySize P e with
    | some j, some s => some (fNat (Nat.add off (Nat.mul j s)) (.ptr id))
    | _, _ => none
theorem aIndexAddr_ok {t : TypeId} {a i v : AV} {x y : Value} (h : aIndexAddr P t a i = some v) {ρ : Rho} (ha : VR ρ a x) (hi : VR ρ i y) (w : World) : ∃ z, (Instr.indexAt t x y).run P w = .ok z w ∧ VR ρ v z := by
  unfold aIndexAddr at h
  split at h
  · rename_i len e id off k n hu
    unfold aIndexAddr.elemAt at h
    split at h
    · rename_i j s hj hs
      injection h with h; subst h
      obtain ⟨hn, hlt⟩ := ix_ok hj
      simp only [VR] at ha hi
      obtain ⟨b, m, hb, e1⟩ := ha; subst e1; subst hi; subst hn
      refine ⟨.pointer (some ⟨b, off + j * s, none⟩), ?_, ?_⟩
      · simp [Instr.indexAt, asIntOf, run_underlying hu, Instr.sureAddr, hlt, run_size hs, addr_add]
      · rw [fNat_eq]; simp only [VR]; exact ⟨b, m, hb, rfl⟩
    · cases h
  · rename_i e id off len cap k n hu
    unfold aIndexAddr.elemAt at h
    split at h
    · rename_i j s hj hs
      injection h with h; subst h
      obtain ⟨hn, hlt⟩ := ix_ok hj
      simp only [VR] at ha hi
      obtain ⟨b, m, hb, e1⟩ := ha; subst e1; subst hi; subst hn
      refine ⟨.pointer (some ⟨b, off + j * s, none⟩), ?_, ?_⟩
      · simp [Instr.indexAt, asIntOf, run_underlying hu, hlt, run_size hs, addr_add]
      · rw [fNat_eq]; simp only [VR]; exact ⟨b, m, hb, rfl⟩
    · cases h
  · rename_i e id off len sz lb k n hu
    unfold aIndexAddr.elemAt at h
    split at h
    · rename_i j s hj hs
      injection h with h; subst h
      obtain ⟨hn, hlt⟩ := ix_ok hj
      simp only [VR] at ha hi
      obtain ⟨b, m, c, hb, e1, _⟩ := ha; subst e1; subst hi; subst hn
      refine ⟨.pointer (some ⟨b, off + j * s, none⟩), ?_, ?_⟩
      · simp [Instr.indexAt, asIntOf, run_underlying hu, hlt, run_size hs, addr_add]
      · rw [fNat_eq]; simp only [VR]; exact ⟨b, m, hb, rfl⟩
    · cases h
  · cases h

/-- An element of an array, a byte of a string. -/
noncomputable def aIndex (P : Program) (t : TypeId) (a i : AV) : Option AV :=
  match P.underlying t, a, i with
  | some (.array len e), .agg cs, .int _ n => match ix len n, tySize P e with
    | some j, some s => aPart P e cs (Nat.mul j s)
    | _, _ => none
  | some .string, .str l, .int _ n => match ix l.length n with
    | some j => match l[j]? with
      | some b => some (.int .u8 (.ofNat b))
      | none => none
    | none => none
  | _, _, _ => none
theorem bytesOf_get (l : List Nat) (j : Nat) : (bytesOf l)[j]? = (l[j]?).map UInt8.ofNat := by
  rw [getElem?_def]
  by_cases h : j < l.length
  · have h' : j < (bytesOf l).size := by rw [bytesOf_size]; exact h
    rw [dif_pos h', List.getElem?_eq_getElem h]
    simp [bytesOf, ByteArray.getElem_eq_getElem_data]
  · have h' : ¬ j < (bytesOf l).size := by rw [bytesOf_size]; exact h
    rw [dif_neg h', List.getElem?_eq_none (by omega)]; rfl
theorem aIndex_ok {t : TypeId} {a i v : AV} {x y : Value} (h : aIndex P t a i = some v) {ρ : Rho} (ha : VR ρ a x) (hi : VR ρ i y) (w : World) : ∃ z, (Instr.index t x y).run P w = .ok z w ∧ VR ρ v z := by
  unfold aIndex at h
  split at h
  · rename_i len e cs k n hu
    split at h
    · rename_i j s hj hs
      obtain ⟨hn, hlt⟩ := ix_ok hj
      simp only [VR] at ha hi
      obtain ⟨xs, e1, hx⟩ := ha; subst e1; subst hi; subst hn
      obtain ⟨z, hz, hv⟩ := aPart_ok h hx w
      exact ⟨z, by simpa [Instr.index, asIntOf, run_underlying hu, hlt, run_size hs] using hz, hv⟩
    · cases h
  · rename_i l k n hu
    split at h
    · rename_i j hj
      split at h
      · rename_i b hb
        injection h with h; subst h
        obtain ⟨hn, hlt⟩ := ix_ok hj
        simp only [VR] at ha hi
        obtain ⟨e1, hl⟩ := ha; subst e1; subst hi; subst hn
        have hb' : b < 256 := hl b (List.mem_of_getElem? hb)
        refine ⟨.int .u8 b, ?_, by simp only [VR]; rfl⟩
        simp [Instr.index, asIntOf, run_underlying hu, bytesOf_get, hb, Nat.mod_eq_of_lt hb']
      · cases h
    · cases h
  · cases h

end Ex
end Go.Proofs.YtdkijcmhjeaofaaGreatDoor
namespace Go.Proofs.YtdkijcmhjeaofaaGreatDoor
namespace Ex

variable {P : Program}

/-- A bound of a slice expression. -/
noncomputable def bd (d : Nat) (y : Nat) : Option AV → Option Nat
  | none => some d
  | some (.int _ n) => ix (Nat.succ y) n
  | _ => none

/-- A slice expression: bounds (low, high, max) behind each other. -/
noncomputable def bds (len cap : Nat) (lo hi mx : Option AV) : Option (Nat × Nat × Nat) :=
  match bd cap cap mx with
  | none => none
  | some m => match hi, mx with
    | none, some _ => none
    | hi, _ => match bd len m hi with
      | none => none
      | some h => match bd 0 h lo with
        | none => none
        | some l => some (l, h, m)

/-- An operand that may be left out. -/
def OR (ρ : Rho) : Option AV → Option Value → Prop
  | none, x => x = none
  | some v, x => ∃ y, x = some y ∧ VR ρ v y

theorem bound_ok {ρ : Rho} {d y : Nat} {v : AV} {x : Value} {n : Nat} {c : BoundsCode} (h : bd d y (some v) = some n) (hv : VR ρ v x) (w : World) : (Instr.sliceBound x y c).run P w = .ok n w := by
  unfold bd at h
  split at h
  · rename_i heq; cases heq
  · rename_i k m heq
    injection heq with heq; subst heq
    obtain ⟨e, hlt⟩ := ix_ok h
    simp only [VR] at hv; subst hv; subst e
    simp [Instr.sliceBound, asIntOf, Nat.lt_succ_iff.1 hlt]
  · cases h

theorem bds_ok {ρ : Rho} {isSlice : Bool} {len cap : Nat} {lo hi mx : Option AV} {xl xh xm : Option Value} {l h m : Nat} (he : bds len cap lo hi mx = some (l, h, m))
    (hl : OR ρ lo xl) (hh : OR ρ hi xh) (hm : OR ρ mx xm) (w : World) : (Instr.sliceBounds isSlice len cap xl xh xm).run P w = .ok (l, h, m) w := by
  unfold bds at he
  split at he
  · cases he
  · rename_i m' hm'
    split at he
    · cases he
    · rename_i hne
      split at he
      · cases he
      · rename_i h' hh'
        split at he
        · cases he
        · rename_i l' hl'
          injection he with he; injection he with e1 e2; injection e2 with e2 e3
          subst e1; subst e2; subst e3
          have low : ∀ c, (match xl with | some v => Instr.sliceBound v h' c | none => pure 0 : Sem Nat).run P w = .ok l' w := by
            intro c
            cases lo with
            | none => simp only [OR] at hl; subst hl; simp only [bd, Option.some.injEq] at hl'; subst hl'; rfl
            | some v => simp only [OR] at hl; obtain ⟨y, e, hv⟩ := hl; subst e; exact bound_ok hl' hv w
          cases mx with
          | none =>
            simp only [OR] at hm; subst hm
            simp only [bd, Option.some.injEq] at hm'; subst hm'
            cases hi with
            | none =>
              simp only [OR] at hh; subst hh
              simp only [bd, Option.some.injEq] at hh'; subst hh'
              have := low .sliceB
              cases xl <;> simp_all [Instr.sliceBounds]
            | some v =>
              simp only [OR] at hh; obtain ⟨y, e, hv⟩ := hh; subst e
              have h1 : ∀ c, (Instr.sliceBound y cap c).run P w = .ok h' w := fun c => bound_ok hh' hv w
              have := low .sliceB
              cases xl <;> simp_all [Instr.sliceBounds]
          | some u =>
            simp only [OR] at hm; obtain ⟨z, e, hu⟩ := hm; subst e
            have h0 : ∀ c, (Instr.sliceBound z cap c).run P w = .ok m' w := fun c => bound_ok hm' hu w
            cases hi with
            | none => exact absurd rfl (hne u rfl)
            | some v =>
              simp only [OR] at hh; obtain ⟨y, e, hv⟩ := hh; subst e
              have h1 : ∀ c, (Instr.sliceBound y m' c).run P w = .ok h' w := fun c => bound_ok hh' hv w
              have := low .slice3C
              cases xl <;> simp_all [Instr.sliceBounds]

end Ex
end Go.Proofs.YtdkijcmhjeaofaaGreatDoor
namespace Go.Proofs.YtdkijcmhjeaofaaGreatDoor
namespace Ex

variable {P : Program}

theorem ix_mono {a b : Nat} {n : Int} {i : Nat} (h : ix a n = some i) (hab : a ≤ b) : ix b n = some i := by
  obtain ⟨e, hlt⟩ := ix_ok h
  subst e
  show (Bool.rec none (some i) (Nat.blt i b) : Option Nat) = some i
  rw [blt_t (by omega)]
theorem bd_mono {d d' a b : Nat} {v : AV} {n : Nat} (h : bd d a (some v) = some n) (hab : a ≤ b) : bd d' b (some v) = some n := by
  cases v <;> first | (simp only [bd] at h ⊢; exact ix_mono h (by omega)) | (simp [bd] at h)
theorem bds_mono {len a b : Nat} {lo hi mx : Option AV} {l h m : Nat} (he : bds len a lo hi mx = some (l, h, m)) (hab : a ≤ b) :
    bds len b lo hi mx = some (l, h, if mx.isNone then b else m) := by
  have e1 : ∀ d n, bd d n none = some d := fun _ _ => rfl
  unfold bds at he ⊢
  cases mx with
  | none =>
    simp only [e1] at he ⊢
    cases hi with
    | none =>
      simp only [e1] at he ⊢
      cases hl : bd 0 len lo with
      | none => simp [hl] at he
      | some l' => simp [hl] at he; simp [he]
    | some u =>
      cases hh : bd len a (some u) with
      | none => simp [hh] at he
      | some h' =>
        rw [bd_mono (d' := len) hh hab]
        cases hl : bd 0 h' lo with
        | none => simp [hh, hl] at he
        | some l' => simp [hh, hl] at he; obtain ⟨rfl, rfl, rfl⟩ := he; simp [hl]
  | some u =>
    cases hm : bd a a (some u) with
    | none => simp [hm] at he
    | some m' =>
      rw [bd_mono (d' := b) hm hab]
      cases hi with
      | none => simp [hm] at he
      | some v =>
        cases hh : bd len m' (some v) with
        | none => simp [hm, hh] at he
        | some h' =>
          cases hl : bd 0 h' lo with
          | none => simp [hm, hh, hl] at he
          | some l' => simp [hm, hh, hl] at he; obtain ⟨rfl, rfl, rfl⟩ := he; simp [hh, hl]

theorem bds_le {len cap : Nat} {lo hi mx : Option AV} {l h m : Nat} (he : bds len cap lo hi mx = some (l, h, m)) : l ≤ h ∨ lo = none := by
  unfold bds at he
  split at he
  · cases he
  · split at he
    · cases he
    · split at he
      · cases he
      · split at he
        · cases he
        · rename_i l' hl
          injection he with he; injection he with e1 e2; injection e2 with e2 e3
          subst e1; subst e2
          cases lo with
          | none => exact .inr rfl
          | some v =>
            left
            cases v <;> simp only [bd] at hl <;> first | cases hl | (exact Nat.lt_succ_iff.1 (ix_ok hl).2)

/-- A slice expression. -/
noncomputable def aSlice (P : Program) (t : TypeId) (a : AV) (lo hi mx : Option AV) : Option AV :=
  match P.underlying t, a with
  | some .string, .str l => match mx with
    | some _ => none
    | none => match bds l.length l.length lo hi none with
      | some (i, j, _) => some (fList ((l.take j).drop i) .str)
      | none => none
  | some (.slice e), .sl id off len cap => match bds len cap lo hi mx, tySize P e with
    | some (l, h, m), some s => some (.sl id (Bool.rec (Nat.add off (Nat.mul l s)) off (Nat.beq m l)) (Nat.sub h l) (Nat.sub m l))
    | _, _ => none
  | some (.slice e), .slu id off len sz lb => match bds len lb lo hi mx, tySize P e with
    | some (l, h, m), some s => match mx with
      | some _ => some (.sl id (Bool.rec (Nat.add off (Nat.mul l s)) off (Nat.beq m l)) (Nat.sub h l) (Nat.sub m l))
      | none => Bool.rec none (some (.slu id (Nat.add off (Nat.mul l s)) (Nat.sub h l) sz (Nat.sub lb l))) (Nat.beq sz s && (Nat.beq l 0 || Nat.blt l lb))
    | _, _ => none
  | some (.slice e), .nilSl => match bds 0 0 lo hi mx, tySize P e with
    | some (_, _, _), some _ => some .nilSl
    | _, _ => none
  | some (.array n e), .ptr id off => match bds n n lo hi mx, tySize P e with
    | some (l, h, m), some s => some (.sl id (Bool.rec (Nat.add off (Nat.mul l s)) off (Nat.beq m l)) (Nat.sub h l) (Nat.sub m l))
    | _, _ => none
  | _, _ => none

theorem off_eq (b off l s m : Nat) : (if m = l then (⟨b, off, none⟩ : Addr) else (⟨b, off, none⟩ : Addr).add (l * s)) = ⟨b, Bool.rec (Nat.add off (Nat.mul l s)) off (Nat.beq m l), none⟩ := by
  by_cases h : m = l
  · rw [if_pos h, beq_t h]
  · rw [if_neg h, beq_f h, addr_add]; rfl

theorem aSlice_ok {t : TypeId} {a v : AV} {lo hi mx : Option AV} {x : Value} {xl xh xm : Option Value} (h : aSlice P t a lo hi mx = some v) {ρ : Rho} (ha : VR ρ a x)
    (hl : OR ρ lo xl) (hh : OR ρ hi xh) (hm : OR ρ mx xm) (w : World) : ∃ z, (Instr.sliceAt t x xl xh xm).run P w = .ok z w ∧ VR ρ v z := by
  unfold aSlice at h
  split at h
  · rename_i l hu
    split at h
    · cases h
    · split at h
      · rename_i i j m hb
        injection h with h; subst h
        simp only [OR] at hm; subst hm
        simp only [VR] at ha; obtain ⟨e, hlt⟩ := ha; subst e
        have hr := bds_ok (P := P) (isSlice := false) hb hl hh (show OR ρ none none from rfl) w
        refine ⟨.string (bytesOf ((l.take j).drop i)), ?_, ?_⟩
        · simp only [Instr.sliceAt, Sem.run_bind, run_underlying hu, Result.andThen_ok, Instr.slice, bytesOf_size, hr, Sem.run_pure, Option.isSome_none, Bool.false_eq_true, if_false]
          congr 2
          apply ByteArray.ext
          simp [bytesOf, ByteArray.data_extract, List.map_drop, List.map_take, List.drop_take]
        · rw [fList_eq]; simp only [VR]; exact ⟨trivial, fun b hb => hlt b (List.mem_of_mem_take (List.mem_of_mem_drop hb))⟩
      · cases h
  · rename_i e id off len cap hu
    split at h
    · rename_i l h' m s hb hs
      injection h with h; subst h
      simp only [VR] at ha; obtain ⟨b, n, hr, e1⟩ := ha; subst e1
      have hr2 := bds_ok (P := P) (isSlice := true) hb hl hh hm w
      refine ⟨.slice (some ⟨b, Bool.rec (Nat.add off (Nat.mul l s)) off (Nat.beq m l), none⟩) (h' - l) (m - l), ?_, ?_⟩
      · simp only [Instr.sliceAt, Sem.run_bind, run_underlying hu, Result.andThen_ok, Instr.slice, hr2, run_size hs, Sem.run_pure]
        rw [← off_eq]; split <;> rfl
      · simp only [VR]; exact ⟨b, n, hr, rfl⟩
    · cases h
  · rename_i e id off len sz lb hu
    split at h
    · rename_i l h' m s hb hs
      simp only [VR] at ha; obtain ⟨b, n, c, hr, e1, hc, hn⟩ := ha; subst e1
      have hr2 := bds_ok (P := P) (isSlice := true) (bds_mono hb hc) hl hh hm w
      split at h
      · injection h with h; subst h
        refine ⟨.slice (some ⟨b, Bool.rec (Nat.add off (Nat.mul l s)) off (Nat.beq m l), none⟩) (h' - l) (m - l), ?_, ?_⟩
        · simp only [Instr.sliceAt, Sem.run_bind, run_underlying hu, Result.andThen_ok, Instr.slice, hr2, run_size hs, Sem.run_pure, Option.isNone_some, Bool.false_eq_true, if_false]
          rw [← off_eq]; split <;> rfl
        · simp only [VR]; exact ⟨b, n, hr, rfl⟩
      · cases hcnd : (Nat.beq sz s && (Nat.beq l 0 || Nat.blt l lb)) with
        | false => rw [hcnd] at h; cases h
        | true =>
          rw [hcnd] at h
          simp only [Option.some.injEq] at h; subst h
          simp only [Bool.and_eq_true, Bool.or_eq_true] at hcnd
          have e2 : sz = s := Nat.eq_of_beq_eq_true hcnd.1
          subst e2
          have hl0 : l = 0 ∨ l < lb := hcnd.2.imp Nat.eq_of_beq_eq_true (fun h => by rwa [Nat.blt_eq] at h)
          have hlc : l ≤ c := by omega
          refine ⟨.slice (some ⟨b, off + l * sz, none⟩) (h' - l) (c - l), ?_, ?_⟩
          · simp only [Instr.sliceAt, Sem.run_bind, run_underlying hu, Result.andThen_ok, Instr.slice, hr2, run_size hs, Sem.run_pure, Option.isNone_none, if_true, Option.map_some, addr_add]
            rcases hl0 with h0 | h0
            · subst h0; simp
            · rw [if_neg (by omega)]
          · simp only [VR]
            refine ⟨b, n, c - l, hr, rfl, by show lb - l ≤ c - l; omega, ?_⟩
            have : c * sz = l * sz + (c - l) * sz := by rw [← Nat.add_mul]; congr 1; omega
            show off + l * sz + (c - l) * sz ≤ n
            omega
    · cases h
  · rename_i e hu
    split at h
    · rename_i l h' m s hb hs
      injection h with h; subst h
      simp only [VR] at ha; subst ha
      have hr2 := bds_ok (P := P) (isSlice := true) hb hl hh hm w
      have hb0 : l = 0 ∧ h' = 0 ∧ m = 0 := by
        unfold bds at hb
        have hbd : ∀ o n, bd 0 0 o = some n → n = 0 := by
          intro o n ho
          cases o with
          | none => simp only [bd, Option.some.injEq] at ho; exact ho.symm
          | some v => cases v <;> simp only [bd] at ho <;> first | cases ho | (have := (ix_ok ho).2; omega)
        split at hb
        · cases hb
        · rename_i m' hm'
          have := hbd _ _ hm'; subst this
          split at hb
          · cases hb
          · split at hb
            · cases hb
            · rename_i h1 hh'
              have := hbd _ _ hh'; subst this
              split at hb
              · cases hb
              · rename_i l1 hl1
                have := hbd _ _ hl1; subst this
                injection hb with hb; injection hb with e1 e2; injection e2 with e2 e3
                exact ⟨e1.symm, e2.symm, e3.symm⟩
      obtain ⟨e1, e2, e3⟩ := hb0; subst e1; subst e2; subst e3
      refine ⟨.slice none 0 0, ?_, by simp only [VR]⟩
      simp [Instr.sliceAt, run_underlying hu, Instr.slice, hr2, run_size hs]
    · cases h
  · rename_i k e id off hu
    split at h
    · rename_i l h' m s hb hs
      injection h with h; subst h
      simp only [VR] at ha; obtain ⟨b, n, hr, e1⟩ := ha; subst e1
      have hr2 := bds_ok (P := P) (isSlice := false) hb hl hh hm w
      refine ⟨.slice (some ⟨b, Bool.rec (Nat.add off (Nat.mul l s)) off (Nat.beq m l), none⟩) (h' - l) (m - l), ?_, ?_⟩
      · simp only [Instr.sliceAt, Sem.run_bind, run_underlying hu, Result.andThen_ok, Instr.sureAddr, hr2, run_size hs, Sem.run_pure]
        rw [← off_eq]
      · simp only [VR]; exact ⟨b, n, hr, rfl⟩
    · cases h
  · cases h

end Ex
end Go.Proofs.YtdkijcmhjeaofaaGreatDoor
namespace Go.Proofs.YtdkijcmhjeaofaaGreatDoor
namespace Ex

variable {P : Program}

def AV.cells : AV → List AV
  | .agg cs => cs
  | v => [v]
theorem cells_ok {ρ : Rho} {v : AV} {x : Value} (h : VR ρ v x) : VRL ρ v.cells x.cells.toList := by
  cases v
  case agg cs => simp only [VR] at h; obtain ⟨xs, e, hx⟩ := h; subst e; simpa [AV.cells, Value.cells] using hx
  all_goals
    have h' := h
    simp only [VR] at h
    simp only [AV.cells, VRL]
    refine ⟨x, [], ?_, h', rfl⟩
    first
      | (obtain ⟨_, _, _, _, e, _⟩ := h; subst e; rfl)
      | (obtain ⟨_, _, _, e⟩ := h; subst e; rfl)
      | (obtain ⟨_, e, _⟩ := h; subst e; rfl)
      | (obtain ⟨e, _⟩ := h; subst e; rfl)
      | (subst h; rfl)

/-- Cells with others laid over them. -/
def splice (cs : List AV) (off : Nat) (vs : List AV) : List AV := cs.take off ++ (vs ++ cs.drop (off + vs.length))

theorem foldl_set (off : Nat) : ∀ (vs : List Value) (j : Nat) (c : Array Value), off + j + vs.length ≤ c.size →
    ((vs.zipIdx j).foldl (fun cs (p : Value × Nat) => cs.setIfInBounds (off + p.2) p.1) c).toList = c.toList.take (off + j) ++ (vs ++ c.toList.drop (off + j + vs.length))
  | [], j, c, _ => by simp
  | v :: vs, j, c, h => by
    simp only [List.zipIdx_cons, List.foldl_cons]
    rw [foldl_set off vs (j + 1) _ (by simp at h ⊢; omega)]
    have hlt : off + j < c.toList.length := by simp at h ⊢; omega
    simp only [Array.toList_setIfInBounds]
    have e1 : off + (j + 1) = off + j + 1 := by omega
    have e2 : off + j + (v :: vs).length = off + j + 1 + vs.length := by simp; omega
    rw [e1, e2, List.take_set, List.drop_set, if_pos (by omega), List.take_succ_eq_append_getElem hlt, List.set_append_right _ _ (by simp; omega)]
    have e3 : off + j - (List.take (off + j) c.toList).length = 0 := by rw [List.length_take]; omega
    rw [e3]
    simp

/-- The parts of a struct or an array laid over its zero. -/
noncomputable def aFill (place : Nat → Option (Nat × Nat)) (l : List (Nat × AV)) : List AV → Option (List AV) :=
  List.rec (motive := fun _ => List AV → Option (List AV)) (fun cs => some cs)
    (fun p _ ih cs => match place p.1 with
      | none => none
      | some (off, size) => Bool.rec none (ih (splice cs off p.2.cells)) (Nat.beq p.2.cells.length size && Nat.ble (off + p.2.cells.length) cs.length)) l

def PR (ρ : Rho) : List (Nat × AV) → List (Nat × Value) → Prop
  | [], xs => xs = []
  | (i, v) :: l, xs => ∃ y r, xs = (i, y) :: r ∧ VR ρ v y ∧ PR ρ l r

theorem aFill_ok {ρ : Rho} {place : Nat → Option (Nat × Nat)} : ∀ {l : List (Nat × AV)} {xs : List (Nat × Value)} {cs r : List AV} {c : Array Value},
    aFill place l cs = some r → PR ρ l xs → VRL ρ cs c.toList → ∃ d, Instr.fill place c xs = some d ∧ VRL ρ r d.toList
  | [], xs, cs, r, c, h, hp, hc => by
    simp only [PR] at hp; subst hp
    have h : some cs = some r := h
    injection h with h; subst h
    exact ⟨c, rfl, hc⟩
  | (i, v) :: l, xs, cs, r, c, h, hp, hc => by
    simp only [PR] at hp
    obtain ⟨y, rs, e, hv, hr⟩ := hp; subst e
    have h : (match place i with
      | none => none
      | some (off, size) => Bool.rec none (aFill place l (splice cs off v.cells)) (Nat.beq v.cells.length size && Nat.ble (off + v.cells.length) cs.length) : Option (List AV)) = some r := h
    split at h
    · cases h
    · rename_i off size hpl
      cases hcnd : (Nat.beq v.cells.length size && Nat.ble (off + v.cells.length) cs.length) with
      | false => rw [hcnd] at h; cases h
      | true =>
        rw [hcnd] at h
        simp only [Bool.and_eq_true] at hcnd
        have e1 : v.cells.length = size := Nat.eq_of_beq_eq_true hcnd.1
        have e2 : off + v.cells.length ≤ cs.length := Nat.le_of_ble_eq_true hcnd.2
        have hvc := cells_ok hv
        have l1 : y.cells.size = v.cells.length := by simpa using hvc.length
        have l2 : c.size = cs.length := by simpa using hc.length
        have hfold : VRL ρ (splice cs off v.cells) (y.cells.zipIdx.foldl (fun cs (p : Value × Nat) => cs.setIfInBounds (off + p.2) p.1) c).toList := by
          have hz : y.cells.zipIdx.foldl (fun cs (p : Value × Nat) => cs.setIfInBounds (off + p.2) p.1) c = (y.cells.toList.zipIdx 0).foldl (fun cs (p : Value × Nat) => cs.setIfInBounds (off + p.2) p.1) c := by
            rw [← Array.foldl_toList]; simp
          rw [hz, foldl_set off y.cells.toList 0 c (by simp; omega)]
          have l3 : y.cells.toList.length = v.cells.length := by simpa using l1
          rw [l3]
          exact (hc.take off).append (hvc.append (hc.drop (off + v.cells.length)))
        obtain ⟨d, hd, hdr⟩ := aFill_ok h hr hfold
        refine ⟨d, ?_, hdr⟩
        simp only [Instr.fill, hpl]
        rw [if_neg (by simp; omega)]
        exact hd

end Ex
end Go.Proofs.YtdkijcmhjeaofaaGreatDoor
namespace Go.Proofs.YtdkijcmhjeaofaaGreatDoor
namespace Ex

variable {P : Program}

noncomputable def aZero (P : Program) (t : TypeId) : Option AV := match P.info? t with
  | some i => match i.zero with
    | some z => cst z
    | none => none
  | none => none
theorem aZero_ok {t : TypeId} {v : AV} (h : aZero P t = some v) (ρ : Rho) (w : World) : ∃ z, (zeroValue t).run P w = .ok z w ∧ VR ρ v z := by
  unfold aZero at h
  split at h
  · rename_i i hi
    split at h
    · rename_i z hz
      exact ⟨z, by simp [zeroValue, run_typeInfo w hi, hz], cst_ok h⟩
    · cases h
  · cases h

/-- Where the fields of a struct lie, and how many cells they have. -/
noncomputable def places (P : Program) (fs : List Field) : Option (List (Nat × Nat)) := mapO (fun f => match tySize P f.type with | some n => some (f.offset, n) | none => none) fs
theorem places_ok : ∀ {fs : List Field} {l : List (Nat × Nat)}, places P fs = some l → ∀ w, (fs.mapM fun f => do pure (f.offset, ← sizeOf f.type) : Sem (List (Nat × Nat))).run P w = .ok l w
  | [], l, h, w => by
    have h : some [] = some l := h
    injection h with h; subst h; rfl
  | f :: fs, l, h, w => by
    obtain ⟨y, ys, h1, h2, h3⟩ := mapO_cons h
    split at h1
    · rename_i n hn
      injection h1 with h1; subst h1; subst h3
      have ih := places_ok (fs := fs) h2 w
      simp only [List.mapM_cons, Sem.run_bind, run_size hn, Result.andThen_ok, Sem.run_pure, ih]
    · cases h1

noncomputable def aBuild (P : Program) (t : TypeId) (ps : List (Nat × AV)) : Option AV :=
  match aZero P t, P.underlying t with
  | some z, some (.struct fs) => match places P fs.toList with
    | some pl => (aFill (fun i => pl[i]?) ps z.cells).map .agg
    | none => none
  | some z, some (.array _ e) => match tySize P e with
    | some s => (aFill (fun i => some (Nat.mul i s, s)) ps z.cells).map .agg
    | none => none
  | _, _ => none
theorem aBuild_ok {t : TypeId} {ps : List (Nat × AV)} {v : AV} {xs : List (Nat × Value)} (h : aBuild P t ps = some v) {ρ : Rho} (hp : PR ρ ps xs) (w : World) :
    ∃ z, (Instr.build t xs.toArray).run P w = .ok z w ∧ VR ρ v z := by
  unfold aBuild at h
  split at h
  · rename_i z fs hz hu
    obtain ⟨y, hy, hv⟩ := aZero_ok hz ρ w
    split at h
    · rename_i pl hpl
      cases hf : aFill (fun i => pl[i]?) ps z.cells with
      | none => simp [hf] at h
      | some r =>
        simp only [hf, Option.map_some, Option.some.injEq] at h; subst h
        obtain ⟨d, hd, hr⟩ := aFill_ok hf hp (cells_ok hv)
        refine ⟨.agg d, ?_, by simp only [VR]; exact ⟨d.toList, by simp, hr⟩⟩
        have hm : (fs.mapM fun f => do pure (f.offset, ← sizeOf f.type) : Sem (Array (Nat × Nat))).run P w = .ok pl.toArray w := by
          rw [Array.mapM_eq_mapM_toList]; simp only [Functor.map, Sem.run_bind', places_ok hpl w]; rfl
        simp only [Instr.build, Sem.run_bind, hy, Result.andThen_ok, run_underlying hu, hm]
        simp [hd]
    · cases h
  · rename_i z n e hz hu
    obtain ⟨y, hy, hv⟩ := aZero_ok hz ρ w
    split at h
    · rename_i s hs
      cases hf : aFill (fun i => some (Nat.mul i s, s)) ps z.cells with
      | none => rw [hf] at h; cases h
      | some r =>
        simp only [hf, Option.map_some, Option.some.injEq] at h; subst h
        obtain ⟨d, hd, hr⟩ := aFill_ok hf hp (cells_ok hv)
        refine ⟨.agg d, ?_, by simp only [VR]; exact ⟨d.toList, by simp, hr⟩⟩
        simp only [Instr.build, Sem.run_bind, hy, Result.andThen_ok, run_underlying hu, run_size hs]
        have e : (fun i => some (i * s, s)) = fun i => some (Nat.mul i s, s) := rfl
        simp [e, hd]
    · cases h
  · cases h

/-- Lengths and capacities; the least and the greatest of plain values. -/
noncomputable def aLen (P : Program) (t : TypeId) (a : AV) : Option AV :=
  match P.underlying t, a with
  | some .string, .str l => some (.int .i64 (.ofNat l.length))
  | some (.array n _), _ => some (.int .i64 (.ofNat n))
  | some (.slice _), .sl _ _ len _ => some (.int .i64 (.ofNat len))
  | some (.slice _), .slu _ _ len _ _ => some (.int .i64 (.ofNat len))
  | some (.slice _), .nilSl => some (.int .i64 0)
  | some (.map _ _), .nilMap => some (.int .i64 0)
  | _, _ => none
noncomputable def aCap (P : Program) (t : TypeId) (a : AV) : Option AV :=
  match P.underlying t, a with
  | some (.slice _), .sl _ _ _ cap => some (.int .i64 (.ofNat cap))
  | some (.slice _), .nilSl => some (.int .i64 0)
  | _, _ => none
theorem aLen_ok {t ty : TypeId} {a v : AV} {x : Value} (h : aLen P t a = some v) {ρ : Rho} (ha : VR ρ a x) (w : World) : ∃ z, (Builtin.len_ #[t] ty #[x]).run P w = .ok z w ∧ VR ρ v z := by
  unfold aLen at h
  split at h
  · rename_i l hu
    injection h with h; subst h; simp only [VR] at ha; obtain ⟨ha, _⟩ := ha; subst ha
    exact ⟨goInt l.length, by simp [Builtin.len_, run_underlying hu, bytesOf_size], by simp only [VR]; rfl⟩
  · rename_i n _ hu
    injection h with h; subst h
    exact ⟨goInt n, by simp [Builtin.len_, run_underlying hu], by simp only [VR]; rfl⟩
  · rename_i len _ hu
    injection h with h; subst h; simp only [VR] at ha; obtain ⟨_, _, _, ha⟩ := ha; subst ha
    exact ⟨goInt len, by simp [Builtin.len_, run_underlying hu], by simp only [VR]; rfl⟩
  · rename_i len _ _ hu
    injection h with h; subst h; simp only [VR] at ha; obtain ⟨_, _, _, _, ha, _⟩ := ha; subst ha
    exact ⟨goInt len, by simp [Builtin.len_, run_underlying hu], by simp only [VR]; rfl⟩
  · rename_i hu
    injection h with h; subst h; simp only [VR] at ha; subst ha
    exact ⟨goInt 0, by simp [Builtin.len_, run_underlying hu], by simp only [VR]; rfl⟩
  · rename_i hu
    injection h with h; subst h; simp only [VR] at ha; subst ha
    exact ⟨goInt 0, by simp [Builtin.len_, run_underlying hu], by simp only [VR]; rfl⟩
  · cases h
theorem aCap_ok {t ty : TypeId} {a v : AV} {x : Value} (h : aCap P t a = some v) {ρ : Rho} (ha : VR ρ a x) (w : World) : ∃ z, (Builtin.cap_ #[t] ty #[x]).run P w = .ok z w ∧ VR ρ v z := by
  unfold aCap at h
  split at h
  · rename_i cap hu
    injection h with h; subst h; simp only [VR] at ha; obtain ⟨_, _, _, ha⟩ := ha; subst ha
    exact ⟨goInt cap, by simp [Builtin.cap_, run_underlying hu], by simp only [VR]; rfl⟩
  · rename_i hu
    injection h with h; subst h; simp only [VR] at ha; subst ha
    exact ⟨goInt 0, by simp [Builtin.cap_, run_underlying hu], by simp only [VR]; rfl⟩
  · cases h

end Ex
end Go.Proofs.YtdkijcmhjeaofaaGreatDoor
namespace Go.Proofs.YtdkijcmhjeaofaaGreatDoor
namespace Ex

variable {P : Program}

noncomputable def parts (f : Fm) (ps : List (Nat × Operand)) : Option (List (Nat × AV)) := mapO (fun p => match aev f p.2 with | some v => some (p.1, v) | none => none) ps
theorem parts_ok {ρ : Rho} {f : Fm} {a : Act} (hf : FR ρ f a) : ∀ {ps : List (Nat × Operand)} {l : List (Nat × AV)}, parts f ps = some l → PR ρ l (ps.map fun p => (p.1, a.eval p.2))
  | [], l, h => by
    have h : some [] = some l := h
    injection h with h; subst h; simp [PR]
  | p :: ps, l, h => by
    obtain ⟨y, ys, h1, h2, h3⟩ := mapO_cons h
    split at h1
    · rename_i v hv
      injection h1 with h1; subst h1; subst h3
      simp only [List.map_cons, PR]
      exact ⟨_, _, rfl, aev_ok hf hv, parts_ok hf h2⟩
    · cases h1

noncomputable def oev (f : Fm) : Option Operand → Option (Option AV)
  | none => some none
  | some x => match aev f x with
    | some v => some (some v)
    | none => none
theorem oev_ok {ρ : Rho} {f : Fm} {a : Act} (hf : FR ρ f a) {o : Option Operand} {v : Option AV} (h : oev f o = some v) : OR ρ v (o.map a.eval) := by
  cases o with
  | none => simp only [oev, Option.some.injEq] at h; subst h; simp [OR]
  | some x =>
    simp only [oev] at h
    split at h
    · rename_i u hu
      injection h with h; subst h
      simp only [OR]; exact ⟨_, rfl, aev_ok hf hu⟩
    · cases h

/-- A builtin that looks at plain values alone, by the model's own text. -/
noncomputable def aPlain (P : Program) (b : Builtin) (ts : Array TypeId) (ty : TypeId) (cs : Array Bool) (vs : List AV) : Option AV :=
  match mapO conc1 vs with
  | some xs => match pureRun P (builtin b ts ty cs xs.toArray) with
    | some (.value z) => cst z
    | _ => none
  | none => none

/-- An operation that looks at slots alone. -/
noncomputable def pureOp (P : Program) (f : Fm) (o : Oper) : Option AV :=
  match o.op with
  | .move x | .assign x => aev f x
  | .pick c x y => match aev f c with
    | some (.bool true) => aev f x
    | some (.bool false) => aev f y
    | _ => none
  | .binOp op t x y _ => match aev f x, aev f y with
    | some u, some v => aBin P op t x y u v
    | _, _ => none
  | .unOp op _ x => match aev f x with
    | some u => aUn op u
    | none => none
  | .convert src dst x => match aev f x with
    | some u => aConv P src dst u
    | none => none
  | .fieldAddr s x i => match aev f x with
    | some u => aFieldAddr P s u i
    | none => none
  | .field t x i => match aev f x with
    | some u => aField P t u i
    | none => none
  | .indexAddr t x i => match aev f x, aev f i with
    | some u, some v => aIndexAddr P t u v
    | _, _ => none
  | .index t x i => match aev f x, aev f i with
    | some u, some v => aIndex P t u v
    | _, _ => none
  | .slice t x lo hi mx => match aev f x, oev f lo, oev f hi, oev f mx with
    | some u, some l, some h, some m => aSlice P t u l h m
    | _, _, _, _ => none
  | .extract x i => match aev f x with
    | some (.tup vs) => vs[i]?
    | _ => none
  | .build t ps => match parts f ps.toList with
    | some l => aBuild P t l
    | none => none
  | .nilCheck x => match aev f x with
    | some (.ptr i j) => some (.ptr i j)
    | some (.func g c) => some (.func g c)
    | _ => none
  | .makeInterface t x => match P.underlying t, aev f x with
    | some (.interface _), _ => none
    | some _, some v => some (.iface t v)
    | _, _ => none
  | .makeFunc (.func g) first captured => match first.toList, mapO (aev f) captured.toList with
    | [], some vs => some (.func g vs)
    | _, _ => none
  | .call c => match c.callee with
    | .builtin b => match b, c.args.toList, c.argTypes.toList with
      | .len, [x], [t] => match aev f x with
        | some u => aLen P t u
        | none => none
      | .cap, [x], [t] => match aev f x with
        | some u => aCap P t u
        | none => none
      | .min, xs, _ => match mapO (aev f) xs with
        | some vs => aPlain P .min c.argTypes o.type (c.args.map fun | .const _ => true | _ => false) vs
        | none => none
      | .max, xs, _ => match mapO (aev f) xs with
        | some vs => aPlain P .max c.argTypes o.type (c.args.map fun | .const _ => true | _ => false) vs
        | none => none
      | _, _, _ => none
    | _ => none
  | _ => none

theorem pureOp_ok {f : Fm} {o : Oper} {v : AV} (h : pureOp P f o = some v) {ρ : Rho} {a : Act} (hf : FR ρ f a) (w : World) : ∃ x, (execOp a.eval o).run P w = .ok (.value x) w ∧ VR ρ v x := by
  have lift : ∀ {s : Sem Value} {x : Value}, s.run P w = .ok x w → ((do pure (Next.value (← s)) : Sem Next)).run P w = .ok (.value x) w := by
    intro s x hs; simp [hs]
  unfold pureOp at h
  unfold execOp
  split at h
  · rename_i x ho; rw [ho]; exact ⟨_, rfl, aev_ok hf h⟩
  · rename_i x ho; rw [ho]; exact ⟨_, rfl, aev_ok hf h⟩
  · rename_i c x y ho; rw [ho]
    split at h
    · rename_i hc
      have := aev_ok hf hc; simp only [VR] at this
      exact ⟨_, by simp [this, asBool], aev_ok hf h⟩
    · rename_i hc
      have := aev_ok hf hc; simp only [VR] at this
      exact ⟨_, by simp [this, asBool], aev_ok hf h⟩
    · cases h
  · rename_i op t x y ty ho; rw [ho]
    split at h
    · rename_i u v' hu hv
      obtain ⟨z, hz, hr⟩ := aBin_ok h (aev_ok hf hu) (aev_ok hf hv) w
      exact ⟨z, lift hz, hr⟩
    · cases h
  · rename_i op ty x ho; rw [ho]
    split at h
    · rename_i u hu
      obtain ⟨z, hz, hr⟩ := aUn_ok (P := P) h (aev_ok hf hu) w
      exact ⟨z, lift hz, hr⟩
    · cases h
  · rename_i src dst x ho; rw [ho]
    split at h
    · rename_i u hu
      obtain ⟨z, hz, hr⟩ := aConv_ok h (aev_ok hf hu) w
      exact ⟨z, lift hz, hr⟩
    · cases h
  · rename_i s x i ho; rw [ho]
    split at h
    · rename_i u hu
      obtain ⟨z, hz, hr⟩ := aFieldAddr_ok h (aev_ok hf hu) w
      exact ⟨z, lift hz, hr⟩
    · cases h
  · rename_i t x i ho; rw [ho]
    split at h
    · rename_i u hu
      obtain ⟨z, hz, hr⟩ := aField_ok h (aev_ok hf hu) w
      exact ⟨z, lift hz, hr⟩
    · cases h
  · rename_i t x i ho; rw [ho]
    split at h
    · rename_i u v' hu hv
      obtain ⟨z, hz, hr⟩ := aIndexAddr_ok h (aev_ok hf hu) (aev_ok hf hv) w
      exact ⟨z, lift hz, hr⟩
    · cases h
  · rename_i t x i ho; rw [ho]
    split at h
    · rename_i u v' hu hv
      obtain ⟨z, hz, hr⟩ := aIndex_ok h (aev_ok hf hu) (aev_ok hf hv) w
      exact ⟨z, lift hz, hr⟩
    · cases h
  · rename_i t x lo hi mx ho; rw [ho]
    split at h
    · rename_i u l h' m hu hl hh hm
      obtain ⟨z, hz, hr⟩ := aSlice_ok h (aev_ok hf hu) (oev_ok hf hl) (oev_ok hf hh) (oev_ok hf hm) w
      exact ⟨z, lift hz, hr⟩
    · cases h
  · rename_i x i ho; rw [ho]
    split at h
    · rename_i vs hx
      have := aev_ok hf hx; simp only [VR] at this
      obtain ⟨xs, e, hxs⟩ := this
      obtain ⟨z, hz, hr⟩ := hxs.get i v h
      exact ⟨z, lift (by simp [e, Instr.extract, hz]), hr⟩
    · cases h
  · rename_i t ps ho; rw [ho]
    split at h
    · rename_i l hl
      obtain ⟨z, hz, hr⟩ := aBuild_ok h (parts_ok hf hl) w
      refine ⟨z, lift ?_, hr⟩
      have e : (ps.map fun (i, x) => (i, a.eval x)) = (ps.toList.map fun p => (p.1, a.eval p.2)).toArray := by
        apply Array.ext'; simp
      rw [e]; exact hz
    · cases h
  · rename_i x ho; rw [ho]
    split at h
    · rename_i i j hx
      injection h with h; subst h
      have hv := aev_ok hf hx
      have hv' := hv
      simp only [VR] at hv
      obtain ⟨b, n, hr, e⟩ := hv
      exact ⟨a.eval x, by dsimp only; rw [e]; rfl, hv'⟩
    · rename_i g c hx
      injection h with h; subst h
      have hv := aev_ok hf hx
      have hv' := hv
      simp only [VR] at hv
      obtain ⟨xs, e, _⟩ := hv
      exact ⟨a.eval x, by dsimp only; rw [e]; rfl, hv'⟩
    · cases h
  · rename_i t x ho; rw [ho]
    split at h
    · cases h
    · rename_i d hne hu hx
      injection h with h; subst h
      refine ⟨.iface t (a.eval x), lift ?_, by simp only [VR]; exact ⟨_, rfl, aev_ok hf hx⟩⟩
      simp only [Instr.makeInterface, Sem.run_bind, run_underlying hu, Result.andThen_ok]
      cases d <;> first | rfl | exact absurd rfl (hne _)
    · cases h
  · rename_i g first captured ho; rw [ho]
    split at h
    · rename_i vs hfi hc
      injection h with h; subst h
      refine ⟨.func (.func g) #[] (captured.toList.map a.eval).toArray, ?_, by simp only [VR]; exact ⟨_, rfl, mapO_VRL (fun x v hx => aev_ok hf hx) hc⟩⟩
      have e1 : first.map a.eval = #[] := by apply Array.ext'; simp [hfi]
      have e2 : captured.map a.eval = (captured.toList.map a.eval).toArray := by apply Array.ext'; simp
      dsimp only; rw [e1, e2]; rfl
    · cases h
  · rename_i c ho; rw [ho]
    split at h
    · rename_i b hb
      have args : ∀ {xs : List Operand}, c.args.toList = xs → c.args.map a.eval = (xs.map a.eval).toArray := by
        intro xs e; apply Array.ext'; simp [e]
      split at h
      · rename_i x t hx ht
        split at h
        · rename_i u hu
          obtain ⟨z, hz, hr⟩ := aLen_ok (ty := o.type) h (aev_ok hf hu) w
          refine ⟨z, ?_, hr⟩
          have e2 : c.argTypes = #[t] := by apply Array.ext'; simp [ht]
          simp [resolve, hb, invoke, builtin, args hx, e2, hz]
        · cases h
      · rename_i x t hx ht
        split at h
        · rename_i u hu
          obtain ⟨z, hz, hr⟩ := aCap_ok (ty := o.type) h (aev_ok hf hu) w
          refine ⟨z, ?_, hr⟩
          have e2 : c.argTypes = #[t] := by apply Array.ext'; simp [ht]
          simp [resolve, hb, invoke, builtin, args hx, e2, hz]
        · cases h
      · split at h
        · rename_i vs hvs
          unfold aPlain at h
          split at h
          · rename_i xs hxs
            split at h
            · rename_i z hz
              refine ⟨z, ?_, cst_ok h⟩
              have e := conc1_list hxs (mapO_VRL (fun x v hx => aev_ok hf hx) hvs)
              simp only [resolve, hb, invoke, Sem.run_bind, Sem.run_pure, Result.andThen_ok, args rfl, e]
              exact pureRun_ok _ hz w
            · cases h
          · cases h
        · cases h
      · split at h
        · rename_i vs hvs
          unfold aPlain at h
          split at h
          · rename_i xs hxs
            split at h
            · rename_i z hz
              refine ⟨z, ?_, cst_ok h⟩
              have e := conc1_list hxs (mapO_VRL (fun x v hx => aev_ok hf hx) hvs)
              simp only [resolve, hb, invoke, Sem.run_bind, Sem.run_pure, Result.andThen_ok, args rfl, e]
              exact pureRun_ok _ hz w
            · cases h
          · cases h
        · cases h
      · cases h
    · cases h
  · cases h

end Ex
end Go.Proofs.YtdkijcmhjeaofaaGreatDoor
namespace Go.Proofs.YtdkijcmhjeaofaaGreatDoor
namespace Ex

variable {P : Program}

/-- n cells from off on. -/
noncomputable def rd (t : Tr AV) (n : Nat) : Nat → Option (List AV) :=
  Nat.rec (motive := fun _ => Nat → Option (List AV)) (fun _ => some [])
    (fun _ ih off => Option.rec none (fun v => Option.rec none (fun vs => some (v :: vs)) (ih (Nat.succ off))) (t.at off)) n
theorem rd_succ {t : Tr AV} {n off : Nat} {l : List AV} (h : rd t (n + 1) off = some l) : ∃ v vs, t.at off = some v ∧ rd t n (off + 1) = some vs ∧ l = v :: vs := by
  have h : (Option.rec none (fun v => Option.rec none (fun vs => some (v :: vs)) (rd t n (off + 1))) (t.at off) : Option (List AV)) = some l := h
  cases h1 : t.at off with
  | none => simp [h1] at h
  | some v =>
    cases h2 : rd t n (off + 1) with
    | none => simp [h1, h2] at h
    | some vs => simp [h1, h2] at h; exact ⟨v, vs, rfl, rfl, h.symm⟩
theorem rd_ok {ρ : Rho} {t : Tr AV} {c : Array Value} {m : Nat} (hc : ∀ j v, t.at j = some v → j < m ∧ ∃ x, c[j]? = some x ∧ VR ρ v x) : ∀ {n off : Nat} {l : List AV}, rd t n off = some l →
    ∃ xs, VRL ρ l xs ∧ xs.length = n ∧ ∀ j x, xs[j]? = some x → c[off + j]? = some x
  | 0, off, l, h => by
    have h : some [] = some l := h
    injection h with h; subst h
    exact ⟨[], by simp [VRL], rfl, fun j x hx => by simp at hx⟩
  | n + 1, off, l, h => by
    obtain ⟨v, vs, h1, h2, h3⟩ := rd_succ h
    subst h3
    obtain ⟨_, x, hx, hv⟩ := hc off v h1
    obtain ⟨xs, h4, h5, h6⟩ := rd_ok hc h2
    refine ⟨x :: xs, by simp only [VRL]; exact ⟨x, xs, rfl, hv, h4⟩, by simp [h5], fun j y hj => ?_⟩
    cases j with
    | zero => simp at hj; subst hj; simpa using hx
    | succ j => have := h6 j y (by simpa using hj); rw [← this]; congr 1; omega

/-- Cells written from off on. -/
noncomputable def wr (vs : List AV) : Tr AV → Nat → Tr AV :=
  List.rec (motive := fun _ => Tr AV → Nat → Tr AV) (fun t _ => t) (fun v _ ih t off => ih (t.to off v) (Nat.succ off)) vs
theorem wr_nil (t : Tr AV) (off : Nat) : wr [] t off = t := rfl
theorem wr_cons (v : AV) (vs : List AV) (t : Tr AV) (off : Nat) : wr (v :: vs) t off = wr vs (t.to off v) (off + 1) := rfl
theorem wr_at : ∀ (vs : List AV) (t : Tr AV) (off j : Nat), off + vs.length ≤ 1048575 →
    (wr vs t off).at j = if off ≤ j ∧ j < off + vs.length then vs[j - off]? else t.at j
  | [], t, off, j, _ => by rw [wr_nil, if_neg (by simp)]
  | v :: vs, t, off, j, h => by
    simp only [List.length_cons] at h
    rw [wr_cons, wr_at vs _ (off + 1) j (by omega)]
    by_cases h1 : off + 1 ≤ j ∧ j < off + 1 + vs.length
    · rw [if_pos h1, if_pos (by simp; omega)]
      obtain ⟨d, rfl⟩ : ∃ d, j = off + 1 + d := ⟨j - (off + 1), by omega⟩
      have e1 : off + 1 + d - (off + 1) = d := by omega
      have e2 : off + 1 + d - off = d + 1 := by omega
      rw [e1, e2]; simp
    · rw [if_neg h1, Tr.at_to _ _ _ _ (by omega)]
      by_cases h2 : j = off
      · subst h2; rw [if_pos rfl, if_pos (by simp)]; simp
      · rw [if_neg h2, if_neg (by simp; omega)]

def AV.one : AV → Bool
  | .agg _ | .tup _ => false
  | _ => true
theorem one_ok {ρ : Rho} {v : AV} {x : Value} (h : VR ρ v x) (h1 : v.one = true) : x.oneCell' = true := by
  cases v
  case agg => cases h1
  case tup => cases h1
  all_goals
    simp only [VR] at h
    first
      | (obtain ⟨_, _, _, _, e, _⟩ := h; subst e; rfl)
      | (obtain ⟨_, _, _, e⟩ := h; subst e; rfl)
      | (obtain ⟨_, e, _⟩ := h; subst e; rfl)
      | (obtain ⟨e, _⟩ := h; subst e; rfl)
      | (subst h; rfl)
theorem ones_ok {ρ : Rho} : ∀ {vs : List AV} {xs : List Value}, VRL ρ vs xs → vs.all AV.one = true → ∀ x ∈ xs, x.oneCell' = true
  | [], xs, h, _, x, hx => by simp only [VRL] at h; subst h; simp at hx
  | v :: vs, xs, h, h1, x, hx => by
    simp only [VRL] at h
    obtain ⟨y, ys, e, hv, hr⟩ := h; subst e
    simp only [List.all_cons, Bool.and_eq_true] at h1
    rcases List.mem_cons.1 hx with rfl | hx
    · exact one_ok hv h1.1
    · exact ones_ok hr h1.2 x hx

/-! Memory that changes at one block, or grows by one. -/
theorem WR.upd {ρ : Rho} {S : St} {w w' : World} (h : WR ρ S w) {id b n : Nat} {B B' : AB} (hid : S.heap.at id = some B) (hl : B.live = true) (hr : ρ id = some (b, n)) (hB : BR ρ n B' w'.heap[b]?)
    (hs : w'.heap.size = w.heap.size) (ho : ∀ k, k ≠ b → w'.heap[k]? = w.heap[k]?) : WR ρ ⟨S.heap.to id B', S.next⟩ w' := by
  have hlt : id < S.next := Nat.lt_of_not_le fun hle => by rw [(h.dom id hle).2] at hid; cases hid
  have hat : ∀ i A, (S.heap.to id B').at i = some A → (i = id ∧ A = B') ∨ (i ≠ id ∧ S.heap.at i = some A) := by
    intro i A hi
    have := h.lim
    rw [Tr.at_to _ _ _ _ (by omega)] at hi
    by_cases e : i = id
    · rw [if_pos e] at hi; injection hi with hi; exact .inl ⟨e, hi.symm⟩
    · rw [if_neg e] at hi; exact .inr ⟨e, hi⟩
  have old : ∀ i A, (S.heap.to id B').at i = some A → A.live = true → ∃ A', S.heap.at i = some A' ∧ A'.live = true := by
    intro i A hi hA
    rcases hat i A hi with ⟨e, _⟩ | ⟨_, e⟩
    · exact ⟨B, e ▸ hid, hl⟩
    · exact ⟨A, e, hA⟩
  refine ⟨fun i j b m n A C hi hj hA hC => ?_, fun i hi => ⟨(h.dom i hi).1, ?_⟩, h.lim, fun i b n hi => by rw [hs]; exact h.low i b n hi, fun i A hi => ?_⟩
  · obtain ⟨A', h1, h2⟩ := old i A hi hA
    obtain ⟨C', h3, h4⟩ := old j C hj hC
    exact h.inj i j b m n A' C' h1 h3 h2 h4
  · have := h.lim
    show (S.heap.to id B').at i = none
    have hi : S.next ≤ i := hi
    rw [Tr.at_to _ _ _ _ (by omega), if_neg (by omega)]; exact (h.dom i hi).2
  · rcases hat i A hi with ⟨e, e2⟩ | ⟨e, e2⟩
    · subst e; subst e2; exact ⟨b, n, hr, hB⟩
    · obtain ⟨b2, n2, h1, h2⟩ := h.blk i A e2
      refine ⟨b2, n2, h1, ?_⟩
      cases hA : A.live with
      | true => rw [ho b2 fun eb => e (h.inj i id b n2 n A B e2 hid hA hl (eb ▸ h1) hr)]; exact h2
      | false => cases A <;> first | trivial | cases hA

def Rho.set (ρ : Rho) (i : Nat) (p : Nat × Nat) : Rho := fun j => if j = i then some p else ρ j
theorem Rho.le_set {ρ : Rho} {i : Nat} {p : Nat × Nat} (h : ρ i = none) : ρ.le (ρ.set i p) := by
  intro j q hj
  unfold Rho.set
  by_cases e : j = i
  · subst e; rw [h] at hj; cases hj
  · rw [if_neg e]; exact hj
theorem Rho.set_same (ρ : Rho) (i : Nat) (p : Nat × Nat) : ρ.set i p i = some p := by simp [Rho.set]

/-- A new block, under a number that is free. -/
theorem WR.newAt {ρ : Rho} {S : St} {w w' : World} (h : WR ρ S w) {id nx : Nat} {B : AB} {n : Nat} {o : Obj} (hf : ρ id = none) (hid : S.heap.at id = none) (hnx : S.next ≤ nx) (hi : id < nx) (hlim : nx < 1048575)
    (hB : BR (ρ.set id (w.heap.size, n)) n B (some o)) (hw : w'.heap = w.heap.push o) :
    WR (ρ.set id (w.heap.size, n)) ⟨S.heap.to id B, nx⟩ w' := by
  have hle := Rho.le_set (p := (w.heap.size, n)) hf
  have hat : ∀ i A, (S.heap.to id B).at i = some A → (i = id ∧ A = B) ∨ (i ≠ id ∧ S.heap.at i = some A) := by
    intro i A hi
    rw [Tr.at_to _ _ _ _ (by omega)] at hi
    by_cases e : i = id
    · rw [if_pos e] at hi; injection hi with hi; exact .inl ⟨e, hi.symm⟩
    · rw [if_neg e] at hi; exact .inr ⟨e, hi⟩
  have hget : ∀ i p, (ρ.set id (w.heap.size, n)) i = some p → (i = id ∧ p = (w.heap.size, n)) ∨ (i ≠ id ∧ ρ i = some p) := by
    intro i p hi
    unfold Rho.set at hi
    by_cases e : i = id
    · rw [if_pos e] at hi; injection hi with hi; exact .inl ⟨e, hi.symm⟩
    · rw [if_neg e] at hi; exact .inr ⟨e, hi⟩
  refine ⟨fun i j b m k A C hi hj hA hC hri hrj => ?_, fun i hi => ?_, hlim, fun i b k hi => ?_, fun i A hi => ?_⟩
  · rcases hget i _ hri with ⟨e1, p1⟩ | ⟨e1, p1⟩ <;> rcases hget j _ hrj with ⟨e2, p2⟩ | ⟨e2, p2⟩
    · rw [e1, e2]
    · injection p1 with p1; subst p1; exact absurd (h.low j _ _ p2) (Nat.lt_irrefl _)
    · injection p2 with p2; subst p2; exact absurd (h.low i _ _ p1) (Nat.lt_irrefl _)
    · rcases hat i A hi with ⟨e, _⟩ | ⟨_, e3⟩
      · exact absurd e e1
      · rcases hat j C hj with ⟨e, _⟩ | ⟨_, e4⟩
        · exact absurd e e2
        · exact h.inj i j b m k A C e3 e4 hA hC p1 p2
  · have hi' : nx ≤ i := hi
    constructor
    · unfold Rho.set; rw [if_neg (by omega)]; exact (h.dom i (by omega)).1
    · show (S.heap.to id B).at i = none
      rw [Tr.at_to _ _ _ _ (by omega), if_neg (by omega)]; exact (h.dom i (by omega)).2
  · rw [hw, Array.size_push]
    rcases hget i _ hi with ⟨_, e⟩ | ⟨_, e⟩
    · injection e with e; subst e; omega
    · exact Nat.lt_succ_of_lt (h.low i b k e)
  · rcases hat i A hi with ⟨e, e2⟩ | ⟨e, e2⟩
    · subst e; subst e2
      exact ⟨w.heap.size, n, Rho.set_same _ _ _, by rw [hw]; simpa using hB⟩
    · obtain ⟨b2, n2, h1, h2⟩ := h.blk i A e2
      refine ⟨b2, n2, hle _ _ h1, ?_⟩
      have hlt := h.low i _ _ h1
      rw [hw, Array.getElem?_push, if_neg (by omega)]
      exact h2.mono hle

theorem WR.new {ρ : Rho} {S : St} {w w' : World} (h : WR ρ S w) {B : AB} {n : Nat} {o : Obj} (hB : BR (ρ.set S.next (w.heap.size, n)) n B (some o)) (hw : w'.heap = w.heap.push o) (hl : S.next + 1 < 1048575) :
    WR (ρ.set S.next (w.heap.size, n)) ⟨S.heap.to S.next B, S.next + 1⟩ w' :=
  h.newAt (h.dom S.next (Nat.le_refl _)).1 (h.dom S.next (Nat.le_refl _)).2 (Nat.le_succ _) (Nat.lt_succ_self _) hl hB hw

theorem Up.set {K : Nat} {ρ : Rho} {S : St} {w : World} (h : WR ρ S w) (hK : K ≤ S.next) (n : Nat) (B : AB) : Up K S ⟨S.heap.to S.next B, S.next + 1⟩ ρ (ρ.set S.next (w.heap.size, n)) w := by
  have := h.lim
  refine ⟨Rho.le_set (h.dom S.next (Nat.le_refl _)).1, Nat.le_succ _, fun i hi => by unfold Rho.set; rw [if_neg (by omega)], fun i hi h0 => by show (S.heap.to S.next B).at i = none; rw [Tr.at_to _ _ _ _ (by omega), if_neg (by omega)]; exact h0, fun i b m A hA hl hi => ?_⟩
  have hA : (S.heap.to S.next B).at i = some A := hA
  rw [Tr.at_to _ _ _ _ (by omega)] at hA
  unfold Rho.set at hi
  by_cases e : i = S.next
  · rw [if_pos e] at hi; injection hi with hi; injection hi with h1 h2; subst h1; subst e; exact .inr ⟨hK, .inl (Nat.le_refl _)⟩
  · rw [if_neg e] at hi hA; exact .inl ⟨hi, A, hA, hl⟩

theorem Up.upd {K : Nat} {ρ : Rho} {S : St} {w : World} (h : WR ρ S w) {id : Nat} {B B' : AB} (hid : S.heap.at id = some B) (hlv : B.live = true) : Up K S ⟨S.heap.to id B', S.next⟩ ρ ρ w := by
  have hlt : id < S.next := Nat.lt_of_not_le fun hle => by rw [(h.dom id hle).2] at hid; cases hid
  have := h.lim
  refine ⟨Rho.le_refl _, Nat.le_refl _, fun _ _ => rfl, fun i hi h0 => ?_, fun i b m A hA hl hi => .inl ⟨hi, ?_⟩⟩
  · show (S.heap.to id B').at i = none
    rw [Tr.at_to _ _ _ _ (by omega)]
    by_cases e : i = id
    · subst e; rw [h0] at hid; cases hid
    · rw [if_neg e]; exact h0
  have hA : (S.heap.to id B').at i = some A := hA
  rw [Tr.at_to _ _ _ _ (by omega)] at hA
  by_cases e : i = id
  · subst e; exact ⟨B, hid, hlv⟩
  · rw [if_neg e] at hA; exact ⟨A, hA, hl⟩

end Ex
end Go.Proofs.YtdkijcmhjeaofaaGreatDoor
