/- A closed-run executor: its parts Fa to Ff, joined: proved sound against the model. No program is named; the one condition of the whole: the program follows the mixed orders. -/
import Derived.Test.YtjdmkgnlakonbaaGreatDoorEy
import Derived.Below
import Derived.RangeFuncSeq
import Derived.TacticsIn
import Derived.CallsIn
import Derived.Scope
import Derived.RangeFuncIn
import Derived.RangeFuncRecord
import Derived.RangeFuncLeaves
import Derived.Orders
import Derived.OrdersIn
namespace Go.Proofs.YtjdmkgnlakonbaaGreatDoor
namespace Ex

inductive Cls where
  | pure | read | alloc | eff | call | no
def cls (P : Program) : Op → Cls
  | .move _ | .assign _ | .pick .. | .binOp .. | .unOp .. | .fieldAddr .. | .field .. | .indexAddr .. | .index .. | .slice .. | .extract .. | .build .. | .nilCheck _ | .makeInterface .. | .makeFunc .. => .pure
  | .load .. | .lookup .. => .read
  | .convert _ dst _ => match P.underlying dst with
    | some (.slice _) => .alloc
    | _ => .read
  | .alloc _ | .box .. | .makeSlice .. | .buildSlice .. | .makeMap .. => .alloc
  | .store .. | .mapUpdate .. => .eff
  | .call c => match c.callee with
    | .builtin b => match b with
      | .len | .cap | .min | .max => .pure
      | .unsafeSliceData => .read
      | .append | .copy | .unsafeString => .eff
      | _ => .no
    | .value _ => .call
    | _ => .no
  | _ => .no

inductive Res where
  | normal (f : Fm) (S : St)
  | exit (id : Nat) (f : Fm) (S : St)
  | ret (f : Fm) (S : St)
  | no (why : List Nat)

inductive CRes where
  | ok (v : AV) (S : St)
  | no (why : List Nat)

/-- What a call of a function value enters; yield of the loop y has the number 2^20 + y. -/
noncomputable def callee (f : Fm) (c : Call) : Option (FuncId × List AV) :=
  match c.callee with
  | .value x => match aev f x, mapO (aev f) c.args.toList with
    | some (.func g cap), some vs => Bool.rec none (some (g, vs ++ cap)) (Nat.blt g 1048576)
    | some (.yld y), some vs => some (Nat.add 1048576 y, vs)
    | _, _ => none
  | _ => none

/-- Whether an operation is wanted: its guard. -/
noncomputable def want (ops : List Oper) (f : Fm) (o : Oper) : Option Bool :=
  match o.guard with
  | none => some true
  | some (j, b) => match ops[j]? with
    | some q => match q.dst with
      | some d => match f.t.at d with
        | some (.bool c) => some (c == b)
        | some (.tup []) => some false
        | _ => none
      | none => none
    | none => none

/-- A value, forced. -/
noncomputable def forceV {γ : Type} (v : AV) (k : AV → γ) : γ := match v with
  | .int kd n => fInt n fun n => k (.int kd n)
  | .bool b => Bool.rec (k (.bool false)) (k (.bool true)) b
  | .ptr id off => fNat id fun id => fNat off fun off => k (.ptr id off)
  | .sl id off len cap => fNat id fun id => fNat off fun off => fNat len fun len => fNat cap fun cap => k (.sl id off len cap)
  | .slu id off len sz lb => fNat id fun id => fNat off fun off => fNat len fun len => fNat lb fun lb => k (.slu id off len sz lb)
  | v => k v
theorem forceV_eq {γ : Type} (v : AV) (k : AV → γ) : forceV v k = k v := by
  unfold forceV
  split
  · rw [fInt_eq]
  · rename_i b
    cases b <;> rfl
  · simp only [fNat_eq]
  · simp only [fNat_eq]
  · simp only [fNat_eq]
  · rfl
/-- Memory, forced. -/
noncomputable def forceS {γ : Type} (S : St) (k : St → γ) : γ := headC S.heap fun h => fNat S.next fun nx => k ⟨h, nx⟩
theorem forceS_eq {γ : Type} (S : St) (k : St → γ) : forceS S k = k S := by unfold forceS; simp only [headC_eq, fNat_eq]

/-- A slot is written, if there is such a slot. -/
noncomputable def putK (f : Fm) (d : Option Nat) (v : AV) (k : Fm → Res) (no : Res) : Res :=
  match d with
  | none => k f
  | some d => Bool.rec no (forceV v fun v => headC (f.t.to d v) fun t => fNat f.n fun n => k ⟨t, n⟩) (Nat.blt d f.n && Nat.blt d 1048575)
theorem putK_old (f : Fm) (d : Nat) (v : AV) (k : Fm → Res) (no : Res) : putK f (some d) v k no = Bool.rec no (k ⟨f.t.to d v, f.n⟩) (Nat.blt d f.n && Nat.blt d 1048575) := by
  unfold putK
  simp only [forceV_eq, headC_eq, fNat_eq]

/-- A new block in memory. -/
noncomputable def addB (S : St) (B : AB) (k : St → Res) (no : Res) : Res :=
  Bool.rec no (headC (S.heap.to S.next B) fun h => fNat S.next fun nx => k ⟨h, Nat.succ nx⟩) (Nat.blt (Nat.succ S.next) 1048575)
theorem addB_old (S : St) (B : AB) (k : St → Res) (no : Res) : addB S B k no = Bool.rec no (k ⟨S.heap.to S.next B, Nat.succ S.next⟩) (Nat.blt (Nat.succ S.next) 1048575) := by
  unfold addB
  simp only [headC_eq, fNat_eq]

/-! Operands and slots, told ahead: closed texts, which the kernel reduces once. -/
structure Gt where
  g : Fm → Option AV
noncomputable def cstW (c : Option AV) : Gt := Option.rec ⟨fun _ => none⟩ (fun u => forceV u fun u => ⟨fun _ => some u⟩) c
noncomputable def slotW (t : Nat) : Gt := Bool.rec ⟨fun f => f.t.at t⟩ (Wp.rec (fun p => ⟨fun f => Fm.rec (motive := fun _ => Option AV) (fun tr _ => getP p tr) f⟩) (pathW t)) (Nat.blt t 1048575)
noncomputable def getC (x : Operand) : Gt := match x with
  | .tmp t => slotW t
  | .const v => cstW (cst v)
  | .global _ => ⟨fun _ => none⟩
  | .func g => ⟨fun _ => some (.func g [])⟩
theorem slotW_eq (t : Nat) (f : Fm) : (slotW t).g f = f.t.at t := by
  unfold slotW
  cases hb : Nat.blt t 1048575 with
  | false => rfl
  | true =>
    rw [Nat.blt_eq] at hb
    obtain ⟨tr, n⟩ := f
    exact pathW_get hb tr
theorem getC_eq (x : Operand) (f : Fm) : (getC x).g f = aev f x := by
  cases x with
  | tmp t => exact slotW_eq t f
  | const v =>
    show (cstW (cst v)).g f = cst v
    unfold cstW
    cases cst v with
    | none => rfl
    | some u => simp only [forceV_eq]
  | global _ => rfl
  | func _ => rfl
/-- A slot that is written, told ahead. -/
structure Dw where
  put : Fm → AV → (Fm → Res) → Res → Res
noncomputable def dstW (d : Option Nat) : Dw := Option.rec ⟨fun f _ k _ => k f⟩ (fun d => Bool.rec ⟨fun f v k no => putK f (some d) v k no⟩ (Wp.rec (fun p => ⟨fun f v k no => Fm.rec (motive := fun _ => Res) (fun t n => Bool.rec no (forceV v fun v => putP v p t fun t => k ⟨t, n⟩) (Nat.blt d n)) f⟩) (pathW d)) (Nat.blt d 1048575)) d
theorem dstW_eq (d : Option Nat) (f : Fm) (v : AV) (k : Fm → Res) (no : Res) : (dstW d).put f v k no = putK f d v k no := by
  cases d with
  | none => rfl
  | some d =>
    show Dw.put (Bool.rec ⟨fun f v k no => putK f (some d) v k no⟩ (Wp.rec (fun p => ⟨fun f v k no => Fm.rec (motive := fun _ => Res) (fun t n => Bool.rec no (forceV v fun v => putP v p t fun t => k ⟨t, n⟩) (Nat.blt d n)) f⟩) (pathW d)) (Nat.blt d 1048575) : Dw) f v k no = _
    cases hb : Nat.blt d 1048575 with
    | false => rfl
    | true =>
      have hd := hb
      rw [Nat.blt_eq] at hd
      obtain ⟨t, n⟩ := f
      rw [putK_old, hb, Bool.and_true]
      show (Bool.rec no (forceV v fun v => putP v (pathW d).p t fun t => k ⟨t, n⟩) (Nat.blt d n) : Res) = _
      rw [forceV_eq, pathW_put hd]

/-- What an operation does, told from its text alone. -/
inductive OpC where
  | pure (g : Fm → Option AV)
  | read (g : Fm → St → Option AV)
  | alloc (g : Nat → Fm → Option (AV × AB))
  | eff (g : Nat → Fm → St → Option (AV × St))
  | call (g : Fm → Option (FuncId × List AV))
  | no (n : Nat)
structure BinC where
  g : AV → AV → Option AV
noncomputable def binC (P : Program) (op : BinOp) (t : TypeId) (X Y : Operand) : BinC := match op with
  | .add => ⟨fun a b => match a, b with
    | .int k m, .int j n => Bool.rec none (some (fInt (fwrap k (Int.add m n)) (.int k))) (ksame k j)
    | a, b => aBin P .add t X Y a b⟩
  | .sub => ⟨fun a b => match a, b with
    | .int k m, .int j n => Bool.rec none (some (fInt (fwrap k (Int.sub m n)) (.int k))) (ksame k j)
    | a, b => aBin P .sub t X Y a b⟩
  | .lss => ⟨fun a b => match a, b with
    | .int k m, .int j n => Bool.rec none (some (.bool (ilt m n))) (ksame k j)
    | a, b => aBin P .lss t X Y a b⟩
  | .gtr => ⟨fun a b => match a, b with
    | .int k m, .int j n => Bool.rec none (some (.bool (ilt n m))) (ksame k j)
    | a, b => aBin P .gtr t X Y a b⟩
  | .eql => ⟨fun a b => match a, b with
    | .int k m, .int j n => Bool.rec none (some (.bool (ieq m n))) (ksame k j)
    | a, b => aBin P .eql t X Y a b⟩
  | .neq => ⟨fun a b => match a, b with
    | .int k m, .int j n => Bool.rec none (some (.bool (not (ieq m n)))) (ksame k j)
    | a, b => aBin P .neq t X Y a b⟩
  | op => ⟨fun a b => aBin P op t X Y a b⟩
theorem binC_eq (P : Program) (op : BinOp) (t : TypeId) (X Y : Operand) (a b : AV) : (binC P op t X Y).g a b = aBin P op t X Y a b := by
  cases op <;> first | rfl | (cases a <;> first | rfl | (cases b <;> rfl))
noncomputable def one1 {β : Type} (g : AV → Option β) (a : Option AV) : Option β := Option.rec none g a
noncomputable def two2 {β : Type} (g : AV → AV → Option β) (a b : Option AV) : Option β := Option.rec none (fun u => Option.rec none (fun v => g u v) b) a
noncomputable def pureC (P : Program) (o : Oper) : OpC := match o.op with
  | .move x => Gt.rec (fun g => .pure g) (getC x)
  | .assign x => Gt.rec (fun g => .pure g) (getC x)
  | .binOp op t x y _ => Gt.rec (fun gx => Gt.rec (fun gy => BinC.rec (fun h => .pure fun f => two2 h (gx f) (gy f)) (binC P op t x y)) (getC y)) (getC x)
  | .fieldAddr s x i => Gt.rec (fun g => .pure fun f => one1 (fun u => aFieldAddr P s u i) (g f)) (getC x)
  | .field t x i => Gt.rec (fun g => .pure fun f => one1 (fun u => aField P t u i) (g f)) (getC x)
  | .indexAddr t x i => Gt.rec (fun gx => Gt.rec (fun gy => .pure fun f => two2 (fun u v => aIndexAddr P t u v) (gx f) (gy f)) (getC i)) (getC x)
  | .convert s d x => Gt.rec (fun g => .pure fun f => one1 (fun u => aConv P s d u) (g f)) (getC x)
  | .unOp op _ x => Gt.rec (fun g => .pure fun f => one1 (fun u => aUn op u) (g f)) (getC x)
  | .extract x i => Gt.rec (fun g => .pure fun f => one1 (fun u => match u with
    | .tup vs => vs[i]?
    | _ => none) (g f)) (getC x)
  | _ => .pure fun f => pureOp P f o
theorem pureC_eq (P : Program) (o : Oper) : pureC P o = .pure fun f => pureOp P f o := by
  obtain ⟨dst, op, ty, pos, aft, gd⟩ := o
  cases op
  case move x =>
    show OpC.pure (getC x).g = _
    congr 1; funext f; rw [getC_eq]; rfl
  case assign x =>
    show OpC.pure (getC x).g = _
    congr 1; funext f; rw [getC_eq]; rfl
  case binOp op t x y ty' =>
    show OpC.pure (fun f => two2 (binC P op t x y).g ((getC x).g f) ((getC y).g f)) = _
    congr 1; funext f; rw [getC_eq, getC_eq]
    unfold pureOp two2
    simp only
    cases aev f x <;> cases aev f y <;> first | rfl | exact binC_eq P op t x y _ _
  case fieldAddr s x i =>
    show OpC.pure (fun f => one1 (fun u => aFieldAddr P s u i) ((getC x).g f)) = _
    congr 1; funext f; rw [getC_eq]
    unfold pureOp one1
    simp only
    cases aev f x <;> rfl
  case field t x i =>
    show OpC.pure (fun f => one1 (fun u => aField P t u i) ((getC x).g f)) = _
    congr 1; funext f; rw [getC_eq]
    unfold pureOp one1
    simp only
    cases aev f x <;> rfl
  case indexAddr t x i =>
    show OpC.pure (fun f => two2 (fun u v => aIndexAddr P t u v) ((getC x).g f) ((getC i).g f)) = _
    congr 1; funext f; rw [getC_eq, getC_eq]
    unfold pureOp two2
    simp only
    cases aev f x <;> cases aev f i <;> rfl
  case convert s d x =>
    show OpC.pure (fun f => one1 (fun u => aConv P s d u) ((getC x).g f)) = _
    congr 1; funext f; rw [getC_eq]
    unfold pureOp one1
    simp only
    cases aev f x <;> rfl
  case unOp op ty' x =>
    show OpC.pure (fun f => one1 (fun u => aUn op u) ((getC x).g f)) = _
    congr 1; funext f; rw [getC_eq]
    unfold pureOp one1
    simp only
    cases aev f x <;> rfl
  case extract x i =>
    show OpC.pure (fun f => one1 (fun u => match u with | .tup vs => vs[i]? | _ => none) ((getC x).g f)) = _
    congr 1; funext f; rw [getC_eq]
    unfold pureOp one1
    simp only
    cases aev f x with
    | none => rfl
    | some u => cases u <;> rfl
  all_goals rfl
noncomputable def readC (P : Program) (o : Oper) : OpC := match o.op with
  | .load t x => Gt.rec (fun g => .read fun f S => one1 (fun p => aLoad P S t p) (g f)) (getC x)
  | _ => .read fun f S => readOp P f S o
theorem readC_eq (P : Program) (o : Oper) : readC P o = .read fun f S => readOp P f S o := by
  obtain ⟨dst, op, ty, pos, aft, gd⟩ := o
  cases op
  case load t x =>
    show OpC.read (fun f S => one1 (fun p => aLoad P S t p) ((getC x).g f)) = _
    congr 1; funext f S; rw [getC_eq]
    unfold readOp one1
    simp only
    cases aev f x <;> rfl
  all_goals rfl
noncomputable def effC (P : Program) (o : Oper) : OpC := match o.op with
  | .store t x y => Gt.rec (fun gx => Gt.rec (fun gy => .eff fun K f S => two2 (fun p v => Option.rec none (fun S' => some (.tup [], S')) (aStore K P S t p v)) (gx f) (gy f)) (getC y)) (getC x)
  | _ => .eff fun K f S => effOp K P f S o
theorem effC_eq (P : Program) (o : Oper) : effC P o = .eff fun K f S => effOp K P f S o := by
  obtain ⟨dst, op, ty, pos, aft, gd⟩ := o
  cases op
  case store t x y =>
    show OpC.eff (fun K f S => two2 (fun p v => Option.rec none (fun S' => some (.tup [], S')) (aStore K P S t p v)) ((getC x).g f) ((getC y).g f)) = _
    congr 1; funext K f S; rw [getC_eq, getC_eq]
    unfold effOp two2
    simp only
    cases aev f x with
    | none => cases aev f y <;> rfl
    | some p =>
      cases aev f y with
      | none => rfl
      | some v =>
        simp only
        cases aStore K P S t p v <;> rfl
  all_goals rfl
noncomputable def allocC (P : Program) (o : Oper) : OpC := match o.op with
  | .box e x => Gt.rec (fun g => .alloc fun id f => one1 (fun v => Option.rec none (fun B => some (.ptr id 0, B)) (aRow e v.cells)) (g f)) (getC x)
  | _ => .alloc fun nx f => allocOp P nx f o
theorem allocC_eq (P : Program) (o : Oper) : allocC P o = .alloc fun nx f => allocOp P nx f o := by
  obtain ⟨dst, op, ty, pos, aft, gd⟩ := o
  cases op
  case box e x =>
    show OpC.alloc (fun id f => one1 (fun v => Option.rec none (fun B => some (.ptr id 0, B)) (aRow e v.cells)) ((getC x).g f)) = _
    congr 1; funext id f; rw [getC_eq]
    unfold allocOp one1
    simp only
    cases aev f x with
    | none => rfl
    | some v =>
      simp only
      cases aRow e v.cells <;> rfl
  all_goals rfl
/-- A call's operands, told ahead. -/
structure Gl where
  g : Fm → Option (List AV)
noncomputable def argsW (l : List Operand) : Gl := List.rec ⟨fun _ => some []⟩ (fun x _ ih => Gt.rec (fun g => Gl.rec (fun r => ⟨fun f => Option.rec none (fun y => Option.rec none (fun ys => some (y :: ys)) (r f)) (g f)⟩) ih) (getC x)) l
theorem argsW_eq (f : Fm) : ∀ l : List Operand, (argsW l).g f = mapO (aev f) l
  | [] => rfl
  | x :: l => by
    have e : (argsW (x :: l)).g f = Option.rec none (fun y => Option.rec none (fun ys => some (y :: ys)) ((argsW l).g f)) ((getC x).g f) := rfl
    rw [e, argsW_eq f l, getC_eq]; rfl
structure Kw where
  k : Fm → Option (FuncId × List AV)
noncomputable def calleeW (c : Call) : Kw := match c.callee with
  | .value x => match x with
    | .func g => Gl.rec (fun r => Bool.rec ⟨fun _ => none⟩ ⟨fun f => Option.rec none (fun vs => some (g, vs)) (r f)⟩ (Nat.blt g 1048576)) (argsW c.args.toList)
    | _ => ⟨fun f => callee f c⟩
  | _ => ⟨fun _ => none⟩
theorem calleeW_eq (c : Call) (f : Fm) : (calleeW c).k f = callee f c := by
  obtain ⟨cal, args, tys⟩ := c
  cases cal with
  | value x =>
    cases x with
    | func g =>
      show Kw.k (Bool.rec ⟨fun _ => none⟩ ⟨fun f => Option.rec none (fun vs => some (g, vs)) ((argsW args.toList).g f)⟩ (Nat.blt g 1048576) : Kw) f = _
      unfold callee
      simp only [aev]
      cases hb : Nat.blt g 1048576 with
      | false =>
        simp only
        cases mapO (aev f) args.toList <;> simp [hb]
      | true =>
        simp only [argsW_eq]
        cases mapO (aev f) args.toList with
        | none => rfl
        | some vs => simp [hb]
    | _ => rfl
  | _ => rfl
noncomputable def callC (o : Oper) : OpC := match o.op with
  | .call c => Kw.rec (fun k => .call k) (calleeW c)
  | _ => .no 14
noncomputable def opC (P : Program) (o : Oper) : OpC := match cls P o.op with
  | .pure => pureC P o
  | .read => readC P o
  | .alloc => allocC P o
  | .eff => effC P o
  | .call => callC o
  | .no => .no 15
/-- Whether an operation is wanted, told ahead. -/
inductive Ww where
  | yes
  | ask (g : Fm → Option AV) (b : Bool)
  | no
noncomputable def wantW (ops : List Oper) (o : Oper) : Ww := match o.guard with
  | none => .yes
  | some (j, b) => match ops[j]? with
    | some q => match q.dst with
      | some d => Gt.rec (fun g => .ask g b) (slotW d)
      | none => .no
    | none => .no
noncomputable def askF (b : Bool) (v : Option AV) : Option Bool := match v with
  | some (.bool c) => some (c == b)
  | some (.tup []) => some false
  | _ => none
noncomputable def Ww.f (w : Ww) (f : Fm) : Option Bool := Ww.rec (some true) (fun g b => askF b (g f)) none w
theorem wantW_eq (ops : List Oper) (o : Oper) (f : Fm) : (wantW ops o).f f = want ops f o := by
  unfold wantW want
  split
  · rfl
  · rename_i j b h
    cases ops[j]? with
    | none => rfl
    | some q =>
      simp only
      cases q.dst with
      | none => rfl
      | some d =>
        show askF b ((slotW d).g f) = match f.t.at d with
          | some (.bool c) => some (c == b)
          | some (.tup []) => some false
          | _ => none
        rw [slotW_eq]
        rfl

noncomputable def oPure (put : Fm → AV → (Fm → Res) → Res → Res) (f : Fm) (S : St) (k : Fm → St → Res) (why : List Nat) (r : Option AV) : Res := Option.rec (.no (2 :: why)) (fun v => put f v (fun f => k f S) (.no (1 :: why))) r
noncomputable def oRead (put : Fm → AV → (Fm → Res) → Res → Res) (f : Fm) (S : St) (k : Fm → St → Res) (why : List Nat) (r : Option AV) : Res := Option.rec (.no (4 :: why)) (fun v => put f v (fun f => k f S) (.no (3 :: why))) r
noncomputable def oAlloc (put : Fm → AV → (Fm → Res) → Res → Res) (f : Fm) (S : St) (k : Fm → St → Res) (why : List Nat) (r : Option (AV × AB)) : Res := Option.rec (.no (7 :: why)) (fun p => Prod.rec (fun v B => addB S B (fun S => put f v (fun f => k f S) (.no (5 :: why))) (.no (6 :: why))) p) r
noncomputable def oEff (put : Fm → AV → (Fm → Res) → Res → Res) (f : Fm) (k : Fm → St → Res) (why : List Nat) (r : Option (AV × St)) : Res := Option.rec (.no (9 :: why)) (fun p => Prod.rec (fun v S => forceS S fun S => put f v (fun f => k f S) (.no (8 :: why))) p) r
noncomputable def oCall (put : Fm → AV → (Fm → Res) → Res → Res) (ext : FuncId → List AV → Option AV) (call : FuncId → List AV → St → CRes) (f : Fm) (S : St) (k : Fm → St → Res) (why : List Nat) (r : Option (FuncId × List AV)) : Res :=
  Option.rec (.no (13 :: why)) (fun p => Prod.rec (fun g vs => Option.rec (CRes.rec (fun v S => put f v (fun f => k f S) (.no (11 :: why))) (fun w => .no (12 :: w ++ why)) (call g vs S)) (fun v => put f v (fun f => k f S) (.no (10 :: why))) (ext g vs)) p) r
/-- A step, told ahead. -/
structure StC where
  s : Nat → (FuncId → List AV → Option AV) → (FuncId → List AV → St → CRes) → Fm → St → (Fm → St → Res) → List Nat → Res
noncomputable def stepY (put : Fm → AV → (Fm → Res) → Res → Res) (c : OpC) : StC :=
  OpC.rec (fun g => ⟨fun _ _ _ f S k why => oPure put f S k why (g f)⟩) (fun g => ⟨fun _ _ _ f S k why => oRead put f S k why (g f S)⟩) (fun g => ⟨fun _ _ _ f S k why => fNat S.next fun nx => oAlloc put f S k why (g nx f)⟩)
    (fun g => ⟨fun K _ _ f S k why => oEff put f k why (g K f S)⟩) (fun g => ⟨fun _ ext call f S k why => oCall put ext call f S k why (g f)⟩) (fun n => ⟨fun _ _ _ _ _ _ why => .no (n :: why)⟩) c
noncomputable def stepW (put : Fm → AV → (Fm → Res) → Res → Res) (w : Ww) (c : OpC) : StC :=
  Ww.rec (stepY put c) (fun g b => StC.rec (fun s => ⟨fun K ext call f S k why => Option.rec (.no (17 :: why)) (fun a => Bool.rec (put f (.tup []) (fun f => k f S) (.no (16 :: why))) (s K ext call f S k why) a) (askF b (g f))⟩) (stepY put c)) ⟨fun _ _ _ _ _ _ why => .no (17 :: why)⟩ w
noncomputable def stepC (P : Program) (ops : List Oper) (o : Oper) : StC := Dw.rec (fun put => stepW put (wantW ops o) (opC P o)) (dstW o.dst)
/-- One operation, as it is read. -/
noncomputable def doOp (K : Nat) (P : Program) (ext : FuncId → List AV → Option AV) (call : FuncId → List AV → St → CRes) (f : Fm) (S : St) (o : Oper) (k : Fm → St → Res) (why : List Nat) : Res := match cls P o.op with
  | .pure => match pureOp P f o with
    | some v => putK f o.dst v (fun f => k f S) (.no (1 :: why))
    | none => .no (2 :: why)
  | .read => match readOp P f S o with
    | some v => putK f o.dst v (fun f => k f S) (.no (3 :: why))
    | none => .no (4 :: why)
  | .alloc => fNat S.next fun nx => match allocOp P nx f o with
    | some (v, B) => addB S B (fun S => putK f o.dst v (fun f => k f S) (.no (5 :: why))) (.no (6 :: why))
    | none => .no (7 :: why)
  | .eff => match effOp K P f S o with
    | some (v, S) => forceS S fun S => putK f o.dst v (fun f => k f S) (.no (8 :: why))
    | none => .no (9 :: why)
  | .call => match o.op with
    | .call c => match callee f c with
      | some (g, vs) => match ext g vs with
        | some v => putK f o.dst v (fun f => k f S) (.no (10 :: why))
        | none => match call g vs S with
          | .ok v S => putK f o.dst v (fun f => k f S) (.no (11 :: why))
          | .no w => .no (12 :: w ++ why)
      | none => .no (13 :: why)
    | _ => .no (14 :: why)
  | .no => .no (15 :: why)
theorem stepY_eq (K : Nat) (P : Program) (ext : FuncId → List AV → Option AV) (call : FuncId → List AV → St → CRes) (f : Fm) (S : St) (o : Oper) (k : Fm → St → Res) (why : List Nat) :
    (stepY (dstW o.dst).put (opC P o)).s K ext call f S k why = doOp K P ext call f S o k why := by
  unfold doOp opC
  cases hc : cls P o.op with
  | pure =>
    simp only; rw [pureC_eq]
    show oPure (dstW o.dst).put f S k why (pureOp P f o) = _
    unfold oPure
    cases pureOp P f o with
    | none => rfl
    | some v => exact dstW_eq _ _ _ _ _
  | read =>
    simp only; rw [readC_eq]
    show oRead (dstW o.dst).put f S k why (readOp P f S o) = _
    unfold oRead
    cases readOp P f S o with
    | none => rfl
    | some v => exact dstW_eq _ _ _ _ _
  | alloc =>
    simp only; rw [allocC_eq]
    show (fNat S.next fun nx => oAlloc (dstW o.dst).put f S k why (allocOp P nx f o)) = _
    rw [fNat_eq, fNat_eq]
    unfold oAlloc
    cases allocOp P S.next f o with
    | none => rfl
    | some p =>
      obtain ⟨v, B⟩ := p
      show addB S B (fun S => (dstW o.dst).put f v (fun f => k f S) (.no (5 :: why))) _ = _
      simp only [dstW_eq]
  | eff =>
    simp only; rw [effC_eq]
    show oEff (dstW o.dst).put f k why (effOp K P f S o) = _
    unfold oEff
    cases effOp K P f S o with
    | none => rfl
    | some p =>
      obtain ⟨v, S'⟩ := p
      show forceS S' (fun S => (dstW o.dst).put f v (fun f => k f S) (.no (8 :: why))) = _
      simp only [dstW_eq]
  | call =>
    simp only
    unfold callC
    split
    · rename_i c ho
      show oCall (dstW o.dst).put ext call f S k why ((calleeW c).k f) = _
      rw [calleeW_eq]
      unfold oCall
      cases callee f c with
      | none => rfl
      | some p =>
        obtain ⟨g, vs⟩ := p
        simp only
        cases ext g vs with
        | some v => exact dstW_eq _ _ _ _ _
        | none =>
          simp only
          cases call g vs S with
          | ok v S' => exact dstW_eq _ _ _ _ _
          | no w => rfl
    · rfl
  | no => rfl

noncomputable def doOps (K : Nat) (P : Program) (ext : FuncId → List AV → Option AV) (call : FuncId → List AV → St → CRes) (ops : List Oper) (id : Nat) (l : List Oper) : Fm → St → Res :=
  List.rec (motive := fun _ => Fm → St → Res) (fun f S => .normal f S)
    (fun o l ih f S => StC.rec (fun s => s K ext call f S ih [id, l.length]) (stepC P ops o)) l
theorem doOps_cons (K : Nat) (P : Program) (ext : FuncId → List AV → Option AV) (call : FuncId → List AV → St → CRes) (ops : List Oper) (id : Nat) (o : Oper) (l : List Oper) (f : Fm) (S : St) :
    doOps K P ext call ops id (o :: l) f S = match want ops f o with
      | some true => doOp K P ext call f S o (doOps K P ext call ops id l) [id, l.length]
      | some false => putK f o.dst (.tup []) (fun f => doOps K P ext call ops id l f S) (.no [16, id, l.length])
      | none => .no [17, id, l.length] := by
  show (stepW (dstW o.dst).put (wantW ops o) (opC P o)).s K ext call f S (doOps K P ext call ops id l) [id, l.length] = _
  rw [← wantW_eq]
  cases hw : wantW ops o with
  | yes => exact stepY_eq K P ext call f S o _ _
  | no => rfl
  | ask g b =>
    show (Option.rec (.no (17 :: [id, l.length])) (fun a => Bool.rec ((dstW o.dst).put f (.tup []) (fun f => doOps K P ext call ops id l f S) (.no (16 :: [id, l.length]))) ((stepY (dstW o.dst).put (opC P o)).s K ext call f S (doOps K P ext call ops id l) [id, l.length]) a) (askF b (g f)) : Res) = match askF b (g f) with
      | some true => doOp K P ext call f S o (doOps K P ext call ops id l) [id, l.length]
      | some false => putK f o.dst (.tup []) (fun f => doOps K P ext call ops id l f S) (.no [16, id, l.length])
      | none => .no [17, id, l.length]
    rw [stepY_eq, dstW_eq]
    cases askF b (g f) with
    | none => rfl
    | some a => cases a <;> rfl

/-- The results of a function. -/
noncomputable def resOf (P : Program) (f : Fm) (S : St) (r : ResultVar) : Option AV := match r with
  | .tmp t => f.t.at t
  | .cell a t => match f.t.at a with
    | some p => aLoad P S t p
    | none => none
noncomputable def aRes (P : Program) (fn : Func) (f : Fm) (S : St) : Option AV :=
  match mapO (resOf P f S) fn.results.toList with
  | some [v] => some v
  | some vs => some (.tup vs)
  | none => none

noncomputable def fin (P : Program) (fn : Func) (g : FuncId) : Res → CRes
  | .normal f S => match aRes P fn f S with
    | some v => .ok v S
    | none => .no [32, g]
  | .ret f S => match aRes P fn f S with
    | some v => .ok v S
    | none => .no [33, g]
  | .exit _ _ _ => .no [34, g]
  | .no w => .no (35 :: g :: w)

noncomputable def callB (P : Program) (run : Code → Fm → St → Res) (g : FuncId) (vs : List AV) (S : St) : CRes :=
  match P.funcs[g]? with
  | none => .no [30, g]
  | some fn => match fn.name == "runtime.NumGoroutine", fn.body with
    | false, some c => match Nat.ble vs.length fn.ntmps && (Nat.blt fn.ntmps 1048575 && Nat.blt g 1048576) with
      | true => fin P fn g (run c ⟨wr vs .e 0, fn.ntmps⟩ S)
      | false => .no [36, g]
    | _, _ => .no [31, g]

end Ex
end Go.Proofs.YtjdmkgnlakonbaaGreatDoor
namespace Go.Proofs.YtjdmkgnlakonbaaGreatDoor
namespace Ex

variable {P : Program}

/-- The widest fence, for a plain frame or for a round's. -/
abbrev wf (r : Option Nat) : Fence := { Fence.wide with round := r }

/-- No live block of S lies at b. -/
def Unl (S : St) (ρ : Rho) (b : Nat) : Prop := ∀ i n A, S.heap.at i = some A → A.live = true → ρ i ≠ some (b, n)

/-- A step of the run. -/
structure Stp (K : Nat) (S S' : St) (ρ σ : Rho) (w w' : World) : Prop where
  le : ρ.le σ
  new : ∀ i b n A, S'.heap.at i = some A → A.live = true → σ i = some (b, n) →
    (ρ i = some (b, n) ∧ ∃ A', S.heap.at i = some A' ∧ A'.live = true) ∨ (K ≤ i ∧ (w.heap.size ≤ b ∨ ∃ j m A', K ≤ j ∧ S.heap.at j = some A' ∧ A'.live = true ∧ ρ j = some (b, m)))
  fr : Fr K S ρ w w'
theorem Up.stp {K : Nat} {S S' : St} {ρ σ : Rho} {w w' : World} (u : Up K S S' ρ σ w) (f : Fr K S ρ w w') : Stp K S S' ρ σ w w' := ⟨u.le, u.new, f⟩
theorem Stp.unl {K : Nat} {S S' : St} {ρ σ : Rho} {w w' : World} (s : Stp K S S' ρ σ w w') {b : Nat} (h : Unl S ρ b) (hb : b < w.heap.size) : Unl S' σ b := by
  intro i n A hA hl hr
  rcases s.new i b n A hA hl hr with ⟨h1, A', h2, h3⟩ | ⟨_, h1 | ⟨j, m, A', _, h2, h3, h4⟩⟩
  · exact h i n A' h2 h3 h1
  · omega
  · exact h j m A' h2 h3 h4
theorem Stp.block {K : Nat} {S S' : St} {ρ σ : Rho} {w w' : World} (s : Stp K S S' ρ σ w w') {b : Nat} (h : Unl S ρ b) (hb : b < w.heap.size) : w'.heap[b]? = w.heap[b]? :=
  s.fr.block b hb fun i n A _ hA hl => h i n A hA hl

/-- What a run keeps of the world around it. -/
structure Kept (K : Nat) where
  p : St → Rho → World → Prop
  base : Nat
  step : ∀ {S S' : St} {ρ σ : Rho} {w w' : World}, p S ρ w → Stp K S S' ρ σ w w' → p S' σ w'
  put : ∀ {S : St} {ρ : Rho} {w : World} (b : Nat) (o : Obj), p S ρ w → base ≤ b → p S ρ (w.putObj b o)
  size : ∀ {S : St} {ρ : Rho} {w : World}, p S ρ w → base ≤ w.heap.size

/-- The mark of a loop over a function. -/
def mark (b : Nat) : Deferred := { target := .collected b, args := #[] }
/-- The deferred calls are marks, whose blocks are untouched. -/
def MkOk (lo : Nat) (S : St) (ρ : Rho) (w : World) (ds : List Deferred) : Prop :=
  lo ≤ w.heap.size ∧ ∃ l : List Nat, ds = l.map mark ∧ l.Nodup ∧ ∀ b ∈ l, lo ≤ b ∧ b < w.heap.size ∧ w.heap[b]? = some (.deferred (some [])) ∧ Unl S ρ b
theorem MkOk.step {lo K : Nat} {S S' : St} {ρ σ : Rho} {w w' : World} {ds : List Deferred} (h : MkOk lo S ρ w ds) (s : Stp K S S' ρ σ w w') : MkOk lo S' σ w' ds := by
  obtain ⟨h0, l, h1, h2, h3⟩ := h
  refine ⟨Nat.le_trans h0 s.fr.size, l, h1, h2, fun b hb => ?_⟩
  obtain ⟨g1, g2, g3, g4⟩ := h3 b hb
  exact ⟨g1, Nat.lt_of_lt_of_le g2 s.fr.size, (s.block g4 g2).trans g3, s.unl g4 g2⟩
theorem MkOk.nil {S : St} {ρ : Rho} {w : World} : MkOk w.heap.size S ρ w [] := ⟨Nat.le_refl _, [], rfl, List.nodup_nil, by simp⟩
theorem put_defers (a : Act) (d : Option Nat) (x : Value) : (a.put d x).defers = a.defers := by cases d <;> rfl

/-- What is asked of a post-condition, if the executor ends so. -/
def RelQ (K lo : Nat) (S : St) (ρ : Rho) (w : World) (Q : Exit → Act → World → Prop) : Res → Prop
  | .normal f S' => ∀ a' w' σ, FR σ f a' → WR σ S' w' → MkOk lo S' σ w' a'.defers → Up K S S' ρ σ w → Fr K S ρ w w' → Q .normal a' w'
  | .exit id f S' => ∀ a' w' σ, FR σ f a' → WR σ S' w' → MkOk lo S' σ w' a'.defers → Up K S S' ρ σ w → Fr K S ρ w w' → Q (.exit id) a' w'
  | .ret f S' => ∀ a' w' σ, FR σ f a' → WR σ S' w' → MkOk lo S' σ w' a'.defers → Up K S S' ρ σ w → Fr K S ρ w w' → Q .ret a' w'
  | .no _ => False

theorem RelQ.step {K lo : Nat} {S S₁ : St} {ρ σ₁ : Rho} {w w₁ : World} {Q : Exit → Act → World → Prop} {r : Res} (h : RelQ K lo S ρ w Q r) (u : Up K S S₁ ρ σ₁ w) (fr : Fr K S ρ w w₁) : RelQ K lo S₁ σ₁ w₁ Q r := by
  cases r with
  | normal f S' => exact fun a' w' σ h1 h2 hm h3 h4 => h a' w' σ h1 h2 hm (u.trans fr.size h3) (fr.trans u h4)
  | exit id f S' => exact fun a' w' σ h1 h2 hm h3 h4 => h a' w' σ h1 h2 hm (u.trans fr.size h3) (fr.trans u h4)
  | ret f S' => exact fun a' w' σ h1 h2 hm h3 h4 => h a' w' σ h1 h2 hm (u.trans fr.size h3) (fr.trans u h4)
  | no w => exact h

/-- The run's own blocks lie beyond the world W, and W's blocks are as they were. -/
structure Zz (W : World) (K : Nat) (S : St) (ρ : Rho) (w : World) : Prop where
  out : ∀ i b n A, K ≤ i → S.heap.at i = some A → A.live = true → ρ i = some (b, n) → W.heap.size ≤ b
  below : RowKit.Below W.heap.size W w
theorem Zz.step {W : World} {K : Nat} {S S' : St} {ρ σ : Rho} {w w' : World} (h : Zz W K S ρ w) (s : Stp K S S' ρ σ w w') : Zz W K S' σ w' := by
  have f := s.fr
  refine ⟨fun i b n A hi hA hl hr => ?_, h.below.trans ⟨f.os, f.tape, f.output, f.size, fun b hb => f.block b (Nat.lt_of_lt_of_le hb h.below.size) fun i n A hi hA hl hr => ?_⟩⟩
  · rcases s.new i b n A hA hl hr with ⟨h1, A', h2, h3⟩ | ⟨_, h1 | ⟨j, m, A', hj, h2, h3, h4⟩⟩
    · exact h.out i b n A' hi h2 h3 h1
    · exact Nat.le_trans h.below.size h1
    · exact h.out j b m A' hj h2 h3 h4
  · have := h.out i b n A hi hA hl hr; omega
theorem below_put {B : Nat} {w w' : World} (h : RowKit.Below B w w') {b : Nat} (hb : B ≤ b) (o : Obj) : RowKit.Below B w (w'.putObj b o) :=
  ⟨h.os, h.tape, h.output, by rw [World.putObj_size]; exact h.size, fun k hk => by rw [World.putObj_heap_other (by omega)]; exact h.block k hk⟩
/-- What lies in the world W is kept. -/
def Kept.zz (W : World) (K : Nat) : Kept K where
  p := Zz W K
  base := W.heap.size
  step := Zz.step
  put := fun _ o h hb => ⟨h.out, below_put h.below hb o⟩
  size := fun h => h.below.size

/-- What a call of g promises; a number from 2^20 on is yield, of the loop whose record has that number less 2^20. -/
def Ent (P : Program) (g : FuncId) (ρ : Rho) (xs : Array Value) (w : World) (R : Ending → World → Prop) : Prop :=
  (g < 1048576 ∧ (∀ w₀, (callFunc g xs).run P w₀ = .ok (.enter g xs) w₀) ∧ Calls P g xs w R) ∨
  ∃ y b n, g = 1048576 + y ∧ ρ y = some (b, n) ∧ YieldAt Fence.wide 0 P b xs w R

theorem Ent.mono {g : FuncId} {ρ : Rho} {xs : Array Value} {w : World} {R R' : Ending → World → Prop} (h : Ent P g ρ xs w R) (hr : ∀ e w', R e w' → R' e w') : Ent P g ρ xs w R' := by
  rcases h with ⟨h0, h1, h2⟩ | ⟨y, b, n, h0, h1, fn, tmps, assign, body, h2, h3⟩
  · exact .inl ⟨h0, h1, h2.mono hr⟩
  · exact .inr ⟨y, b, n, h0, h1, fn, tmps, assign, body, h2, h3.mono hr⟩

/-- What a call gives. -/
def CallOk {K : Nat} (Z : Kept K) (P : Program) (call : FuncId → List AV → St → CRes) : Prop :=
  ∀ g vs S v S', call g vs S = .ok v S' → ∀ ρ xs w, VRL ρ vs xs → WR ρ S w → K ≤ S.next → Z.p S ρ w →
    Ent P g ρ xs.toArray w fun e w' => ∃ x σ, e = .returned x ∧ VR σ v x ∧ WR σ S' w' ∧ Up K S S' ρ σ w ∧ Fr K S ρ w w'

def ExtOk (P : Program) (ext : FuncId → List AV → Option AV) : Prop :=
  ∀ g vs v, ext g vs = some v → g < 1048576 ∧ ∀ ρ xs w, VRL ρ vs xs → ∃ x, (callFunc g xs.toArray).run P w = .ok (.value x) w ∧ VR ρ v x

/-- The same, or a call that gives a value without addresses and leaves all memory as it was. -/
def Ext2Ok {K : Nat} (Z : Kept K) (P : Program) (ext : FuncId → List AV → Option AV) : Prop :=
  ∀ g vs v, ext g vs = some v → g < 1048576 ∧ ∀ ρ xs w S, VRL ρ vs xs → Z.p S ρ w → (∃ x, (callFunc g xs.toArray).run P w = .ok (.value x) w ∧ VR ρ v x) ∨
    ((∀ w₀, (callFunc g xs.toArray).run P w₀ = .ok (.enter g xs.toArray) w₀) ∧ Calls P g xs.toArray w fun e w' => ∃ x, e = .returned x ∧ VR ρ v x ∧ RowKit.Below w.heap.size w w')
theorem ExtOk.two {K : Nat} {Z : Kept K} {ext : FuncId → List AV → Option AV} (h : ExtOk P ext) : Ext2Ok Z P ext :=
  fun g vs v hv => ⟨(h g vs v hv).1, fun ρ xs w _ hx _ => .inl ((h g vs v hv).2 ρ xs w hx)⟩
theorem Ext2Ok.sub {K : Nat} {Z Z' : Kept K} {ext : FuncId → List AV → Option AV} (h : Ext2Ok Z P ext) (hz : ∀ S ρ w, Z'.p S ρ w → Z.p S ρ w) : Ext2Ok Z' P ext :=
  fun g vs v hv => ⟨(h g vs v hv).1, fun ρ xs w S hx hp => (h g vs v hv).2 ρ xs w S hx (hz _ _ _ hp)⟩

theorem putK_ok {f : Fm} {d : Option Nat} {v : AV} {k : Fm → Res} {no : Res} {K lo : Nat} {S : St} {ρ : Rho} {w : World} {Q : Exit → Act → World → Prop} {a : Act} {x : Value} (h : RelQ K lo S ρ w Q (putK f d v k no)) (hno : RelQ K lo S ρ w Q no → False)
    (hf : FR ρ f a) (hv : VR ρ v x) : ∃ f', FR ρ f' (a.put d x) ∧ RelQ K lo S ρ w Q (k f') := by
  cases d with
  | none => exact ⟨f, hf, h⟩
  | some d =>
    rw [putK_old] at h
    cases hc : (Nat.blt d f.n && Nat.blt d 1048575) with
    | false => rw [hc] at h; exact (hno h).elim
    | true =>
      rw [hc] at h
      simp only [Bool.and_eq_true, Nat.blt_eq] at hc
      exact ⟨_, hf.put (d := some d) (fun i hi => by injection hi with hi; subst hi; exact hc.1) (fun i hi => by injection hi with hi; subst hi; exact hc.2) hv, h⟩

theorem want_ok {ops : Array Oper} {f : Fm} {o : Oper} {b : Bool} {ρ : Rho} {a : Act} (h : want ops.toList f o = some b) (hf : FR ρ f a) : Region.wanted o (yielded ops a.tmps) = b := by
  unfold want at h
  unfold Region.wanted
  split at h
  · rename_i hg; rw [hg]; injection h
  · rename_i j c hg; rw [hg]
    split at h
    · rename_i q hq
      have hq : ops[j]? = some q := by simpa using hq
      split at h
      · rename_i d hd
        split at h
        · rename_i c' hc
          obtain ⟨x, hx, hv⟩ := hf.2.2 d _ hc
          simp only [VR] at hv; subst hv
          injection h with h; subst h
          cases c <;> cases c' <;> simp [yielded, hq, hd, hx]
        · rename_i hc
          obtain ⟨x, hx, hv⟩ := hf.2.2 d _ hc
          simp only [VR] at hv
          obtain ⟨xs, e, hxs⟩ := hv
          simp only [VRL] at hxs; subst hxs; subst e
          injection h with h; subst h
          simp [yielded, hq, hd, hx]
        · cases h
      · cases h
    · cases h

theorem callee_ok {f : Fm} {c : Call} {g : FuncId} {vs : List AV} {ρ : Rho} {a : Act} (h : callee f c = some (g, vs)) (hf : FR ρ f a) (ty : TypeId) (w : World) :
    ∃ xs, VRL ρ vs xs ∧ ((g < 1048576 ∧ (do let d ← resolve a.eval c ty; invoke d.target d.args : Sem Next).run P w = (callFunc g xs.toArray).run P w) ∨
      ∃ y b n, g = 1048576 + y ∧ ρ y = some (b, n) ∧ (do let d ← resolve a.eval c ty; invoke d.target d.args : Sem Next).run P w = (Instr.yield b xs.toArray).run P w) := by
  unfold callee at h
  split at h
  · rename_i x hx
    split at h
    · rename_i g' cap us hg hu
      cases hb : Nat.blt g' 1048576 with
      | false => rw [hb] at h; cases h
      | true =>
        rw [hb] at h
        rw [Nat.blt_eq] at hb
        injection h with h; injection h with e1 e2; subst e1; subst e2
        have h1 := aev_ok hf hg
        simp only [VR] at h1
        obtain ⟨ys, e, hys⟩ := h1
        have h2 := mapO_VRL (e := a.eval) (fun x v hx => aev_ok hf hx) hu
        refine ⟨_, h2.append hys, .inl ⟨hb, ?_⟩⟩
        have e3 : c.args.map a.eval = (c.args.toList.map a.eval).toArray := by apply Array.ext'; simp
        simp only [resolve, hx, e, Deferred.ofValue, Sem.run_bind, Sem.run_pure, Result.andThen_ok, invoke, e3]
        congr 2
        simp
    · rename_i y us hg hu
      injection h with h; injection h with e1 e2; subst e1; subst e2
      have h1 := aev_ok hf hg
      simp only [VR] at h1
      obtain ⟨b, n, hy, e⟩ := h1
      have h2 := mapO_VRL (e := a.eval) (fun x v hx => aev_ok hf hx) hu
      refine ⟨_, h2, .inr ⟨y, b, n, rfl, hy, ?_⟩⟩
      have e3 : c.args.map a.eval = (c.args.toList.map a.eval).toArray := by apply Array.ext'; simp
      simp only [resolve, hx, e, Deferred.ofValue, Sem.run_bind, Sem.run_pure, Result.andThen_ok, invoke, e3]
      congr 2
      simp
    · cases h
  · cases h

theorem fid_no {g : FuncId} {y : Nat} (h : g < 1048576) (e : g = 1048576 + y) : False := by
  have h : @LT.lt Nat _ g 1048576 := h
  have e : @Eq Nat g (1048576 + y) := e
  omega
theorem fid_eq {g : FuncId} {y y' : Nat} (h : g = 1048576 + y) (e : g = 1048576 + y') : y' = y := by
  have h : @Eq Nat g (1048576 + y) := h
  have e : @Eq Nat g (1048576 + y') := e
  omega
/-- An operation that calls. -/
theorem callOp_ok {K : Nat} {Z : Kept K} {call : FuncId → List AV → St → CRes} (hcall : CallOk Z P call) {o : Oper} {c : Call} (ho : o.op = .call c) {f : Fm} {g : FuncId} {vs : List AV} {S S' : St} {v : AV} {ρ : Rho} {a : Act} {w : World}
    (hg : callee f c = some (g, vs)) (hv : call g vs S = .ok v S') (hf : FR ρ f a) (hw : WR ρ S w) (hK : K ≤ S.next) (hz : Z.p S ρ w) {r : Option Nat} {n : Nat} {next : Act → World → Prop} {Q : Exit → Act → World → Prop}
    (hn : ∀ x σ w', VR σ v x → WR σ S' w' → Up K S S' ρ σ w → Fr K S ρ w w' → next (a.put o.dst x) w') : o.wpIn (wf r) n P a w next Q := by
  have hex : execOp a.eval o = (do let d ← resolve a.eval c o.type; invoke d.target d.args : Sem Next) := by unfold execOp; rw [ho]
  obtain ⟨xs, hxs, hrun⟩ := callee_ok (P := P) hg hf o.type w
  refine ⟨fun _ _ => trivial, ?_⟩
  rw [Oper.semAt_eq _ _ _ (by rw [ho]; intro c h; cases h), hex]
  rcases hcall g vs S v S' hv ρ xs w hxs hw hK hz with ⟨h0, h1, h2⟩ | ⟨y, b, m, h0, h1, h2⟩
  · rcases hrun with ⟨_, hr⟩ | ⟨y, b, m, e, _⟩
    · rw [hr, h1, Oper.uponIn_enter]
      refine ⟨fun h => (by cases h), (callsIn_wide (n := n - 1)).2 (h2.mono ?_)⟩
      rintro e w' ⟨x, σ, rfl, q1, q2, q3, q4⟩
      exact hn x σ w' q1 q2 q3 q4
    · exact (fid_no h0 e).elim
  · rcases hrun with ⟨h, _⟩ | ⟨y', b', m', e, e2, hr⟩
    · exact (fid_no h h0).elim
    · have ey : y' = y := fid_eq h0 e
      subst ey
      rw [h1] at e2; injection e2 with e2; injection e2 with e2 e3; subst e2
      obtain ⟨fn, tmps, assign, body, q1, q2⟩ := h2
      rw [hr, q1, Oper.uponIn_round]
      refine ⟨fun h => (by cases h), RoundIn.mono (F := wf r) ⟨trivial, fun c cs _ => q2.2 c cs (room_wide _)⟩ ?_⟩
      rintro e w' ⟨x, σ, rfl, q1, q2, q3, q4⟩
      exact hn x σ w' q1 q2 q3 q4

/-- An operation that gives a value, or nothing. -/
theorem valOp_ok {o : Oper} (hd : ∀ c, o.op ≠ .defer c) {a : Act} {w w' : World} {x : Value} (h : (execOp a.eval o).run P w = .ok (.value x) w') {r : Option Nat} {n : Nat} {next : Act → World → Prop} {Q : Exit → Act → World → Prop}
    (hn : next (a.put o.dst x) w') : o.wpIn (wf r) n P a w next Q := by
  refine ⟨fun _ _ => trivial, ?_⟩
  rw [Oper.semAt_eq _ _ _ hd, h, Oper.uponIn_value]; exact hn
theorem skipOp_ok {o : Oper} (hd : ∀ c, o.op ≠ .defer c) {a : Act} {w w' : World} (h : (execOp a.eval o).run P w = .ok .skip w') {r : Option Nat} {n : Nat} {next : Act → World → Prop} {Q : Exit → Act → World → Prop}
    (hn : next (a.put o.dst undef) w') : o.wpIn (wf r) n P a w next Q := by
  refine ⟨fun _ _ => trivial, ?_⟩
  rw [Oper.semAt_eq _ _ _ hd, h, Oper.uponIn_skip]; exact hn
theorem value_no_defer {o : Oper} {e : Operand → Value} {w w' : World} {x : Value} (h : (execOp e o).run P w = .ok (.value x) w') : ∀ c, o.op ≠ .defer c := by
  intro c hc
  unfold execOp at h
  rw [hc] at h
  simp only [Sem.run_bind] at h
  cases hr : (resolve e c o.type).run P w with
  | ok d w1 => rw [hr] at h; simp [Result.andThen] at h
  | halt s w1 => rw [hr] at h; simp [Result.andThen] at h
theorem skip_no_defer {o : Oper} {e : Operand → Value} {w w' : World} (h : (execOp e o).run P w = .ok .skip w') : ∀ c, o.op ≠ .defer c := by
  intro c hc
  unfold execOp at h
  rw [hc] at h
  simp only [Sem.run_bind] at h
  cases hr : (resolve e c o.type).run P w with
  | ok d w1 => rw [hr] at h; simp [Result.andThen] at h
  | halt s w1 => rw [hr] at h; simp [Result.andThen] at h

theorem doOps_ok {K : Nat} {Z : Kept K} {r : Option Nat} {n lo : Nat} {ext : FuncId → List AV → Option AV} {call : FuncId → List AV → St → CRes} (hext : ExtOk P ext) (hcall : CallOk Z P call) {ops : Array Oper} {id : Nat} {Q : Exit → Act → World → Prop} :
    ∀ (l : List Oper) (f : Fm) (S : St) (ρ : Rho) (a : Act) (w : World), FR ρ f a → WR ρ S w → MkOk lo S ρ w a.defers → K ≤ S.next → Z.p S ρ w → RelQ K lo S ρ w Q (doOps K P ext call ops.toList id l f S) → wpListIn (wf r) n P ops Q l a w
  | [], f, S, ρ, a, w, hf, hw, hm, hK, hz, h => h a w ρ hf hw hm (Up.refl K S ρ w) (Fr.refl K S ρ w)
  | o :: l, f, S, ρ, a, w, hf, hw, hm, hK, hz, h => by
    rw [doOps_cons] at h
    have ih := doOps_ok (r := r) (n := n) (lo := lo) hext hcall (ops := ops) (id := id) (Q := Q) l
    unfold wpListIn
    split at h
    · rename_i hwant
      rw [want_ok hwant hf]
      simp only [if_true]
      unfold doOp at h
      split at h
      · split at h
        · rename_i v hv
          obtain ⟨x, h1, h2⟩ := pureOp_ok hv hf w
          obtain ⟨f', h3, h4⟩ := putK_ok h (fun h => h) hf h2
          exact valOp_ok (value_no_defer h1) h1 (ih f' S ρ _ w h3 hw (by rw [put_defers]; exact hm) hK hz h4)
        · exact h.elim
      · split at h
        · rename_i v hv
          obtain ⟨x, h1, h2⟩ := readOp_ok hv hf hw
          obtain ⟨f', h3, h4⟩ := putK_ok h (fun h => h) hf h2
          exact valOp_ok (value_no_defer h1) h1 (ih f' S ρ _ w h3 hw (by rw [put_defers]; exact hm) hK hz h4)
        · exact h.elim
      · rw [fNat_eq] at h
        split at h
        · rename_i v B hv
          obtain ⟨x, ob, n, w', h1, h2, h3, h4, h5, h6⟩ := allocOp_ok hv hf w
          rw [addB_old] at h
          cases hc : Nat.blt (Nat.succ S.next) 1048575 with
          | false => rw [hc] at h; exact h.elim
          | true =>
            rw [hc] at h
            rw [Nat.blt_eq] at hc
            have hle := Rho.le_set (p := (w.heap.size, n)) (hw.dom S.next (Nat.le_refl _)).1
            obtain ⟨hv', hB⟩ := h6 _ hle (Rho.set_same _ _ _)
            have hu : Up K S ⟨S.heap.to S.next B, S.next + 1⟩ ρ (ρ.set S.next (w.heap.size, n)) w := Up.set hw hK _ _
            have hfr : Fr K S ρ w w' := ⟨h3, h4, h5, by rw [h2]; simp, fun b hb _ => by rw [h2, Array.getElem?_push, if_neg (by omega)]⟩
            have h := h.step hu hfr
            obtain ⟨f', q3, q4⟩ := putK_ok h (fun h => h) (hf.mono hle) hv'
            exact valOp_ok (value_no_defer h1) h1 (ih f' _ _ _ w' q3 (hw.new hB h2 hc) (by rw [put_defers]; exact hm.step (hu.stp hfr)) (Nat.le_succ_of_le hK) (Z.step hz (hu.stp hfr)) q4)
        · exact h.elim
      · split at h
        · rename_i v S' hv
          obtain ⟨x, w', σ, h1, h2, h3, h4, h5⟩ := effOp_ok hv hf hw hK
          rw [forceS_eq] at h
          have h := h.step h2 h5
          obtain ⟨f', q3, q4⟩ := putK_ok h (fun h => h) (hf.mono h2.le) h4
          rcases h1 with h1 | ⟨h1, hx⟩
          · exact valOp_ok (value_no_defer h1) h1 (ih f' S' σ _ w' q3 h3 (by rw [put_defers]; exact hm.step (h2.stp h5)) (Nat.le_trans hK h2.next) (Z.step hz (h2.stp h5)) q4)
          · subst hx
            exact skipOp_ok (skip_no_defer h1) h1 (ih f' S' σ _ w' q3 h3 (by rw [put_defers]; exact hm.step (h2.stp h5)) (Nat.le_trans hK h2.next) (Z.step hz (h2.stp h5)) q4)
        · exact h.elim
      · split at h
        · rename_i c hc
          split at h
          · rename_i g vs hg
            split at h
            · rename_i v hv
              obtain ⟨xs, hxs, hrun⟩ := callee_ok (P := P) hg hf o.type w
              obtain ⟨hlt, he⟩ := hext g vs v hv
              obtain ⟨x, h1, h2⟩ := he ρ xs w hxs
              obtain ⟨f', h3, h4⟩ := putK_ok h (fun h => h) hf h2
              rcases hrun with ⟨_, hr⟩ | ⟨y, b, m, e, _⟩
              · have hex : execOp a.eval o = (do let d ← resolve a.eval c o.type; invoke d.target d.args : Sem Next) := by unfold execOp; rw [hc]
                exact valOp_ok (by rw [hc]; intro c h; cases h) (by rw [hex, hr, h1]) (ih f' S ρ _ w h3 hw (by rw [put_defers]; exact hm) hK hz h4)
              · exact (fid_no hlt e).elim
            · split at h
              · rename_i v S' hv
                refine callOp_ok hcall hc hg hv hf hw hK hz fun x σ w' hx hw' hu hfr => ?_
                have h := h.step hu hfr
                obtain ⟨f', h3, h4⟩ := putK_ok h (fun h => h) (hf.mono hu.le) hx
                exact ih f' S' σ _ w' h3 hw' (by rw [put_defers]; exact hm.step (hu.stp hfr)) (Nat.le_trans hK hu.next) (Z.step hz (hu.stp hfr)) h4
              · exact h.elim
          · exact h.elim
        · exact h.elim
      · exact h.elim
    · rename_i hwant
      rw [want_ok hwant hf]
      simp only [Bool.false_eq_true, if_false]
      obtain ⟨f', h3, h4⟩ := putK_ok h (fun h => h) hf (show VR ρ (.tup []) undef by simp only [VR]; exact ⟨[], rfl, by simp [VRL]⟩)
      exact ⟨fun _ _ => trivial, ih f' S ρ _ w h3 hw (by rw [put_defers]; exact hm) hK hz h4⟩
    · exact h.elim

end Ex
end Go.Proofs.YtjdmkgnlakonbaaGreatDoor
namespace Go.Proofs.YtjdmkgnlakonbaaGreatDoor
namespace Ex

variable {P : Program}

/-- The ends that the executor knows. -/
def Known (e : Exit) : Prop := e = .normal ∨ (∃ id, e = .exit id) ∨ e = .ret

theorem exitTo_le {id : Nat} : ∀ {k k' : List Item}, exitTo id k = some k' → k'.length ≤ k.length
  | [], k', h => by simp [exitTo] at h
  | x :: k, k', h => by
    cases x <;> simp only [exitTo] at h <;> first
      | exact Nat.le_succ_of_le (exitTo_le h)
      | (split at h
         · injection h with h; subst h; simp
         · exact Nat.le_succ_of_le (exitTo_le h))

theorem steps_tail {I : Machine → Prop} {m X m' : Machine} (h : StepsIn I P m m') (hs : step P m = .next X) (hne : m ≠ m') : StepsIn I P X m' := by
  cases h with
  | refl => exact absurd rfl hne
  | head _ h1 h2 =>
    rw [hs] at h1
    injection h1 with h1
    rw [h1]; exact h2

theorem todo_ne {b : Frame} {a a' : Act} {t t' : List Item} {cs : List Frame} {w w' : World} (h : t ≠ t') : lone (b.atR a t) cs w ≠ lone (b.atR a' t') cs w' := by
  intro e
  have e := congrArg (fun m : Machine => (m.gs[0]?).map fun g => g.frame.todo) e
  simp [lone, Frame.atR] at e
  exact h e

theorem mode_ne {b : Frame} {a a' : Act} {t t' : List Item} {cs : List Frame} {w w' : World} : lone (b.atR a t) cs w ≠ lone { b.atR a' t' with mode := .returning } cs w' := by
  intro e
  have e := congrArg (fun m : Machine => (m.gs[0]?).map fun g => (match g.frame.mode with | .run => true | _ => false)) e
  simp [lone, Frame.atR] at e

theorem wp_unroll {F : Fence} {n : Nat} {c : Code} {Q : Exit → Act → World → Prop} {a : Act} {w : World} (hq : ∀ e a w, Q e a w → Known e) (h : c.wpIn F n P (Exit.then ((Code.loop c).wpIn F n P Q) Q) a w) : (Code.loop c).wpIn F n P Q a w := by
  intro b k cs hro hb hr
  have h0 : (lone (b.atR a (.code (.loop c) :: k)) cs w).fenced P F := fenced_calm hb hr rfl
  obtain ⟨e, a1, w1, hq1, harr⟩ := h b (.inLoop c :: k) cs hro hb hr
  cases e with
  | normal =>
    obtain ⟨e2, a2, w2, hQ, harr2⟩ := hq1 b k cs hro hb hr
    refine ⟨e2, a2, w2, hQ, ?_⟩
    have s1 : StepsIn (Machine.fenced P F) P (lone (b.atR a (.code (.loop c) :: k)) cs w) (lone (b.atR a1 (.code c :: .inLoop c :: k)) cs w1) :=
      .head h0 stepR_loop (StepsIn.trans harr (.one (fenced_calm hb hr rfl) stepR_inLoop))
    refine ArrivesIn.of_steps s1 ?_
    rcases hq e2 a2 w2 hQ with rfl | ⟨id, rfl⟩ | rfl
    · exact steps_tail harr2 stepR_loop (todo_ne (by intro h; exact absurd (congrArg List.length h) (by simp)))
    · refine ⟨fun k' hk => steps_tail (harr2.1 k' hk) stepR_loop (todo_ne (by intro h; have := exitTo_le hk; rw [← h] at this; simp at this; omega)), fun hr' hk => ?_⟩
      obtain ⟨k₁, q1, q2⟩ := harr2.2 hr' hk
      exact ⟨k₁, q1, steps_tail q2 stepR_loop (todo_ne (by intro h; injection h with h; injection h with h; cases h))⟩
    · refine ⟨fun hr' => ?_, fun hr' => ?_⟩
      · obtain ⟨todo, hs⟩ := harr2.1 hr'
        exact ⟨todo, steps_tail hs stepR_loop mode_ne⟩
      · obtain ⟨k₁, hs⟩ := harr2.2 hr'
        exact ⟨k₁, steps_tail hs stepR_loop (todo_ne (by intro h; injection h with h; injection h with h; cases h))⟩
  | exit id => exact ⟨_, a1, w1, hq1, .of_steps (.one h0 stepR_loop) (.pass (x := .inLoop c) rfl (fun _ _ => .inl (by simp)) harr)⟩
  | goto l => exact ⟨_, a1, w1, hq1, .of_steps (.one h0 stepR_loop) (.pass (x := .inLoop c) rfl (fun _ _ => .inl (by simp)) harr)⟩
  | ret => exact ⟨_, a1, w1, hq1, .of_steps (.one h0 stepR_loop) (.pass (x := .inLoop c) rfl (fun _ _ => .inl (by simp)) harr)⟩
  | panic ch => exact ⟨_, a1, w1, hq1, .of_steps (.one h0 stepR_loop) (.pass (x := .inLoop c) rfl (fun _ _ => .inl (by simp)) harr)⟩
  | outgrown => exact ⟨_, a1, w1, hq1, .of_steps (.one h0 stepR_loop) (.pass (x := .inLoop c) rfl (fun _ _ => .inl (by simp)) harr)⟩

theorem stepR_scope {b : Frame} {a : Act} {k : List Item} {cs : List Frame} {w : World} {c : Code} : step P (lone (b.atR a (.code (.scope c) :: k)) cs w) = .next (lone (b.atR a (.code c :: .inScope c :: k)) cs w) :=
  step_lone_go (by simp [stepG, stepG.exec, Frame.atR])
theorem stepR_inScope {b : Frame} {a : Act} {k : List Item} {cs : List Frame} {w : World} {c : Code} : step P (lone (b.atR a (.inScope c :: k)) cs w) = .next (lone (b.atR a k) cs w) :=
  step_lone_go (by simp [stepG, stepG.exec, Frame.atR])

theorem wpIn_scope_straight {F : Fence} {n : Nat} {c : Code} {Q : Exit → Act → World → Prop} {a : Act} {w : World} (h : c.wpIn F n P (Exit.noGoto Q) a w) : (Code.scope c).wpIn F n P Q a w := by
  intro b k cs hro hb hr
  have h0 : (lone (b.atR a (.code (.scope c) :: k)) cs w).fenced P F := fenced_calm hb hr rfl
  obtain ⟨e, a₁, w₁, hq, harr⟩ := h b (.inScope c :: k) cs hro hb hr
  cases e with
  | normal => exact ⟨.normal, a₁, w₁, hq, .head h0 stepR_scope (StepsIn.trans harr (.one (fenced_calm hb hr rfl) stepR_inScope))⟩
  | exit id =>
    have hx : exitTo id (.inScope c :: k) = exitTo id k := by simp [exitTo]
    exact ⟨.exit id, a₁, w₁, hq, fun k' hk => .head h0 stepR_scope (harr.1 k' (by rw [hx]; exact hk)),
      fun hr' hk => let ⟨k₁, h1, h2⟩ := harr.2 hr' (by rw [hx]; exact hk); ⟨k₁, h1, .head h0 stepR_scope h2⟩⟩
  | goto l => exact hq.elim
  | ret => exact ⟨_, a₁, w₁, hq, .of_steps (.one h0 stepR_scope) harr⟩
  | panic ch => exact ⟨_, a₁, w₁, hq, .of_steps (.one h0 stepR_scope) harr⟩
  | outgrown => exact ⟨_, a₁, w₁, hq, .of_steps (.one h0 stepR_scope) harr⟩

end Ex
end Go.Proofs.YtjdmkgnlakonbaaGreatDoor
namespace Go.Proofs.YtjdmkgnlakonbaaGreatDoor
namespace Ex

variable {P : Program}

/-- No loop over a function stands in a code. -/
noncomputable def noRF (c : Code) : Bool :=
  Code.rec (motive := fun _ => Bool) true (fun _ _ _ => true) (fun _ _ a b => a && b) (fun _ _ _ a b => a && b) (fun _ _ a => a) (fun _ a => a) (fun _ _ _ _ _ _ => false) (fun _ => true) (fun _ a => a) (fun _ => true) (fun _ => true) true (fun _ => true) c

/-- Slots written with values, in order. -/
noncomputable def setL (ps : List Nat) : List AV → Fm → Option Fm :=
  List.rec (motive := fun _ => List AV → Fm → Option Fm) (fun vs f => match vs with
    | [] => some f
    | _ => none) (fun p _ ih vs f => match vs with
    | [] => none
    | v :: vs => Bool.rec none (ih vs ⟨f.t.to p v, f.n⟩) (Nat.blt p f.n && Nat.blt p 1048575)) ps

/-- Yield of the loop y: its left sides, and its body. -/
noncomputable def yl (f : Fm) (ps : List Nat) (ia ib : Fm → St → Res) (y : Nat) : FuncId → List AV → St → CRes := fun g vs S =>
  match Nat.beq g (Nat.add 1048576 y), setL ps vs f with
  | true, some f' => match ia f' S with
    | .normal f1 S1 => match ib f1 S1 with
      | .normal _ S2 => .ok (.bool true) S2
      | .no w => .no (25 :: w)
      | _ => .no [26]
    | .no w => .no (27 :: w)
    | _ => .no [28]
  | _, _ => .no [29]

/-- A loop over a function. -/
noncomputable def rgo (rf : (FuncId → List AV → St → CRes) → FuncId → List AV → St → CRes) (g : Operand) (ps : List Nat) (ok : Bool) (ia ib : Fm → St → Res) (f : Fm) (S : St) : Res :=
  match ok && Nat.blt (Nat.succ S.next) 1048575, aev f g with
  | true, some (.func gf cap) => fNat S.next fun y => match Nat.blt gf 1048576, rf (yl f ps ia ib y) gf (.yld y :: cap) ⟨S.heap, Nat.succ y⟩ with
    | true, .ok _ S' => .normal f S'
    | true, .no w => .no (21 :: w)
    | false, _ => .no [21, 1]
  | _, _ => .no [21, 2]

/-- A code, by the code that is called and by the rounds that follow. -/
noncomputable def exec1 (K : Nat) (P : Program) (ext : FuncId → List AV → Option AV) (call : FuncId → List AV → St → CRes) (dr : Nat → Array Oper → Fm → St → Res) (again : Code → Fm → St → Res) (rf : (FuncId → List AV → St → CRes) → FuncId → List AV → St → CRes) (c : Code) : Fm → St → Res :=
  Code.rec (motive := fun _ => Fm → St → Res)
    (fun f S => .normal f S)
    (fun id ops draw f S => Bool.rec (doOps K P ext call ops.toList id ops.toList f S) (dr id ops f S) draw)
    (fun _ _ ia ib f S => match ia f S with
      | .normal f S => ib f S
      | r => r)
    (fun x _ _ ia ib f S => match aev f x with
      | some (.bool true) => ia f S
      | some (.bool false) => ib f S
      | _ => .no [20])
    (fun id _ ib f S => match ib f S with
      | .exit j f S => Bool.rec (.exit j f S) (.normal f S) (Nat.beq j id)
      | r => r)
    (fun body ib f S => match ib f S with
      | .normal f S => again (.loop body) f S
      | r => r)
    (fun g ps x y ia ib f S => rgo rf g ps.toList (noRF x && noRF y) ia ib f S)
    (fun id f S => .exit id f S)
    (fun _ ib f S => ib f S)
    (fun _ f S => .normal f S)
    (fun _ _ _ => .no [23])
    (fun f S => .ret f S)
    (fun _ _ _ => .no [24]) c

def CodeOk {K : Nat} (Z : Kept K) (P : Program) (run : Code → Fm → St → Res) : Prop :=
  ∀ c r n lo f S ρ a w Q, (r = none ∨ noRF c = true) → FR ρ f a → WR ρ S w → MkOk lo S ρ w a.defers → K ≤ S.next → Z.p S ρ w → RelQ K lo S ρ w Q (run c f S) → c.wpIn (wf r) n P Q a w

def DrawnOk {K : Nat} (Z : Kept K) (P : Program) (dr : Nat → Array Oper → Fm → St → Res) : Prop :=
  ∀ id ops r n lo f S ρ a w Q, FR ρ f a → WR ρ S w → MkOk lo S ρ w a.defers → K ≤ S.next → Z.p S ρ w → RelQ K lo S ρ w Q (dr id ops f S) → (Code.region id ops true).wpIn (wf r) n P Q a w

theorem RelQ.known {K lo : Nat} {S : St} {ρ : Rho} {w : World} {Q : Exit → Act → World → Prop} {r : Res} (h : RelQ K lo S ρ w Q r) : RelQ K lo S ρ w (fun e a w => Known e ∧ Q e a w) r := by
  cases r with
  | normal f S' => exact fun a' w' σ h1 h2 hm h3 h4 => ⟨.inl rfl, h a' w' σ h1 h2 hm h3 h4⟩
  | exit id f S' => exact fun a' w' σ h1 h2 hm h3 h4 => ⟨.inr (.inl ⟨id, rfl⟩), h a' w' σ h1 h2 hm h3 h4⟩
  | ret f S' => exact fun a' w' σ h1 h2 hm h3 h4 => ⟨.inr (.inr rfl), h a' w' σ h1 h2 hm h3 h4⟩
  | no w => exact h

/-! A loop's record, as one block that no live block of S is. -/
theorem WR.put {ρ : Rho} {S : St} {w : World} (h : WR ρ S w) {b : Nat} (hu : Unl S ρ b) (o : Obj) : WR ρ S (w.putObj b o) :=
  ⟨h.inj, h.dom, h.lim, fun i c n hi => by rw [World.putObj_size]; exact h.low i c n hi, fun i B hi => by
    obtain ⟨c, n, h1, h2⟩ := h.blk i B hi
    refine ⟨c, n, h1, ?_⟩
    by_cases hl : B.live = true
    · rw [World.putObj_heap_other (fun e => hu i n B hi hl (by rw [← e]; exact h1))]; exact h2
    · cases B with
      | dead => trivial
      | cells _ _ _ _ => exact absurd rfl hl
      | map _ _ => exact absurd rfl hl⟩
theorem Up.size_eq {K : Nat} {S S' : St} {ρ σ : Rho} {w w' : World} (h : Up K S S' ρ σ w) (e : w.heap.size = w'.heap.size) : Up K S S' ρ σ w' := ⟨h.le, h.next, h.old, h.keep, fun i b n A hA hl hr => by rw [← e]; exact h.new i b n A hA hl hr⟩
theorem Fr.unput {K : Nat} {S : St} {ρ : Rho} {w w' : World} {b : Nat} {o o' : Obj} (h : Fr K S ρ (w.putObj b o) w') (hw : w.heap[b]? = some o') : Fr K S ρ w (w'.putObj b o') := by
  have hb : b < w.heap.size := (Array.getElem?_eq_some_iff.1 hw).1
  have hs : w.heap.size ≤ w'.heap.size := by have := h.size; rwa [World.putObj_size] at this
  refine ⟨h.os, h.tape, h.output, by rw [World.putObj_size]; exact hs, fun c hc hn => ?_⟩
  by_cases e : c = b
  · subst e; rw [World.putObj_heap_same (by omega), hw]
  · rw [World.putObj_heap_other e, h.block c (by rw [World.putObj_size]; exact hc) hn, World.putObj_heap_other e]
theorem MkOk.put {lo : Nat} {S : St} {ρ : Rho} {w : World} {ds : List Deferred} (h : MkOk lo S ρ w ds) {b : Nat} {r : Loop} (hw : w.heap[b]? = some (.loop r)) (o : Obj) : MkOk lo S ρ (w.putObj b o) ds := by
  obtain ⟨h0, l, h1, h2, h3⟩ := h
  refine ⟨by rw [World.putObj_size]; exact h0, l, h1, h2, fun c hc => ?_⟩
  obtain ⟨g1, g2, g3, g4⟩ := h3 c hc
  refine ⟨g1, by rw [World.putObj_size]; exact g2, ?_, g4⟩
  rw [World.putObj_heap_other (fun e => by rw [e, hw] at g3; cases g3)]; exact g3

theorem setL_ok {ρ : Rho} : ∀ {ps : List Nat} {vs : List AV} {xs : List Value} {f f' : Fm} {t : Array Value} {ds ds' : List Deferred}, setL ps vs f = some f' → VRL ρ vs xs → FR ρ f { tmps := t, defers := ds } →
    xs.length = ps.length ∧ FR ρ f' { tmps := (ps.zip xs).foldl (fun t p => t.setIfInBounds p.1 p.2) t, defers := ds' }
  | [], [], xs, f, f', t, ds, ds', h, hv, hf => by
    have h : some f = some f' := h
    injection h with h; subst h
    simp only [VRL] at hv; subst hv
    exact ⟨rfl, rfl, hf.2⟩
  | [], _ :: _, _, _, _, _, _, _, h, _, _ => by cases h
  | _ :: _, [], _, _, _, _, _, _, h, _, _ => by cases h
  | p :: ps, v :: vs, xs, f, f', t, ds, ds', h, hv, hf => by
    have h : (Bool.rec none (setL ps vs ⟨f.t.to p v, f.n⟩) (Nat.blt p f.n && Nat.blt p 1048575) : Option Fm) = some f' := h
    simp only [VRL] at hv
    obtain ⟨y, ys, e, h1, h2⟩ := hv
    subst e
    cases hc : (Nat.blt p f.n && Nat.blt p 1048575) with
    | false => rw [hc] at h; cases h
    | true =>
      rw [hc] at h
      simp only [Bool.and_eq_true, Nat.blt_eq] at hc
      have h3 := hf.put (d := some p) (v := v) (x := y) (fun i hi => by injection hi with hi; subst hi; exact hc.1) (fun i hi => by injection hi with hi; subst hi; exact hc.2) h1
      obtain ⟨h4, h5⟩ := setL_ok (ds' := ds') h h2 (show FR ρ ⟨f.t.to p v, f.n⟩ { tmps := t.setIfInBounds p y, defers := ds } from h3)
      exact ⟨by simp [h4], by simpa using h5⟩

/-- What is kept while an iterator runs: the loop's record lies ready. -/
def Kept.loop {K : Nat} (Z : Kept K) (ρ₀ : Rho) (b : Nat) (rec : Loop) (hb : Z.base ≤ b) : Kept K where
  p := fun S ρ w => Z.p S ρ w ∧ ρ₀.le ρ ∧ w.heap[b]? = some (.loop rec) ∧ Unl S ρ b
  base := b + 1
  step := by
    rintro S S' ρ σ w w' ⟨h1, h2, h3, h4⟩ s
    have hlt : b < w.heap.size := (Array.getElem?_eq_some_iff.1 h3).1
    exact ⟨Z.step h1 s, Rho.le_trans h2 s.le, (s.block h4 hlt).trans h3, s.unl h4 hlt⟩
  put := by
    rintro S ρ w c o ⟨h1, h2, h3, h4⟩ hc
    exact ⟨Z.put c o h1 (by omega), h2, by rw [World.putObj_heap_other (by omega)]; exact h3, h4⟩
  size := by
    rintro S ρ w ⟨_, _, h3, _⟩
    exact (Array.getElem?_eq_some_iff.1 h3).1

theorem yl_ok {K : Nat} {Z : Kept K} {f : Fm} {ps : List Nat} {x y : Code} {ia ib : Fm → St → Res} {id : Nat} {ρ₀ : Rho} {b : Nat} {rec : Loop} {hb : Z.base ≤ b} {m : Nat} {t : Array Value} {ds : List Deferred}
    (hia : ∀ r n lo f S ρ a w Q, FR ρ f a → WR ρ S w → MkOk lo S ρ w a.defers → K ≤ S.next → Z.p S ρ w → RelQ K lo S ρ w Q (ia f S) → x.wpIn (wf r) n P Q a w)
    (hib : ∀ r n lo f S ρ a w Q, FR ρ f a → WR ρ S w → MkOk lo S ρ w a.defers → K ≤ S.next → Z.p S ρ w → RelQ K lo S ρ w Q (ib f S) → y.wpIn (wf r) n P Q a w)
    (hid : ρ₀ id = some (b, m)) (hf : FR ρ₀ f { tmps := t, defers := ds }) (h1 : rec.state = .ready) (h2 : rec.pending = none) (h3 : rec.tmps = t) (h4 : rec.params = ps.toArray) (h5 : rec.assign = x) (h6 : rec.body = y) :
    CallOk (Z.loop ρ₀ b rec hb) P (yl f ps ia ib id) := by
  intro g vs S v S' h ρ xs w hxs hw hK hz
  obtain ⟨z1, z2, z3, z4⟩ := hz
  unfold yl at h
  split at h
  · rename_i f' hg hs
    have hg := Nat.eq_of_beq_eq_true hg
    split at h
    · rename_i f1 S1 ha
      split at h
      · rename_i f2 S2 hbd
        injection h with e1 e2; subst e1; subst e2
        have hlt : b < w.heap.size := (Array.getElem?_eq_some_iff.1 z3).1
        obtain ⟨hl, hf'⟩ := setL_ok (ds' := []) hs hxs (hf.mono z2)
        refine .inr ⟨id, b, m, hg, z2 _ _ hid, rec.fn, _, rec.assign, rec.body, run_yield z3 (by rw [h4]; simp [hl]), ?_⟩
        refine roundIn_of_wpIn (F := Fence.wide) trivial ?_
        rw [h5, h6]
        have e4 : (rec.params.zip xs.toArray).foldl (fun tmps (x : Tmp × Value) => match x with | (t, a) => tmps.setIfInBounds t a) rec.tmps = (ps.zip xs).foldl (fun t p => t.setIfInBounds p.1 p.2) t := by
          rw [h3, h4, ← Array.foldl_toList]
          simp
        rw [e4]
        refine hia (some b) 0 w.heap.size f' S ρ _ w _ hf' hw MkOk.nil hK z1 ?_
        rw [ha]
        intro a1 w1 σ1 g1 g2 gm g3 g4
        have s1 := g3.stp g4
        have r1 : w1.heap[b]? = some (.loop rec) := (s1.block z4 hlt).trans z3
        have u1 := s1.unl z4 hlt
        have hlt1 : b < w1.heap.size := (Array.getElem?_eq_some_iff.1 r1).1
        refine ⟨_, run_beginRound r1 h1, ?_⟩
        refine hib (some b) 0 w.heap.size f1 S1 σ1 a1 _ _ g1 (g2.put u1 _) (gm.put r1 _) (Nat.le_trans hK g3.next) (Z.put b _ (Z.step z1 s1) hb) ?_
        rw [hbd]
        intro a2 w3 σ2 k1 k2 km k3 k4
        have s2 := k3.stp k4
        have u1' : Unl S1 σ1 b := u1
        have hlt2 : b < (w1.putObj b (.loop { rec with state := .busy })).heap.size := by rw [World.putObj_size]; exact hlt1
        have r3 : w3.heap[b]? = some (.loop { rec with state := .busy }) := (s2.block u1' hlt2).trans (World.putObj_heap_same hlt1)
        have u2 := s2.unl u1' hlt2
        refine ⟨_, _, run_endRound none r3, .bool true, σ2, rfl, by simp only [VR], k2.put u2 _, g3.trans g4.size (k3.size_eq (by rw [World.putObj_size])), ?_⟩
        have er : ({ ({ rec with state := .busy } : Loop) with state := if (none : Option Code).isNone = true then .ready else .done, pending := none } : Loop) = rec := by
          cases rec
          simp only at h1 h2
          subst h1; subst h2
          rfl
        rw [er]
        exact g4.trans g3 (k4.unput r1)
      · cases h
      · cases h
    · cases h
    · cases h
  · cases h

theorem rangeFunc_ok {K : Nat} {Z : Kept K} {rf : (FuncId → List AV → St → CRes) → FuncId → List AV → St → CRes} {ia ib : Fm → St → Res} {x y : Code}
    (hrf : ∀ (Z' : Kept K) h, (∀ S ρ w, Z'.p S ρ w → Z.p S ρ w) → CallOk Z' P h → CallOk Z' P (rf h))
    (hia : ∀ r n lo f S ρ a w Q, FR ρ f a → WR ρ S w → MkOk lo S ρ w a.defers → K ≤ S.next → Z.p S ρ w → RelQ K lo S ρ w Q (ia f S) → x.wpIn (wf r) n P Q a w)
    (hib : ∀ r n lo f S ρ a w Q, FR ρ f a → WR ρ S w → MkOk lo S ρ w a.defers → K ≤ S.next → Z.p S ρ w → RelQ K lo S ρ w Q (ib f S) → y.wpIn (wf r) n P Q a w)
    {g : Operand} {ps : Array Nat} {ok : Bool} {n lo : Nat} {f : Fm} {S : St} {ρ : Rho} {a : Act} {w : World} {Q : Exit → Act → World → Prop}
    (hf : FR ρ f a) (hw : WR ρ S w) (hm : MkOk lo S ρ w a.defers) (hK : K ≤ S.next) (hz : Z.p S ρ w) (h : RelQ K lo S ρ w Q (rgo rf g ps.toList ok ia ib f S)) : (Code.rangeFunc g ps x y).wpIn (wf none) n P Q a w := by
  unfold rgo at h
  split at h
  · rename_i gf cap hok hg
    simp only [Bool.and_eq_true, Nat.blt_eq] at hok
    have hlim := hok.2
    rw [fNat_eq] at h
    split at h
    · rename_i v S' hgf hrun
      rw [Nat.blt_eq] at hgf
      have hv := aev_ok hf hg
      simp only [VR] at hv
      obtain ⟨xs, e, hxs⟩ := hv
      refine wpIn_rangeFunc fun fn _ => ?_
      obtain ⟨rec, hrec⟩ : ∃ rec : Loop, rec = { state := .ready, pending := none, fn, tmps := a.tmps, params := ps, assign := x, body := y, defers := w.heap.size } := ⟨_, rfl⟩
      obtain ⟨W1, hW1⟩ : ∃ W1, (w.alloc (.deferred (some []))).alloc (.loop rec) = W1 := ⟨_, rfl⟩
      have hsz : W1.heap.size = w.heap.size + 2 := by rw [← hW1]; simp
      have hold : ∀ c, c < w.heap.size → W1.heap[c]? = w.heap[c]? := by
        intro c hc
        rw [← hW1]
        show ((w.heap.push _).push _)[c]? = _
        rw [Array.getElem?_push, if_neg (by simp; omega), Array.getElem?_push, if_neg (by omega)]
      have hD : W1.heap[w.heap.size]? = some (.deferred (some [])) := by
        rw [← hW1]
        show ((w.heap.push _).push _)[w.heap.size]? = _
        rw [Array.getElem?_push, if_neg (by simp), Array.getElem?_push, if_pos rfl]
      have hL : W1.heap[w.heap.size + 1]? = some (.loop rec) := by
        rw [← hW1]
        have := World.alloc_heap_new (w.alloc (.deferred (some []))) (.loop rec)
        simpa using this
      have hnone := (hw.dom S.next (Nat.le_refl _)).1
      have hnoneS := (hw.dom S.next (Nat.le_refl _)).2
      obtain ⟨ρ1, hρ1⟩ : ∃ ρ1, ρ.set S.next (w.heap.size + 1, 0) = ρ1 := ⟨_, rfl⟩
      have hset : ∀ i p, ρ1 i = some p → (i = S.next ∧ p = (w.heap.size + 1, 0)) ∨ (i ≠ S.next ∧ ρ i = some p) := by
        intro i p hi
        rw [← hρ1] at hi
        unfold Rho.set at hi
        by_cases e : i = S.next
        · rw [if_pos e] at hi; injection hi with hi; exact .inl ⟨e, hi.symm⟩
        · rw [if_neg e] at hi; exact .inr ⟨e, hi⟩
      have hle : ρ.le ρ1 := by rw [← hρ1]; exact Rho.le_set hnone
      have hy : ρ1 S.next = some (w.heap.size + 1, 0) := by rw [← hρ1]; exact Rho.set_same _ _ _
      have hF1 : Fr K S ρ w W1 := ⟨by rw [← hW1]; rfl, by rw [← hW1]; rfl, by rw [← hW1]; rfl, by omega, fun c hc _ => hold c hc⟩
      have hU1 : Up K S ⟨S.heap, S.next + 1⟩ ρ ρ1 w := by
        refine ⟨hle, Nat.le_succ _, fun i hi => ?_, fun i hi h0 => h0, fun i c m A hA hl hr => ?_⟩
        · have hi : i < S.next := hi
          rw [← hρ1]; unfold Rho.set; rw [if_neg (by omega)]
        · have hA : S.heap.at i = some A := hA
          rcases hset i _ hr with ⟨e1, _⟩ | ⟨_, hr⟩
          · subst e1; rw [hnoneS] at hA; cases hA
          · exact .inl ⟨hr, A, hA, hl⟩
      have hunl : ∀ c, w.heap.size ≤ c → Unl ⟨S.heap, S.next + 1⟩ ρ1 c := by
        intro c hc i m A hA hl hr
        have hA : S.heap.at i = some A := hA
        rcases hset i _ hr with ⟨e1, _⟩ | ⟨_, hr⟩
        · subst e1; rw [hnoneS] at hA; cases hA
        · have := hw.low i c m hr; omega
      have hW : WR ρ1 ⟨S.heap, S.next + 1⟩ W1 := by
        refine ⟨fun i j c m k A B hA hB hl hl' hri hrj => ?_, fun i hi => ?_, hlim, fun i c m hi => ?_, fun i B hB => ?_⟩
        · have hA : S.heap.at i = some A := hA
          have hB : S.heap.at j = some B := hB
          rcases hset i _ hri with ⟨e1, _⟩ | ⟨_, hri⟩
          · subst e1; rw [hnoneS] at hA; cases hA
          · rcases hset j _ hrj with ⟨e1, _⟩ | ⟨_, hrj⟩
            · subst e1; rw [hnoneS] at hB; cases hB
            · exact hw.inj i j c m k A B hA hB hl hl' hri hrj
        · have hi : S.next + 1 ≤ i := hi
          refine ⟨?_, (hw.dom i (by omega)).2⟩
          rw [← hρ1]; unfold Rho.set; rw [if_neg (by omega)]; exact (hw.dom i (by omega)).1
        · rcases hset i _ hi with ⟨_, e1⟩ | ⟨_, hi⟩
          · injection e1 with e1 e2; omega
          · have := hw.low i c m hi; omega
        · obtain ⟨c, m, h1, h2⟩ := hw.blk i B hB
          exact ⟨c, m, hle _ _ h1, by rw [hold c (hw.low i c m h1)]; exact BR.mono hle h2⟩
      have hbase : Z.base ≤ w.heap.size + 1 := by have := Z.size hz; omega
      have hz1 : (Z.loop ρ1 (w.heap.size + 1) rec hbase).p ⟨S.heap, S.next + 1⟩ ρ1 W1 := ⟨Z.step hz (hU1.stp hF1), Rho.le_refl _, hL, hunl _ (by omega)⟩
      have hyl : CallOk (Z.loop ρ1 (w.heap.size + 1) rec hbase) P (yl f ps.toList ia ib S.next) :=
        yl_ok (t := a.tmps) (ds := a.defers) hia hib hy (hf.mono hle) (by rw [hrec]) (by rw [hrec]) (by rw [hrec]) (by rw [hrec]) (by rw [hrec]) (by rw [hrec])
      have hcall := hrf (Z.loop ρ1 (w.heap.size + 1) rec hbase) _ (fun _ _ _ q => q.1) hyl gf (.yld S.next :: cap) ⟨S.heap, S.next + 1⟩ v S' hrun ρ1 (.func (.yield (w.heap.size + 1)) #[] #[] :: xs) W1
        (by simp only [VRL]; exact ⟨_, _, rfl, by simp only [VR]; exact ⟨_, _, hy, rfl⟩, VRL.mono hle _ _ hxs⟩) hW (Nat.le_succ_of_le hK) hz1
      rcases hcall with ⟨_, c1, c2⟩ | ⟨y', _, _, e', _⟩
      · refine ⟨w.heap.size + 1, [mark w.heap.size], W1, { target := .fn (.func gf) xs.toArray, args := #[.func (.yield (w.heap.size + 1)) #[] #[]] }, W1, gf, (.func (.yield (w.heap.size + 1)) #[] #[] :: xs).toArray, W1, ?_, ?_, fun _ _ => trivial, ?_, fun h => (by cases h), ?_⟩
        · show (Instr.enterLoop fn a.tmps ps x y none).run P w = _
          rw [run_enterLoop_outer, ← hW1, hrec]; rfl
        · simp only [resolve, e, Deferred.ofValue, Sem.run_pure]
          simp [Act.eval]
        · have := c1 W1
          simpa [invoke] using this
        · refine (callsIn_wide (n := n - 1)).2 (c2.mono ?_)
          rintro e3 w' ⟨u, σ, rfl, _, k1, k2, k3⟩
          have s := k2.stp k3
          have rl : w'.heap[w.heap.size + 1]? = some (.loop rec) := (s.block (hunl _ (by omega)) (by omega)).trans hL
          have ul := s.unl (hunl (w.heap.size + 1) (by omega)) (by omega)
          have rD : w'.heap[w.heap.size]? = some (.deferred (some [])) := (s.block (hunl _ (Nat.le_refl _)) (by omega)).trans hD
          have uD := s.unl (hunl w.heap.size (Nat.le_refl _)) (by omega)
          have hsw := k3.size
          refine ⟨none, _, by have := run_endLoop (P := P) rl (by rw [hrec]; simp); rw [hrec] at this; exact this, ?_⟩
          show Q .normal _ _
          have hup : Up K S S' ρ σ w := hU1.trans hF1.size k2
          have hfr := hF1.trans hU1 k3
          refine h _ _ σ ⟨rfl, hf.2.1, (hf.mono hup.le).2.2⟩ (k1.put ul _) ?_ hup ?_
          · obtain ⟨h0, l, h1, h2, h3⟩ := hm
            refine ⟨by rw [World.putObj_size]; omega, w.heap.size :: l, by rw [h1]; rfl, ?_, fun c hc => ?_⟩
            · rw [List.nodup_cons]
              exact ⟨fun hc => by have := (h3 _ hc).2.1; omega, h2⟩
            · have hne : c ≠ w.heap.size + 1 := by
                rcases List.mem_cons.1 hc with rfl | hc
                · omega
                · have := (h3 c hc).2.1; omega
              rw [World.putObj_size, World.putObj_heap_other hne]
              rcases List.mem_cons.1 hc with rfl | hc
              · exact ⟨h0, by omega, rD, uD⟩
              · obtain ⟨g1, g2, g3, g4⟩ := h3 c hc
                have s' := hup.stp hfr
                exact ⟨g1, by omega, (s'.block g4 g2).trans g3, s'.unl g4 g2⟩
          · exact ⟨hfr.os, hfr.tape, hfr.output, by rw [World.putObj_size]; exact hfr.size, fun c hc hn => by rw [World.putObj_heap_other (by omega)]; exact hfr.block c hc hn⟩
      · exact (fid_no hgf e').elim
    · exact h.elim
    · exact h.elim
  · exact h.elim

theorem exec1_ok {K : Nat} {Z : Kept K} {ext : FuncId → List AV → Option AV} {call : FuncId → List AV → St → CRes} {dr : Nat → Array Oper → Fm → St → Res} {again : Code → Fm → St → Res} {rf : (FuncId → List AV → St → CRes) → FuncId → List AV → St → CRes} (hext : ExtOk P ext) (hcall : CallOk Z P call)
    (hdr : DrawnOk Z P dr) (hag : CodeOk Z P again) (hrf : ∀ (Z' : Kept K) h, (∀ S ρ w, Z'.p S ρ w → Z.p S ρ w) → CallOk Z' P h → CallOk Z' P (rf h)) : CodeOk Z P (exec1 K P ext call dr again rf) := by
  intro c
  induction c with
  | skip => intro r n lo f S ρ a w Q _ hf hw hm hK hz h; exact wpIn_skip (h a w ρ hf hw hm (Up.refl K S ρ w) (Fr.refl K S ρ w))
  | region id ops draw =>
    intro r n lo f S ρ a w Q _ hf hw hm hK hz h
    cases draw with
    | false => exact wpIn_region_list (doOps_ok hext hcall ops.toList f S ρ a w hf hw hm hK hz h)
    | true => exact hdr id ops r n lo f S ρ a w Q hf hw hm hK hz h
  | seq x y ihx ihy =>
    intro r n lo f S ρ a w Q hn hf hw hm hK hz h
    have hnx : r = none ∨ noRF x = true := hn.imp id fun h => (Bool.and_eq_true _ _ ▸ (show (noRF x && noRF y) = true from h)).1
    have hny : r = none ∨ noRF y = true := hn.imp id fun h => (Bool.and_eq_true _ _ ▸ (show (noRF x && noRF y) = true from h)).2
    have h : RelQ K lo S ρ w Q (match exec1 K P ext call dr again rf x f S with
      | .normal f S => exec1 K P ext call dr again rf y f S
      | r => r) := h
    refine wpIn_seq (ihx r n lo f S ρ a w _ hnx hf hw hm hK hz ?_)
    cases hr : exec1 K P ext call dr again rf x f S with
    | normal f' S' =>
      rw [hr] at h
      intro a' w' σ h1 h2 hm' h3 h4
      exact ihy r n lo f' S' σ a' w' Q hny h1 h2 hm' (Nat.le_trans hK h3.next) (Z.step hz (h3.stp h4)) (h.step h3 h4)
    | exit id f' S' => rw [hr] at h; exact h
    | ret f' S' => rw [hr] at h; exact h
    | no why => rw [hr] at h; exact h
  | cond x y z ihy ihz =>
    intro r n lo f S ρ a w Q hn hf hw hm hK hz h
    have hny : r = none ∨ noRF y = true := hn.imp id fun h => (Bool.and_eq_true _ _ ▸ (show (noRF y && noRF z) = true from h)).1
    have hnz : r = none ∨ noRF z = true := hn.imp id fun h => (Bool.and_eq_true _ _ ▸ (show (noRF y && noRF z) = true from h)).2
    have h : RelQ K lo S ρ w Q (match aev f x with
      | some (.bool true) => exec1 K P ext call dr again rf y f S
      | some (.bool false) => exec1 K P ext call dr again rf z f S
      | _ => .no [20]) := h
    split at h
    · rename_i hx
      have := aev_ok hf hx; simp only [VR] at this
      exact wpIn_cond_true this (ihy r n lo f S ρ a w Q hny hf hw hm hK hz h)
    · rename_i hx
      have := aev_ok hf hx; simp only [VR] at this
      exact wpIn_cond_false this (ihz r n lo f S ρ a w Q hnz hf hw hm hK hz h)
    · exact h.elim
  | block id x ih =>
    intro r n lo f S ρ a w Q hn hf hw hm hK hz h
    have h : RelQ K lo S ρ w Q (match exec1 K P ext call dr again rf x f S with
      | .exit j f S => Bool.rec (.exit j f S) (.normal f S) (Nat.beq j id)
      | r => r) := h
    refine wpIn_block (ih r n lo f S ρ a w _ hn hf hw hm hK hz ?_)
    cases hr : exec1 K P ext call dr again rf x f S with
    | normal f' S' => rw [hr] at h; exact h
    | exit j f' S' =>
      rw [hr] at h
      intro a' w' σ h1 h2 hm' h3 h4
      show if j = id then Q .normal a' w' else Q (.exit j) a' w'
      by_cases hj : j = id
      · rw [if_pos hj]
        have h : RelQ K lo S ρ w Q (Bool.rec (.exit j f' S') (.normal f' S') (Nat.beq j id)) := h
        rw [beq_t hj] at h
        exact h a' w' σ h1 h2 hm' h3 h4
      · rw [if_neg hj]
        have h : RelQ K lo S ρ w Q (Bool.rec (.exit j f' S') (.normal f' S') (Nat.beq j id)) := h
        rw [beq_f hj] at h
        exact h a' w' σ h1 h2 hm' h3 h4
    | ret f' S' => rw [hr] at h; exact h
    | no why => rw [hr] at h; exact h
  | loop x ih =>
    intro r n lo f S ρ a w Q hn hf hw hm hK hz h
    have h := h.known
    refine wpIn_mono (Q := fun e a w => Known e ∧ Q e a w) (wp_unroll (fun e a w q => q.1) ?_) (fun e a w q => q.2)
    have h : RelQ K lo S ρ w (fun e a w => Known e ∧ Q e a w) (match exec1 K P ext call dr again rf x f S with
      | .normal f S => again (.loop x) f S
      | r => r) := h
    refine ih r n lo f S ρ a w _ hn hf hw hm hK hz ?_
    cases hr : exec1 K P ext call dr again rf x f S with
    | normal f' S' =>
      rw [hr] at h
      intro a' w' σ h1 h2 hm' h3 h4
      exact hag (.loop x) r n lo f' S' σ a' w' _ hn h1 h2 hm' (Nat.le_trans hK h3.next) (Z.step hz (h3.stp h4)) (h.step h3 h4)
    | exit id f' S' => rw [hr] at h; exact h
    | ret f' S' => rw [hr] at h; exact h
    | no why => rw [hr] at h; exact h
  | rangeFunc g ps x y ihx ihy =>
    intro r n lo f S ρ a w Q hn hf hw hm hK hz h
    have hr : r = none := hn.resolve_right (by intro h; cases h)
    subst hr
    have h : RelQ K lo S ρ w Q (rgo rf g ps.toList (noRF x && noRF y) (exec1 K P ext call dr again rf x) (exec1 K P ext call dr again rf y) f S) := h
    cases hnr : (noRF x && noRF y) with
    | false => rw [hnr] at h; unfold rgo at h; exact h.elim
    | true =>
      have hnr' := hnr
      rw [Bool.and_eq_true] at hnr'
      exact rangeFunc_ok hrf (fun r n lo f S ρ a w Q => ihx r n lo f S ρ a w Q (.inr hnr'.1)) (fun r n lo f S ρ a w Q => ihy r n lo f S ρ a w Q (.inr hnr'.2)) hf hw hm hK hz h
  | exit id => intro r n lo f S ρ a w Q _ hf hw hm hK hz h; exact wpIn_exit (h a w ρ hf hw hm (Up.refl K S ρ w) (Fr.refl K S ρ w))
  | scope body ih =>
    intro r n lo f S ρ a w Q hn hf hw hm hK hz h
    have h : RelQ K lo S ρ w Q (exec1 K P ext call dr again rf body f S) := h
    refine wpIn_scope_straight (ih r n lo f S ρ a w _ hn hf hw hm hK hz ?_)
    cases hr : exec1 K P ext call dr again rf body f S with
    | normal f' S' => rw [hr] at h; exact h
    | exit id f' S' => rw [hr] at h; exact h
    | ret f' S' => rw [hr] at h; exact h
    | no why => rw [hr] at h; exact h
  | label l => intro r n lo f S ρ a w Q _ hf hw hm hK hz h; exact wpIn_label (h a w ρ hf hw hm (Up.refl K S ρ w) (Fr.refl K S ρ w))
  | goto l => intro r n lo f S ρ a w Q _ hf hw hm hK hz h; exact h.elim
  | ret => intro r n lo f S ρ a w Q _ hf hw hm hK hz h; exact wpIn_ret (h a w ρ hf hw hm (Up.refl K S ρ w) (Fr.refl K S ρ w))
  | refuse why => intro r n lo f S ρ a w Q _ hf hw hm hK hz h; exact h.elim

/-- One result. -/
def resRun (tmps : Array Value) : ResultVar → Sem Value
  | .tmp t => pure (tmps.getD t undef)
  | .cell a t => do loadVar t (← asAddr (tmps.getD a undef))
theorem results_eq (fn : Func) (tmps : Array Value) : results fn tmps = (do
    let vs ← fn.results.mapM (resRun tmps)
    pure (if h : vs.size = 1 then vs[0] else .tuple vs) : Sem Value) := by
  have : (fun x => match x with | .tmp t => pure (tmps.getD t undef) | .cell a t => do loadVar t (← asAddr (tmps.getD a undef)) : ResultVar → Sem Value) = resRun tmps := by
    funext r; cases r <;> rfl
  unfold results
  rw [← this]
  rfl

theorem results_ok {fn : Func} {f : Fm} {S : St} {v : AV} {ρ : Rho} {a : Act} {w : World} (h : aRes P fn f S = some v) (hf : FR ρ f a) (hw : WR ρ S w) : ∃ x, (results fn a.tmps).run P w = .ok x w ∧ VR ρ v x := by
  have one : ∀ (l : List ResultVar) (vs : List AV), mapO (resOf P f S) l = some vs → ∃ xs, VRL ρ vs xs ∧ (l.mapM (resRun a.tmps)).run P w = .ok xs w := by
    intro l
    induction l with
    | nil => intro vs h; have h : some [] = some vs := h; injection h with h; subst h; exact ⟨[], by simp [VRL], rfl⟩
    | cons r l ih =>
      intro vs h
      obtain ⟨y, ys, h1, h2, h3⟩ := mapO_cons h
      subst h3
      obtain ⟨xs, hxs, hrun⟩ := ih ys h2
      have hr : ∃ x, VR ρ y x ∧ (resRun a.tmps r).run P w = .ok x w := by
        cases r with
        | tmp t =>
          obtain ⟨x, hx, hv⟩ := hf.2.2 t y h1
          exact ⟨x, hv, by simp [resRun, Array.getD_eq_getD_getElem?, hx]⟩
        | cell a' t =>
          have h1 : (match f.t.at a' with | some p => aLoad P S t p | none => none) = some y := h1
          split at h1
          · rename_i p hp
            obtain ⟨x, hx, hv⟩ := hf.2.2 a' p hp
            obtain ⟨z, hz1, hz2⟩ := aLoad_ok h1 hw hv
            refine ⟨z, hz2, ?_⟩
            have e : a.tmps.getD a' undef = x := by simp [Array.getD_eq_getD_getElem?, hx]
            simp only [resRun, e]
            cases p
            case ptr id off =>
              simp only [VR] at hv
              obtain ⟨b, n, _, e2⟩ := hv; subst e2
              simpa [asAddr, Instr.loadAt, Instr.sureAddr] using hz1
            all_goals (unfold aLoad at h1; simp at h1)
          · cases h1
      obtain ⟨x, hx, hrx⟩ := hr
      refine ⟨x :: xs, by simp only [VRL]; exact ⟨x, xs, rfl, hx, hxs⟩, ?_⟩
      simp only [List.mapM_cons, Sem.run_bind, hrx, Result.andThen_ok, hrun, Sem.run_pure]
  unfold aRes at h
  have fin : ∀ vs xs, mapO (resOf P f S) fn.results.toList = some vs → VRL ρ vs xs → (fn.results.toList.mapM (resRun a.tmps)).run P w = .ok xs w →
      (results fn a.tmps).run P w = .ok (if h : xs.toArray.size = 1 then xs.toArray[0] else .tuple xs.toArray) w := by
    intro vs xs _ _ hr
    rw [results_eq]
    simp only [Array.mapM_eq_mapM_toList, Sem.run_bind]
    simp only [Functor.map, Sem.run_bind', hr]
    rfl
  split at h
  · rename_i u hu
    injection h with h; subst h
    obtain ⟨xs, h1, h2⟩ := one _ _ hu
    have := fin _ _ hu h1 h2
    simp only [VRL] at h1
    obtain ⟨x, r, e, hx, e2⟩ := h1
    subst e2; subst e
    exact ⟨x, by simpa using this, hx⟩
  · rename_i vs hne hu
    injection h with h; subst h
    obtain ⟨xs, h1, h2⟩ := one _ _ hu
    have := fin _ _ hu h1 h2
    have hl := h1.length
    have hn : ¬ xs.toArray.size = 1 := by
      intro h0
      have : vs.length = 1 := by rw [← hl]; simpa using h0
      match vs, this with
      | [z], _ => exact hne z rfl
    rw [dif_neg hn] at this
    exact ⟨_, this, by simp only [VR]; exact ⟨xs, rfl, h1⟩⟩
  · cases h

end Ex
end Go.Proofs.YtjdmkgnlakonbaaGreatDoor
namespace Go.Proofs.YtjdmkgnlakonbaaGreatDoor
namespace Ex

variable {P : Program}

/-- The way out past the marks: each block is shut. -/
theorem leaves_marks {K : Nat} {S₀ S' : St} {ρ₀ σ : Rho} {w₀ : World} {fn : Func} {tmps : Array Value} {R : Ending → World → Prop}
    (hres : ∀ w, WR σ S' w → Fr K S₀ ρ₀ w₀ w → ∃ x, (results fn tmps).run P w = .ok x w ∧ R (.returned x) w) :
    ∀ (l : List Nat) (w : World), l.Nodup → (∀ b ∈ l, w₀.heap.size ≤ b ∧ b < w.heap.size ∧ w.heap[b]? = some (.deferred (some [])) ∧ Unl S' σ b) → WR σ S' w → Fr K S₀ ρ₀ w₀ w → LeavesInM Fence.wide 0 P fn tmps R (l.map mark) .returning w
  | [], w, _, _, hw, hf => hres w hw hf
  | b :: l, w, hn, hl, hw, hf => by
    rw [List.nodup_cons] at hn
    obtain ⟨g1, g2, g3, g4⟩ := hl b (by simp)
    refine ⟨by simp, .inl ⟨b, _, rfl, run_takeDeferred g3, ?_⟩⟩
    refine leaves_marks hres l _ hn.2 (fun c hc => ?_) (hw.put g4 _) ⟨hf.os, hf.tape, hf.output, by rw [World.putObj_size]; exact hf.size, fun c hc hx => by rw [World.putObj_heap_other (by omega)]; exact hf.block c hc hx⟩
    obtain ⟨k1, k2, k3, k4⟩ := hl c (List.mem_cons_of_mem _ hc)
    exact ⟨k1, by rw [World.putObj_size]; exact k2, by rw [World.putObj_heap_other (fun e => hn.1 (by rw [← e]; exact hc))]; exact k3, k4⟩

theorem callB_ok {K : Nat} {Z : Kept K} {run : Code → Fm → St → Res} (hrun : CodeOk Z P run) : CallOk Z P (callB P run) := by
  intro g vs S v S' h ρ xs w hxs hw hK hz
  unfold callB at h
  split at h
  · cases h
  · rename_i fn hfn
    split at h
    · rename_i c hname hbody
      split at h
      · rename_i hc
        simp only [Bool.and_eq_true] at hc
        have hlen : vs.length ≤ fn.ntmps := Nat.le_of_ble_eq_true hc.1
        have hn : fn.ntmps < 1048575 := by have := hc.2.1; rwa [Nat.blt_eq] at this
        have hg : g < 1048576 := by have := hc.2.2; rwa [Nat.blt_eq] at this
        have hxl := hxs.length
        have hcf : ∀ w₀, (callFunc g xs.toArray).run P w₀ = .ok (.enter g xs.toArray) w₀ := by
          intro w₀
          simp only [callFunc, Sem.run_bind, run_program, Result.andThen_ok, hfn, hname, hbody, Option.isNone_some, Bool.false_eq_true, if_false, Sem.run_pure]
        refine .inl ⟨hg, hcf, (callsIn_wide (n := 0)).1 (callsIn_of_wp_marks hfn hbody trivial ?_)⟩
        have hfr : FR ρ ⟨wr vs .e 0, fn.ntmps⟩ { tmps := xs.toArray ++ Array.replicate (fn.ntmps - xs.toArray.size) undef, defers := [] } := by
          refine ⟨rfl, by simp; omega, fun i u hi => ?_⟩
          have hi : (wr vs .e 0).at i = some u := hi
          rw [wr_at _ _ _ _ (by omega)] at hi
          by_cases hin : 0 ≤ i ∧ i < 0 + vs.length
          · rw [if_pos hin] at hi
            obtain ⟨x, hx, hv⟩ := hxs.get _ u hi
            refine ⟨x, ?_, hv⟩
            rw [Array.getElem?_append_left (by simp; omega)]
            simpa using hx
          · rw [if_neg hin, Tr.at_e] at hi; cases hi
        refine hrun c none 0 w.heap.size _ S ρ _ w _ (.inl rfl) hfr hw MkOk.nil hK hz ?_
        cases hr : run c ⟨wr vs .e 0, fn.ntmps⟩ S with
        | normal f1 S1 =>
          rw [hr] at h
          intro a' w' σ h1 h2 hm h3 h4
          simp only [fin] at h
          split at h
          · rename_i u hu
            injection h with e1 e2; subst e1; subst e2
            obtain ⟨_, l, hl1, hl2, hl3⟩ := hm
            show LeavesInM Fence.wide 0 P fn a'.tmps _ a'.defers .returning w'
            rw [hl1]
            refine leaves_marks (fun w2 k1 k2 => ?_) l w' hl2 hl3 h2 h4
            obtain ⟨x, hx1, hx2⟩ := results_ok hu h1 k1
            exact ⟨x, hx1, x, σ, rfl, hx2, k1, h3, k2⟩
          · cases h
        | ret f1 S1 =>
          rw [hr] at h
          intro a' w' σ h1 h2 hm h3 h4
          simp only [fin] at h
          split at h
          · rename_i u hu
            injection h with e1 e2; subst e1; subst e2
            obtain ⟨_, l, hl1, hl2, hl3⟩ := hm
            show LeavesInM Fence.wide 0 P fn a'.tmps _ a'.defers .returning w'
            rw [hl1]
            refine leaves_marks (fun w2 k1 k2 => ?_) l w' hl2 hl3 h2 h4
            obtain ⟨x, hx1, hx2⟩ := results_ok hu h1 k1
            exact ⟨x, hx1, x, σ, rfl, hx2, k1, h3, k2⟩
          · cases h
        | exit id f1 S1 => rw [hr] at h; cases h
        | no why => rw [hr] at h; cases h
      · cases h
    · cases h

/-- A call that is known, or one that is run. -/
noncomputable def orCall (xt call : FuncId → List AV → St → CRes) : FuncId → List AV → St → CRes := fun g vs S => match xt g vs S with
  | .ok v S => .ok v S
  | .no w => Bool.rec (.no w) (call g vs S) (Nat.blt g 1048576)
theorem orCall_ok {K : Nat} {Z : Kept K} {xt call : FuncId → List AV → St → CRes} (hx : CallOk Z P xt) (hc : CallOk Z P call) : CallOk Z P (orCall xt call) := by
  intro g vs S v S' h
  unfold orCall at h
  split at h
  · rename_i u T hu
    injection h with e1 e2; subst e1; subst e2
    exact hx g vs S u T hu
  · cases hb : Nat.blt g 1048576 with
    | false => rw [hb] at h; cases h
    | true => rw [hb] at h; exact hc g vs S v S' h
theorem CallOk.sub {K : Nat} {Z Z' : Kept K} {call : FuncId → List AV → St → CRes} (h : CallOk Z P call) (hz : ∀ S ρ w, Z'.p S ρ w → Z.p S ρ w) : CallOk Z' P call :=
  fun g vs S v S' hc ρ xs w hxs hw hK hp => h g vs S v S' hc ρ xs w hxs hw hK (hz _ _ _ hp)
/-- Yield's calls, and the others. -/
noncomputable def orY (y xt : FuncId → List AV → St → CRes) : FuncId → List AV → St → CRes := fun g vs S => Bool.rec (y g vs S) (xt g vs S) (Nat.blt g 1048576)
theorem orY_ok {K : Nat} {Z : Kept K} {y xt : FuncId → List AV → St → CRes} (hy : CallOk Z P y) (hx : CallOk Z P xt) : CallOk Z P (orY y xt) := by
  intro g vs S v S' h
  unfold orY at h
  cases hb : Nat.blt g 1048576 with
  | false => rw [hb] at h; exact hy g vs S v S' h
  | true => rw [hb] at h; exact hx g vs S v S' h
/-- No call is known. -/
def xtZ : FuncId → List AV → St → CRes := fun _ _ _ => .no []
theorem xtZ_ok {K : Nat} {Z : Kept K} : CallOk Z P xtZ := fun _ _ _ _ _ h => by cases h
/-- The executor, with a way to go through regions that draw their order, by the calls that are known. -/
noncomputable def execX (K : Nat) (P : Program) (ext : FuncId → List AV → Option AV) (dr : (FuncId → List AV → St → CRes) → Nat → Array Oper → Fm → St → Res) (n : Nat) : (FuncId → List AV → St → CRes) → Code → Fm → St → Res :=
  Nat.rec (motive := fun _ => (FuncId → List AV → St → CRes) → Code → Fm → St → Res) (fun _ _ _ _ => .no [40])
    (fun _ ih xt c f S => exec1 K P ext (orCall xt (callB P (ih xt))) (dr (orCall xt (callB P (ih xt)))) (ih xt) (fun h => callB P (ih (orY h xt))) c f S) n
noncomputable def exec (K : Nat) (P : Program) (ext : FuncId → List AV → Option AV) (xt : FuncId → List AV → St → CRes) (dr : (FuncId → List AV → St → CRes) → Nat → Array Oper → Fm → St → Res) (n : Nat) : Code → Fm → St → Res := execX K P ext dr n xt

theorem exec_ok {K : Nat} (Z₀ : Kept K) {ext : FuncId → List AV → Option AV} {dr : (FuncId → List AV → St → CRes) → Nat → Array Oper → Fm → St → Res} (hext : ExtOk P ext) (hdr : ∀ (Z : Kept K) call, (∀ S ρ w, Z.p S ρ w → Z₀.p S ρ w) → CallOk Z P call → DrawnOk Z P (dr call)) :
    ∀ n (Z : Kept K) xt, (∀ S ρ w, Z.p S ρ w → Z₀.p S ρ w) → CallOk Z P xt → CodeOk Z P (exec K P ext xt dr n) := by
  intro n
  induction n with
  | zero => intro Z xt _ _ c r n lo f S ρ a w Q _ _ _ _ _ _ h; exact h.elim
  | succ n ih =>
    intro Z xt hs hxt
    have hc := orCall_ok hxt (callB_ok (ih Z xt hs hxt))
    exact exec1_ok hext hc (hdr Z _ hs hc) (ih Z xt hs hxt) fun Z' h hz hh => callB_ok (ih Z' _ (fun S ρ w q => hs S ρ w (hz S ρ w q)) (orY_ok hh (hxt.sub hz)))

noncomputable def run (K : Nat) (P : Program) (ext : FuncId → List AV → Option AV) (xt : FuncId → List AV → St → CRes) (dr : (FuncId → List AV → St → CRes) → Nat → Array Oper → Fm → St → Res) (n : Nat) (g : FuncId) (vs : List AV) (S : St) : CRes := callB P (exec K P ext xt dr n) g vs S

theorem run_ok {K : Nat} {Z : Kept K} {ext : FuncId → List AV → Option AV} {xt : FuncId → List AV → St → CRes} {dr : (FuncId → List AV → St → CRes) → Nat → Array Oper → Fm → St → Res} (hext : ExtOk P ext) (hxt : CallOk Z P xt) (hdr : ∀ (Z' : Kept K) call, (∀ S ρ w, Z'.p S ρ w → Z.p S ρ w) → CallOk Z' P call → DrawnOk Z' P (dr call)) (n : Nat) :
    CallOk Z P (run K P ext xt dr n) := callB_ok (exec_ok Z hext hdr n Z xt (fun _ _ _ q => q) hxt)

end Ex
end Go.Proofs.YtjdmkgnlakonbaaGreatDoor
namespace Go.Proofs.YtjdmkgnlakonbaaGreatDoor
namespace Ex

variable {P : Program}

/-- Which operations a listing has. -/
def Lst (listed : Array Bool) (i : Nat) : Prop := listed.getD i false = true

/-- How many are left. -/
def leftOf (n : Nat) (listed : Array Bool) : Nat := ((List.range n).filter fun i => !listed.getD i true).length

theorem leftOf_set {n i : Nat} {listed : Array Bool} (hn : listed.size = n) (hi : i < n) (h0 : listed.getD i true = false) : leftOf n (listed.setIfInBounds i true) + 1 ≤ leftOf n listed := by
  unfold leftOf
  have hsub : ∀ (l : List Nat), l.Nodup → i ∈ l → ((l.filter fun j => !(listed.setIfInBounds i true).getD j true).length + 1 ≤ (l.filter fun j => !listed.getD j true).length) := by
    intro l
    have hget : ∀ j, (listed.setIfInBounds i true).getD j true = if j = i then true else listed.getD j true := by
      intro j
      by_cases e : j = i
      · subst e; simp [Array.getD_eq_getD_getElem?, hn, hi]
      · simp [Array.getD_eq_getD_getElem?, Ne.symm e, e]
    induction l with
    | nil => intro _ h; simp at h
    | cons x l ih =>
      intro hnd hm
      rw [List.nodup_cons] at hnd
      by_cases hx : x = i
      · subst hx
        have hrest : (l.filter fun j => !(listed.setIfInBounds x true).getD j true) = l.filter fun j => !listed.getD j true := by
          apply List.filter_congr
          intro j hj
          rw [hget, if_neg (fun e : j = x => hnd.1 (e ▸ hj))]
        have e1 : (!(listed.setIfInBounds x true).getD x true) = false := by rw [hget, if_pos rfl]; rfl
        have e2 : (!listed.getD x true) = true := by rw [h0]; rfl
        rw [List.filter_cons, List.filter_cons, e1, e2, hrest]
        simp
      · have hm : i ∈ l := by rcases List.mem_cons.1 hm with h | h; exact absurd h.symm hx; exact h
        have := ih hnd.2 hm
        simp only [List.filter_cons, hget, if_neg hx]
        split <;> simp_all
  exact hsub _ List.nodup_range (List.mem_range.2 hi)

/-- An invariant over what is listed serves every order. -/
theorem wpAny_of_inv {F : Fence} {n : Nat} {ops : Array Oper} {Q : Exit → Act → World → Prop} (I : Array Bool → Act → World → Prop)
    (hend : ∀ listed a w, I listed a w → Region.ready .any ops listed = [] → Q .normal a w)
    (hstep : ∀ listed a w i, I listed a w → i ∈ Region.ready .any ops listed → wpOpIn F n P ops Q i (I (listed.setIfInBounds i true)) a w)
    (hsize : ∀ listed a w, I listed a w → listed.size = ops.size) :
    ∀ fuel listed a w, leftOf ops.size listed ≤ fuel → I listed a w → wpAnyIn F n P .any ops Q fuel listed a w := by
  intro fuel
  induction fuel with
  | zero =>
    intro listed a w hl hI
    have hr : Region.ready .any ops listed = [] := by
      unfold Region.ready
      rw [List.filter_eq_nil_iff]
      intro i hi h
      have h0 : leftOf ops.size listed = 0 := Nat.le_zero.1 hl
      unfold leftOf at h0
      rw [List.length_eq_zero_iff, List.filter_eq_nil_iff] at h0
      simp only [Bool.and_eq_true] at h
      exact h0 i hi h.1
    exact ⟨hr, hend _ _ _ hI hr⟩
  | succ fuel ih =>
    intro listed a w hl hI
    refine ⟨hend _ _ _ hI, fun i hi => ?_⟩
    have hs := hsize _ _ _ hI
    have hi' := mem_ready.1 hi
    refine wpOpIn_mono (fun a' w' h => ih _ a' w' ?_ h) (hstep listed a w i hI hi)
    have h1 : i < ops.size := by
      unfold Region.ready at hi
      exact List.mem_range.1 (List.mem_filter.1 hi).1
    have h2 : listed.getD i true = false := by
      unfold Region.ready at hi
      have := (List.mem_filter.1 hi).2
      simp only [Bool.and_eq_true, Bool.not_eq_true'] at this
      exact this.1
    have := leftOf_set hs h1 h2
    omega

/-! Memory of which less is known, or which is told otherwise. -/
theorem WR.sub {ρ : Rho} {S T : St} {w : World} (h : WR ρ S w) (hs : ∀ i A, T.heap.at i = some A → S.heap.at i = some A) (hn : T.next = S.next) : WR ρ T w := by
  refine ⟨fun i j b m n A B hA hB => h.inj i j b m n A B (hs i A hA) (hs j B hB), fun i hi => ?_, by rw [hn]; exact h.lim, h.low, fun i B hB => h.blk i B (hs i B hB)⟩
  rw [hn] at hi
  refine ⟨(h.dom i hi).1, ?_⟩
  cases ht : T.heap.at i with
  | none => rfl
  | some A => have := hs i A ht; rw [(h.dom i hi).2] at this; cases this

/-- A block that lies there is told. -/
theorem WR.tell {ρ : Rho} {S T : St} {w : World} (h : WR ρ S w) {id b n : Nat} {B : AB} (hid : id < S.next) (hr : ρ id = some (b, n)) (hB : BR ρ n B w.heap[b]?)
    (hfree : ∀ j m A, j ≠ id → S.heap.at j = some A → A.live = true → ρ j ≠ some (b, m)) (hT : ∀ i, T.heap.at i = if i = id then some B else S.heap.at i) (hn : T.next = S.next) : WR ρ T w := by
  have hat : ∀ i A, T.heap.at i = some A → (i = id ∧ A = B) ∨ (i ≠ id ∧ S.heap.at i = some A) := by
    intro i A hi
    rw [hT] at hi
    by_cases e : i = id
    · rw [if_pos e] at hi; injection hi with hi; exact .inl ⟨e, hi.symm⟩
    · rw [if_neg e] at hi; exact .inr ⟨e, hi⟩
  refine ⟨fun i j c m k A C hi hj hA hC hri hrj => ?_, fun i hi => ?_, by rw [hn]; exact h.lim, h.low, fun i A hi => ?_⟩
  · rcases hat i A hi with ⟨e1, p1⟩ | ⟨e1, p1⟩ <;> rcases hat j C hj with ⟨e2, p2⟩ | ⟨e2, p2⟩
    · rw [e1, e2]
    · subst e1; rw [hr] at hri; injection hri with hri; injection hri with q1 q2; subst q1
      exact absurd hrj (hfree j k C e2 p2 hC)
    · subst e2; rw [hr] at hrj; injection hrj with hrj; injection hrj with q1 q2; subst q1
      exact absurd hri (hfree i m A e1 p1 hA)
    · exact h.inj i j c m k A C p1 p2 hA hC hri hrj
  · rw [hn] at hi
    refine ⟨(h.dom i hi).1, ?_⟩
    rw [hT, if_neg (by omega)]; exact (h.dom i hi).2
  · rcases hat i A hi with ⟨e, e2⟩ | ⟨_, e2⟩
    · subst e; subst e2; exact ⟨b, n, hr, hB⟩
    · exact h.blk i A e2

/-! Ancestors. -/
def preds (o : Oper) : List Nat := (o.after.toList.filter fun e => Region.binds .any e).map (·.on)

inductive Anc (ops : Array Oper) : Nat → Nat → Prop
  | one {i j : Nat} {o : Oper} : ops[i]? = some o → j ∈ preds o → Anc ops i j
  | more {i j k : Nat} {o : Oper} : ops[i]? = some o → j ∈ preds o → Anc ops j k → Anc ops i k

noncomputable def isAnc (ops : List Oper) (n : Nat) : Nat → Nat → Bool :=
  Nat.rec (motive := fun _ => Nat → Nat → Bool) (fun _ _ => false)
    (fun _ ih i k => match ops[i]? with
      | none => false
      | some o => (preds o).any fun j => Nat.beq j k || ih j k) n
theorem isAnc_ok {ops : Array Oper} : ∀ {n i k : Nat}, isAnc ops.toList n i k = true → Anc ops i k
  | 0, _, _, h => by cases h
  | n + 1, i, k, h => by
    have h : (match ops.toList[i]? with
      | none => false
      | some o => (preds o).any fun j => Nat.beq j k || isAnc ops.toList n j k) = true := h
    split at h
    · cases h
    · rename_i o ho
      have ho : ops[i]? = some o := by simpa using ho
      rw [List.any_eq_true] at h
      obtain ⟨j, hj, h⟩ := h
      rw [Bool.or_eq_true] at h
      rcases h with h | h
      · have := Nat.eq_of_beq_eq_true h; subst this; exact .one ho hj
      · exact .more ho hj (isAnc_ok h)

/-- What is listed is listed with all before it. -/
def Down (ops : Array Oper) (listed : Array Bool) : Prop := ∀ i o j, ops[i]? = some o → Lst listed i → j ∈ preds o → Lst listed j

theorem Anc.lst {ops : Array Oper} {listed : Array Bool} (hd : Down ops listed) {i k : Nat} (h : Anc ops i k) : Lst listed i → Lst listed k := by
  induction h with
  | one ho hj => exact fun hl => hd _ _ _ ho hl hj
  | more ho hj _ ih => exact fun hl => ih (hd _ _ _ ho hl hj)

theorem ready_preds {ops : Array Oper} {listed : Array Bool} {i : Nat} {o : Oper} (h : i ∈ Region.ready .any ops listed) (ho : ops[i]? = some o) : ∀ j ∈ preds o, Lst listed j := by
  intro j hj
  unfold Region.ready at h
  have h := (List.mem_filter.1 h).2
  simp only [ho, Option.map_some, Option.getD_some, Bool.and_eq_true] at h
  have h := h.2
  rw [Array.all_eq_true_iff_forall_mem] at h
  unfold preds at hj
  simp only [List.mem_map, List.mem_filter] at hj
  obtain ⟨e, ⟨he, hb⟩, rfl⟩ := hj
  have := h e (by simpa using he)
  rw [hb] at this
  simpa [Lst] using this

theorem ready_anc {ops : Array Oper} {listed : Array Bool} (hd : Down ops listed) {i k : Nat} (h : i ∈ Region.ready .any ops listed) (ha : Anc ops i k) : Lst listed k := by
  cases ha with
  | one ho hj => exact ready_preds h ho _ hj
  | more ho hj ha => exact ha.lst hd (ready_preds h ho _ hj)

end Ex
end Go.Proofs.YtjdmkgnlakonbaaGreatDoor
