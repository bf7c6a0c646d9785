/- The table of known parts that maps.Plan keeps: what it holds, looked up and written. -/
import Derived.Test.YtcgbdkjelbgcfaaGreatDoorEvm
import Derived.DeepKeys4
import Derived.MapViews
import Derived.Maps.OwnOps
namespace Go.Proofs.YtcgbdkjelbgcfaaGreatDoor
open Go.RowKit Go.WideMaps

/-- A choice that fits a part: none, or a line inside it. -/
def GoodC (p : Pt) (f way c : Int) : Prop := f = 0 ∨ ∃ y n : Nat, way = y ∧ c = n ∧ y ≤ 1 ∧ p.from' y < n ∧ n < p.to y
def chV (f way c : Int) : Value := .agg #[.int .i64 f, .int .i64 way, .int .i64 c]
/-- Block M is a map from parts to choices that fit them. -/
def KnownOk (w : World) (M : Nat) : Prop :=
  ∃ es clock, w.heap[M]? = some (.map es clock) ∧ ∀ e ∈ es.toList, ∃ (p : Pt) (f way c : Int), e.key = p.v ∧ e.val = chV f way c ∧ GoodC p f way c

theorem part_und : Tryz.prog.underlying 64 = some (.array 4 3) := by kernel_rfl
theorem part_int : Tryz.prog.underlying 3 = some (.int .i64) := by kernel_rfl
theorem int_size (w : World) : (sizeOf 3).run Tryz.prog w = .ok 1 w := by kernel_rfl
theorem known_und : Tryz.prog.underlying 70 = some (.map 64 73) := by kernel_rfl
theorem choice_zero (w : World) : (zeroValue 73).run Tryz.prog w = .ok (chV 0 0 0) w := by kernel_rfl
theorem part_check (b : Bool) (p : Pt) (w : World) : (Instr.checkKey b 10000 64 p.v).run Tryz.prog w = .ok () w := by kernel_rfl
theorem part_at0 (a b c d : Int) (w : World) : (part 3 #[Value.int .i64 a, .int .i64 b, .int .i64 c, .int .i64 d] 0).run Tryz.prog w = .ok (.int .i64 a) w := by kernel_rfl
theorem part_at1 (a b c d : Int) (w : World) : (part 3 #[Value.int .i64 a, .int .i64 b, .int .i64 c, .int .i64 d] 1).run Tryz.prog w = .ok (.int .i64 b) w := by kernel_rfl
theorem part_at2 (a b c d : Int) (w : World) : (part 3 #[Value.int .i64 a, .int .i64 b, .int .i64 c, .int .i64 d] 2).run Tryz.prog w = .ok (.int .i64 c) w := by kernel_rfl
theorem part_at3 (a b c d : Int) (w : World) : (part 3 #[Value.int .i64 a, .int .i64 b, .int .i64 c, .int .i64 d] 3).run Tryz.prog w = .ok (.int .i64 d) w := by kernel_rfl
theorem int_equal (d : Nat) (a b : Int) (w : World) : (Op.equalIn (d + 1) 3 (.int .i64 a) (.int .i64 b)).run Tryz.prog w = .ok (a == b) w := by
  simp [Op.equalIn, run_underlying part_int]
theorem part_equal (p q : Pt) (w : World) : (Op.equal 64 p.v q.v).run Tryz.prog w = .ok (decide (p = q)) w := by
  obtain ⟨a, b, c, d⟩ := p
  obtain ⟨a', b', c', d'⟩ := q
  have h : ∀ n, (Op.equalIn (n + 1 + 1) 64 (Pt.v ⟨a, b, c, d⟩) (Pt.v ⟨a', b', c', d'⟩)).run Tryz.prog w = .ok (decide ((⟨a, b, c, d⟩ : Pt) = ⟨a', b', c', d'⟩)) w := by
    intro n
    unfold Op.equalIn
    simp only [Sem.run_bind, run_underlying part_und, Result.andThen_ok, Pt.v, int_size]
    simp only [Std.Legacy.Range.forIn_eq_forIn_range', Std.Legacy.Range.size, Nat.sub_zero, Nat.div_one, List.range'_succ, List.range'_zero, List.forIn_cons, List.forIn_nil, Sem.run_bind, Nat.mul_one, Nat.zero_add, Nat.reduceAdd,
      part_at0, Result.andThen_ok, int_equal]
    by_cases h0 : a = a' <;> by_cases h1 : b = b' <;> by_cases h2 : c = c' <;> by_cases h3 : d = d' <;> simp [h0, h1, h2, h3, part_at1, part_at2, part_at3, int_equal] <;> omega
  exact h 9998

theorem Pt.v_inj {p q : Pt} (h : p.v = q.v) : p = q := by
  obtain ⟨a, b, c, d⟩ := p
  obtain ⟨a', b', c', d'⟩ := q
  simp [Pt.v] at h
  simp; omega

theorem part_find (p : Pt) (w : World) : ∀ (es : List MapEntry) (n : Nat), (∀ e ∈ es, ∃ (q : Pt) (f way c : Int), e.key = q.v ∧ e.val = chV f way c ∧ GoodC q f way c) →
    ((Instr.findAsking 64 p.v es n).run Tryz.prog w = .ok none w) ∨ ∃ (i : Nat) (f way c : Int), (Instr.findAsking 64 p.v es n).run Tryz.prog w = .ok (some (n + i, chV f way c)) w ∧ GoodC p f way c ∧ ∃ e, es[i]? = some e ∧ e.key = p.v
  | [], n, _ => .inl (by simp [Instr.findAsking])
  | e :: es, n, h => by
    obtain ⟨q, f, way, c, hq, hv, hG⟩ := h e (by simp)
    by_cases hpq : p = q
    · subst hpq
      refine .inr ⟨0, f, way, c, ?_, hG, e, rfl, hq⟩
      simp [Instr.findAsking, hq, hv, part_equal]
    · rcases part_find p w es (n + 1) (fun e he => h e (by simp [he])) with h1 | ⟨i, f', way', c', h1, h2, e', h3, h4⟩
      · refine .inl ?_
        simp [Instr.findAsking, hq, part_equal, hpq, h1]
      · refine .inr ⟨i + 1, f', way', c', ?_, h2, e', by simpa using h3, h4⟩
        have e2 : n + 1 + i = n + (i + 1) := by omega
        rw [e2] at h1
        simp [Instr.findAsking, hq, part_equal, hpq, h1]
theorem part_findKey (p : Pt) (w : World) (es : List MapEntry) (h : ∀ e ∈ es, ∃ (q : Pt) (f way c : Int), e.key = q.v ∧ e.val = chV f way c ∧ GoodC q f way c) :
    ((Instr.findKey 64 p.v es).run Tryz.prog w = .ok none w) ∨ ∃ (i : Nat) (f way c : Int), (Instr.findKey 64 p.v es).run Tryz.prog w = .ok (some (i, chV f way c)) w ∧ GoodC p f way c ∧ ∃ e, es[i]? = some e ∧ e.key = p.v := by
  cases es with
  | nil => exact .inl (by simp [Instr.findKey, run_underlying part_und, Instr.findNow])
  | cons e r =>
    have hr : (Instr.findKey 64 p.v (e :: r)).run Tryz.prog w = (Instr.findAsking 64 p.v (e :: r) 0).run Tryz.prog w := by
      simp [Instr.findKey, run_underlying part_und, Instr.findNow, Instr.sameNow]
    rw [hr]
    rcases part_find p w (e :: r) 0 h with h1 | ⟨i, f, way, c, h1, h2⟩
    · exact .inl h1
    · exact .inr ⟨i, f, way, c, by simpa using h1, h2⟩

theorem known_look {w : World} {M : Nat} (h : KnownOk w M) (p : Pt) : ∃ f way c ok, (Instr.lookup 70 (.map (some M)) p.v true).run Tryz.prog w = .ok (.tuple #[chV f way c, .bool ok]) w ∧ GoodC p f way c := by
  obtain ⟨es, clock, hb, hes⟩ := h
  have hobj : (getObj M).run Tryz.prog w = .ok (.map es clock) w := by simp [getObj, Sem.run, hb]
  have hck := part_check es.isEmpty p w
  rcases part_findKey p w es.toList hes with hf | ⟨i, f, way, c, hf, hG, _⟩
  · refine ⟨0, 0, 0, false, ?_, .inl rfl⟩
    simp only [Instr.lookup, Sem.run_bind, run_underlying known_und, Result.andThen_ok, hobj, Sem.run_pure, hck, hf, choice_zero, if_true]
  · refine ⟨f, way, c, true, ?_, hG⟩
    simp only [Instr.lookup, Sem.run_bind, run_underlying known_und, Result.andThen_ok, hobj, Sem.run_pure, hck, hf, if_true]

theorem part_stays (p : Pt) (w : World) : (Instr.keyThatStays p.v p.v).run Tryz.prog w = .ok p.v w := by
  have : Instr.sameBits 10000 p.v p.v = true := by
    have h : ∀ n, Instr.sameBits (n + 1 + 1) p.v p.v = true := by intro n; simp [Instr.sameBits, Pt.v]
    exact h 9998
  simp [Instr.keyThatStays, this]

theorem known_put {w : World} {M : Nat} (h : KnownOk w M) (p : Pt) (f way c : Int) (hG : GoodC p f way c) : ∃ w', (Instr.mapUpdate 70 (.map (some M)) p.v (chV f way c)).run Tryz.prog w = .ok () w' ∧ KnownOk w' M ∧ w.grownBy w' (some M) := by
  obtain ⟨es, clock, hb, hes⟩ := h
  have hlt : M < w.heap.size := (Array.getElem?_eq_some_iff.1 hb).1
  have hobj : (getObj M).run Tryz.prog w = .ok (.map es clock) w := by simp [getObj, Sem.run, hb]
  have hset : ∀ o, (setObj M o).run Tryz.prog w = .ok () { w with heap := w.heap.setIfInBounds M o } := by intro o; simp [setObj, Sem.run, hb]
  have hck := part_check false p w
  have hgr : ∀ o, w.grownBy { w with heap := w.heap.setIfInBounds M o } (some M) := fun o => ⟨rfl, rfl, rfl, by simp, fun i _ hi => by
    have : M ≠ i := fun e => hi (by rw [e])
    simp [this]⟩
  rcases part_findKey p w es.toList hes with hf | ⟨i, f', way', c', hf, _, e, hj, hk⟩
  · refine ⟨{ w with heap := w.heap.setIfInBounds M (.map (es.push { key := p.v, val := chV f way c, born := clock }) (clock + 1)) }, ?_, ⟨es.push { key := p.v, val := chV f way c, born := clock }, clock + 1, by simp [hlt], ?_⟩, hgr _⟩
    · simp only [Instr.mapUpdate, Sem.run_bind, run_underlying known_und, Result.andThen_ok, hobj, hck, hf, hset]
    · intro e he
      rw [Array.toList_push, List.mem_append] at he
      rcases he with he | he
      · exact hes e he
      · obtain rfl : e = _ := by simpa using he
        exact ⟨p, f, way, c, rfl, rfl, hG⟩
  · have hj' : es[i]? = some e := by simpa using hj
    refine ⟨{ w with heap := w.heap.setIfInBounds M (.map (es.modify i fun e => { e with key := p.v, val := chV f way c }) clock) }, ?_, ⟨es.modify i fun e => { e with key := p.v, val := chV f way c }, clock, by simp [hlt], ?_⟩, hgr _⟩
    · simp only [Instr.mapUpdate, Sem.run_bind, run_underlying known_und, Result.andThen_ok, hobj, hck, hf, hset, hj', Option.map_some, Option.getD_some, hk, part_stays]
    · intro x hx
      rw [Array.toList_modify] at hx
      obtain ⟨k, hi⟩ := List.mem_iff_getElem?.1 hx
      rw [List.getElem?_modify] at hi
      obtain ⟨y, hy, rfl⟩ := Option.map_eq_some_iff.1 hi
      by_cases hij : i = k
      · simp only [hij, if_true]; exact ⟨p, f, way, c, rfl, rfl, hG⟩
      · simp only [hij, if_false]; exact hes y (List.mem_of_getElem? hy)

theorem KnownOk.kept {w w' : World} {M : Nat} {row : Option Nat} (h : KnownOk w M) (hg : w.grownBy w' row) (hne : some M ≠ row) : KnownOk w' M := by
  obtain ⟨es, clock, hb, hes⟩ := h
  exact ⟨es, clock, (hg.block M (Array.getElem?_eq_some_iff.1 hb).1 hne).trans hb, hes⟩
theorem KnownOk.below {w w' : World} {M N : Nat} (h : KnownOk w M) (hb : Below N w w') (hN : M < N) : KnownOk w' M := by
  obtain ⟨es, clock, hm, hes⟩ := h
  exact ⟨es, clock, _root_.Go.Proofs.YtcgbdkjelbgcfaaGreatDoor.kept hb hm hN, hes⟩
theorem KnownOk.lt {w : World} {M : Nat} (h : KnownOk w M) : M < w.heap.size := by
  obtain ⟨es, clock, hm, hes⟩ := h
  exact (Array.getElem?_eq_some_iff.1 hm).1
theorem known_made (w : World) : KnownOk (w.alloc (.map #[] 0)) w.heap.size := ⟨#[], 0, heap_alloc_new w _, by simp⟩

theorem wpList_lookup_known (w : World) {ops : Array Oper} {rest : List Oper} {o : Oper} {a : Act} {Q : Exit → Act → World → Prop}
    (hg : o.guard = none) (m x : Operand) (hop : o.op = Op.lookup 70 m x true) (M : Nat) (p0 p1 p2 p3 : Nat) (hm : a.eval m = .map (some M)) (hx : a.eval x = .agg #[.int .i64 p0, .int .i64 p1, .int .i64 p2, .int .i64 p3]) (h : KnownOk w M)
    (hK : ∀ (f way c : Int) (ok : Bool), GoodC ⟨p0, p1, p2, p3⟩ f way c → wpList Tryz.prog ops Q rest (a.put o.dst (.tuple #[.agg #[.int .i64 f, .int .i64 way, .int .i64 c], .bool ok])) w) :
    wpList Tryz.prog ops Q (o :: rest) a w := by
  refine wpList_plain hg fun K' hK' => ?_
  obtain ⟨f, way, c, ok, hrun, hG⟩ := known_look h ⟨p0, p1, p2, p3⟩
  have hx : a.eval x = Pt.v ⟨p0, p1, p2, p3⟩ := hx
  unfold Oper.wp
  simp [execOp, hop, hm, hx, hrun, Result.andThen]
  exact hK' _ _ (hK f way c ok hG)

theorem wpList_put_known (w : World) {ops : Array Oper} {rest : List Oper} {o : Oper} {a : Act} {Q : Exit → Act → World → Prop}
    (hg : o.guard = none) (m x v : Operand) (hop : o.op = Op.mapUpdate 70 m x v) (M : Nat) (p0 p1 p2 p3 : Nat) (f way c : Int) (hm : a.eval m = .map (some M)) (hx : a.eval x = .agg #[.int .i64 p0, .int .i64 p1, .int .i64 p2, .int .i64 p3]) (hv : a.eval v = .agg #[.int .i64 f, .int .i64 way, .int .i64 c]) (h : KnownOk w M) (hG : GoodC ⟨p0, p1, p2, p3⟩ f way c)
    (hK : ∀ w', KnownOk w' M → w.grownBy w' (some M) → wpList Tryz.prog ops Q rest (a.put o.dst undef) w') :
    wpList Tryz.prog ops Q (o :: rest) a w := by
  refine wpList_plain hg fun K' hK' => ?_
  obtain ⟨w', hrun, h1, h2⟩ := known_put h ⟨p0, p1, p2, p3⟩ f way c hG
  have hx : a.eval x = Pt.v ⟨p0, p1, p2, p3⟩ := hx
  have hv' : a.eval v = chV f way c := hv
  unfold Oper.wp
  simp [execOp, hop, hm, hx, hv', hrun, Result.andThen]
  exact hK' _ _ (hK w' h1 h2)
end Go.Proofs.YtcgbdkjelbgcfaaGreatDoor
