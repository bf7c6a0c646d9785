/- A closed-run executor: its parts Eu to Ey, joined: proved sound against the model. No program is named; the one condition of the whole: the program follows the mixed orders. -/
import Derived.Test.YtjdmkgnlakonbaaGreatDoorEt
namespace Go.Proofs.YtjdmkgnlakonbaaGreatDoor
namespace Ex

variable {P : Program}

/-- append(nil, make([]T, n)...). -/
noncomputable def aAppZ (P : Program) (S : St) (sT xT : TypeId) (s x : AV) : Option (AV × St) :=
  match P.underlying sT, P.underlying xT, s, x with
  | some (.slice e), some (.int _), .nilSl, .int _ n => match P.info? e, ix 1000000 n with
    | some i, some l => match Nat.beq l 0 with
      | true => none
      | false => match aZeros P e (Nat.mul l i.size) with
        | some zs => both (mayGrow P e i l && Nat.beq zs.length (Nat.mul l i.size)) (aGrow S e (wr zs .e 0) zs.length) (.slu S.next 0 l i.size l)
        | none => none
    | _, _ => none
  | _, _, _, _ => none

theorem aAppZ_ok {K : Nat} {S S' : St} {sT xT ty : TypeId} {s x v : AV} {u y : Value} {w : World} {ρ : Rho} (h : aAppZ P S sT xT s x = some (v, S')) (hw : WR ρ S w) (hK : K ≤ S.next) (hs : VR ρ s u) (hx : VR ρ x y) :
    Eff K S ρ w S' v ((Builtin.append_ #[sT, xT] ty #[u, y]).run P w) := by
  unfold aAppZ at h
  split at h
  · rename_i e k1 k2 n hu hd
    split at h
    · rename_i i l hi hl
      split at h
      · cases h
      · rename_i h0
        have h0 : l ≠ 0 := fun e => by rw [beq_t e] at h0; cases h0
        split at h
        · rename_i zs hz
          obtain ⟨hc, hS, e1⟩ := both_ok h
          subst e1
          simp only [Bool.and_eq_true] at hc
          have hl2 : zs.length = l * i.size := Nat.eq_of_beq_eq_true hc.2
          obtain ⟨en, hlt⟩ := ix_ok hl
          simp only [VR] at hs hx; subst hs; subst hx; subst en
          obtain ⟨g1, g2, z, hzr, hzs⟩ := mayGrow_ok hc.1 ρ w.drew
          have hsz : tySize P e = some i.size := by simp [tySize, hi]
          have wl : IntKind.i64.wrap (l : Int) = l := by rw [← fwrap_eq]; show fwrap .i64 (.ofNat l) = _; unfold fwrap; show (Bool.rec _ _ (Nat.blt l (top .i64)) : Int) = _; rw [blt_t (by show l < 9223372036854775808; omega)]; rfl
          have hneg : ¬ ((l : Int) < 0) := by omega
          have hbig : ¬ ((l : Int) * (i.bytes : Int) > 2 ^ 48) := by
            intro hgt
            have h3 : ((l * i.bytes : Nat) : Int) > 2 ^ 48 := by simpa using hgt
            have h4 : l * i.bytes ≤ 1000000 * i.bytes := Nat.mul_le_mul_right _ (by omega)
            have : (2 : Int) ^ 48 = 281474976710656 := by decide
            omega
          have h2 : ¬ (Builtin.nextslicecap (0 + l) 0 * i.bytes > 2 ^ 48) := by
            have := nextcap_le (need := 0 + l) (cap := 0) (by omega) (by omega)
            have h3 : Builtin.nextslicecap (0 + l) 0 * i.bytes ≤ 3000000 * i.bytes := Nat.mul_le_mul_right _ this
            have : (2 : Nat) ^ 48 = 281474976710656 := by decide
            omega
          have h4 : ¬ (((0 + l : Nat) : Int) > IntKind.i64.max) := by
            have : IntKind.i64.max = 9223372036854775807 := by decide
            omega
          have h5 : ¬ (0 + l ≤ 0) := by omega
          have hch : (choose (.appendCap (0 + l) 0 e)).run P w = .ok (0 + l + w.tape w.drawn (.appendCap (0 + l) 0 e) % (2 ^ 63 - (0 + l))) w.drew := rfl
          have hcap : l ≤ 0 + l + w.tape w.drawn (.appendCap (0 + l) 0 e) % (2 ^ 63 - (0 + l)) := by omega
          generalize 0 + l + w.tape w.drawn (.appendCap (0 + l) 0 e) % (2 ^ 63 - (0 + l)) = q at hch hcap
          have har : ∀ m, (askRoom m).run P w.drew = .ok () w.drew := by
            intro m; unfold askRoom; split <;> rfl
          have hnew : ∀ cs, (newRow e cs).run P w.drew = .ok ⟨w.heap.size, 0, none⟩ (w.drew.alloc (.cells cs e)) := fun cs => rfl
          have hold : (Builtin.firstCells i.size 0 (.slice none 0 0)).run P w.drew = .ok #[] w.drew := rfl
          -- the new cells
          have hcells : ∃ nc : Array Value, VRL ρ zs nc.toList ∧ (if l * i.size = 0 then (pure #[] : Sem (Array Value)) else do pure (Builtin.zeroCells (← zeroValue e).cells l)).run P w.drew = .ok nc w.drew := by
            rcases aZeros_ok hz ρ w.drew with ⟨hz0, hzl⟩ | ⟨hz0, z', hzr', hzv⟩
            · have hz0 : l * i.size = 0 := hz0
              subst hzl
              exact ⟨#[], by simp [VRL], by rw [if_pos hz0]; rfl⟩
            · have hz0 : ¬ l * i.size = 0 := hz0
              rw [hzr] at hzr'; injection hzr' with hzr'; subst hzr'
              refine ⟨Builtin.zeroCells z.cells l, ?_, by rw [if_neg hz0]; simp [hzr]⟩
              unfold Builtin.zeroCells
              rw [hzs]
              rw [hzs] at hzv
              exact hzv
          obtain ⟨nc, hnv, hnr⟩ := hcells
          have hrun : (Builtin.append_ #[sT, xT] ty #[.slice none 0 0, .int k2 (l : Int)]).run P w = .ok (.slice (some ⟨w.heap.size, 0, none⟩) (0 + l) q) (w.drew.alloc (.cells (#[] ++ nc ++ Builtin.zeroCells z.cells (q - (0 + l))) e)) := by
            simp only [Builtin.append_, List.getElem?_toArray, List.getElem?_cons_zero, List.getElem?_cons_succ, Sem.run_bind, run_underlying hu, run_underlying hd, Result.andThen_ok, run_size hsz, Sem.run_pure, if_true, asInt, asIntOf, wl, if_neg hneg, run_typeInfo w hi, if_neg hbig, Int.toNat_natCast, if_neg h5, h4, false_and, if_false, if_neg h2, hch, run_typeInfo w.drew hi, har, hold, Bool.not_true, Bool.false_eq_true, hnr, hzr, hnew]
          have hnl := hnv.length
          have hnl : nc.size = l * i.size := by rw [hl2] at hnl; simpa using hnl
          have hsize : (#[] ++ nc ++ Builtin.zeroCells z.cells (q - (0 + l))).size = q * i.size := by
            simp only [Array.size_append, zeroCells_size, hzs, hnl]
            rw [show (#[] : Array Value).size = 0 from rfl, Nat.zero_add, ← Nat.add_mul]; congr 1; omega
          have hmul : l * i.size ≤ q * i.size := Nat.mul_le_mul_right _ hcap
          obtain ⟨σ, h1, h2', h3, h4'⟩ := aGrow_ok (K := K) (c := #[] ++ nc ++ Builtin.zeroCells z.cells (q - (0 + l))) hS hw hK hsize (by omega) (fun j v hj => by
            obtain ⟨q1, q2⟩ := wr_e_at (aGrow_len hS) hj
            obtain ⟨x, hx1, hx2⟩ := hnv.get j v q2
            refine ⟨q1, x, ?_, hx2⟩
            rw [Array.getElem?_append_left (by simp; omega)]
            simpa using hx1)
          refine ⟨_, _, σ, hrun, h1, h2', ?_, h4'⟩
          simp only [VR]
          exact ⟨_, _, q, h3, by rw [Nat.zero_add], hcap, by omega⟩
        · cases h
    · cases h
  · cases h

end Ex
end Go.Proofs.YtjdmkgnlakonbaaGreatDoor
namespace Go.Proofs.YtjdmkgnlakonbaaGreatDoor
namespace Ex

variable {P : Program}

/-- The bytes of cells. -/
noncomputable def aBytes (l : List AV) : Option (List Nat) := mapO (fun v => match v with
  | .int .u8 (.ofNat b) => Bool.rec none (fNat b some) (Nat.blt b 256)
  | _ => none) l

theorem aBytes_ok {ρ : Rho} : ∀ {l : List AV} {bs : List Nat} {xs : List Value}, aBytes l = some bs → VRL ρ l xs → xs = bs.map (fun b : Nat => Value.int .u8 (b : Int)) ∧ (∀ b ∈ bs, b < 256)
  | [], bs, xs, h, hv => by
    have h : some [] = some bs := h
    injection h with h; subst h; simp only [VRL] at hv; subst hv; exact ⟨rfl, fun b hb => by simp at hb⟩
  | v :: l, bs, xs, h, hv => by
    obtain ⟨y, ys, h1, h2, h3⟩ := mapO_cons h
    simp only [VRL] at hv
    obtain ⟨z, zs, e, hz, hzs⟩ := hv
    obtain ⟨i1, i2⟩ := aBytes_ok (l := l) h2 hzs
    subst h3; subst e
    split at h1
    · rename_i b
      by_cases hb : b < 256
      · rw [blt_t hb] at h1
        simp only [fNat_eq, Option.some.injEq] at h1; subst h1
        simp only [VR] at hz
        refine ⟨by rw [hz, i1]; rfl, fun c hc => ?_⟩
        rcases List.mem_cons.1 hc with rfl | hc
        · exact hb
        · exact i2 c hc
      · rw [blt_f hb] at h1; cases h1
    · cases h1

theorem run_loadBytes {w : World} {b : Nat} : ∀ (bs : List Nat) (off : Nat) (acc : List Nat), (∀ x ∈ bs, x < 256) → (∀ j x : Nat, bs[j]? = some x → w.cell? ⟨b, off + j, none⟩ = some (.int .u8 (x : Int))) →
    (loadBytes ⟨b, off, none⟩ (bytesOf acc) bs.length).run P w = .ok (bytesOf (acc ++ bs)) w
  | [], off, acc, _, _ => by simp [loadBytes]
  | x :: bs, off, acc, hb, hc => by
    have h0 := hc 0 x (by simp)
    simp only [Nat.add_zero] at h0
    have hp : (bytesOf acc).push ((x : Int).toNat.toUInt8) = bytesOf (acc ++ [x]) := by
      apply ByteArray.ext
      simp [bytesOf, ByteArray.push]
    have ih := run_loadBytes (w := w) (b := b) bs (off + 1) (acc ++ [x]) (fun y hy => hb y (by simp [hy])) (fun j y hy => by
      have := hc (j + 1) y (by simpa using hy)
      rw [← this]; congr 2; omega)
    simp only [List.length_cons, loadBytes, Sem.run_bind, run_load, h0, Result.andThen_ok, hp, addr_add, ih]
    simp

/-- unsafe.String. -/
noncomputable def aUStr (K : Nat) (P : Program) (S : St) (pt : TypeId) (p n : AV) : Option (AV × St) :=
  match P.underlying pt, p, n with
  | some (.pointer e), .ptr id off, .int _ z => match ix 1000000 z, S.heap.at id with
    | some l, some (.cells tr m e' _) => match Nat.beq e e' && (Nat.ble (Nat.add off l) m && (Nat.blt 0 l && (Nat.ble K id && Nat.beq (P.cellsOf e) 1))) with
      | true => match rd tr l off with
        | some cs => match aBytes cs with
          | some bs => some (.str bs, ⟨S.heap.to id (.cells tr m e' false), S.next⟩)
          | none => none
        | none => none
      | false => none
    | _, _ => none
  | _, _, _ => none

theorem liesAt_same {e : TypeId} {count off n : Nat} (hs : P.cellsOf e = 1) (h : off + n ≤ count) (d : Nat) : liesAt P (d + 1) e count off e n = true := by
  have hd : P.depth = (P.depth - 1) + 1 := by unfold Program.depth; omega
  have hl : sameLayout P (P.depth - 1 + 1) e e = true := by simp [sameLayout]
  have hr : rowAt P (sameLayout P P.depth · e) P.depth e count off n = true := by
    rw [hd]; simp [rowAt, hs, hl, h, Nat.mod_one]
  simp only [liesAt, hr, Bool.true_or]

theorem aUStr_ok {K : Nat} {S S' : St} {pt lt ty : TypeId} {p n v : AV} {x y : Value} {w : World} {ρ : Rho} (h : aUStr K P S pt p n = some (v, S')) (hw : WR ρ S w) (hp : VR ρ p x) (hn : VR ρ n y) :
    Eff K S ρ w S' v ((Builtin.unsafeString_ #[pt, lt] ty #[x, y]).run P w) := by
  unfold aUStr at h
  split at h
  · rename_i e id off k z hu
    split at h
    · rename_i l tr m e' fr hl hid
      split at h
      · rename_i hc
        split at h
        · rename_i cs hcs
          split at h
          · rename_i bs hbs
            injection h with h; injection h with e1 e2; subst e1; subst e2
            simp only [Bool.and_eq_true] at hc
            obtain ⟨c1, c2, c3, c4, c5⟩ := hc
            have c1 : e = e' := Nat.eq_of_beq_eq_true c1
            have c2 : off + l ≤ m := Nat.le_of_ble_eq_true c2
            have c3 : 0 < l := by rwa [Nat.blt_eq] at c3
            have c4 : K ≤ id := Nat.le_of_ble_eq_true c4
            have c5 : P.cellsOf e = 1 := Nat.eq_of_beq_eq_true c5
            subst c1
            obtain ⟨en, hlt⟩ := ix_ok hl
            simp only [VR] at hp hn
            obtain ⟨b, m1, hr, e1⟩ := hp; subst e1; subst hn; subst en
            obtain ⟨b', n', hr', c, f, q1, q2, q3, q4, _⟩ := hw.blk id _ hid
            rw [hr] at hr'; injection hr' with hr'; injection hr' with p1 p2; subst p1; subst p2
            obtain ⟨xs, hx, hxl, hget⟩ := rd_ok q4 hcs
            obtain ⟨hb1, hb2⟩ := aBytes_ok hbs hx
            have hbl : bs.length = l := by rw [← hxl, hb1]; simp
            have hload := run_loadBytes (P := P) (w := w) (b := b) bs off [] hb2 (fun j x hj => by
              have : c[off + j]? = some (.int .u8 (x : Int)) := hget j _ (by rw [hb1]; simp [hj])
              simp [World.cell?, q1, this])
            rw [hbl] at hload
            have hload : (loadBytes ⟨b, off, none⟩ .empty l).run P w = .ok (bytesOf bs) w := hload
            have hshape : (shape b).run P w = .ok (some (e, c.size)) w := by
              show Result.ok (w.shape? b) w = _
              unfold World.shape?; rw [q1]
            have hd : P.depth = (P.depth - 1) + 1 := by unfold Program.depth; omega
            have hvar : (variablesAt ⟨b, off, none⟩ e l).run P w = .ok true w := by
              simp only [variablesAt, Sem.run_bind, run_program, Result.andThen_ok, hshape, Sem.run_pure]
              rw [hd, liesAt_same c5 (by rw [c5, Nat.div_one]; omega)]
            have hel : (elemOf pt).run P w = .ok e w := by simp [elemOf, run_underlying hu]
            have hmax : ¬ ((l : Int) > IntKind.i64.max) := by
              have : IntKind.i64.max = 9223372036854775807 := by decide
              omega
            have hneg : ¬ ((l : Int) < 0) := by omega
            have h0 : ¬ ((l : Int) = 0) := by omega
            have hfz : (freeze ⟨b, off, none⟩ l).run P w = .ok () (w.freeze ⟨b, off, none⟩ l) := rfl
            have hheap : ∀ k, (w.freeze ⟨b, off, none⟩ l).heap[k]? = if b = k then (w.heap[k]?).map (fun o => match o with | .cells c elem (lo, hi) => .cells c elem (if lo == hi then (off, off + l) else (min lo off, max hi (off + l))) | o => o) else w.heap[k]? := by
              intro k
              unfold World.freeze
              rw [if_neg (by omega)]
              simp only [Array.getElem?_modify]
              split
              · rename_i hk; subst hk; rfl
              · rfl
            refine ⟨.string (bytesOf bs), w.freeze ⟨b, off, none⟩ l, ρ, ?_, Up.upd hw hid rfl, ?_, by simp only [VR]; exact ⟨trivial, hb2⟩, ?_⟩
            · change Sem.run P (asInt (Value.int k (l : Int)) >>= _) w = _
              simp only [Sem.run_bind, asInt, asIntOf, Sem.run_pure, Result.andThen_ok, List.getElem?_toArray, List.getElem?_cons_zero, if_neg hneg, if_neg hmax, if_neg h0, hel, Int.toNat_natCast, hvar, if_true, hload, hfz]
            · refine hw.upd hid rfl hr ?_ ?_ ?_
              · rw [hheap b, if_pos rfl, q1]
                obtain ⟨lo, hi⟩ := f
                exact ⟨c, _, rfl, q2, q3, q4, fun h => by cases h⟩
              · unfold World.freeze; rw [if_neg (by omega)]; simp
              · intro k hk; rw [hheap k, if_neg (Ne.symm hk)]
            · refine ⟨?_, ?_, ?_, ?_, fun k hk hn => ?_⟩
              · unfold World.freeze; rw [if_neg (by omega)]
              · unfold World.freeze; rw [if_neg (by omega)]
              · unfold World.freeze; rw [if_neg (by omega)]
              · unfold World.freeze; rw [if_neg (by omega)]; simp
              · rw [hheap k, if_neg (fun e : b = k => hn id m1 _ c4 hid rfl (e ▸ hr))]
          · cases h
        · cases h
      · cases h
    · cases h
  · cases h

end Ex
end Go.Proofs.YtjdmkgnlakonbaaGreatDoor
namespace Go.Proofs.YtjdmkgnlakonbaaGreatDoor
namespace Ex

variable {P : Program}

/-- unsafe.SliceData. -/
def aUData (a : AV) : Option AV :=
  match a with
  | .sl id off _ (_ + 1) => some (.ptr id off)
  | .slu id off _ _ (_ + 1) => some (.ptr id off)
  | .nilSl => some .nilPtr
  | _ => none
theorem aUData_ok {a v : AV} {x : Value} {ts : Array TypeId} {ty : TypeId} {w : World} {ρ : Rho} (h : aUData a = some v) (ha : VR ρ a x) : ∃ z, (Builtin.unsafeSliceData_ ts ty #[x]).run P w = .ok z w ∧ VR ρ v z := by
  unfold aUData at h
  split at h
  · rename_i id off len c
    injection h with h; subst h
    simp only [VR] at ha; obtain ⟨b, n, hr, e⟩ := ha; subst e
    exact ⟨.pointer (some ⟨b, off, none⟩), rfl, by simp only [VR]; exact ⟨b, n, hr, rfl⟩⟩
  · rename_i id off len sz lb
    injection h with h; subst h
    simp only [VR] at ha; obtain ⟨b, n, c, hr, e, hlb, _⟩ := ha; subst e
    obtain ⟨c', rfl⟩ : ∃ c', c = c' + 1 := ⟨c - 1, by omega⟩
    exact ⟨.pointer (some ⟨b, off, none⟩), rfl, by simp only [VR]; exact ⟨b, n, hr, rfl⟩⟩
  · injection h with h; subst h
    simp only [VR] at ha; subst ha
    exact ⟨.pointer none, rfl, by simp only [VR]⟩
  · cases h

/-- Conversions that look at memory: pointers to unsafe.Pointer and back to their own type, bytes to a string. -/
noncomputable def aConvM (P : Program) (S : St) (src dst : TypeId) (a : AV) : Option AV :=
  match P.underlying src, P.underlying dst, a with
  | some (.pointer t), some .unsafePointer, .ptr id off => match S.heap.at id, tySize P t with
    | some (.cells _ m _ _), some (_ + 1) => Bool.rec none (some (.ptr id off)) (Nat.blt off m)
    | _, _ => none
  | some .unsafePointer, some (.pointer u), .ptr id off => match S.heap.at id, tySize P u with
    | some (.cells _ m e _), some (s + 1) => Bool.rec none (some (.ptr id off)) (Nat.beq e u && (Nat.beq off 0 && Nat.ble (Nat.succ s) m))
    | _, _ => none
  | some (.slice e), some .string, .nilSl => match P.underlying e with
    | some (.int .u8) => some (.str [])
    | _ => none
  | some (.slice e), some .string, .sl id off len _ => match P.underlying e, aRead.rdAt S id off len with
    | some (.int .u8), some cs => match aBytes cs with
      | some bs => some (.str bs)
      | none => none
    | _, _ => none
  | some (.slice e), some .string, .slu id off len _ _ => match P.underlying e, aRead.rdAt S id off len with
    | some (.int .u8), some cs => match aBytes cs with
      | some bs => some (.str bs)
      | none => none
    | _, _ => none
  | _, _, _ => none

theorem shape_of {ρ : Rho} {S : St} {w : World} (hw : WR ρ S w) {id b n m : Nat} {tr : Tr AV} {e : TypeId} {fr : Bool} (hid : S.heap.at id = some (.cells tr m e fr)) (hr : ρ id = some (b, n)) :
    (shape b).run P w = .ok (some (e, n)) w ∧ m ≤ n ∧ (viewAt b).run P w = .ok none w := by
  obtain ⟨b', n', hr', c, f, q1, q2, q3, q4, _⟩ := hw.blk id _ hid
  rw [hr] at hr'; injection hr' with hr'; injection hr' with p1 p2; subst p1; subst p2
  have hs : (shape b).run P w = .ok (some (e, c.size)) w := by
    show Result.ok (w.shape? b) w = _
    unfold World.shape?; rw [q1]
  rw [q2] at hs
  exact ⟨hs, q3, by simp [viewAt, hs]⟩

theorem liesAt_one {e : TypeId} {count s : Nat} (hs : P.cellsOf e = s + 1) (h : 1 ≤ count) (d : Nat) : liesAt P (d + 1) e count 0 e 1 = true := by
  have hd : P.depth = (P.depth - 1) + 1 := by unfold Program.depth; omega
  have hl : sameLayout P (P.depth - 1 + 1) e e = true := by simp [sameLayout]
  have hr : rowAt P (sameLayout P P.depth · e) P.depth e count 0 1 = true := by
    rw [hd]; simp [rowAt, hs, hl, h]
  simp only [liesAt, hr, Bool.true_or]

theorem bytesToString_ok {ρ : Rho} {cs : List AV} {bs : List Nat} {xs : List Value} {b off len cap : Nat} {w : World} (h : aBytes cs = some bs) (hv : VRL ρ cs xs) (hl : (loadCells ⟨b, off, none⟩ len).run P w = .ok xs.toArray w) :
    (Conv.bytesToString (.slice (some ⟨b, off, none⟩) len cap)).run P w = .ok (.string (bytesOf bs)) w ∧ ∀ x ∈ bs, x < 256 := by
  obtain ⟨h1, h2⟩ := aBytes_ok h hv
  refine ⟨?_, h2⟩
  have loop : ∀ (g : Value → ByteArray → Sem (ForInStep ByteArray)), (∀ n s, g (.int .u8 n) s = pure (ForInStep.yield (s.push (UInt8.ofNat n.toNat)))) → ∀ (l : List Nat) (acc : List Nat),
      (forIn (m := Sem) (l.map fun b : Nat => Value.int .u8 (b : Int)) (bytesOf acc) g).run P w = .ok (bytesOf (acc ++ l)) w := by
    intro g hg l
    induction l with
    | nil => intro acc; simp
    | cons x l ih =>
      intro acc
      have hp : (bytesOf acc).push (UInt8.ofNat (x : Int).toNat) = bytesOf (acc ++ [x]) := by
        apply ByteArray.ext
        simp [bytesOf, ByteArray.push]
      have := ih (acc ++ [x])
      simp only [List.map_cons, List.forIn_cons, Sem.run_bind, hg, Sem.run_pure, Result.andThen_ok, hp, this]
      simp
  rw [h1] at hl
  simp only [Conv.bytesToString, Sem.run_bind, hl, Result.andThen_ok]
  rw [← Array.forIn_toList]
  have hnil : ByteArray.empty = bytesOf [] := rfl
  rw [hnil, loop _ (fun n s => rfl) bs []]
  simp

theorem aConvM_ok {S : St} {src dst : TypeId} {a v : AV} {x : Value} {w : World} {ρ : Rho} (h : aConvM P S src dst a = some v) (hw : WR ρ S w) (ha : VR ρ a x) : ∃ z, (convert src dst x).run P w = .ok z w ∧ VR ρ v z := by
  unfold aConvM at h
  split at h
  · rename_i t id off hs hd
    split at h
    · rename_i tr m e fr s hid hz
      have ha' := ha
      simp only [VR] at ha; obtain ⟨b, n, hr, e1⟩ := ha
      obtain ⟨hsh, hmn, hview⟩ := shape_of (P := P) hw hid hr
      by_cases hlt : off < m
      · rw [blt_t hlt] at h
        simp only [Option.some.injEq] at h; subst h
        refine ⟨x, ?_, ha'⟩
        subst e1
        have hseen : (Conv.seenAt ⟨b, off, none⟩).run P w = .ok ⟨b, off, none⟩ w := by simp [Conv.seenAt, hview]
        have hin : (cellsIn b).run P w = .ok (some n) w := by simp [cellsIn, hsh]
        simp only [convert, Sem.run_bind, run_underlying hs, run_underlying hd, Result.andThen_ok, Conv.unsafePointer, hseen, hin, run_size hz]
        have h1 : ¬ (off ≥ n) := by omega
        simp [h1]
      · rw [blt_f hlt] at h; cases h
    · cases h
  · rename_i u id off hs hd
    split at h
    · rename_i tr m e fr s hid hz
      have ha' := ha
      simp only [VR] at ha; obtain ⟨b, n, hr, e1⟩ := ha
      obtain ⟨hsh, hmn, hview⟩ := shape_of (P := P) hw hid hr
      cases hc : (Nat.beq e u && (Nat.beq off 0 && Nat.ble (Nat.succ s) m)) with
      | false => rw [hc] at h; cases h
      | true =>
        rw [hc] at h
        simp only [Option.some.injEq] at h; subst h
        simp only [Bool.and_eq_true] at hc
        have c1 : e = u := Nat.eq_of_beq_eq_true hc.1
        have c2 : off = 0 := Nat.eq_of_beq_eq_true hc.2.1
        have c3 : s + 1 ≤ m := Nat.le_of_ble_eq_true hc.2.2
        subst c1; subst c2
        refine ⟨x, ?_, ha'⟩
        subst e1
        have hseen : (Conv.seenAt ⟨b, 0, none⟩).run P w = .ok ⟨b, 0, none⟩ w := by simp [Conv.seenAt, hview]
        have hco : P.cellsOf e = s + 1 := by
          unfold tySize at hz
          simp [Program.cellsOf, hz]
        have hdp : P.depth = (P.depth - 1) + 1 := by unfold Program.depth; omega
        have hdiv : 1 ≤ n / (s + 1) := by rw [Nat.le_div_iff_mul_le (by omega)]; omega
        have hvar : (variablesAt ⟨b, 0, none⟩ e 1).run P w = .ok true w := by
          simp only [variablesAt, Sem.run_bind, run_program, Result.andThen_ok, hsh, Sem.run_pure]
          rw [hdp, liesAt_one hco (by rw [hco]; exact hdiv)]
        simp [convert, run_underlying hs, run_underlying hd, Conv.unsafePointer, hseen, run_size hz, hvar]
    · cases h
  · rename_i e hs hd
    split at h
    · rename_i he
      injection h with h; subst h
      simp only [VR] at ha; subst ha
      refine ⟨.string .empty, ?_, by simp only [VR]; exact ⟨rfl, fun b hb => by simp at hb⟩⟩
      simp [convert, run_underlying hs, run_underlying hd, run_underlying he, Conv.bytesToString]
    · cases h
  · rename_i e id off len cap hs hd
    split at h
    · rename_i cs he hcs
      split at h
      · rename_i bs hbs
        injection h with h; subst h
        simp only [VR] at ha; obtain ⟨b, n, hr, e1⟩ := ha; subst e1
        obtain ⟨xs, h1, _, h2⟩ := rdAt_ok (P := P) hw hcs hr
        obtain ⟨h3, h4⟩ := bytesToString_ok (cap := cap) hbs h1 h2
        exact ⟨_, by simp [convert, run_underlying hs, run_underlying hd, run_underlying he, h3]; rfl, by simp only [VR]; exact ⟨trivial, h4⟩⟩
      · cases h
    · cases h
  · rename_i e id off len sz lb hs hd
    split at h
    · rename_i cs he hcs
      split at h
      · rename_i bs hbs
        injection h with h; subst h
        simp only [VR] at ha; obtain ⟨b, n, cap, hr, e1, _⟩ := ha; subst e1
        obtain ⟨xs, h1, _, h2⟩ := rdAt_ok (P := P) hw hcs hr
        obtain ⟨h3, h4⟩ := bytesToString_ok (cap := cap) hbs h1 h2
        exact ⟨_, by simp [convert, run_underlying hs, run_underlying hd, run_underlying he, h3]; rfl, by simp only [VR]; exact ⟨trivial, h4⟩⟩
      · cases h
    · cases h
  · cases h

end Ex
end Go.Proofs.YtjdmkgnlakonbaaGreatDoor
namespace Go.Proofs.YtjdmkgnlakonbaaGreatDoor
namespace Ex

variable {P : Program}

/-- Equality of plain values, by the model's own text. -/
noncomputable def aSame (P : Program) (t : TypeId) (u v : AV) : Option Bool :=
  match conc u, conc v with
  | some x, some y => pureRun P (Op.equal t x y)
  | _, _ => none

/-- The place of a key among entries. -/
noncomputable def aFind (P : Program) (t : TypeId) (k : AV) (l : List (AV × AV)) : Option (Option (Nat × AV)) :=
  List.rec (some none) (fun e _ ih => match aSame P t k e.1 with
    | some true => some (some (0, e.2))
    | some false => match ih with
      | some (some (i, v)) => some (some (Nat.succ i, v))
      | some none => some none
      | none => none
    | none => none) l

/-- A key's type whose keys the model compares by asking: an array or a struct. -/
def askTy : Option TypeDesc → Bool
  | some (.array _ _) | some (.struct _) => true
  | _ => false

theorem findAsking_ok {ρ : Rho} {t : TypeId} {k : AV} {x : Value} {w : World} (hk : VR ρ k x) : ∀ {l : List (AV × AV)} {es : List MapEntry} {r : Option (Nat × AV)} (n : Nat), aFind P t k l = some r → ER ρ l es →
    (match r with
      | none => (Instr.findAsking t x es n).run P w = .ok none w
      | some (i, v) => ∃ y, (Instr.findAsking t x es n).run P w = .ok (some (n + i, y)) w ∧ VR ρ v y ∧ i < es.length)
  | [], es, r, n, h, he => by
    have h : some none = some r := h
    injection h with h; subst h
    simp only [ER] at he; subst he
    simp [Instr.findAsking]
  | (k1, v1) :: l, es, r, n, h, he => by
    simp only [ER] at he
    obtain ⟨e, rs, e1, hk1, hv1, hr⟩ := he; subst e1
    have h : (match aSame P t k k1 with
      | some true => some (some (0, v1))
      | some false => match aFind P t k l with
        | some (some (i, v)) => some (some (Nat.succ i, v))
        | some none => some none
        | none => none
      | none => none) = some r := h
    have same : ∀ b, aSame P t k k1 = some b → (Op.equal t x e.key).run P w = .ok b w := by
      intro b hb
      unfold aSame at hb
      split at hb
      · rename_i a c ha hc
        rw [conc_ok ha hk, conc_ok hc hk1]
        exact pureRun_ok _ hb w
      · cases hb
    split at h
    · rename_i hs
      injection h with h; subst h
      refine ⟨e.val, ?_, hv1, by simp⟩
      simp [Instr.findAsking, same _ hs]
    · rename_i hs
      split at h
      · rename_i i v hf
        injection h with h; subst h
        have ih := findAsking_ok (w := w) hk (n + 1) hf hr
        simp only at ih
        obtain ⟨y, h1, h2, h3⟩ := ih
        refine ⟨y, ?_, h2, by simp; omega⟩
        have e2 : n + 1 + i = n + Nat.succ i := by omega
        rw [e2] at h1
        simp [Instr.findAsking, same _ hs, h1]
      · rename_i hf
        injection h with h; subst h
        have ih := findAsking_ok (w := w) hk (n + 1) hf hr
        simp only at ih
        simp [Instr.findAsking, same _ hs, ih]
      · cases h
    · cases h

theorem findKey_ok {ρ : Rho} {t : TypeId} {k : AV} {x : Value} {w : World} (hk : VR ρ k x) {l : List (AV × AV)} {es : List MapEntry} {r : Option (Nat × AV)} (ht : askTy (P.underlying t) = true) (h : aFind P t k l = some r) (he : ER ρ l es) :
    (match r with
      | none => (Instr.findKey t x es).run P w = .ok none w
      | some (i, v) => ∃ y, (Instr.findKey t x es).run P w = .ok (some (i, y)) w ∧ VR ρ v y ∧ i < es.length) := by
  have hu : ∃ d, P.underlying t = some d ∧ ∀ a b, Instr.sameNow d a b = none := by
    cases hd : P.underlying t with
    | none => rw [hd] at ht; cases ht
    | some d =>
      rw [hd] at ht
      cases d <;> first
        | exact ⟨_, rfl, fun a b => rfl⟩
        | cases ht
  obtain ⟨d, hd, hsn⟩ := hu
  have hrun : (Instr.findKey t x es).run P w = (match es with | [] => .ok none w | _ => (Instr.findAsking t x es).run P w) := by
    cases es with
    | nil => simp [Instr.findKey, run_underlying hd, Instr.findNow]
    | cons e r => simp [Instr.findKey, run_underlying hd, Instr.findNow, hsn]
  have := findAsking_ok (P := P) (w := w) hk 0 h he
  cases r with
  | none =>
    simp only at this ⊢
    rw [hrun]
    cases es with
    | nil => rfl
    | cons e r => exact this
  | some p =>
    obtain ⟨i, v⟩ := p
    simp only at this ⊢
    obtain ⟨y, h1, h2, h3⟩ := this
    refine ⟨y, ?_, h2, h3⟩
    rw [hrun]
    cases es with
    | nil => simp at h3
    | cons e r => simpa using h1

end Ex
end Go.Proofs.YtjdmkgnlakonbaaGreatDoor
namespace Go.Proofs.YtjdmkgnlakonbaaGreatDoor
namespace Ex

variable {P : Program}

/-- The key can be hashed. -/
noncomputable def keyOk (P : Program) (e : Bool) (kt : TypeId) (k : AV) : Bool :=
  match conc k with
  | some x => match pureRun P (Instr.checkKey e 10000 kt x) with
    | some () => askTy (P.underlying kt)
    | none => false
  | none => false
theorem keyOk_ok {e : Bool} {kt : TypeId} {k : AV} {x : Value} {w : World} {ρ : Rho} (h : keyOk P e kt k = true) (hk : VR ρ k x) : (Instr.checkKey e 10000 kt x).run P w = .ok () w ∧ askTy (P.underlying kt) = true := by
  unfold keyOk at h
  split at h
  · rename_i y hy
    split at h
    · rename_i hp
      rw [conc_ok hy hk]
      exact ⟨pureRun_ok _ hp w, h⟩
    · cases h
  · cases h

def noEntries (l : List (AV × AV)) : Bool := match l with
  | [] => true
  | _ => false
theorem noEntries_ok {ρ : Rho} {l : List (AV × AV)} {es : Array MapEntry} (h : ER ρ l es.toList) : es.isEmpty = noEntries l := by
  cases l with
  | nil => simp only [ER] at h; simpa [noEntries] using h
  | cons p l => obtain ⟨k, v⟩ := p; simp only [ER] at h; obtain ⟨e, r, e1, _⟩ := h; simp [noEntries]; intro h0; simp [h0] at e1

def okPair (ok : Bool) (u : AV) (b : Bool) : AV := match ok with
  | true => .tup [u, .bool b]
  | false => u
theorem okPair_ok {ρ : Rho} (ok : Bool) {u : AV} {z : Value} (b : Bool) (hu : VR ρ u z) : VR ρ (okPair ok u b) (if ok then .tuple #[z, .bool b] else z) := by
  cases ok
  · exact hu
  · simp only [okPair, VR, if_true]
    exact ⟨[z, .bool b], rfl, by simp only [VRL, VR]; exact ⟨z, [.bool b], rfl, hu, _, [], rfl, rfl, rfl⟩⟩

noncomputable def aLookup (P : Program) (S : St) (t : TypeId) (m k : AV) (ok : Bool) : Option AV :=
  match P.underlying t, m with
  | some (.map kt et), .map id => match S.heap.at id with
    | some (.map l _) => match keyOk P (noEntries l) kt k with
      | true => match aFind P kt k l with
        | some (some (_, v)) => some (okPair ok v true)
        | some none => match aZero P et with
          | some z => some (okPair ok z false)
          | none => none
        | none => none
      | false => none
    | _ => none
  | _, _ => none

theorem aLookup_ok {S : St} {t : TypeId} {m k v : AV} {ok : Bool} {x y : Value} {w : World} {ρ : Rho} (h : aLookup P S t m k ok = some v) (hw : WR ρ S w) (hm : VR ρ m x) (hk : VR ρ k y) :
    ∃ z, (Instr.lookup t x y ok).run P w = .ok z w ∧ VR ρ v z := by
  unfold aLookup at h
  split at h
  · rename_i kt et id hu
    split at h
    · rename_i l c hid
      split at h
      · rename_i hko
        obtain ⟨b, n, hr, es, e1, he⟩ := hw.blk id _ hid
        simp only [VR] at hm
        obtain ⟨b', n', hr', e2⟩ := hm
        rw [hr] at hr'; injection hr' with hr'; injection hr' with p1 p2; subst p1; subst e2
        have hobj : (getObj b).run P w = .ok (.map es c) w := by simp [getObj, Sem.run, e1]
        obtain ⟨hck, hask⟩ := keyOk_ok (w := w) hko hk
        rw [← noEntries_ok he] at hck
        split at h
        · rename_i i u hf
          injection h with h; subst h
          have := findKey_ok (P := P) (w := w) hk hask hf he
          simp only at this
          obtain ⟨z, h1, h2, _⟩ := this
          refine ⟨_, ?_, okPair_ok ok true h2⟩
          simp only [Instr.lookup, Sem.run_bind, run_underlying hu, Result.andThen_ok, hobj, Sem.run_pure, hck, h1]
        · rename_i hf
          have := findKey_ok (P := P) (w := w) hk hask hf he
          simp only at this
          split at h
          · rename_i z hz
            injection h with h; subst h
            obtain ⟨zz, hz1, hz2⟩ := aZero_ok hz ρ w
            refine ⟨_, ?_, okPair_ok ok false hz2⟩
            simp only [Instr.lookup, Sem.run_bind, run_underlying hu, Result.andThen_ok, hobj, Sem.run_pure, hck, this, hz1]
          · cases h
        · cases h
      · cases h
    · cases h
  · cases h

/-- m[k] = v, k new. -/
noncomputable def aMapUpdate (K : Nat) (P : Program) (S : St) (t : TypeId) (m k v : AV) : Option St :=
  match P.underlying t, m with
  | some (.map kt _), .map id => match S.heap.at id with
    | some (.map l c) => match keyOk P false kt k && Nat.ble K id with
      | true => match aFind P kt k l with
        | some none => some ⟨S.heap.to id (.map (l ++ [(k, v)]) (Nat.succ c)), S.next⟩
        | _ => none
      | false => none
    | _ => none
  | _, _ => none

theorem ER.append {ρ : Rho} : ∀ {l r : List (AV × AV)} {es fs : List MapEntry}, ER ρ l es → ER ρ r fs → ER ρ (l ++ r) (es ++ fs)
  | [], _, _, _, h, k => by simp only [ER] at h; subst h; simpa using k
  | (a, b) :: l, _, _, _, h, k => by
    simp only [ER] at h
    obtain ⟨e, r, e1, h1, h2, h3⟩ := h; subst e1
    simp only [List.cons_append, ER]
    exact ⟨e, _, rfl, h1, h2, ER.append h3 k⟩

theorem aMapUpdate_ok {K : Nat} {S S' : St} {t : TypeId} {m k v : AV} {x y z : Value} {w : World} {ρ : Rho} (h : aMapUpdate K P S t m k v = some S') (hw : WR ρ S w) (hm : VR ρ m x) (hk : VR ρ k y) (hv : VR ρ v z) :
    ∃ w', (Instr.mapUpdate t x y z).run P w = .ok () w' ∧ WR ρ S' w' ∧ Fr K S ρ w w' ∧ Up K S S' ρ ρ w := by
  unfold aMapUpdate at h
  split at h
  · rename_i kt et id hu
    split at h
    · rename_i l c hid
      split at h
      · rename_i hc
        simp only [Bool.and_eq_true] at hc
        have hKi : K ≤ id := Nat.le_of_ble_eq_true hc.2
        split at h
        · rename_i hf
          injection h with h; subst h
          obtain ⟨b, n, hr, es, e1, he⟩ := hw.blk id _ hid
          simp only [VR] at hm
          obtain ⟨b', n', hr', e2⟩ := hm
          rw [hr] at hr'; injection hr' with hr'; injection hr' with p1 p2; subst p1; subst e2
          have hobj : (getObj b).run P w = .ok (.map es c) w := by simp [getObj, Sem.run, e1]
          obtain ⟨hck, hask⟩ := keyOk_ok (w := w) hc.1 hk
          have hfk := findKey_ok (P := P) (w := w) hk hask hf he
          simp only at hfk
          have hset : ∀ o, (setObj b o).run P w = .ok () { w with heap := w.heap.setIfInBounds b o } := by intro o; simp [setObj, Sem.run, e1]
          have hlt := hw.low id _ _ hr
          refine ⟨{ w with heap := w.heap.setIfInBounds b (.map (es.push { key := y, val := z, born := c }) (c + 1)) }, ?_, ?_, ?_, Up.upd hw hid rfl⟩
          · simp only [Instr.mapUpdate, Sem.run_bind, run_underlying hu, Result.andThen_ok, hobj, hck, hfk, hset]
          · refine hw.upd hid rfl hr ?_ (by simp) ?_
            · refine ⟨es.push { key := y, val := z, born := c }, by simp [hlt], ?_⟩
              rw [Array.toList_push]
              exact he.append (by simp only [ER]; exact ⟨_, [], rfl, hk, hv, rfl⟩)
            · intro j hj; simp [Ne.symm hj]
          · exact ⟨rfl, rfl, rfl, by simp, fun j hj hn => by
              have : b ≠ j := fun e => hn id n _ hKi hid rfl (e ▸ hr)
              simp [this]⟩
        · cases h
      · cases h
    · cases h
  · cases h

/-- An operation that reads memory. -/
noncomputable def readOp (P : Program) (f : Fm) (S : St) (o : Oper) : Option AV :=
  match o.op with
  | .load t x => match aev f x with
    | some p => aLoad P S t p
    | none => none
  | .convert src dst x => match aev f x with
    | some a => match aConv P src dst a with
      | some v => some v
      | none => aConvM P S src dst a
    | none => none
  | .lookup t x y ok => match aev f x, aev f y with
    | some m, some k => aLookup P S t m k ok
    | _, _ => none
  | .call c => match c.callee with
    | .builtin b => match b, c.args.toList with
      | .unsafeSliceData, [x] => match aev f x with
        | some a => aUData a
        | none => none
      | _, _ => none
    | _ => none
  | _ => none

theorem readOp_ok {f : Fm} {S : St} {o : Oper} {v : AV} (h : readOp P f S o = some v) {ρ : Rho} {a : Act} (hf : FR ρ f a) {w : World} (hw : WR ρ S w) : ∃ x, (execOp a.eval o).run P w = .ok (.value x) w ∧ VR ρ v x := by
  have lift : ∀ {s : Sem Value} {x : Value}, s.run P w = .ok x w → ((do pure (Next.value (← s)) : Sem Next)).run P w = .ok (.value x) w := by
    intro s x hs; simp [hs]
  unfold readOp at h
  unfold execOp
  split at h
  · rename_i t x ho; rw [ho]
    split at h
    · rename_i p hp
      obtain ⟨z, h1, h2⟩ := aLoad_ok h hw (aev_ok hf hp)
      exact ⟨z, lift h1, h2⟩
    · cases h
  · rename_i src dst x ho; rw [ho]
    split at h
    · rename_i u hu
      split at h
      · rename_i r hr
        injection h with h; subst h
        obtain ⟨z, h1, h2⟩ := aConv_ok hr (aev_ok hf hu) w
        exact ⟨z, lift h1, h2⟩
      · obtain ⟨z, h1, h2⟩ := aConvM_ok h hw (aev_ok hf hu)
        exact ⟨z, lift h1, h2⟩
    · cases h
  · rename_i t x y ok ho; rw [ho]
    split at h
    · rename_i m k hm hk
      obtain ⟨z, h1, h2⟩ := aLookup_ok h hw (aev_ok hf hm) (aev_ok hf hk)
      exact ⟨z, lift h1, h2⟩
    · cases h
  · rename_i c ho; rw [ho]
    split at h
    · rename_i b hb
      split at h
      · rename_i x hx
        split at h
        · rename_i u hu
          obtain ⟨z, h1, h2⟩ := aUData_ok (P := P) (w := w) (ts := c.argTypes) (ty := o.type) h (aev_ok hf hu)
          refine ⟨z, ?_, h2⟩
          have e : c.args.map a.eval = #[a.eval x] := by apply Array.ext'; simp [hx]
          simp [resolve, hb, invoke, builtin, e, h1]
        · cases h
      · cases h
    · cases h
  · cases h

/-- An operation that changes memory. -/
noncomputable def effOp (K : Nat) (P : Program) (f : Fm) (S : St) (o : Oper) : Option (AV × St) :=
  match o.op with
  | .store t x y => match aev f x, aev f y with
    | some p, some v => match aStore K P S t p v with
      | some S' => some (.tup [], S')
      | none => none
    | _, _ => none
  | .mapUpdate t x y z => match aev f x, aev f y, aev f z with
    | some m, some k, some v => match aMapUpdate K P S t m k v with
      | some S' => some (.tup [], S')
      | none => none
    | _, _, _ => none
  | .call c => match c.callee with
    | .builtin b => match b, c.args.toList, c.argTypes.toList with
      | .append, [x, y], [t, u] => match aev f x, aev f y with
        | some s, some v => match aApp K P S t u s v with
          | some r => some r
          | none => aAppZ P S t u s v
        | _, _ => none
      | .copy, [x, y], [t, _] => match aev f x, aev f y with
        | some d, some s => aCopy K P S t d s
        | _, _ => none
      | .unsafeString, [x, y], [t, _] => match aev f x, aev f y with
        | some p, some n => aUStr K P S t p n
        | _, _ => none
      | _, _, _ => none
    | _ => none
  | _ => none

/-- What it gives in the model: a value, or nothing at all. -/
def EffN (K : Nat) (S : St) (ρ : Rho) (w : World) (S' : St) (v : AV) (r : Result Next) : Prop :=
  ∃ x w' σ, (r = .ok (.value x) w' ∨ (r = .ok .skip w' ∧ x = undef)) ∧ Up K S S' ρ σ w ∧ WR σ S' w' ∧ VR σ v x ∧ Fr K S ρ w w'

theorem Eff.lift {K : Nat} {S S' : St} {ρ : Rho} {w : World} {v : AV} {s : Sem Value} (h : Eff K S ρ w S' v (s.run P w)) : EffN K S ρ w S' v ((do pure (Next.value (← s)) : Sem Next).run P w) := by
  obtain ⟨x, w', σ, h1, h2⟩ := h
  exact ⟨x, w', σ, .inl (by simp [h1]), h2⟩

theorem effOp_ok {K : Nat} {f : Fm} {S S' : St} {o : Oper} {v : AV} (h : effOp K P f S o = some (v, S')) {ρ : Rho} {a : Act} (hf : FR ρ f a) {w : World} (hw : WR ρ S w) (hK : K ≤ S.next) :
    EffN K S ρ w S' v ((execOp a.eval o).run P w) := by
  have nothing : VR ρ (.tup []) undef := by simp only [VR]; exact ⟨[], rfl, by simp [VRL]⟩
  unfold effOp at h
  unfold execOp
  split at h
  · rename_i t x y ho; rw [ho]
    split at h
    · rename_i p u hp hu
      split at h
      · rename_i S1 hS
        injection h with h; injection h with e1 e2; subst e1; subst e2
        obtain ⟨w', h1, h2, h3, h4⟩ := aStore_ok hS hw (aev_ok hf hp) (aev_ok hf hu)
        exact ⟨undef, w', ρ, .inr ⟨by simp [h1], rfl⟩, h4, h2, nothing, h3⟩
      · cases h
    · cases h
  · rename_i t x y z ho; rw [ho]
    split at h
    · rename_i m k u hm hk hu
      split at h
      · rename_i S1 hS
        injection h with h; injection h with e1 e2; subst e1; subst e2
        obtain ⟨w', h1, h2, h3, h4⟩ := aMapUpdate_ok hS hw (aev_ok hf hm) (aev_ok hf hk) (aev_ok hf hu)
        exact ⟨undef, w', ρ, .inr ⟨by simp [h1], rfl⟩, h4, h2, nothing, h3⟩
      · cases h
    · cases h
  · rename_i c ho; rw [ho]
    split at h
    · rename_i b hb
      have two : ∀ {x y : Operand}, c.args.toList = [x, y] → c.args.map a.eval = #[a.eval x, a.eval y] := by
        intro x y e; apply Array.ext'; simp [e]
      have twot : ∀ {t u : TypeId}, c.argTypes.toList = [t, u] → c.argTypes = #[t, u] := by
        intro t u e; apply Array.ext'; simp [e]
      split at h
      · rename_i x y t u hx ht
        split at h
        · rename_i s d hs hd
          have : Eff K S ρ w S' v ((Builtin.append_ #[t, u] o.type #[a.eval x, a.eval y]).run P w) := by
            split at h
            · rename_i r hr
              injection h with h; subst h
              exact aApp_ok hr hw hK (aev_ok hf hs) (aev_ok hf hd)
            · exact aAppZ_ok h hw hK (aev_ok hf hs) (aev_ok hf hd)
          have := Eff.lift this
          simpa [resolve, hb, invoke, builtin, two hx, twot ht] using this
        · cases h
      · rename_i x y t u hx ht
        split at h
        · rename_i d s hd hs
          have := Eff.lift (aCopy_ok (sT := u) (ty := o.type) h hw (aev_ok hf hd) (aev_ok hf hs))
          simpa [resolve, hb, invoke, builtin, two hx, twot ht] using this
        · cases h
      · rename_i x y t u hx ht
        split at h
        · rename_i p n hp hn
          have := Eff.lift (aUStr_ok (lt := u) (ty := o.type) h hw (aev_ok hf hp) (aev_ok hf hn))
          simpa [resolve, hb, invoke, builtin, two hx, twot ht] using this
        · cases h
      · cases h
    · cases h
  · cases h

end Ex
end Go.Proofs.YtjdmkgnlakonbaaGreatDoor
