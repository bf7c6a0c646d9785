/- strings.Join as a call that the executor knows: the library's contract, laid at this program. -/
import Derived.Test.YtdkijcmhjeaofaaGreatDoorKb
import Derived.Ground.NamesProg
import Derived.Shelf.Lay
import Derived.Shelf.Strings.OnBuilder
import Derived.Shelf.LaysM
import Derived.Shelf.Strconv.Itoa3
namespace Go.Proofs
open Go.Shelf Go.RowKit
shelf_lay Lays.n156 Nm 156 at Tryz as Tryz.laysJoin
theorem Tryz.extraJoin : Builder.Extra Tryz.prog Tryz.laysJoin_ren where
  sizeBuilder := by kernel_rfl
  liesBuilder := by kernel_rfl
  t5 := by kernel_rfl
  a5 := fun _ => by kernel_rfl
  z5 := fun _ => by kernel_rfl
  v5 := fun _ => by kernel_rfl
  infoByte := by kernel_rfl
  cellsByte := by kernel_rfl
  sizeByte := by kernel_rfl
  neB5 := by decide
shelf_lay LaysM.n171 Nm 171 at Tryz as Tryz.laysItoa
end Go.Proofs
namespace Go.Proofs.YtdkijcmhjeaofaaGreatDoor
open Ex Go.RowKit

noncomputable def capLo : AV → Option Nat
  | .sl _ _ _ c => some c
  | .slu _ _ _ _ lb => some lb
  | _ => none
noncomputable def strsA : List AV → Option (List (List Nat))
  | [] => some []
  | .str s :: r => (strsA r).map (s :: ·)
  | _ :: _ => none
noncomputable def joinN : List (List Nat) → List Nat → List Nat
  | [], _ => []
  | x :: r, sep => x ++ (r.map (sep ++ ·)).flatten
noncomputable def xJoin : List AV → St → CRes := fun vs S => match vs with
  | [sl, .str sep] => match lenAV sl, capLo sl with
    | some n, some c => match aRead S 1 n sl with
      | some cells => match strsA cells with
        | some ls => match Nat.ble n c && (Nat.ble n 1000 && Nat.ble (joinN ls sep).length 1000000) with
          | true => .ok (.str (joinN ls sep)) S
          | false => .no [97]
        | none => .no [98]
      | none => .no [99]
    | _, _ => .no [100]
  | _ => .no [101]

theorem capLo_ok {ρ : Rho} {v : AV} {x : Value} {c0 : Nat} (h : capLo v = some c0) (hv : VR ρ v x) : ∃ A n c, x = .slice A n c ∧ c0 ≤ c := by
  unfold capLo at h
  split at h
  · injection h with h; subst h
    simp only [VR] at hv
    obtain ⟨b, m, _, e⟩ := hv
    exact ⟨_, _, _, e, Nat.le_refl _⟩
  · injection h with h; subst h
    simp only [VR] at hv
    obtain ⟨b, m, c, _, e, hl, _⟩ := hv
    exact ⟨_, _, _, e, hl⟩
  · cases h
theorem strsA_ok {ρ : Rho} : ∀ {l : List AV} {ls : List (List Nat)} {xs : List Value}, strsA l = some ls → VRL ρ l xs → xs = (ls.map bytesOf).map .string ∧ ∀ s ∈ ls, ∀ b ∈ s, b < 256
  | [], ls, xs, h, hv => by
    have h : some [] = some ls := h
    injection h with h; subst h
    simp only [VRL] at hv
    exact ⟨hv, by simp⟩
  | v :: r, ls, xs, h, hv => by
    cases v with
    | str s =>
      have h : (strsA r).map (s :: ·) = some ls := h
      rw [Option.map_eq_some_iff] at h
      obtain ⟨ls', h1, rfl⟩ := h
      simp only [VRL, VR] at hv
      obtain ⟨y, ys, rfl, ⟨rfl, hb⟩, hr⟩ := hv
      obtain ⟨i1, i2⟩ := strsA_ok h1 hr
      subst i1
      refine ⟨rfl, fun t ht => ?_⟩
      rcases List.mem_cons.1 ht with rfl | ht
      · exact hb
      · exact i2 t ht
    | _ => cases h
theorem bytes_list (s : List Nat) : (bytesOf s).data.toList = s.map UInt8.ofNat := by simp [bytesOf]
theorem join_bytes (ls : List (List Nat)) (sep : List Nat) : Lib.join ((ls.map bytesOf).map (·.data.toList)) (bytesOf sep).data.toList = (joinN ls sep).map UInt8.ofNat := by
  have e : (ls.map bytesOf).map (·.data.toList) = ls.map (·.map UInt8.ofNat) := by
    rw [List.map_map]
    exact List.map_congr_left fun s _ => bytes_list s
  rw [e, bytes_list]
  cases ls with
  | nil => rfl
  | cons x r =>
    rw [List.map_cons, Lib.join_cons]
    unfold Lib.joinTail joinN
    rw [List.map_append, List.map_flatten, List.map_map, List.map_map]
    congr 2
    exact List.map_congr_left fun s _ => by simp
theorem joinN_byte {ls : List (List Nat)} {sep : List Nat} (h : ∀ s ∈ ls, ∀ b ∈ s, b < 256) (hs : ∀ b ∈ sep, b < 256) : ∀ b ∈ joinN ls sep, b < 256 := by
  intro b hb
  cases ls with
  | nil => cases hb
  | cons x r =>
    unfold joinN at hb
    rcases List.mem_append.1 hb with hb | hb
    · exact h x (by simp) b hb
    · obtain ⟨t, ht, hbt⟩ := List.mem_flatten.1 hb
      obtain ⟨s, hs', rfl⟩ := List.mem_map.1 ht
      rcases List.mem_append.1 hbt with hb | hb
      · exact hs b hb
      · exact h s (by simp [hs']) b hb

theorem xJoin_ok {W : World} {K : Nat} {xt : FuncId → List AV → St → CRes} (hx : CallOk (Kept.zz W K) Tryz.prog xt) : CallOk (Kept.zz W K) Tryz.prog (xtM 73 xJoin xt) := by
  intro g vs S v S' h ρ xs w hxs hw hK hz
  unfold xtM at h
  cases hg : Nat.beq g 73 with
  | false => rw [hg] at h; exact hx g vs S v S' h ρ xs w hxs hw hK hz
  | true =>
    rw [hg] at h
    have hg := Nat.eq_of_beq_eq_true hg
    subst hg
    have h : xJoin vs S = .ok v S' := h
    refine .inl ⟨by decide, enters_of Tryz.func73 (by kernel_rfl) rfl _, ?_⟩
    unfold xJoin at h
    split at h
    · rename_i sl sep _
      split at h
      · rename_i n c hn hc
        split at h
        · rename_i cells hcells
          split at h
          · rename_i ls hls
            split at h
            · rename_i hk
              injection h with e1 e2; subst e1; subst e2
              rw [Bool.and_eq_true, Bool.and_eq_true] at hk
              have k1 := Nat.le_of_ble_eq_true hk.1
              have k2 := Nat.le_of_ble_eq_true hk.2.1
              have k3 := Nat.le_of_ble_eq_true hk.2.2
              simp only [VRL] at hxs
              obtain ⟨x, _, rfl, hsl, y, _, rfl, hy, rfl⟩ := hxs
              simp only [VR] at hy
              obtain ⟨rfl, hsb⟩ := hy
              obtain ⟨A, c', ys, rfl, hyl, hrd⟩ := slice_rd hw hn hcells hsl (fun s e => by subst e; cases hc)
              obtain ⟨_, _, c'', hcc, hle⟩ := capLo_ok hc hsl
              injection hcc with _ _ hcc
              subst hcc
              obtain ⟨rfl, hbs⟩ := strsA_ok hls hyl
              have hlen : (ls.map bytesOf).length = n := by have := hrd.1; simpa using this
              have key : Calls Tryz.prog 73 #[.slice A n c', .string (bytesOf sep)] w fun e w' => e = .returned (.string (bytesOf (joinN ls sep))) ∧ Below w.heap.size w w' := by
                by_cases h0 : n = 0
                · subst h0
                  obtain rfl : ls = [] := by simpa using hlen
                  exact (Any.strings_Join_none Tryz.laysJoin Tryz.extraJoin A c' (bytesOf sep) w).mono fun e w' ⟨he, hw'⟩ => ⟨he, hw' ▸ Below.refl _ _⟩
                · obtain ⟨b, o, rfl, hb, hcell⟩ := hrd.2 (by omega)
                  have hj := Any.strings_Join Tryz.laysJoin Tryz.extraJoin b o c' (ls.map bytesOf) (bytesOf sep) w
                    (fun j x hjx => hcell j _ (by rw [List.getElem?_map, hjx]; rfl)) hb (by omega) (by omega) (by rw [join_bytes, List.length_map]; omega)
                  rw [hlen, join_bytes] at hj
                  exact hj
              refine key.mono ?_
              rintro e w' ⟨rfl, hb'⟩
              refine ⟨_, ρ, rfl, ?_, WR.of_below hw hb', Up.refl _ _ _ _, Fr.of_below hb'⟩
              simp only [VR]
              exact ⟨trivial, joinN_byte hbs hsb⟩
            · cases h
          · cases h
        · cases h
      · cases h
    · cases h

/-- The table of powers of ten lies as the text lays it. -/
def Pw (w : World) : Prop := Lib.TabIs Tryz.prog w "internal/strconv.uint64pow10" .u64 Lib.pow10Tab
theorem pwName : Tryz.prog.globalNamed "internal/strconv.uint64pow10" = some 2 := by kernel_rfl
theorem Pw.below {w w' : World} (h : Pw w) (hb : Below w.heap.size w w') : Pw w' := by
  unfold Pw Lib.TabIs World.var? at h ⊢
  rw [pwName] at h ⊢
  simp only [Option.bind_some] at h ⊢
  have hlt : 2 < w.heap.size := by
    rcases Nat.lt_or_ge 2 w.heap.size with h' | h'
    · exact h'
    · rw [Array.getElem?_eq_none h'] at h; cases h
  rw [hb.block _ hlt]
  exact h
theorem grow_below (w : World) (k : Nat) (os : Array Obj) : Below w.heap.size w (Go.Sort.grow (w.drewN k) os) := by
  have h : ∀ (os : List Obj) (a b : World), Below a.heap.size a b → Below a.heap.size a (Go.Sort.grow b os.toArray) := by
    intro os
    induction os with
    | nil => intro a b h; rw [show ([] : List Obj).toArray = #[] from rfl, Go.Sort.grow_empty]; exact h
    | cons o r ih =>
      intro a b h
      have e : Go.Sort.grow b (o :: r).toArray = Go.Sort.grow (b.alloc o) r.toArray := by
        rw [Go.Sort.alloc_eq_grow, Go.Sort.grow_grow]; simp
      rw [e]
      exact ih a _ (h.alloc h.size o)
  exact h os.toList w _ (below_drewN (Below.refl _ _) k)
noncomputable def xItoa : List AV → St → CRes := fun vs S => match vs with
  | [.int .i64 n] => match ilt n 0 && ilt (-10) n with
    | true => fNat n.natAbs fun k => .ok (.str [45, 48 + k]) S
    | false => .no [102]
  | _ => .no [103]
theorem itoa_neg (n : Int) (h0 : n < 0) (h1 : -10 < n) : Lib.itoa n = [45, UInt8.ofNat (48 + n.natAbs)] := by
  unfold Lib.itoa
  rw [if_pos h0]
  unfold Lib.decDigits
  rw [dif_pos (by omega)]
theorem xItoa_ok {W : World} {K : Nat} (hP : Pw W) {xt : FuncId → List AV → St → CRes} (hx : CallOk (Kept.zz W K) Tryz.prog xt) : CallOk (Kept.zz W K) Tryz.prog (xtM 72 xItoa xt) := by
  intro g vs S v S' h ρ xs w hxs hw hK hz
  unfold xtM at h
  cases hg : Nat.beq g 72 with
  | false => rw [hg] at h; exact hx g vs S v S' h ρ xs w hxs hw hK hz
  | true =>
    rw [hg] at h
    have hg := Nat.eq_of_beq_eq_true hg
    subst hg
    have h : xItoa vs S = .ok v S' := h
    have hz : Zz W K S ρ w := hz
    refine .inl ⟨by decide, enters_of Tryz.func72 (by kernel_rfl) rfl _, ?_⟩
    unfold xItoa at h
    split at h
    · rename_i n _
      split at h
      · rename_i hk
        rw [fNat_eq] at h
        injection h with e1 e2; subst e1; subst e2
        simp only [ilt_eq, Bool.and_eq_true, decide_eq_true_eq] at hk
        simp only [VRL, VR] at hxs
        obtain ⟨_, _, rfl, rfl, rfl⟩ := hxs
        refine (Any.strconv_Itoa Tryz.laysItoa n (by omega) (by omega) w (hP.below hz.below)).mono ?_
        rintro e w' ⟨rfl, k, os, rfl⟩
        have hb' := grow_below w k os
        refine ⟨_, ρ, rfl, ?_, WR.of_below hw hb', Up.refl _ _ _ _, Fr.of_below hb'⟩
        simp only [VR]
        rw [itoa_neg n hk.1 hk.2]
        refine ⟨by simp [bytesOf], ?_⟩
        intro b hb
        simp only [List.mem_cons, List.not_mem_nil, or_false] at hb
        rcases hb with rfl | rfl <;> omega
      · cases h
    · cases h
end Go.Proofs.YtdkijcmhjeaofaaGreatDoor
