/- strings.Join as a call that the executor knows: the library's contract, laid at this program. -/
import Derived.Test.YtdkijcmhjeaofaaGreatDoorKb
import Derived.Shelf.Strings.OnBuilder
import Derived.Shelf.LaysM
import Derived.Shelf.Strconv.Itoa3
namespace Go.Proofs
open Go.Shelf Go.RowKit
def Tryz.laysJoin_ren : Go.Shelf.Ren := ⟨fun | 156 => 73 | 165 => 132 | 166 => 70 | 169 => 74 | 240 => 129 | 241 => 190 | 276 => 188 | 277 => 226 | n => n, fun | 31 => 156 | 9 => 9 | 3 => 3 | 4 => 4 | 0 => 0 | 20 => 20 | 72 => 148 | 76 => 151 | 70 => 145 | 37 => 146 | 75 => 150 | 127 => 234 | 164 => 300 | 5 => 5 | 80 => 160 | n => n, fun | n => n⟩
theorem Tryz.laysJoin : Go.Proofs.Lays.n156 Tryz.prog Tryz.laysJoin_ren := {
  mixed := by kernel_rfl, f156 := Tryz.func73.trans (congrArg some (by kernel_rfl)), f165 := Tryz.func132.trans (congrArg some (by kernel_rfl)), f166 := Tryz.func70.trans (congrArg some (by kernel_rfl)), f169 := Tryz.func74.trans (congrArg some (by kernel_rfl)), f240 := Tryz.func129.trans (congrArg some (by kernel_rfl)), f241 := Tryz.func190.trans (congrArg some (by kernel_rfl)), f276 := Tryz.func188.trans (congrArg some (by kernel_rfl)), f277 := Tryz.func226.trans (congrArg some (by kernel_rfl)), t0 := Tryz.underlying0, a0 := Tryz.isAgg0, z0 := Tryz.sizeOf0, v0 := Tryz.zeroValue0, t3 := Tryz.underlying3, a3 := Tryz.isAgg3, z3 := Tryz.sizeOf3, v3 := Tryz.zeroValue3, t4 := Tryz.underlying4, a4 := Tryz.isAgg4, z4 := Tryz.sizeOf4, v4 := Tryz.zeroValue4, t9 := Tryz.underlying9, a9 := Tryz.isAgg9, z9 := Tryz.sizeOf9, v9 := Tryz.zeroValue9, t20 := Tryz.underlying20, a20 := Tryz.isAgg20, z20 := Tryz.sizeOf20, v20 := Tryz.zeroValue20, t31 := Tryz.underlying156, a31 := Tryz.isAgg156, z31 := Tryz.sizeOf156, v31 := Tryz.zeroValue156, t37 := Tryz.underlying146, a37 := Tryz.isAgg146, z37 := Tryz.sizeOf146, v37 := Tryz.zeroValue146, t70 := Tryz.underlying145, a70 := Tryz.isAgg145, z70 := Tryz.sizeOf145, v70 := Tryz.zeroValue145, t72 := Tryz.underlying148, a72 := Tryz.isAgg148, z72 := Tryz.sizeOf148, v72 := Tryz.zeroValue148, t75 := Tryz.underlying150, a75 := Tryz.isAgg150, z75 := Tryz.sizeOf150, v75 := Tryz.zeroValue150, t76 := Tryz.underlying151, a76 := Tryz.isAgg151, z76 := Tryz.sizeOf151, v76 := Tryz.zeroValue151, t127 := Tryz.underlying234, a127 := Tryz.isAgg234, z127 := Tryz.sizeOf234, v127 := Tryz.zeroValue234, t164 := Tryz.underlying300, a164 := Tryz.isAgg300, z164 := Tryz.sizeOf300, v164 := Tryz.zeroValue300 }
theorem Tryz.extraJoin : Builder.Extra Tryz.prog Tryz.laysJoin_ren where
  sizeBuilder := by kernel_rfl
  liesBuilder := by kernel_rfl
  t5 := by kernel_rfl
  a5 := fun _ => by kernel_rfl
  z5 := fun _ => by kernel_rfl
  v5 := fun _ => by kernel_rfl
  infoByte := by kernel_rfl
  cellsByte := by kernel_rfl
  sizeByte := by kernel_rfl
  neB5 := by decide
def Tryz.laysItoa_ren : Go.Shelf.Ren := ⟨fun | 171 => 72 | 243 => 131 | 246 => 189 | 283 => 222 | 284 => 223 | 285 => 224 | 286 => 225 | 129 => 84 | 317 => 267 | 318 => 268 | 319 => 269 | 320 => 270 | 337 => 305 | 338 => 306 | n => n, fun | 3 => 3 | 9 => 9 | 2 => 2 | 4 => 4 | 171 => 356 | 0 => 0 | 53 => 22 | 37 => 146 | 5 => 5 | 173 => 358 | 212 => 400 | 51 => 170 | 20 => 20 | 213 => 401 | 46 => 104 | 232 => 433 | 233 => 434 | n => n, fun | 17 => 2 | 18 => 4 | 19 => 5 | n => n⟩
theorem Tryz.laysItoa : Go.Proofs.LaysM.n171 Tryz.prog Tryz.laysItoa_ren := {
  mixed := by kernel_rfl, f129 := Tryz.func84.trans (congrArg some (by kernel_rfl)), f171 := Tryz.func72.trans (congrArg some (by kernel_rfl)), f243 := Tryz.func131.trans (congrArg some (by kernel_rfl)), f246 := Tryz.func189.trans (congrArg some (by kernel_rfl)), f283 := Tryz.func222.trans (congrArg some (by kernel_rfl)), f284 := Tryz.func223.trans (congrArg some (by kernel_rfl)), f285 := Tryz.func224.trans (congrArg some (by kernel_rfl)), f286 := Tryz.func225.trans (congrArg some (by kernel_rfl)), f317 := Tryz.func267.trans (congrArg some (by kernel_rfl)), f318 := Tryz.func268.trans (congrArg some (by kernel_rfl)), f319 := Tryz.func269.trans (congrArg some (by kernel_rfl)), f320 := Tryz.func270.trans (congrArg some (by kernel_rfl)), f337 := Tryz.func305.trans (congrArg some (by kernel_rfl)), f338 := Tryz.func306.trans (congrArg some (by kernel_rfl)), t0 := Tryz.underlying0, a0 := Tryz.isAgg0, z0 := Tryz.sizeOf0, v0 := Tryz.zeroValue0, t2 := Tryz.underlying2, a2 := Tryz.isAgg2, z2 := Tryz.sizeOf2, v2 := Tryz.zeroValue2, t3 := Tryz.underlying3, a3 := Tryz.isAgg3, z3 := Tryz.sizeOf3, v3 := Tryz.zeroValue3, t4 := Tryz.underlying4, a4 := Tryz.isAgg4, z4 := Tryz.sizeOf4, v4 := Tryz.zeroValue4, t5 := Tryz.underlying5, a5 := Tryz.isAgg5, z5 := Tryz.sizeOf5, v5 := Tryz.zeroValue5, t9 := Tryz.underlying9, a9 := Tryz.isAgg9, z9 := Tryz.sizeOf9, v9 := Tryz.zeroValue9, t20 := Tryz.underlying20, a20 := Tryz.isAgg20, z20 := Tryz.sizeOf20, v20 := Tryz.zeroValue20, t37 := Tryz.underlying146, a37 := Tryz.isAgg146, z37 := Tryz.sizeOf146, v37 := Tryz.zeroValue146, t46 := Tryz.underlying104, a46 := Tryz.isAgg104, z46 := Tryz.sizeOf104, v46 := Tryz.zeroValue104, t51 := Tryz.underlying170, a51 := Tryz.isAgg170, z51 := Tryz.sizeOf170, v51 := Tryz.zeroValue170, t53 := Tryz.underlying22, a53 := Tryz.isAgg22, z53 := Tryz.sizeOf22, v53 := Tryz.zeroValue22, t171 := Tryz.underlying356, a171 := Tryz.isAgg356, z171 := Tryz.sizeOf356, v171 := Tryz.zeroValue356, t173 := Tryz.underlying358, a173 := Tryz.isAgg358, z173 := Tryz.sizeOf358, v173 := Tryz.zeroValue358, t212 := Tryz.underlying400, a212 := Tryz.isAgg400, z212 := Tryz.sizeOf400, v212 := Tryz.zeroValue400, t213 := Tryz.underlying401, a213 := Tryz.isAgg401, z213 := Tryz.sizeOf401, t232 := Tryz.underlying433, a232 := Tryz.isAgg433, z232 := Tryz.sizeOf433, v232 := Tryz.zeroValue433, t233 := Tryz.underlying434, a233 := Tryz.isAgg434, z233 := Tryz.sizeOf434, v233 := Tryz.zeroValue434, g17 := by kernel_rfl, g18 := by kernel_rfl, g19 := by kernel_rfl, i0 := by kernel_rfl, i2 := by kernel_rfl, i3 := by kernel_rfl, i4 := by kernel_rfl, i5 := by kernel_rfl, i9 := by kernel_rfl, i20 := by kernel_rfl, i37 := by kernel_rfl, i46 := by kernel_rfl, i51 := by kernel_rfl, i53 := by kernel_rfl, i171 := by kernel_rfl, i173 := by kernel_rfl, i212 := by kernel_rfl, i232 := by kernel_rfl, i233 := by kernel_rfl, m17 := by kernel_rfl, m18 := by kernel_rfl, m19 := by kernel_rfl }
end Go.Proofs
namespace Go.Proofs.YtdkijcmhjeaofaaGreatDoor
open Ex Go.RowKit

noncomputable def capLo : AV → Option Nat
  | .sl _ _ _ c => some c
  | .slu _ _ _ _ lb => some lb
  | _ => none
noncomputable def strsA : List AV → Option (List (List Nat))
  | [] => some []
  | .str s :: r => (strsA r).map (s :: ·)
  | _ :: _ => none
noncomputable def joinN : List (List Nat) → List Nat → List Nat
  | [], _ => []
  | x :: r, sep => x ++ (r.map (sep ++ ·)).flatten
noncomputable def xJoin : List AV → St → CRes := fun vs S => match vs with
  | [sl, .str sep] => match lenAV sl, capLo sl with
    | some n, some c => match aRead S 1 n sl with
      | some cells => match strsA cells with
        | some ls => match Nat.ble n c && (Nat.ble n 1000 && Nat.ble (joinN ls sep).length 1000000) with
          | true => .ok (.str (joinN ls sep)) S
          | false => .no [97]
        | none => .no [98]
      | none => .no [99]
    | _, _ => .no [100]
  | _ => .no [101]

theorem capLo_ok {ρ : Rho} {v : AV} {x : Value} {c0 : Nat} (h : capLo v = some c0) (hv : VR ρ v x) : ∃ A n c, x = .slice A n c ∧ c0 ≤ c := by
  unfold capLo at h
  split at h
  · injection h with h; subst h
    simp only [VR] at hv
    obtain ⟨b, m, _, e⟩ := hv
    exact ⟨_, _, _, e, Nat.le_refl _⟩
  · injection h with h; subst h
    simp only [VR] at hv
    obtain ⟨b, m, c, _, e, hl, _⟩ := hv
    exact ⟨_, _, _, e, hl⟩
  · cases h
theorem strsA_ok {ρ : Rho} : ∀ {l : List AV} {ls : List (List Nat)} {xs : List Value}, strsA l = some ls → VRL ρ l xs → xs = (ls.map bytesOf).map .string ∧ ∀ s ∈ ls, ∀ b ∈ s, b < 256
  | [], ls, xs, h, hv => by
    have h : some [] = some ls := h
    injection h with h; subst h
    simp only [VRL] at hv
    exact ⟨hv, by simp⟩
  | v :: r, ls, xs, h, hv => by
    cases v with
    | str s =>
      have h : (strsA r).map (s :: ·) = some ls := h
      rw [Option.map_eq_some_iff] at h
      obtain ⟨ls', h1, rfl⟩ := h
      simp only [VRL, VR] at hv
      obtain ⟨y, ys, rfl, ⟨rfl, hb⟩, hr⟩ := hv
      obtain ⟨i1, i2⟩ := strsA_ok h1 hr
      subst i1
      refine ⟨rfl, fun t ht => ?_⟩
      rcases List.mem_cons.1 ht with rfl | ht
      · exact hb
      · exact i2 t ht
    | _ => cases h
theorem bytes_list (s : List Nat) : (bytesOf s).data.toList = s.map UInt8.ofNat := by simp [bytesOf]
theorem join_bytes (ls : List (List Nat)) (sep : List Nat) : Lib.join ((ls.map bytesOf).map (·.data.toList)) (bytesOf sep).data.toList = (joinN ls sep).map UInt8.ofNat := by
  have e : (ls.map bytesOf).map (·.data.toList) = ls.map (·.map UInt8.ofNat) := by
    rw [List.map_map]
    exact List.map_congr_left fun s _ => bytes_list s
  rw [e, bytes_list]
  cases ls with
  | nil => rfl
  | cons x r =>
    rw [List.map_cons, Lib.join_cons]
    unfold Lib.joinTail joinN
    rw [List.map_append, List.map_flatten, List.map_map, List.map_map]
    congr 2
    exact List.map_congr_left fun s _ => by simp
theorem joinN_byte {ls : List (List Nat)} {sep : List Nat} (h : ∀ s ∈ ls, ∀ b ∈ s, b < 256) (hs : ∀ b ∈ sep, b < 256) : ∀ b ∈ joinN ls sep, b < 256 := by
  intro b hb
  cases ls with
  | nil => cases hb
  | cons x r =>
    unfold joinN at hb
    rcases List.mem_append.1 hb with hb | hb
    · exact h x (by simp) b hb
    · obtain ⟨t, ht, hbt⟩ := List.mem_flatten.1 hb
      obtain ⟨s, hs', rfl⟩ := List.mem_map.1 ht
      rcases List.mem_append.1 hbt with hb | hb
      · exact hs b hb
      · exact h s (by simp [hs']) b hb

theorem xJoin_ok {W : World} {K : Nat} {xt : FuncId → List AV → St → CRes} (hx : CallOk (Kept.zz W K) Tryz.prog xt) : CallOk (Kept.zz W K) Tryz.prog (xtM 73 xJoin xt) := by
  intro g vs S v S' h ρ xs w hxs hw hK hz
  unfold xtM at h
  cases hg : Nat.beq g 73 with
  | false => rw [hg] at h; exact hx g vs S v S' h ρ xs w hxs hw hK hz
  | true =>
    rw [hg] at h
    have hg := Nat.eq_of_beq_eq_true hg
    subst hg
    have h : xJoin vs S = .ok v S' := h
    refine .inl ⟨by decide, enters_of Tryz.func73 (by kernel_rfl) rfl _, ?_⟩
    unfold xJoin at h
    split at h
    · rename_i sl sep _
      split at h
      · rename_i n c hn hc
        split at h
        · rename_i cells hcells
          split at h
          · rename_i ls hls
            split at h
            · rename_i hk
              injection h with e1 e2; subst e1; subst e2
              rw [Bool.and_eq_true, Bool.and_eq_true] at hk
              have k1 := Nat.le_of_ble_eq_true hk.1
              have k2 := Nat.le_of_ble_eq_true hk.2.1
              have k3 := Nat.le_of_ble_eq_true hk.2.2
              simp only [VRL] at hxs
              obtain ⟨x, _, rfl, hsl, y, _, rfl, hy, rfl⟩ := hxs
              simp only [VR] at hy
              obtain ⟨rfl, hsb⟩ := hy
              obtain ⟨A, c', ys, rfl, hyl, hrd⟩ := slice_rd hw hn hcells hsl (fun s e => by subst e; cases hc)
              obtain ⟨_, _, c'', hcc, hle⟩ := capLo_ok hc hsl
              injection hcc with _ _ hcc
              subst hcc
              obtain ⟨rfl, hbs⟩ := strsA_ok hls hyl
              have hlen : (ls.map bytesOf).length = n := by have := hrd.1; simpa using this
              have key : Calls Tryz.prog 73 #[.slice A n c', .string (bytesOf sep)] w fun e w' => e = .returned (.string (bytesOf (joinN ls sep))) ∧ Below w.heap.size w w' := by
                by_cases h0 : n = 0
                · subst h0
                  obtain rfl : ls = [] := by simpa using hlen
                  exact (Any.strings_Join_none Tryz.laysJoin Tryz.extraJoin A c' (bytesOf sep) w).mono fun e w' ⟨he, hw'⟩ => ⟨he, hw' ▸ Below.refl _ _⟩
                · obtain ⟨b, o, rfl, hb, hcell⟩ := hrd.2 (by omega)
                  have hj := Any.strings_Join Tryz.laysJoin Tryz.extraJoin b o c' (ls.map bytesOf) (bytesOf sep) w
                    (fun j x hjx => hcell j _ (by rw [List.getElem?_map, hjx]; rfl)) hb (by omega) (by omega) (by rw [join_bytes, List.length_map]; omega)
                  rw [hlen, join_bytes] at hj
                  exact hj
              refine key.mono ?_
              rintro e w' ⟨rfl, hb'⟩
              refine ⟨_, ρ, rfl, ?_, WR.of_below hw hb', Up.refl _ _ _ _, Fr.of_below hb'⟩
              simp only [VR]
              exact ⟨trivial, joinN_byte hbs hsb⟩
            · cases h
          · cases h
        · cases h
      · cases h
    · cases h

/-- The table of powers of ten lies as the text lays it. -/
def Pw (w : World) : Prop := Lib.TabIs Tryz.prog w "internal/strconv.uint64pow10" .u64 Lib.pow10Tab
theorem pwName : Tryz.prog.globalNamed "internal/strconv.uint64pow10" = some 2 := by kernel_rfl
theorem Pw.below {w w' : World} (h : Pw w) (hb : Below w.heap.size w w') : Pw w' := by
  unfold Pw Lib.TabIs World.var? at h ⊢
  rw [pwName] at h ⊢
  simp only [Option.bind_some] at h ⊢
  have hlt : 2 < w.heap.size := by
    rcases Nat.lt_or_ge 2 w.heap.size with h' | h'
    · exact h'
    · rw [Array.getElem?_eq_none h'] at h; cases h
  rw [hb.block _ hlt]
  exact h
theorem grow_below (w : World) (k : Nat) (os : Array Obj) : Below w.heap.size w (Go.Sort.grow (w.drewN k) os) := by
  have h : ∀ (os : List Obj) (a b : World), Below a.heap.size a b → Below a.heap.size a (Go.Sort.grow b os.toArray) := by
    intro os
    induction os with
    | nil => intro a b h; rw [show ([] : List Obj).toArray = #[] from rfl, Go.Sort.grow_empty]; exact h
    | cons o r ih =>
      intro a b h
      have e : Go.Sort.grow b (o :: r).toArray = Go.Sort.grow (b.alloc o) r.toArray := by
        rw [Go.Sort.alloc_eq_grow, Go.Sort.grow_grow]; simp
      rw [e]
      exact ih a _ (h.alloc h.size o)
  exact h os.toList w _ (below_drewN (Below.refl _ _) k)
noncomputable def xItoa : List AV → St → CRes := fun vs S => match vs with
  | [.int .i64 n] => match ilt n 0 && ilt (-10) n with
    | true => fNat n.natAbs fun k => .ok (.str [45, 48 + k]) S
    | false => .no [102]
  | _ => .no [103]
theorem itoa_neg (n : Int) (h0 : n < 0) (h1 : -10 < n) : Lib.itoa n = [45, UInt8.ofNat (48 + n.natAbs)] := by
  unfold Lib.itoa
  rw [if_pos h0]
  unfold Lib.decDigits
  rw [dif_pos (by omega)]
theorem xItoa_ok {W : World} {K : Nat} (hP : Pw W) {xt : FuncId → List AV → St → CRes} (hx : CallOk (Kept.zz W K) Tryz.prog xt) : CallOk (Kept.zz W K) Tryz.prog (xtM 72 xItoa xt) := by
  intro g vs S v S' h ρ xs w hxs hw hK hz
  unfold xtM at h
  cases hg : Nat.beq g 72 with
  | false => rw [hg] at h; exact hx g vs S v S' h ρ xs w hxs hw hK hz
  | true =>
    rw [hg] at h
    have hg := Nat.eq_of_beq_eq_true hg
    subst hg
    have h : xItoa vs S = .ok v S' := h
    have hz : Zz W K S ρ w := hz
    refine .inl ⟨by decide, enters_of Tryz.func72 (by kernel_rfl) rfl _, ?_⟩
    unfold xItoa at h
    split at h
    · rename_i n _
      split at h
      · rename_i hk
        rw [fNat_eq] at h
        injection h with e1 e2; subst e1; subst e2
        simp only [ilt_eq, Bool.and_eq_true, decide_eq_true_eq] at hk
        simp only [VRL, VR] at hxs
        obtain ⟨_, _, rfl, rfl, rfl⟩ := hxs
        refine (Any.strconv_Itoa Tryz.laysItoa n (by omega) (by omega) w (hP.below hz.below)).mono ?_
        rintro e w' ⟨rfl, k, os, rfl⟩
        have hb' := grow_below w k os
        refine ⟨_, ρ, rfl, ?_, WR.of_below hw hb', Up.refl _ _ _ _, Fr.of_below hb'⟩
        simp only [VR]
        rw [itoa_neg n hk.1 hk.2]
        refine ⟨by simp [bytesOf], ?_⟩
        intro b hb
        simp only [List.mem_cons, List.not_mem_nil, or_false] at hb
        rcases hb with rfl | rfl <;> omega
      · cases h
    · cases h
end Go.Proofs.YtdkijcmhjeaofaaGreatDoor
