/- strconv.Itoa's table; the library's strconv.Itoa, strings.Split, strconv.Atoi and slices.Index at strings, laid at this program, in the form that machines.Parse asks. The conditions on the world (Mx): the table of powers of ten lies as the text lays it; the variables MaxLen, ErrSyntax and ErrRange hold values of their kind. -/
import Derived.Test.YtjdmkgnlakonbaaGreatDoorBx
import Derived.Test.YtjdmkgnlakonbaaGreatDoorMtx
import Derived.Shelf.LaysM
import Derived.Shelf.LaysC
import Derived.Shelf.Strconv.Itoa3
import Derived.Shelf.Strconv.AtoiAll
import Derived.Shelf.Strings.Split
import Derived.Shelf.Slices.Turned
namespace Go.Proofs
open Go.Shelf Go.RowKit
def Tryz.laysItoa_ren : Go.Shelf.Ren := ⟨fun | 171 => 5 | 243 => 14 | 246 => 25 | 283 => 42 | 284 => 43 | 285 => 44 | 286 => 45 | 129 => 83 | 317 => 82 | 318 => 84 | 319 => 85 | 320 => 86 | 337 => 137 | 338 => 138 | n => n, fun | 3 => 3 | 9 => 9 | 2 => 2 | 4 => 4 | 171 => 115 | 0 => 0 | 53 => 116 | 37 => 119 | 5 => 5 | 173 => 120 | 212 => 171 | 51 => 172 | 20 => 20 | 213 => 173 | 46 => 175 | 232 => 314 | 233 => 315 | n => n, fun | 17 => 0 | 18 => 5 | 19 => 6 | n => n⟩
theorem Tryz.laysItoa : Go.Proofs.LaysM.n171 Tryz.prog Tryz.laysItoa_ren := {
  mixed := by kernel_rfl, f129 := Tryz.func83.trans (congrArg some (by kernel_rfl)), f171 := Tryz.func5.trans (congrArg some (by kernel_rfl)), f243 := Tryz.func14.trans (congrArg some (by kernel_rfl)), f246 := Tryz.func25.trans (congrArg some (by kernel_rfl)), f283 := Tryz.func42.trans (congrArg some (by kernel_rfl)), f284 := Tryz.func43.trans (congrArg some (by kernel_rfl)), f285 := Tryz.func44.trans (congrArg some (by kernel_rfl)), f286 := Tryz.func45.trans (congrArg some (by kernel_rfl)), f317 := Tryz.func82.trans (congrArg some (by kernel_rfl)), f318 := Tryz.func84.trans (congrArg some (by kernel_rfl)), f319 := Tryz.func85.trans (congrArg some (by kernel_rfl)), f320 := Tryz.func86.trans (congrArg some (by kernel_rfl)), f337 := Tryz.func137.trans (congrArg some (by kernel_rfl)), f338 := Tryz.func138.trans (congrArg some (by kernel_rfl)), t0 := Tryz.underlying0, a0 := Tryz.isAgg0, z0 := Tryz.sizeOf0, v0 := Tryz.zeroValue0, t2 := Tryz.underlying2, a2 := Tryz.isAgg2, z2 := Tryz.sizeOf2, v2 := Tryz.zeroValue2, t3 := Tryz.underlying3, a3 := Tryz.isAgg3, z3 := Tryz.sizeOf3, v3 := Tryz.zeroValue3, t4 := Tryz.underlying4, a4 := Tryz.isAgg4, z4 := Tryz.sizeOf4, v4 := Tryz.zeroValue4, t5 := Tryz.underlying5, a5 := Tryz.isAgg5, z5 := Tryz.sizeOf5, v5 := Tryz.zeroValue5, t9 := Tryz.underlying9, a9 := Tryz.isAgg9, z9 := Tryz.sizeOf9, v9 := Tryz.zeroValue9, t20 := Tryz.underlying20, a20 := Tryz.isAgg20, z20 := Tryz.sizeOf20, v20 := Tryz.zeroValue20, t37 := Tryz.underlying119, a37 := Tryz.isAgg119, z37 := Tryz.sizeOf119, v37 := Tryz.zeroValue119, t46 := Tryz.underlying175, a46 := Tryz.isAgg175, z46 := Tryz.sizeOf175, v46 := Tryz.zeroValue175, t51 := Tryz.underlying172, a51 := Tryz.isAgg172, z51 := Tryz.sizeOf172, v51 := Tryz.zeroValue172, t53 := Tryz.underlying116, a53 := Tryz.isAgg116, z53 := Tryz.sizeOf116, v53 := Tryz.zeroValue116, t171 := Tryz.underlying115, a171 := Tryz.isAgg115, z171 := Tryz.sizeOf115, v171 := Tryz.zeroValue115, t173 := Tryz.underlying120, a173 := Tryz.isAgg120, z173 := Tryz.sizeOf120, v173 := Tryz.zeroValue120, t212 := Tryz.underlying171, a212 := Tryz.isAgg171, z212 := Tryz.sizeOf171, v212 := Tryz.zeroValue171, t213 := Tryz.underlying173, a213 := Tryz.isAgg173, z213 := Tryz.sizeOf173, t232 := Tryz.underlying314, a232 := Tryz.isAgg314, z232 := Tryz.sizeOf314, v232 := Tryz.zeroValue314, t233 := Tryz.underlying315, a233 := Tryz.isAgg315, z233 := Tryz.sizeOf315, v233 := Tryz.zeroValue315, g17 := by kernel_rfl, g18 := by kernel_rfl, g19 := by kernel_rfl, i0 := by kernel_rfl, i2 := by kernel_rfl, i3 := by kernel_rfl, i4 := by kernel_rfl, i5 := by kernel_rfl, i9 := by kernel_rfl, i20 := by kernel_rfl, i37 := by kernel_rfl, i46 := by kernel_rfl, i51 := by kernel_rfl, i53 := by kernel_rfl, i171 := by kernel_rfl, i173 := by kernel_rfl, i212 := by kernel_rfl, i232 := by kernel_rfl, i233 := by kernel_rfl, m17 := by kernel_rfl, m18 := by kernel_rfl, m19 := by kernel_rfl }
def Tryz.laysAtoi_ren : Go.Shelf.Ren := ⟨fun | 172 => 18 | 244 => 27 | 245 => 28 | 247 => 49 | 279 => 50 | 280 => 51 | 281 => 52 | 282 => 53 | 287 => 91 | 316 => 92 | 171 => 5 | 205 => 93 | 321 => 144 | 322 => 145 | 243 => 14 | 246 => 25 | 283 => 42 | 284 => 43 | 285 => 44 | 286 => 45 | 129 => 83 | 317 => 82 | 318 => 84 | 319 => 85 | 320 => 86 | 337 => 137 | 338 => 138 | n => n, fun | 9 => 9 | 3 => 3 | 75 => 68 | 76 => 69 | 4 => 4 | 5 => 5 | 167 => 124 | 37 => 119 | 0 => 0 | 85 => 125 | 2 => 2 | 168 => 127 | 53 => 116 | 175 => 181 | 46 => 175 | 210 => 185 | 127 => 247 | 145 => 250 | 143 => 248 | 21 => 21 | 171 => 115 | 173 => 120 | 212 => 171 | 51 => 172 | 20 => 20 | 213 => 173 | 232 => 314 | 233 => 315 | 80 => 425 | n => n, fun | 15 => 1 | 16 => 2 | 17 => 0 | 18 => 5 | 19 => 6 | n => n⟩
theorem Tryz.laysAtoi : Go.Proofs.LaysC.n172 Tryz.prog Tryz.laysAtoi_ren := {
  mixed := by kernel_rfl, f129 := Tryz.func83.trans (congrArg some (by kernel_rfl)), f171 := Tryz.func5.trans (congrArg some (by kernel_rfl)), f172 := Tryz.func18.trans (congrArg some (by kernel_rfl)), f205 := Tryz.func93.trans (congrArg some (by kernel_rfl)), f243 := Tryz.func14.trans (congrArg some (by kernel_rfl)), f244 := Tryz.func27.trans (congrArg some (by kernel_rfl)), f245 := Tryz.func28.trans (congrArg some (by kernel_rfl)), f246 := Tryz.func25.trans (congrArg some (by kernel_rfl)), f247 := Tryz.func49.trans (congrArg some (by kernel_rfl)), f279 := Tryz.func50.trans (congrArg some (by kernel_rfl)), f280 := Tryz.func51.trans (congrArg some (by kernel_rfl)), f281 := Tryz.func52.trans (congrArg some (by kernel_rfl)), f282 := Tryz.func53.trans (congrArg some (by kernel_rfl)), f283 := Tryz.func42.trans (congrArg some (by kernel_rfl)), f284 := Tryz.func43.trans (congrArg some (by kernel_rfl)), f285 := Tryz.func44.trans (congrArg some (by kernel_rfl)), f286 := Tryz.func45.trans (congrArg some (by kernel_rfl)), f287 := Tryz.func91.trans (congrArg some (by kernel_rfl)), f316 := Tryz.func92.trans (congrArg some (by kernel_rfl)), f317 := Tryz.func82.trans (congrArg some (by kernel_rfl)), f318 := Tryz.func84.trans (congrArg some (by kernel_rfl)), f319 := Tryz.func85.trans (congrArg some (by kernel_rfl)), f320 := Tryz.func86.trans (congrArg some (by kernel_rfl)), f321 := Tryz.func144.trans (congrArg some (by kernel_rfl)), f322 := Tryz.func145.trans (congrArg some (by kernel_rfl)), f337 := Tryz.func137.trans (congrArg some (by kernel_rfl)), f338 := Tryz.func138.trans (congrArg some (by kernel_rfl)), t0 := Tryz.underlying0, a0 := Tryz.isAgg0, z0 := Tryz.sizeOf0, v0 := Tryz.zeroValue0, t2 := Tryz.underlying2, a2 := Tryz.isAgg2, z2 := Tryz.sizeOf2, v2 := Tryz.zeroValue2, t3 := Tryz.underlying3, a3 := Tryz.isAgg3, z3 := Tryz.sizeOf3, v3 := Tryz.zeroValue3, t4 := Tryz.underlying4, a4 := Tryz.isAgg4, z4 := Tryz.sizeOf4, v4 := Tryz.zeroValue4, t5 := Tryz.underlying5, a5 := Tryz.isAgg5, z5 := Tryz.sizeOf5, v5 := Tryz.zeroValue5, t9 := Tryz.underlying9, a9 := Tryz.isAgg9, z9 := Tryz.sizeOf9, v9 := Tryz.zeroValue9, t20 := Tryz.underlying20, a20 := Tryz.isAgg20, z20 := Tryz.sizeOf20, v20 := Tryz.zeroValue20, t21 := Tryz.underlying21, a21 := Tryz.isAgg21, z21 := Tryz.sizeOf21, v21 := Tryz.zeroValue21, t37 := Tryz.underlying119, a37 := Tryz.isAgg119, z37 := Tryz.sizeOf119, v37 := Tryz.zeroValue119, t46 := Tryz.underlying175, a46 := Tryz.isAgg175, z46 := Tryz.sizeOf175, v46 := Tryz.zeroValue175, t51 := Tryz.underlying172, a51 := Tryz.isAgg172, z51 := Tryz.sizeOf172, v51 := Tryz.zeroValue172, t53 := Tryz.underlying116, a53 := Tryz.isAgg116, z53 := Tryz.sizeOf116, v53 := Tryz.zeroValue116, t75 := Tryz.underlying68, a75 := Tryz.isAgg68, z75 := Tryz.sizeOf68, v75 := Tryz.zeroValue68, t76 := Tryz.underlying69, a76 := Tryz.isAgg69, z76 := Tryz.sizeOf69, v76 := Tryz.zeroValue69, t85 := Tryz.underlying125, a85 := Tryz.isAgg125, z85 := Tryz.sizeOf125, v85 := Tryz.zeroValue125, t127 := Tryz.underlying247, a127 := Tryz.isAgg247, z127 := Tryz.sizeOf247, v127 := Tryz.zeroValue247, t143 := Tryz.underlying248, a143 := Tryz.isAgg248, z143 := Tryz.sizeOf248, v143 := Tryz.zeroValue248, t145 := Tryz.underlying250, a145 := Tryz.isAgg250, z145 := Tryz.sizeOf250, v145 := Tryz.zeroValue250, t167 := Tryz.underlying124, a167 := Tryz.isAgg124, z167 := Tryz.sizeOf124, v167 := Tryz.zeroValue124, t168 := Tryz.underlying127, a168 := Tryz.isAgg127, z168 := Tryz.sizeOf127, v168 := Tryz.zeroValue127, t171 := Tryz.underlying115, a171 := Tryz.isAgg115, z171 := Tryz.sizeOf115, v171 := Tryz.zeroValue115, t173 := Tryz.underlying120, a173 := Tryz.isAgg120, z173 := Tryz.sizeOf120, v173 := Tryz.zeroValue120, t175 := Tryz.underlying181, a175 := Tryz.isAgg181, z175 := Tryz.sizeOf181, v175 := Tryz.zeroValue181, t210 := Tryz.underlying185, a210 := Tryz.isAgg185, z210 := Tryz.sizeOf185, v210 := Tryz.zeroValue185, t212 := Tryz.underlying171, a212 := Tryz.isAgg171, z212 := Tryz.sizeOf171, v212 := Tryz.zeroValue171, t213 := Tryz.underlying173, a213 := Tryz.isAgg173, z213 := Tryz.sizeOf173, t232 := Tryz.underlying314, a232 := Tryz.isAgg314, z232 := Tryz.sizeOf314, v232 := Tryz.zeroValue314, t233 := Tryz.underlying315, a233 := Tryz.isAgg315, z233 := Tryz.sizeOf315, v233 := Tryz.zeroValue315, g15 := by kernel_rfl, g16 := by kernel_rfl, g17 := by kernel_rfl, g18 := by kernel_rfl, g19 := by kernel_rfl, t80 := Tryz.underlying425, a80 := Tryz.isAgg425, z80 := Tryz.sizeOf425, v80 := Tryz.zeroValue425, i0 := by kernel_rfl, i2 := by kernel_rfl, i3 := by kernel_rfl, i4 := by kernel_rfl, i5 := by kernel_rfl, i9 := by kernel_rfl, i20 := by kernel_rfl, i21 := by kernel_rfl, i37 := by kernel_rfl, i46 := by kernel_rfl, i51 := by kernel_rfl, i53 := by kernel_rfl, i75 := by kernel_rfl, i76 := by kernel_rfl, i80 := by kernel_rfl, i85 := by kernel_rfl, i127 := by kernel_rfl, i143 := by kernel_rfl, i145 := by kernel_rfl, i167 := by kernel_rfl, i168 := by kernel_rfl, i171 := by kernel_rfl, i173 := by kernel_rfl, i175 := by kernel_rfl, i210 := by kernel_rfl, i212 := by kernel_rfl, i232 := by kernel_rfl, i233 := by kernel_rfl, m15 := by kernel_rfl, m16 := by kernel_rfl, m17 := by kernel_rfl, m18 := by kernel_rfl, m19 := by kernel_rfl, c0 := by kernel_rfl, c2 := by kernel_rfl, c3 := by kernel_rfl, c4 := by kernel_rfl, c5 := by kernel_rfl, c9 := by kernel_rfl, c20 := by kernel_rfl, c21 := by kernel_rfl, c37 := by kernel_rfl, c46 := by kernel_rfl, c51 := by kernel_rfl, c53 := by kernel_rfl, c75 := by kernel_rfl, c76 := by kernel_rfl, c80 := by kernel_rfl, c85 := by kernel_rfl, c127 := by kernel_rfl, c143 := by kernel_rfl, c145 := by kernel_rfl, c167 := by kernel_rfl, c168 := by kernel_rfl, c171 := by kernel_rfl, c173 := by kernel_rfl, c175 := by kernel_rfl, c210 := by kernel_rfl, c212 := by kernel_rfl, c213 := by kernel_rfl, c232 := by kernel_rfl, c233 := by kernel_rfl }
def Tryz.laysSplit_ren : Go.Shelf.Ren := ⟨fun | 146 => 15 | 221 => 26 | 268 => 46 | 138 => 47 | 143 => 48 | 195 => 87 | 197 => 88 | 218 => 89 | 219 => 90 | 260 => 139 | 217 => 140 | 225 => 141 | 224 => 142 | 267 => 143 | 266 => 210 | 314 => 211 | n => n, fun | 9 => 9 | 31 => 26 | 3 => 3 | 4 => 4 | 0 => 0 | 105 => 178 | 21 => 21 | 5 => 5 | 46 => 175 | 119 => 316 | 139 => 319 | 138 => 318 | 146 => 320 | 51 => 172 | n => n, fun | 1 => 3 | 3 => 7 | 4 => 8 | n => n⟩
theorem Tryz.laysSplit : Go.Proofs.Lays.n146 Tryz.prog Tryz.laysSplit_ren := {
  mixed := by kernel_rfl, f138 := Tryz.func47.trans (congrArg some (by kernel_rfl)), f143 := Tryz.func48.trans (congrArg some (by kernel_rfl)), f146 := Tryz.func15.trans (congrArg some (by kernel_rfl)), f195 := Tryz.func87.trans (congrArg some (by kernel_rfl)), f197 := Tryz.func88.trans (congrArg some (by kernel_rfl)), f217 := Tryz.func140.trans (congrArg some (by kernel_rfl)), f218 := Tryz.func89.trans (congrArg some (by kernel_rfl)), f219 := Tryz.func90.trans (congrArg some (by kernel_rfl)), f221 := Tryz.func26.trans (congrArg some (by kernel_rfl)), f224 := Tryz.func142.trans (congrArg some (by kernel_rfl)), f225 := Tryz.func141.trans (congrArg some (by kernel_rfl)), f260 := Tryz.func139.trans (congrArg some (by kernel_rfl)), f266 := Tryz.func210.trans (congrArg some (by kernel_rfl)), f267 := Tryz.func143.trans (congrArg some (by kernel_rfl)), f268 := Tryz.func46.trans (congrArg some (by kernel_rfl)), f314 := Tryz.func211.trans (congrArg some (by kernel_rfl)), t0 := Tryz.underlying0, a0 := Tryz.isAgg0, z0 := Tryz.sizeOf0, v0 := Tryz.zeroValue0, t3 := Tryz.underlying3, a3 := Tryz.isAgg3, z3 := Tryz.sizeOf3, v3 := Tryz.zeroValue3, t4 := Tryz.underlying4, a4 := Tryz.isAgg4, z4 := Tryz.sizeOf4, v4 := Tryz.zeroValue4, t5 := Tryz.underlying5, a5 := Tryz.isAgg5, z5 := Tryz.sizeOf5, v5 := Tryz.zeroValue5, t9 := Tryz.underlying9, a9 := Tryz.isAgg9, z9 := Tryz.sizeOf9, v9 := Tryz.zeroValue9, t21 := Tryz.underlying21, a21 := Tryz.isAgg21, z21 := Tryz.sizeOf21, v21 := Tryz.zeroValue21, t31 := Tryz.underlying26, a31 := Tryz.isAgg26, z31 := Tryz.sizeOf26, v31 := Tryz.zeroValue26, t46 := Tryz.underlying175, a46 := Tryz.isAgg175, z46 := Tryz.sizeOf175, v46 := Tryz.zeroValue175, t51 := Tryz.underlying172, a51 := Tryz.isAgg172, z51 := Tryz.sizeOf172, v51 := Tryz.zeroValue172, t105 := Tryz.underlying178, a105 := Tryz.isAgg178, z105 := Tryz.sizeOf178, v105 := Tryz.zeroValue178, t119 := Tryz.underlying316, a119 := Tryz.isAgg316, z119 := Tryz.sizeOf316, t138 := Tryz.underlying318, a138 := Tryz.isAgg318, z138 := Tryz.sizeOf318, v138 := Tryz.zeroValue318, t139 := Tryz.underlying319, a139 := Tryz.isAgg319, z139 := Tryz.sizeOf319, v139 := Tryz.zeroValue319, t146 := Tryz.underlying320, a146 := Tryz.isAgg320, z146 := Tryz.sizeOf320, v146 := Tryz.zeroValue320, g1 := by kernel_rfl, g3 := by kernel_rfl, g4 := by kernel_rfl }
def Tryz.laysIndexS_ren : Go.Shelf.Ren := ⟨fun | 109 => 16 | n => n, fun | 31 => 26 | 9 => 9 | 3 => 3 | 0 => 0 | 4 => 4 | n => n, fun | n => n⟩
theorem Tryz.laysIndexS : Go.Proofs.Lays.n109 Tryz.prog Tryz.laysIndexS_ren := {
  mixed := by kernel_rfl, f109 := Tryz.func16.trans (congrArg some (by kernel_rfl)), t0 := Tryz.underlying0, a0 := Tryz.isAgg0, z0 := Tryz.sizeOf0, v0 := Tryz.zeroValue0, t3 := Tryz.underlying3, a3 := Tryz.isAgg3, z3 := Tryz.sizeOf3, v3 := Tryz.zeroValue3, t4 := Tryz.underlying4, a4 := Tryz.isAgg4, z4 := Tryz.sizeOf4, v4 := Tryz.zeroValue4, t9 := Tryz.underlying9, a9 := Tryz.isAgg9, z9 := Tryz.sizeOf9, v9 := Tryz.zeroValue9, t31 := Tryz.underlying26, a31 := Tryz.isAgg26, z31 := Tryz.sizeOf26, v31 := Tryz.zeroValue26 }
end Go.Proofs
namespace Go.Proofs.YtjdmkgnlakonbaaGreatDoor
open Go.RowKit Go.Lib

/-- The table of powers of ten lies as the text lays it. -/
def Pw (w : World) : Prop := Lib.TabIs Tryz.prog w "internal/strconv.uint64pow10" .u64 Lib.pow10Tab
theorem pwName : Tryz.prog.globalNamed "internal/strconv.uint64pow10" = some 0 := by kernel_rfl
theorem Pw.below {w w' : World} (h : Pw w) (hb : Below w.heap.size w w') : Pw w' := by
  unfold Pw Lib.TabIs World.var? at h ⊢
  rw [pwName] at h ⊢
  simp only [Option.bind_some] at h ⊢
  have hlt : 0 < w.heap.size := by
    rcases Nat.lt_or_ge 0 w.heap.size with h' | h'
    · exact h'
    · rw [Array.getElem?_eq_none h'] at h; cases h
  rw [hb.block _ hlt]
  exact h
theorem grow_below (w : World) (k : Nat) (os : Array Obj) : Below w.heap.size w (Go.Sort.grow (w.drewN k) os) := by
  have h : ∀ (os : List Obj) (a b : World), Below a.heap.size a b → Below a.heap.size a (Go.Sort.grow b os.toArray) := by
    intro os
    induction os with
    | nil => intro a b h; rw [show ([] : List Obj).toArray = #[] from rfl, Go.Sort.grow_empty]; exact h
    | cons o r ih =>
      intro a b h
      have e : Go.Sort.grow b (o :: r).toArray = Go.Sort.grow (b.alloc o) r.toArray := by
        rw [Go.Sort.alloc_eq_grow, Go.Sort.grow_grow]; simp
      rw [e]
      exact ih a _ (h.alloc h.size o)
  exact h os.toList w _ (below_drewN (Below.refl _ _) k)

/-- In the midst of a region that draws its order: more may be asked of the world from here on. -/
theorem wpAnyH_strong {P : Program} {md : Region.Mode} {ops : Array Oper} {Q : Exit → Act → World → Prop} {S S' : World → Prop} (h : ∀ w, S' w → S w) :
    ∀ (fuel : Nat) (listed : Array Bool) (a : Act) (w : World), wpAnyH P md ops Q S' fuel listed a w → wpAnyH P md ops Q S fuel listed a w
  | 0, _, _, _, H => H
  | fuel + 1, _, _, _, H => ⟨H.1, fun i hi => wpOp_mono (fun _ _ h' => ⟨h _ h'.1, wpAnyH_strong h fuel _ _ _ h'.2⟩) (H.2 i hi)⟩

def isErr (v : Value) : Prop := v = .nilIface ∨ ∃ te pe, v = .iface te pe
/-- What the library's calls ask of the world. -/
structure Mx (w : World) : Prop where
  pw : Pw w
  ml : ∃ m, w.cell? ⟨3, 0, none⟩ = some (.int .i64 m)
  es : ∃ v, w.cell? ⟨1, 0, none⟩ = some v ∧ isErr v
  er : ∃ v, w.cell? ⟨2, 0, none⟩ = some v ∧ isErr v
theorem Mx.below {w w' : World} (h : Mx w) (hb : Below w.heap.size w w') : Mx w' :=
  ⟨h.pw.below hb, h.ml.imp fun _ e => below_cell hb e, h.es.imp fun _ e => ⟨below_cell hb e.1, e.2⟩, h.er.imp fun _ e => ⟨below_cell hb e.1, e.2⟩⟩
theorem itoa_any (a : Int) (h0 : 1 ≤ a) (h1 : a ≤ 512) (w : World) (hM : Mx w) : Calls Tryz.prog 5 #[.int .i64 a] w (RetBelow (.string (bsOf (itoa a))) w) := by
  refine (Any.strconv_Itoa Tryz.laysItoa a (by omega) (by omega) w hM.pw).mono ?_
  rintro e w' ⟨rfl, k, os, rfl⟩
  exact ⟨rfl, grow_below w k os⟩
theorem split_any (s : ByteArray) (hs : s.size ≤ 40) (w : World) (hM : Mx w) : Calls Tryz.prog 15 #[.string s, .string spB] w fun e w' => e = .returned (.slice (some ⟨w.heap.size, 0, none⟩) (countB s spB + 1) (countB s spB + 1)) ∧ w' = w.alloc (.cells ((splitB spB 0 (countB s spB) s).map Value.string).toArray 9) := by
  obtain ⟨m, hm⟩ := hM.ml
  exact Any.strings_Split Tryz.laysSplit (by kernel_rfl) s spB m w (by omega) hm (by decide)
/-- An int and an error that nobody looks at; the int is the number where the text spells one. -/
def AtoiRet (s : ByteArray) (w : World) (e : Ending) (w' : World) : Prop := ∃ v x, e = .returned (.tuple #[.int .i64 v, x]) ∧ Below w.heap.size w w' ∧ (∀ a, atoiAll s.data.toList = .ok a → v = a)
theorem atoi_any (s : ByteArray) (hs : s.size ≤ 1000) (w : World) (hM : Mx w) : Calls Tryz.prog 18 #[.string s] w (AtoiRet s w) := by
  cases ha : atoiAll s.data.toList with
  | ok v =>
    refine (Any.strconv_Atoi_ok Tryz.laysAtoi s (by omega) v ha w).mono ?_
    rintro e w' ⟨rfl, hw⟩
    refine ⟨v, _, rfl, ?_, fun a h => ?_⟩
    · rcases hw with rfl | ⟨t, rfl⟩
      · exact Below.refl _ _
      · exact Lib.bytesWorld_below w _ t
    · rw [ha] at h; injection h
  | range =>
    obtain ⟨v, hv, hev⟩ := hM.er
    refine (Any.strconv_Atoi_range Tryz.laysAtoi s (by omega) ha v w hv hev).mono ?_
    rintro e w' ⟨N, rfl, _, _, hb⟩
    exact ⟨_, _, rfl, hb, fun a h => by rw [ha] at h; cases h⟩
  | _ =>
    obtain ⟨v, hv, hev⟩ := hM.es
    refine (Any.strconv_Atoi_syntax Tryz.laysAtoi s (by omega) ha v w hv hev).mono ?_
    rintro e w' ⟨N, rfl, _, _, hb⟩
    exact ⟨_, _, rfl, hb, fun a h => by rw [ha] at h; cases h⟩
end Go.Proofs.YtjdmkgnlakonbaaGreatDoor
