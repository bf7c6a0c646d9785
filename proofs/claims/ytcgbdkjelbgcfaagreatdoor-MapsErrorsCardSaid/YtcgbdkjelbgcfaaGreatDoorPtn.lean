/- Contract of maps.Pattern's closure that sets a crease. -/
import Derived.Test.YtcgbdkjelbgcfaaGreatDoorAft
import Derived.Test.YtcgbdkjelbgcfaaGreatDoorSet
namespace Go.Proofs.YtcgbdkjelbgcfaaGreatDoor
open Go.RowKit

theorem nameM (W H : Nat) (x y q : Nat) (hW : 1 ≤ W ∧ W ≤ 16) (hH : 1 ≤ H ∧ H ≤ 16) (hx : x < W) (hy : y < H) (hq : (q = 1 ∧ x + 1 < W) ∨ (q = 2 ∧ y + 1 < H)) :
    nameI W H (4 * ((y : Int) * W + x) + q) 0 = (4 * ((y : Int) * W + x) + q, 0, 0) ∧ okS W H = true ∧ 0 ≤ (y : Int) * W ∧ (y : Int) * W + x < 256 := by
  have hs : okS W H = true := by
    rw [okS_iff]
    have : (W : Int) * H ≤ 16 * 16 := Int.mul_le_mul (by omega) (by omega) (by omega) (by omega)
    exact ⟨by omega, by omega, by omega, by omega, by omega⟩
  obtain ⟨b1, b2, b3⟩ := in_bd (x := x) (y := y) hs ⟨by omega, by omega⟩ ⟨by omega, by omega⟩
  refine ⟨?_, hs, b1, by omega⟩
  have hd : (4 * ((y : Int) * W + x) + q) / 4 = (y : Int) * W + x := by omega
  have hm : (4 * ((y : Int) * W + x) + q) % 4 = q := by omega
  have hW0 : (W : Int) ≠ 0 := by omega
  have hx1 : ((y : Int) * W + x) % W = x := by rw [Int.add_comm, Int.add_mul_emod_self_right]; exact Int.emod_eq_of_lt (by omega) (by omega)
  have hy1 : ((y : Int) * W + x) / W = y := by rw [Int.add_comm, Int.add_mul_ediv_right _ _ hW0, Int.ediv_eq_zero_of_lt (by omega) (by omega)]; omega
  have hh : hasI W H (4 * ((y : Int) * W + x) + q) = true := by
    rw [hasI_iff]
    have : 4 * (W : Int) * H = 4 * (W * H) := by rw [Int.mul_assoc]
    omega
  rcases hq with ⟨rfl, h1⟩ | ⟨rfl, h1⟩
  · have hn : nbr x y 1 0 = ((x : Int) + 1, (y : Int), 3, 0) := by
      have c1 : okC x y 1 = true := okC_iff.2 ⟨by omega, by omega, by omega, by omega, by omega⟩
      have c2 : okC ((x : Int) + 1) y 3 = true := okC_iff.2 ⟨by omega, by omega, by omega, by omega, by omega⟩
      unfold nbr
      rw [if_neg (by rw [c1]; simp)]
      simp only [Int.toNat_zero, show ((1 : Int).toNat) = 1 from rfl, nxt, Int.add_zero]
      rw [if_pos c2]
    have hid : idI W H (x + 1) y 3 = (4 * ((y : Int) * W + (x + 1)) + 3, 0) := by
      unfold idI
      rw [if_pos (inS_iff.2 ⟨okC_iff.2 ⟨by omega, by omega, by omega, by omega, by omega⟩, by omega, by omega, by omega, by omega⟩)]
    have hnb : nbI W H (4 * ((y : Int) * W + x) + (1 : Nat)) 0 = (4 * ((y : Int) * W + (x + 1)) + 3, 0) := by
      unfold nbI
      rw [if_neg (by rw [hh]; simp), hd, hm, hx1, hy1, show (((1 : Nat) : Int)) = 1 from rfl, hn]
      simpa using hid
    unfold nameI
    rw [hnb]
    simp only [if_true]
    rw [Int.min_eq_left (by omega)]
  · have hn : nbr x y 2 0 = ((x : Int), (y : Int) + 1, 0, 0) := by
      have c1 : okC x y 2 = true := okC_iff.2 ⟨by omega, by omega, by omega, by omega, by omega⟩
      have c2 : okC (x : Int) (y + 1) 0 = true := okC_iff.2 ⟨by omega, by omega, by omega, by omega, by omega⟩
      unfold nbr
      rw [if_neg (by rw [c1]; simp)]
      simp only [Int.toNat_zero, show ((2 : Int).toNat) = 2 from rfl, nxt, Int.add_zero]
      rw [if_pos c2]
    have hid : idI W H x (y + 1) 0 = (4 * (((y : Int) + 1) * W + x) + 0, 0) := by
      unfold idI
      rw [if_pos (inS_iff.2 ⟨okC_iff.2 ⟨by omega, by omega, by omega, by omega, by omega⟩, by omega, by omega, by omega, by omega⟩)]
    have hnb : nbI W H (4 * ((y : Int) * W + x) + (2 : Nat)) 0 = (4 * (((y : Int) + 1) * W + x) + 0, 0) := by
      unfold nbI
      rw [if_neg (by rw [hh]; simp), hd, hm, hx1, hy1, show (((2 : Nat) : Int)) = 2 from rfl, hn]
      simpa using hid
    unfold nameI
    rw [hnb]
    simp only [if_true]
    rw [Int.add_mul, Int.one_mul, Int.min_eq_left (by omega)]

/-- What the closure finds and leaves: the pattern in block gP, no error in block gE, the map in block gM. -/
structure PInv (w : World) (gE gP gM : Nat) (W H : Nat) (rv uv : Value) (A : Option Addr) (l : List Cr) (cc : Nat) : Prop where
  e : w.heap[gE]? = some (.cells #[.int .i64 0] 26 (0, 0))
  p : w.heap[gP]? = some (.cells #[.int .i64 W, .int .i64 H, .slice A l.length cc] 33 (0, 0))
  m : w.heap[gM]? = some (.cells #[.int .i64 W, .int .i64 H, rv, uv] 24 (0, 0))
  rd : Rd w A 3 l.length (crs l)
  form : (A = none ∧ l.length = 0 ∧ cc = 0) ∨ ∃ bb o, A = some ⟨bb, o, none⟩
  far : ∀ b o i, A = some ⟨b, o, i⟩ → b ≠ gE ∧ b ≠ gP
  cap : l.length ≤ cc ∧ cc ≤ 9223372036854775807
  ok : OkPat W H l
  ep : gE ≠ gP
  mp : gM ≠ gP
  em : gE ≠ gM
theorem blk1 {w : World} {g : Nat} {a : Value} {t : TypeId} (h : w.heap[g]? = some (.cells #[a] t (0, 0))) : w.cell? ⟨g, 0, none⟩ = some a ∧ w.frozen? ⟨g, 0, none⟩ = false :=
  ⟨cell_of_row w g 0 _ t (0, 0) h, by simp [World.frozen?, h]⟩
def PSetRet (gE gP gM W H : Nat) (rv uv : Value) (n : Nat) (w : World) (en : Ending) (w' : World) : Prop :=
  en = .returned (.tuple #[]) ∧ (∃ A l cc, PInv w' gE gP gM W H rv uv A l cc ∧ l.length ≤ n + 1) ∧ w.grownBy w' (some gP)

theorem PInv.stored {w w2 : World} {gE gP gM W H : Nat} {rv uv : Value} {A : Option Addr} {l l' : List Cr} {cc g : Nat} (h : PInv w gE gP gM W H rv uv A l cc) (hb : Below w.heap.size w w2) (hg : w.heap.size ≤ g) (hr : Rd w2 (some ⟨g, 0, none⟩) 3 l'.length (crs l')) (hok : OkPat W H l') :
    PInv ((((w2.setCell ⟨gP, 0, none⟩ (.int .i64 W)).setCell ⟨gP, 1, none⟩ (.int .i64 H)).setCell ⟨gP, 2, none⟩ (.slice (some ⟨g, 0, none⟩) l'.length l'.length)).setCell ⟨gE, 0, none⟩ (.int .i64 0)) gE gP gM W H rv uv (some ⟨g, 0, none⟩) l' l'.length ∧
    w.grownBy ((((w2.setCell ⟨gP, 0, none⟩ (.int .i64 W)).setCell ⟨gP, 1, none⟩ (.int .i64 H)).setCell ⟨gP, 2, none⟩ (.slice (some ⟨g, 0, none⟩) l'.length l'.length)).setCell ⟨gE, 0, none⟩ (.int .i64 0)) (some gP) := by
  have lE : gE < w.heap.size := (Array.getElem?_eq_some_iff.1 h.e).1
  have lP : gP < w.heap.size := (Array.getElem?_eq_some_iff.1 h.p).1
  have lM : gM < w.heap.size := (Array.getElem?_eq_some_iff.1 h.m).1
  have p2 := kept hb h.p lP
  have e2 := kept hb h.e lE
  have m2 := kept hb h.m lM
  have p3 := set_here (i := 2) (v := .slice (some ⟨g, 0, none⟩) l'.length l'.length) (set_here (i := 1) (v := .int .i64 H) (set_here (i := 0) (v := .int .i64 W) p2))
  have e3 := (set_far (i := 2) (v := .slice (some ⟨g, 0, none⟩) l'.length l'.length) h.ep).trans ((set_far (i := 1) (v := .int .i64 H) h.ep).trans ((set_far (i := 0) (v := .int .i64 W) h.ep).trans e2))
  have e4 := set_here (i := 0) (v := .int .i64 0) e3
  have far : ∀ k, k ≠ gP → k ≠ gE → ((((w2.setCell ⟨gP, 0, none⟩ (.int .i64 W)).setCell ⟨gP, 1, none⟩ (.int .i64 H)).setCell ⟨gP, 2, none⟩ (.slice (some ⟨g, 0, none⟩) l'.length l'.length)).setCell ⟨gE, 0, none⟩ (.int .i64 0)).heap[k]? = w2.heap[k]? :=
    fun k h1 h2 => (set_far h2).trans ((set_far h1).trans ((set_far h1).trans (set_far h1)))
  refine ⟨⟨?_, ?_, (far _ h.mp (Ne.symm h.em)).trans m2, ?_, .inr ⟨g, 0, rfl⟩, ?_, ⟨Nat.le_refl _, ?_⟩, hok, h.ep, h.mp, h.em⟩, ⟨by simp [World.setCell, hb.os], by simp [World.setCell, hb.tape], by simp [World.setCell, hb.output], by simpa using hb.size, fun i hi hne => ?_⟩⟩
  · simpa using e4
  · rw [set_far (Ne.symm h.ep)]
    simpa using p3
  · refine rd_far hr (by simp) ?_
    intro q o hq j
    obtain ⟨rfl, _⟩ : g = q ∧ 0 = o := by simpa using hq
    have n1 : ¬ gP = g := by omega
    have n2 : ¬ gE = g := by omega
    exact (World.cell?_setCell_far _ ⟨gE, 0, none⟩ ⟨g, j, none⟩ _ n2).trans ((World.cell?_setCell_far _ ⟨gP, 2, none⟩ ⟨g, j, none⟩ _ n1).trans ((World.cell?_setCell_far _ ⟨gP, 1, none⟩ ⟨g, j, none⟩ _ n1).trans (World.cell?_setCell_far _ ⟨gP, 0, none⟩ ⟨g, j, none⟩ _ n1)))
  · intro b o i hb'
    have : g = b := by simp at hb'; exact hb'.1
    omega
  · have := hok.len; omega
  · have hne' : i ≠ gP := fun e => hne (by rw [e])
    by_cases hi2 : i = gE
    · subst hi2
      rw [h.e]; simpa using e4
    · rw [far i hne' hi2]; exact hb.block i hi

set_option maxHeartbeats 2000000 in
set_option maxRecDepth 100000 in
theorem pset_any (W H : Nat) (gE gP gM : Nat) (rv uv : Value) (A : Option Addr) (l : List Cr) (cc : Nat) (x y q : Nat) (k : Int) (w : World) (hI : PInv w gE gP gM W H rv uv A l cc) (hQ : Qt w) (hk : 0 ≤ k ∧ k ≤ 2) (hW : 1 ≤ W ∧ W ≤ 16) (hH : 1 ≤ H ∧ H ≤ 16) (hx : x < W) (hy : y < H) (hq : (q = 1 ∧ x + 1 < W) ∨ (q = 2 ∧ y + 1 < H)) (hl : l.length < 1000000) :
    Calls Tryz.prog 16 #[.int .i64 x, .int .i64 y, .int .u8 q, .int .u8 k, .pointer (some ⟨gE, 0, none⟩), .pointer (some ⟨gP, 0, none⟩), .pointer (some ⟨gM, 0, none⟩)] w (PSetRet gE gP gM W H rv uv l.length w) := by
  have HI := Lib.hid hI
  by_cases hz : k = 0
  · subst hz
    clear hI
    go_enter Tryz.func16, Tryz.ntmps16
    go_wp2_with fail
    exact bodyPost_ret (v := .tuple #[]) (by simp [results, Tryz.results16, go_sem]) rfl ⟨rfl, ⟨A, l, cc, HI.out, by omega⟩, grown_refl _ _⟩
  · have hkz : (k != 0) = true := by simpa using hz
    obtain ⟨m, hm⟩ : ∃ m : Nat, (y : Int) * W = m := ⟨y * W, by simp⟩
    obtain ⟨n1, n2, n3, n4⟩ := nameM W H x y q hW hH hx hy hq
    rw [hm] at n1 n3 n4
    have NM := Lib.hid n1
    have e1 : IntKind.i64.wrap ((y : Int) * (W : Int)) = (m : Int) := by rw [hm]; exact IntWalk.i64_in _ (by omega)
    obtain ⟨c0, f0⟩ := blk1 hI.e
    obtain ⟨⟨p0, p1, p2⟩, g0, g1, g2⟩ := blk3 hI.p
    obtain ⟨⟨m0, m1, m2, m3⟩, _⟩ := blk4 hI.m
    obtain ⟨N, hN⟩ : ∃ N, N = l.length := ⟨_, rfl⟩
    have HN := Lib.hid hN
    rw [← hN] at p2 hl ⊢
    have hq3 : q ≤ 3 := by omega
    have q1 : 0 ≤ 4 * ((m : Int) + x) + q ∧ 4 * ((m : Int) + x) + q ≤ 1024 := by omega
    have q2 : 1 ≤ k ∧ k ≤ 3 := by omega
    clear hI hz hm n1 hN hq
    go_enter Tryz.func16, Tryz.ntmps16
    go_wp2_with fail
    refine (set_ok W H A l N cc (4 * ((m : Int) + x) + q) 0 (4 * ((m : Int) + x) + q) k w HN.out (by rw [HN.out]; exact HI.out.rd) (by rw [HN.out]; exact HI.out.form) (by rw [HN.out]; exact HI.out.cap.1) HI.out.cap.2 HI.out.ok hQ NM.out NM.out q1 (by omega) q2 hl).mono ?_
    rintro e w2 ⟨hb2, g, L, rfl, hrd, hok, hlen, hg⟩
    obtain ⟨c0', f0'⟩ := blk1 (kept hb2 HI.out.e (Array.getElem?_eq_some_iff.1 HI.out.e).1)
    obtain ⟨⟨p0', p1', p2'⟩, g0', g1', g2'⟩ := blk3 (kept hb2 HI.out.p (Array.getElem?_eq_some_iff.1 HI.out.p).1)
    have ST := Lib.hid (HI.out.stored hb2 hg hrd hok)
    have HLEN := Lib.hid hlen
    have nep := HI.out.ep
    clear c0 f0 p0 p1 p2 g0 g1 g2 m0 m1 m2 m3 hrd hok hlen hb2
    go_wp2_with fail
    exact bodyPost_ret (v := .tuple #[]) (by simp [results, Tryz.results16, go_sem]) rfl ⟨rfl, ⟨_, L, _, ST.out.1, HLEN.out⟩, ST.out.2⟩
end Go.Proofs.YtcgbdkjelbgcfaaGreatDoor
