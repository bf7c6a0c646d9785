/- The contract of places.relative's closure 'across': the place of the neighbour of a cell. -/
import Derived.Test.YtjdmkgnlakonbaaGreatDoorMvd
import Derived.Test.YtjdmkgnlakonbaaGreatDoorCrd
import Derived.Test.YtjdmkgnlakonbaaGreatDoorSln
namespace Go.Proofs.YtjdmkgnlakonbaaGreatDoor
open Go.RowKit

theorem below_trans' {w X Y : World} (h : Below X.heap.size X Y) (k : Below w.heap.size w X) : Below w.heap.size w Y := k.trans (h.mono k.size)
/-- Moves as memory holds them. -/
def mvsV (l : List Mv) : List Value := l.flatMap Mv.cells
theorem mvCells_len (m : Mv) : m.cells.length = 3 := rfl
theorem mvs_at {w : World} {g : Nat} {l : List Mv} (h : w.rangeAt g 0 (mvsV l)) (i : Nat) (hi : i < l.length) :
    w.cell? ⟨g, i * 3, none⟩ = some (.int .u8 l[i].t) ∧ w.cell? ⟨g, i * 3 + 1, none⟩ = some (.int .i64 l[i].x) ∧ w.cell? ⟨g, i * 3 + 2, none⟩ = some (.int .i64 l[i].y) := by
  have hat : ∀ f, f < 3 → (mvsV l)[i * 3 + f]? = (l[i].cells)[f]? := fun f hf => flat_at Mv.cells 3 mvCells_len _ i f hi hf
  have h0 := h (i * 3 + 0) _ ((hat 0 (by omega)).trans rfl)
  have h1 := h (i * 3 + 1) _ ((hat 1 (by omega)).trans rfl)
  have h2 := h (i * 3 + 2) _ ((hat 2 (by omega)).trans rfl)
  simp only [Nat.zero_add, Nat.add_zero] at h0 h1 h2
  exact ⟨h0, h1, h2⟩
theorem lineE_k (c : Cl) (e : Nat) : 0 ≤ (lineE c e).1.1 := by
  unfold lineE
  split
  · unfold lineC0
    split
    · exact (by decide : (0 : Int) ≤ 3)
    · split
      · exact (by decide : (0 : Int) ≤ 4)
      · split
        · exact (by decide : (0 : Int) ≤ 2)
        · exact (by decide : (0 : Int) ≤ 1)
        · exact (by decide : (0 : Int) ≤ 2)
        · exact (by decide : (0 : Int) ≤ 1)
  · exact Int.le_refl _
theorem moveL_t (l : Int × Int) : (moveL l).1.t ≤ 255 := by
  unfold moveL
  split
  · unfold ofL
    split
    · exact (by decide : 4 ≤ 255)
    · split
      · exact (by decide : 6 ≤ 255)
      · split
        · exact (by decide : 5 ≤ 255)
        · exact (by decide : 7 ≤ 255)
  · exact (by decide : 0 ≤ 255)
theorem nameI_e (a b i e : Int) (h0 : 0 ≤ e) : 0 ≤ (nameI a b i e).2.1 ∧ (nameI a b i e).2.1 ≤ e := by
  unfold nameI
  split
  · exact ⟨h0, Int.le_refl _⟩
  · exact ⟨Int.le_refl _, h0⟩

set_option maxRecDepth 100000 in
set_option maxHeartbeats 4000000 in
theorem across_any (a b : Int) (l : List Cr) (out : List Mv) (id e N N4 N5 M go n : Nat) (w : World) (hp : OkPat a b l) (hQ : Qf w) (hT : Tn w) (hn : n = out.length) (hid : id < n) (he : e ≤ 2) (hm : ∀ m ∈ out, m.t ≤ 255)
    (c0 : w.cell? ⟨N, 0, none⟩ = some (.int .i64 a)) (c1 : w.cell? ⟨N, 1, none⟩ = some (.int .i64 b)) (h4 : w.cell? ⟨N4, 0, none⟩ = some (.map (some M))) (hM : MpOk unK w M (crM l))
    (h5 : w.cell? ⟨N5, 0, none⟩ = some (.slice (some ⟨go, 0, none⟩) n n)) (hr : w.rangeAt go 0 (mvsV out)) :
    Calls Tryz.prog 154 #[.int .i64 id, .int .u8 e, .pointer (some ⟨N, 0, none⟩), .pointer (some ⟨N4, 0, none⟩), .pointer (some ⟨N5, 0, none⟩)] w (RetBelow (acrossF a b l out id e).v w) := by
  have hid' : id < out.length := by omega
  obtain ⟨m0, m1, m2⟩ := mvs_at hr id hid'
  have hmt := hm out[id] (List.getElem_mem _)
  have hgd : out.getD id mv0 = out[id] := by simp [List.getD, hid']
  obtain ⟨R, hR⟩ : ∃ R, acrossF a b l out id e = R := ⟨_, rfl⟩
  rw [hR]
  unfold acrossF at hR
  rw [hgd] at hR
  obtain ⟨m, hmm⟩ : ∃ m, out[id] = m := ⟨_, rfl⟩
  rw [hmm] at m0 m1 m2 hmt hR
  obtain ⟨mt, mx, my⟩ := m
  dsimp only at m0 m1 m2 hmt
  have hnm := fun w h => name_any a b id e w hp.sheet (Int.natCast_nonneg e) h
  have hne := nameI_e a b id e (Int.natCast_nonneg e)
  obtain ⟨⟨c, e', er⟩, hu⟩ : ∃ u, nameI a b id e = u := ⟨_, rfl⟩
  rw [hu] at hnm hR hne
  unfold unitV at hnm
  dsimp only at hnm hR hne
  have hcr := crM_get l c e'
  obtain ⟨S, hS⟩ : ∃ S, isCr l c e' = S := ⟨_, rfl⟩
  rw [hS] at hR hcr
  have HS := Lib.hid hS
  have HR := Lib.hid hR
  have HNM := Lib.hid hnm
  have HP := Lib.hid hp
  have HQ := Lib.hid hQ
  have HT := Lib.hid hT
  have HM := Lib.hid hM
  have HCR := Lib.hid hcr
  have HN := Lib.hid hn
  have qid : (id : Int) < (n : Int) := by omega
  have H := (Bx.start w).new #[.int .u8 0, .int .i64 0, .int .i64 0] 42 rfl
  clear hR hnm hp hQ hT hM hu hm hr hgd hmm hS hcr hn hid'
  go_enter Tryz.func154, Tryz.ntmps154
  go_upto_region 1 with fail
  obtain ⟨W, hW⟩ : ∃ W, W = w.alloc (.cells #[.int .u8 0, .int .i64 0, .int .i64 0] 42) := ⟨_, rfl⟩
  rw [← hW] at H ⊢
  obtain ⟨N7, hN7⟩ : ∃ N, N = w.heap.size := ⟨_, rfl⟩
  rw [← hN7] at H ⊢
  clear hW hN7
  have d0 := below_cell H.below c0
  have d1 := below_cell H.below c1
  go_wp2_with fail
  refine (HNM.out _ (HQ.out.below H.below).qt).mono ?_
  rintro e2 w2 ⟨rfl, hb⟩
  have H2 := H.call hb
  clear d0 d1 hb H
  obtain ⟨p8, hp8⟩ : ∃ p, w2.heap.size = p := ⟨_, rfl⟩
  have H3 := H2.new #[.int .i64 c, .int .u8 e'] 109 hp8
  go_upto_region 2 with fail
  obtain ⟨W3, hW3⟩ : ∃ W, W = w2.alloc (.cells #[.int .i64 c, .int .u8 e'] 109) := ⟨_, rfl⟩
  rw [← hW3] at H3 ⊢
  clear hW3 hp8 H2
  obtain ⟨⟨u0, u1⟩, _⟩ := blk2 (H3.blk 1 _ _ _ rfl)
  have f4 := below_cell H3.below h4
  have hM3 := HM.out.below H3.below HM.out.lt
  have hcr := HCR.out
  obtain ⟨⟨r0, r1, r2⟩, z0, z1, z2⟩ := blk3 (H3.blk 0 _ _ _ rfl)
  have b0 := below_cell H3.below m0
  have b1 := below_cell H3.below m1
  have b2 := below_cell H3.below m2
  have b5 := below_cell H3.below h5
  cases S with
  | false =>
    have HF : Hid (R = ⟨mt, mx, my⟩) := Lib.hid (by rw [← HR.out]; rfl)
    go_wp2_with (at_lookup; refine wpList_mp_look (z := .bool false) unit_keyT Tryz.underlying258 (fun w => by kernel_rfl) _ rfl _ _ _ rfl M (crM l) (c, e') rfl rfl hM3 ?_; simp only [Bool.false_eq_true, if_false]; rw [hcr])
    have H4 := ((H3.set 0 0 rfl (.int .u8 mt)).set 0 1 rfl (.int .i64 mx)).set 0 2 rfl (.int .i64 my)
    exact bodyPost_ret (res_cell rfl rfl (H4.range 0 rfl) Tryz.underlying42 rfl (by kernel_rfl)) rfl ⟨by rw [HF.out]; rfl, H4.below⟩
  | true =>
    -- the unit is a crease: it has a line
    have hex : ∃ r ∈ l, r.c = c ∧ r.e = e' := by
      have := HS.out
      unfold isCr at this
      rw [List.any_eq_true] at this
      obtain ⟨r, h1, h2⟩ := this
      simp only [Bool.and_eq_true, decide_eq_true_eq] at h2
      exact ⟨r, h1, h2⟩
    obtain ⟨r, hrl, rfl, rfl⟩ := hex
    have hnr := HP.out.name r hrl
    have hfit := HP.out.fit r hrl
    unfold Cr.fit at hfit
    obtain ⟨rc, re, rk⟩ := r
    dsimp only at hnr hfit hne HR HCR hM3 u0 u1 H3 hcr HS HNM ⊢
    obtain ⟨cn, rfl⟩ : ∃ cn : Nat, rc = cn := ⟨rc.toNat, by omega⟩
    obtain ⟨en, rfl⟩ : ∃ en : Nat, re = en := ⟨re.toNat, by omega⟩
    have hLN := fun w h => sheetLine_ok a b cn en w HP.out.sheet (by omega) hnr h
    have hl3 : lineS a b cn en = lineE (cellN a cn) en := by unfold lineS; rw [if_pos hnr]; simp
    have hk0 := lineE_k (cellN a cn) en
    obtain ⟨⟨⟨lk, lc⟩, le⟩, hle⟩ : ∃ z, lineE (cellN a cn) en = z := ⟨_, rfl⟩
    rw [hle] at hLN hl3 hk0
    unfold lnR at hLN
    dsimp only at hLN hk0
    have hOF := fun w => moveOf_any lk lc w hk0
    have hrt := moveL_t (lk, lc)
    have HR2 : Hid ((thenG (moveL (lk, lc)).1 ⟨mt, mx, my⟩).1 = R) := Lib.hid (by have := HR.out; rw [if_pos rfl, hl3] at this; exact this)
    obtain ⟨⟨⟨rt, rx, ry⟩, re2⟩, hmv⟩ : ∃ z, moveL (lk, lc) = z := ⟨_, rfl⟩
    rw [hmv] at hOF hrt HR2
    unfold mvR Mv.v at hOF
    dsimp only at hOF hrt HR2
    have hTH := fun w h => thenG_any ⟨rt, rx, ry⟩ ⟨mt, mx, my⟩ w hrt hmt h
    obtain ⟨⟨⟨qt, qx, qy⟩, qe⟩, hth⟩ : ∃ z, thenG ⟨rt, rx, ry⟩ ⟨mt, mx, my⟩ = z := ⟨_, rfl⟩
    rw [hth] at hTH HR2
    unfold mvR Mv.v at hTH
    dsimp only at hTH HR2
    have HLN := Lib.hid hLN
    have HOF := Lib.hid hOF
    have HTHEN := Lib.hid fun (w' : World) (h : Below w.heap.size w w') => hTH w' (HT.out.below h)
    clear hnr hfit hLN hl3 hk0 hle hOF hrt hmv hTH hth HR hrl hne HS HNM HP
    have d0 := below_cell H3.below c0
    have d1 := below_cell H3.below c1
    go_wp2_with (at_lookup; refine wpList_mp_look (z := .bool false) unit_keyT Tryz.underlying258 (fun w => by kernel_rfl) _ rfl _ _ _ rfl M (crM l) ((cn : Int), (en : Int)) rfl rfl hM3 ?_; simp only [Bool.false_eq_true, if_false]; rw [hcr])
    refine (HLN.out _ (HQ.out.below H3.below)).mono ?_
    rintro e2 w4 ⟨rfl, hb⟩
    have H4 := H3.call hb
    clear d0 d1 hb H3 r0 r1 r2 z0 z1 z2 b0 b1 b2 b5 f4 hM3 hcr u0 u1
    obtain ⟨p10, hp10⟩ : ∃ p, w4.heap.size = p := ⟨_, rfl⟩
    have H5 := H4.new #[.int .u8 lk, .int .i64 lc] 59 hp10
    go_upto_region 5 with fail
    obtain ⟨W5, hW5⟩ : ∃ W, W = w4.alloc (.cells #[.int .u8 lk, .int .i64 lc] 59) := ⟨_, rfl⟩
    rw [← hW5] at H5 ⊢
    clear hW5 hp10 H4
    obtain ⟨⟨u0, u1⟩, _⟩ := blk2 (H5.blk 2 _ _ _ rfl)
    go_wp2_with fail
    refine (HOF.out _).mono ?_
    rintro e2 w6 ⟨rfl, hb⟩
    have H6 := H5.call hb
    clear hb H5 u0 u1
    obtain ⟨p12, hp12⟩ : ∃ p, w6.heap.size = p := ⟨_, rfl⟩
    have H7 := H6.new #[.int .u8 rt, .int .i64 rx, .int .i64 ry] 42 hp12
    go_upto_region 6 with fail
    obtain ⟨W, hW⟩ : ∃ W, W = w6.alloc (.cells #[.int .u8 rt, .int .i64 rx, .int .i64 ry] 42) := ⟨_, rfl⟩
    rw [← hW] at H7 ⊢
    have H := H7
    clear hW hp12 H6 H7
    have HBW := H.below
    go_cut [14] (fun s14 wx => ∃ p14, s14 = .pointer (some ⟨p14, 0, none⟩) ∧ Bx w [(N7, #[.int .u8 0, .int .i64 0, .int .i64 0], 42), (p8, #[.int .i64 cn, .int .u8 en], 109), (p10, #[.int .u8 lk, .int .i64 lc], 59), (p12, #[.int .u8 rt, .int .i64 rx, .int .i64 ry], 42), (p14, #[.int .u8 qt, .int .i64 qx, .int .i64 qy], 42)] wx)
    case first =>
      obtain ⟨⟨s0, s1, s2⟩, _⟩ := blk3 (H.blk 3 _ _ _ rfl)
      have b0 := below_cell H.below m0
      have b1 := below_cell H.below m1
      have b2 := below_cell H.below m2
      have b5 := below_cell H.below h5
      have HSA : Hid (∀ W', Below W.heap.size W W' → (fun w' : World => w'.cell? ⟨p12, 0, none⟩ = some (.int .u8 rt) ∧ w'.cell? ⟨p12, 1, none⟩ = some (.int .i64 rx) ∧ w'.cell? ⟨p12, 2, none⟩ = some (.int .i64 ry) ∧ w'.cell? ⟨N5, 0, none⟩ = some (.slice (some ⟨go, 0, none⟩) n n) ∧ w'.cell? ⟨go, id * 3, none⟩ = some (.int .u8 mt) ∧ w'.cell? ⟨go, id * 3 + 1, none⟩ = some (.int .i64 mx) ∧ w'.cell? ⟨go, id * 3 + 2, none⟩ = some (.int .i64 my)) W') := Lib.hid fun W' h => ⟨below_cell h s0, below_cell h s1, below_cell h s2, below_cell h b5, below_cell h b0, below_cell h b1, below_cell h b2⟩
      clear s0 s1 s2 b0 b1 b2 b5 c0 c1 h4 h5 m0 m1 m2 HQ HT HM HCR HN HLN HOF HR2
      refine wp_region_held_drew (S := (fun w' : World => w'.cell? ⟨p12, 0, none⟩ = some (.int .u8 rt) ∧ w'.cell? ⟨p12, 1, none⟩ = some (.int .i64 rx) ∧ w'.cell? ⟨p12, 2, none⟩ = some (.int .i64 ry) ∧ w'.cell? ⟨N5, 0, none⟩ = some (.slice (some ⟨go, 0, none⟩) n n) ∧ w'.cell? ⟨go, id * 3, none⟩ = some (.int .u8 mt) ∧ w'.cell? ⟨go, id * 3 + 1, none⟩ = some (.int .i64 mx) ∧ w'.cell? ⟨go, id * 3 + 2, none⟩ = some (.int .i64 my))) (by kernel_rfl) (HSA.out _ (Below.refl _ _).drew) (fun hS => ?_)
      have hb : Below W.heap.size W W.drew := (Below.refl _ _).drew
      have H := H.drew
      obtain ⟨X0, hX⟩ : ∃ X, X = W.drew := ⟨_, rfl⟩
      rw [← hX] at H hb ⊢
      clear hX
      have hS := HSA.out _ hb
      refine wpAnyH_take (i := 0) (v := ?_) rfl (by kernel_rfl) (by kernel_rfl) (by kernel_rfl) (fun _ _ _ h => h) (Or.inl ⟨by rfl, ?_⟩) hS ?_
      rotate_left
      · intro w0 hSw
        (try dsimp only at hSw)
        go_split_ands
        go_simp
        try with_reducible rfl
      try simp only [Act.put, List.getElem_toArray, List.getElem_cons_zero, List.setIfInBounds_toArray, List.set_cons_zero, List.set_cons_succ]
      refine wpAnyH_take (i := 1) (v := ?_) rfl (by kernel_rfl) (by kernel_rfl) (by kernel_rfl) (fun _ _ _ h => h) (Or.inl ⟨by rfl, ?_⟩) hS ?_
      rotate_left
      · intro w0 hSw
        (try dsimp only at hSw)
        go_split_ands
        go_simp
        try with_reducible rfl
      try simp only [Act.put, List.getElem_toArray, List.getElem_cons_zero, List.getElem_cons_succ, List.setIfInBounds_toArray, List.set_cons_zero, List.set_cons_succ]
      refine wpAnyH_take (i := 2) (v := ?_) rfl (by kernel_rfl) (by kernel_rfl) (by kernel_rfl) (fun _ _ _ h => h) (Or.inl ⟨by rfl, ?_⟩) hS ?_
      rotate_left
      · intro w0 hSw
        (try dsimp only at hSw)
        go_split_ands
        go_simp
        try with_reducible rfl
      try simp only [Act.put, List.getElem_toArray, List.getElem_cons_zero, List.getElem_cons_succ, List.setIfInBounds_toArray, List.set_cons_zero, List.set_cons_succ]
      refine wpAnyH_take (i := 3) (v := ?_) rfl (by kernel_rfl) (by kernel_rfl) (by kernel_rfl) (fun _ _ _ h => h) (Or.inl ⟨by rfl, ?_⟩) hS ?_
      rotate_left
      · intro w0 hSw
        (try dsimp only at hSw)
        go_split_ands
        go_simp
        try with_reducible rfl
      try simp only [Act.put, List.getElem_toArray, List.getElem_cons_zero, List.getElem_cons_succ, List.setIfInBounds_toArray, List.set_cons_zero, List.set_cons_succ]
      refine wpAnyH_take (i := 4) (v := ?_) rfl (by kernel_rfl) (by kernel_rfl) (by kernel_rfl) (fun _ _ _ h => h) (Or.inl ⟨by rfl, ?_⟩) hS ?_
      rotate_left
      · intro w0 hSw
        (try dsimp only at hSw)
        go_split_ands
        go_simp
        try with_reducible rfl
      try simp only [Act.put, List.getElem_toArray, List.getElem_cons_zero, List.getElem_cons_succ, List.setIfInBounds_toArray, List.set_cons_zero, List.set_cons_succ]
      refine wpAnyH_ready (rs := [5, 9]) (by kernel_rfl) (by simp) (AllReadyH.cons rfl (fun K hK => ?_) (AllReadyH.cons rfl (fun K hK => ?_) AllReadyH.nil))
      · go_simp
        refine (HTHEN.out _ (below_trans' hb HBW)).mono ?_
        rintro e X1 ⟨rfl, hbm⟩
        have hb := hb.trans (hbm.mono hb.size)
        have H := H.call hbm
        refine hK.out _ _ (HSA.out _ hb) (fun hS => ?_)
        clear hK K hbm
        refine wpAnyH_take (i := 6) (v := ?_) rfl (by kernel_rfl) (by kernel_rfl) (by kernel_rfl) (fun _ _ _ h => h) (Or.inl ⟨by rfl, ?_⟩) hS ?_
        rotate_left
        · intro w0 hSw
          (try dsimp only at hSw)
          go_split_ands
          go_simp
          try with_reducible rfl
        try simp only [Act.put, List.getElem_toArray, List.getElem_cons_zero, List.getElem_cons_succ, List.setIfInBounds_toArray, List.set_cons_zero, List.set_cons_succ]
        refine wpAnyH_take (i := 7) (v := ?_) rfl (by kernel_rfl) (by kernel_rfl) (by kernel_rfl) (fun _ _ _ h => h) (Or.inl ⟨by rfl, ?_⟩) hS ?_
        rotate_left
        · intro w0 hSw
          (try dsimp only at hSw)
          go_split_ands
          go_simp
          try with_reducible rfl
        try simp only [Act.put, List.getElem_toArray, List.getElem_cons_zero, List.getElem_cons_succ, List.setIfInBounds_toArray, List.set_cons_zero, List.set_cons_succ]
        refine wpAnyH_take (i := 8) (v := ?_) rfl (by kernel_rfl) (by kernel_rfl) (by kernel_rfl) (fun _ _ _ h => h) (Or.inl ⟨by rfl, ?_⟩) hS ?_
        rotate_left
        · intro w0 hSw
          (try dsimp only at hSw)
          go_split_ands
          go_simp
          try with_reducible rfl
        try simp only [Act.put, List.getElem_toArray, List.getElem_cons_zero, List.getElem_cons_succ, List.setIfInBounds_toArray, List.set_cons_zero, List.set_cons_succ]
        refine wpAnyH_ready (rs := [9]) (by kernel_rfl) (by simp) (AllReadyH.cons rfl (fun K hK => ?_) AllReadyH.nil)
        obtain ⟨p14, hp⟩ : ∃ p, X1.heap.size = p := ⟨_, rfl⟩
        have hl : W.heap.size ≤ p14 := hp ▸ hb.size
        have hb := hb.alloc hb.size (.cells #[.int .u8 0, .int .i64 0, .int .i64 0] 42)
        have H := H.new #[.int .u8 0, .int .i64 0, .int .i64 0] 42 hp
        go_simp
        refine hK.out _ _ (HSA.out _ hb) (fun hS => ?_)
        clear hK K hS
        obtain ⟨X2, hX⟩ : ∃ X, X = X1.alloc (.cells #[.int .u8 0, .int .i64 0, .int .i64 0] 42) := ⟨_, rfl⟩
        rw [← hX] at H hb ⊢
        clear hX hp
        have hS := HSA.out _ hb
        refine wpAnyH_ready (rs := [10]) (by kernel_rfl) (by simp) (AllReadyH.cons rfl (fun K hK => ?_) AllReadyH.nil)
        obtain ⟨⟨y0, y1, y2⟩, z0, z1, z2⟩ := blk3 (H.blk 4 _ _ _ rfl)
        have hb := ((hb.setCell (p := ⟨p14, 0, none⟩) hl (.int .u8 qt)).setCell (p := ⟨p14, 1, none⟩) hl (.int .i64 qx)).setCell (p := ⟨p14, 2, none⟩) hl (.int .i64 qy)
        have H := ((H.set 4 0 rfl (.int .u8 qt)).set 4 1 rfl (.int .i64 qx)).set 4 2 rfl (.int .i64 qy)
        go_simp
        refine hK.out _ _ (HSA.out _ hb) (fun hS => ?_)
        clear hK K y0 y1 y2 z0 z1 z2
        refine wpAnyH_ready (rs := [11]) (by kernel_rfl) (by simp) (AllReadyH.cons rfl (fun K hK => ?_) AllReadyH.nil)
        go_simp
        refine hK.out _ _ (HSA.out _ hb) (fun hS => ?_)
        clear hK K
        refine wpAnyH_done (by kernel_rfl) ?_ _
        go_wp2_with fail
        go_meet
        exact ⟨_, rfl, H⟩
      · obtain ⟨p14, hp⟩ : ∃ p, X0.heap.size = p := ⟨_, rfl⟩
        have hl : W.heap.size ≤ p14 := hp ▸ hb.size
        have hb := hb.alloc hb.size (.cells #[.int .u8 0, .int .i64 0, .int .i64 0] 42)
        have H := H.new #[.int .u8 0, .int .i64 0, .int .i64 0] 42 hp
        go_simp
        refine hK.out _ _ (HSA.out _ hb) (fun hS => ?_)
        clear hK K hS
        obtain ⟨X1, hX⟩ : ∃ X, X = X0.alloc (.cells #[.int .u8 0, .int .i64 0, .int .i64 0] 42) := ⟨_, rfl⟩
        rw [← hX] at H hb ⊢
        clear hX hp
        have hS := HSA.out _ hb
        refine wpAnyH_ready (rs := [5]) (by kernel_rfl) (by simp) (AllReadyH.cons rfl (fun K hK => ?_) AllReadyH.nil)
        go_simp
        refine (HTHEN.out _ (below_trans' hb HBW)).mono ?_
        rintro e X2 ⟨rfl, hbm⟩
        have hb := hb.trans (hbm.mono hb.size)
        have H := H.call hbm
        refine hK.out _ _ (HSA.out _ hb) (fun hS => ?_)
        clear hK K hbm
        refine wpAnyH_take (i := 6) (v := ?_) rfl (by kernel_rfl) (by kernel_rfl) (by kernel_rfl) (fun _ _ _ h => h) (Or.inl ⟨by rfl, ?_⟩) hS ?_
        rotate_left
        · intro w0 hSw
          (try dsimp only at hSw)
          go_split_ands
          go_simp
          try with_reducible rfl
        try simp only [Act.put, List.getElem_toArray, List.getElem_cons_zero, List.getElem_cons_succ, List.setIfInBounds_toArray, List.set_cons_zero, List.set_cons_succ]
        refine wpAnyH_take (i := 7) (v := ?_) rfl (by kernel_rfl) (by kernel_rfl) (by kernel_rfl) (fun _ _ _ h => h) (Or.inl ⟨by rfl, ?_⟩) hS ?_
        rotate_left
        · intro w0 hSw
          (try dsimp only at hSw)
          go_split_ands
          go_simp
          try with_reducible rfl
        try simp only [Act.put, List.getElem_toArray, List.getElem_cons_zero, List.getElem_cons_succ, List.setIfInBounds_toArray, List.set_cons_zero, List.set_cons_succ]
        refine wpAnyH_take (i := 8) (v := ?_) rfl (by kernel_rfl) (by kernel_rfl) (by kernel_rfl) (fun _ _ _ h => h) (Or.inl ⟨by rfl, ?_⟩) hS ?_
        rotate_left
        · intro w0 hSw
          (try dsimp only at hSw)
          go_split_ands
          go_simp
          try with_reducible rfl
        try simp only [Act.put, List.getElem_toArray, List.getElem_cons_zero, List.getElem_cons_succ, List.setIfInBounds_toArray, List.set_cons_zero, List.set_cons_succ]
        refine wpAnyH_ready (rs := [10]) (by kernel_rfl) (by simp) (AllReadyH.cons rfl (fun K hK => ?_) AllReadyH.nil)
        obtain ⟨⟨y0, y1, y2⟩, z0, z1, z2⟩ := blk3 (H.blk 4 _ _ _ rfl)
        have hb := ((hb.setCell (p := ⟨p14, 0, none⟩) hl (.int .u8 qt)).setCell (p := ⟨p14, 1, none⟩) hl (.int .i64 qx)).setCell (p := ⟨p14, 2, none⟩) hl (.int .i64 qy)
        have H := ((H.set 4 0 rfl (.int .u8 qt)).set 4 1 rfl (.int .i64 qx)).set 4 2 rfl (.int .i64 qy)
        go_simp
        refine hK.out _ _ (HSA.out _ hb) (fun hS => ?_)
        clear hK K y0 y1 y2 z0 z1 z2
        refine wpAnyH_ready (rs := [11]) (by kernel_rfl) (by simp) (AllReadyH.cons rfl (fun K hK => ?_) AllReadyH.nil)
        go_simp
        refine hK.out _ _ (HSA.out _ hb) (fun hS => ?_)
        clear hK K
        refine wpAnyH_done (by kernel_rfl) ?_ _
        go_wp2_with fail
        go_meet
        exact ⟨_, rfl, H⟩
    case rest =>
      obtain ⟨p14, rfl, H⟩ := hcut
      obtain ⟨⟨s0, s1, s2⟩, _⟩ := blk3 (H.blk 4 _ _ _ rfl)
      obtain ⟨⟨r0, r1, r2⟩, z0, z1, z2⟩ := blk3 (H.blk 0 _ _ _ rfl)
      go_wp2_with fail
      have H4 := ((H.set 0 0 rfl (.int .u8 qt)).set 0 1 rfl (.int .i64 qx)).set 0 2 rfl (.int .i64 qy)
      exact bodyPost_ret (res_cell rfl rfl (H4.range 0 rfl) Tryz.underlying42 rfl (by kernel_rfl)) rfl ⟨by rw [← HR2.out]; rfl, H4.below⟩
end Go.Proofs.YtjdmkgnlakonbaaGreatDoor
