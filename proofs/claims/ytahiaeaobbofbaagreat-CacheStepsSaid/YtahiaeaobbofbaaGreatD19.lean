/- Several texts in one: The cache's law: the walk up to the steps. The cache's law: the walk through the steps. The cache's law: a tile got, and written over by whoever got it. -/
import Derived.Test.YtahiaeaobbofbaaGreatD15
import Derived.Deep.RegionWith
import Derived.Test.YtahiaeaobbofbaaGreatD6
import Derived.StillTailTactics
section
set_option linter.unusedVariables false
namespace Go.Proofs.YtahiaeaobbofbaaGreat
open Go.RowKit
abbrev w42S (a b c : Int) : Array Value := #[.int .i64 a, .int .i64 b, .int .i64 c]
theorem eql_st0 (w : World) : (binOp .eql 39 (.agg #[.int .i64 0, .int .i64 0, .int .i64 0, .int .i64 0]) (.agg #[.int .i64 0, .int .i64 0, .int .i64 0, .int .i64 0])).run Tryz.prog w = .ok (.bool true) w := by
  simp [go_sem, Tryz.underlying39]
def StepsW (ims : List Im) (tw th most : Int) (ps : List St5) (w W0 : World) (A A' : Option Addr) (n c n' c' : Nat) : Prop :=
  Calls Tryz.prog 3 #[.slice A n c, .agg (w42S tw th most), .slice A' n' c'] w fun e w' => e = .returned (.bool true) ∧ Below w.heap.size w w'
set_option maxRecDepth 100000 in
set_option maxHeartbeats 16000000 in
theorem steps_nil (ims : List Im) (A : Option Addr) (n c : Nat) (tw th most : Int) (A' : Option Addr) (n' c' : Nat) (w W0 : World) (hW0 : w.alloc (.cells (w42S tw th most) 24) = W0)
    (hbz : ¬ (n' : Int) > 60)
    (hfew : Calls Tryz.prog 4 #[.slice A n c] W0 fun e w' => e = .returned (.bool true) ∧ Below W0.heap.size W0 w')
    (hSN : ∀ W, Below W0.heap.size W0 W → Calls Tryz.prog 5 #[.slice A n c, .int .i64 tw, .int .i64 th] W fun e w' => Below W.heap.size W w' ∧ ∃ p z, e = .returned (.tuple #[.pointer p, .int .i64 z]) ∧ ((p = none ∧ (z != 0) = true) ∨ ((∃ a, p = some a) ∧ z = 0 ∧ (most < 1 ∨ most > 65536)))) :
    Calls Tryz.prog 3 #[.slice A n c, .agg (w42S tw th most), .slice A' n' c'] w fun e w' => e = .returned (.bool true) ∧ Below w.heap.size w w' := by
  have k0 : Bk W0 w.heap.size 24 (w42S tw th most) := by rw [← hW0]; exact Bk.new w _ _
  have hbw : Below w.heap.size w W0 := by rw [← hW0]; exact (Below.refl _ _).alloc (Nat.le_refl _) _
  have hAl := fun w => alive42 w
  have hN1 := fun w => cnew_nil most w
  have hN2 := fun a w => cnew_bad a most w
  have HFEW := Lib.hid hfew
  obtain ⟨g4, hg4⟩ : ∃ g4, w.heap.size = g4 := ⟨_, rfl⟩
  have HG4 := Lib.hid hg4
  have HW0 := Lib.hid hW0
  rw [hg4] at k0
  clear hfew hg4 hW0
  have hb1 := Below.refl W0.heap.size W0
  obtain ⟨x0, x1, x2⟩ := k0.cell3
  go_enter Tryz.func3, Tryz.ntmps3
  go_upto_region 1 with fail
  rw [HW0.out, HG4.out]
  go_upto_region 3 with (go_at_call 4; (with_reducible refine HFEW.out.mono ?_); rintro e w1 ⟨rfl, hb1⟩)
  obtain ⟨x0, x1, x2⟩ := (k0.nx hb1).cell3
  go_upto_region 4 with (go_at_call 5; (with_reducible refine (hSN _ hb1).mono ?_); rintro e w2 ⟨hb2, p, z, rfl, hz⟩)
  have hb12 := below_then hb2 hb1
  obtain ⟨x0, x1, x2⟩ := (k0.nx hb12).cell3
  clear hSN hb2 hb1
  rcases hz with ⟨rfl, hz⟩ | ⟨⟨a, rfl⟩, rfl, hmz⟩
  · go_upto_region 8 with (go_at_call 6; (with_reducible refine (hN1 _).mono ?_); rintro e w3 ⟨rfl, rfl⟩)
    go_upto_region 11 with fail
    have hb5 := Below.alloc hb12 (Nat.le_trans hb12.size (Nat.le_refl _)) (.cells caZ 41)
    have kz := Bk.new w2 41 caZ
    obtain ⟨w5, hw5⟩ : ∃ w5, w2.alloc (.cells caZ 41) = w5 := ⟨_, rfl⟩
    rw [hw5] at hb5 kz ⊢
    have hBn := bad_nil w5
    have hBz := bad_zero kz
    clear kz hw5 x0 x1 x2
    have hG1 := bad_get hBn 0 0
    go_upto_region 13 with (go_at_call 7; (with_reducible refine hG1.mono ?_); rintro e w6 ⟨rfl, hb6⟩)
    have hb6' : Below w5.heap.size w5 (w6.alloc (.cells im0A 44)) := (hb6.mono (Nat.le_refl _)).alloc hb6.size _
    obtain ⟨w7, hw7⟩ : ∃ w7, w6.alloc (.cells im0A 44) = w7 := ⟨_, rfl⟩
    rw [hw7] at hb6' ⊢
    have hG2 := bad_get (hBz.nx hb6') 0 0
    clear hw7 hG1
    go_upto_region 14 with (go_at_call 7; (with_reducible refine hG2.mono ?_); rintro e w8 ⟨rfl, hb8⟩)
    have hb8' : Below w7.heap.size w7 (w8.alloc (.cells im0A 44)) := (hb8.mono (Nat.le_refl _)).alloc hb8.size _
    obtain ⟨w9, hw9⟩ : ∃ w9, w8.alloc (.cells im0A 44) = w9 := ⟨_, rfl⟩
    rw [hw9] at hb8' ⊢
    clear hw9 hG2 hb8 hb6
    have hB9 := hb6'.trans (hb8'.mono hb6'.size)
    have hNn := hBn.nx hB9
    have hNz := hBz.nx hB9
    have hS := bad_stats hNn
    go_wp2_with (first
      | (go_at_call 8; (with_reducible refine hS.mono ?_); rintro e wA ⟨rfl, hbA⟩; have hL1 := bad_len (hNn.nx hbA); have hV1 := bad_levels (hNn.nx hbA); have hR1 := bad_read (hNn.nx hbA) 0 0 0; have hR2 := bad_read (hNz.nx hbA) 0 0 0; have hL2 := bad_len (hNz.nx hbA); have hS2 := bad_seen (hNn.nx hbA))
      | (go_at_call 9; (with_reducible refine hL1.mono ?_); rintro e wB ⟨rfl, rfl⟩)
      | (go_at_call 10; (with_reducible refine hV1.mono ?_); rintro e wB ⟨rfl, rfl⟩)
      | (go_at_call 11; (with_reducible refine hR1.mono ?_); rintro e wB ⟨rfl, rfl⟩)
      | (go_at_call 11; (with_reducible refine hR2.mono ?_); rintro e wB ⟨rfl, rfl⟩)
      | (go_at_call 9; (with_reducible refine hL2.mono ?_); rintro e wB ⟨rfl, rfl⟩)
      | (go_at_call 12; (with_reducible refine hS2.mono ?_); rintro e wB ⟨rfl, rfl⟩)
      | (go_at_call 13; (with_reducible refine (hAl _).mono ?_); rintro e wC ⟨rfl, hbC⟩))
    go_returns
    exact ⟨rfl, hbw.trans (((hb5.trans (hB9.mono hb5.size)).trans ((hbA.trans (hbC.mono hbA.size)).mono (Nat.le_trans hb5.size hB9.size))).mono hbw.size)⟩
  · rcases hmz with hmz | hmz
    · have hN2' := fun a w => hN2 a w (.inl hmz)
      go_upto_region 8 with (go_at_call 6; (with_reducible refine (hN2' _ _).mono ?_); rintro e w3 ⟨rfl, rfl⟩)
      go_upto_region 11 with fail
      have hb5 := Below.alloc hb12 (Nat.le_trans hb12.size (Nat.le_refl _)) (.cells caZ 41)
      have kz := Bk.new w2 41 caZ
      obtain ⟨w5, hw5⟩ : ∃ w5, w2.alloc (.cells caZ 41) = w5 := ⟨_, rfl⟩
      rw [hw5] at hb5 kz ⊢
      have hBn := bad_nil w5
      have hBz := bad_zero kz
      clear kz hw5 x0 x1 x2
      have hG1 := bad_get hBn 0 0
      go_upto_region 13 with (go_at_call 7; (with_reducible refine hG1.mono ?_); rintro e w6 ⟨rfl, hb6⟩)
      have hb6' : Below w5.heap.size w5 (w6.alloc (.cells im0A 44)) := (hb6.mono (Nat.le_refl _)).alloc hb6.size _
      obtain ⟨w7, hw7⟩ : ∃ w7, w6.alloc (.cells im0A 44) = w7 := ⟨_, rfl⟩
      rw [hw7] at hb6' ⊢
      have hG2 := bad_get (hBz.nx hb6') 0 0
      clear hw7 hG1
      go_upto_region 14 with (go_at_call 7; (with_reducible refine hG2.mono ?_); rintro e w8 ⟨rfl, hb8⟩)
      have hb8' : Below w7.heap.size w7 (w8.alloc (.cells im0A 44)) := (hb8.mono (Nat.le_refl _)).alloc hb8.size _
      obtain ⟨w9, hw9⟩ : ∃ w9, w8.alloc (.cells im0A 44) = w9 := ⟨_, rfl⟩
      rw [hw9] at hb8' ⊢
      clear hw9 hG2 hb8 hb6
      have hB9 := hb6'.trans (hb8'.mono hb6'.size)
      have hNn := hBn.nx hB9
      have hNz := hBz.nx hB9
      have hS := bad_stats hNn
      go_wp2_with (first
        | (go_at_call 8; (with_reducible refine hS.mono ?_); rintro e wA ⟨rfl, hbA⟩; have hL1 := bad_len (hNn.nx hbA); have hV1 := bad_levels (hNn.nx hbA); have hR1 := bad_read (hNn.nx hbA) 0 0 0; have hR2 := bad_read (hNz.nx hbA) 0 0 0; have hL2 := bad_len (hNz.nx hbA); have hS2 := bad_seen (hNn.nx hbA))
        | (go_at_call 9; (with_reducible refine hL1.mono ?_); rintro e wB ⟨rfl, rfl⟩)
        | (go_at_call 10; (with_reducible refine hV1.mono ?_); rintro e wB ⟨rfl, rfl⟩)
        | (go_at_call 11; (with_reducible refine hR1.mono ?_); rintro e wB ⟨rfl, rfl⟩)
        | (go_at_call 11; (with_reducible refine hR2.mono ?_); rintro e wB ⟨rfl, rfl⟩)
        | (go_at_call 9; (with_reducible refine hL2.mono ?_); rintro e wB ⟨rfl, rfl⟩)
        | (go_at_call 12; (with_reducible refine hS2.mono ?_); rintro e wB ⟨rfl, rfl⟩)
        | (go_at_call 13; (with_reducible refine (hAl _).mono ?_); rintro e wC ⟨rfl, hbC⟩))
      go_returns
      exact ⟨rfl, hbw.trans (((hb5.trans (hB9.mono hb5.size)).trans ((hbA.trans (hbC.mono hbA.size)).mono (Nat.le_trans hb5.size hB9.size))).mono hbw.size)⟩
    · have hN2' := fun a w => hN2 a w (.inr hmz)
      have hmz2 : ¬ most < 1 := by omega
      go_upto_region 8 with (go_at_call 6; (with_reducible refine (hN2' _ _).mono ?_); rintro e w3 ⟨rfl, rfl⟩)
      go_upto_region 11 with fail
      have hb5 := Below.alloc hb12 (Nat.le_trans hb12.size (Nat.le_refl _)) (.cells caZ 41)
      have kz := Bk.new w2 41 caZ
      obtain ⟨w5, hw5⟩ : ∃ w5, w2.alloc (.cells caZ 41) = w5 := ⟨_, rfl⟩
      rw [hw5] at hb5 kz ⊢
      have hBn := bad_nil w5
      have hBz := bad_zero kz
      clear kz hw5 x0 x1 x2
      have hG1 := bad_get hBn 0 0
      go_upto_region 13 with (go_at_call 7; (with_reducible refine hG1.mono ?_); rintro e w6 ⟨rfl, hb6⟩)
      have hb6' : Below w5.heap.size w5 (w6.alloc (.cells im0A 44)) := (hb6.mono (Nat.le_refl _)).alloc hb6.size _
      obtain ⟨w7, hw7⟩ : ∃ w7, w6.alloc (.cells im0A 44) = w7 := ⟨_, rfl⟩
      rw [hw7] at hb6' ⊢
      have hG2 := bad_get (hBz.nx hb6') 0 0
      clear hw7 hG1
      go_upto_region 14 with (go_at_call 7; (with_reducible refine hG2.mono ?_); rintro e w8 ⟨rfl, hb8⟩)
      have hb8' : Below w7.heap.size w7 (w8.alloc (.cells im0A 44)) := (hb8.mono (Nat.le_refl _)).alloc hb8.size _
      obtain ⟨w9, hw9⟩ : ∃ w9, w8.alloc (.cells im0A 44) = w9 := ⟨_, rfl⟩
      rw [hw9] at hb8' ⊢
      clear hw9 hG2 hb8 hb6
      have hB9 := hb6'.trans (hb8'.mono hb6'.size)
      have hNn := hBn.nx hB9
      have hNz := hBz.nx hB9
      have hS := bad_stats hNn
      go_wp2_with (first
        | (go_at_call 8; (with_reducible refine hS.mono ?_); rintro e wA ⟨rfl, hbA⟩; have hL1 := bad_len (hNn.nx hbA); have hV1 := bad_levels (hNn.nx hbA); have hR1 := bad_read (hNn.nx hbA) 0 0 0; have hR2 := bad_read (hNz.nx hbA) 0 0 0; have hL2 := bad_len (hNz.nx hbA); have hS2 := bad_seen (hNn.nx hbA))
        | (go_at_call 9; (with_reducible refine hL1.mono ?_); rintro e wB ⟨rfl, rfl⟩)
        | (go_at_call 10; (with_reducible refine hV1.mono ?_); rintro e wB ⟨rfl, rfl⟩)
        | (go_at_call 11; (with_reducible refine hR1.mono ?_); rintro e wB ⟨rfl, rfl⟩)
        | (go_at_call 11; (with_reducible refine hR2.mono ?_); rintro e wB ⟨rfl, rfl⟩)
        | (go_at_call 9; (with_reducible refine hL2.mono ?_); rintro e wB ⟨rfl, rfl⟩)
        | (go_at_call 12; (with_reducible refine hS2.mono ?_); rintro e wB ⟨rfl, rfl⟩)
        | (go_at_call 13; (with_reducible refine (hAl _).mono ?_); rintro e wC ⟨rfl, hbC⟩))
      go_returns
      exact ⟨rfl, hbw.trans (((hb5.trans (hB9.mono hb5.size)).trans ((hbA.trans (hbC.mono hbA.size)).mono (Nat.le_trans hb5.size hB9.size))).mono hbw.size)⟩
end Go.Proofs.YtahiaeaobbofbaaGreat
end
section
set_option linter.unusedVariables false
namespace Go.Proofs.YtahiaeaobbofbaaGreat
open Go.RowKit
theorem Sp.bds {O : SpK} {w : World} {U : Nat} {vS : Value} {s : CS} {ms : MS} {Sn : List (Int × Int)} {A : Option Addr} {c : Nat} (h : Sp O U vS s ms Sn A c w) (hU : U ≤ 60000) : s.ks.length ≤ 65536 ∧ (0 ≤ s.hits ∧ s.hits ≤ 60000) ∧ (0 ≤ s.loads ∧ s.loads ≤ 60000) ∧ (0 ≤ s.drops ∧ s.drops ≤ 60000) ∧ (0 ≤ s.high ∧ s.high ≤ 65536) ∧ s.S.length ≤ 60000 ∧ (1 ≤ O.K.most ∧ O.K.most ≤ 65536) := by
  obtain ⟨r, kb, ab, ga, vt, vs, nk, na, AM, h1, _⟩ := h.ca
  obtain ⟨b1, b2, b3, b4⟩ := h1.bk
  obtain ⟨c1, c2, c3, c4, c5⟩ := h1.bc
  have := h1.bl
  have := h1.bm
  have := h1.bh
  exact ⟨by omega, ⟨by omega, by omega⟩, ⟨by omega, by omega⟩, ⟨by omega, by omega⟩, ⟨by omega, by omega⟩, by omega, h1.bm⟩
theorem Sp.told {O : SpK} {w : World} {U : Nat} {vS : Value} {s : CS} {A : Option Addr} {c : Nat} (h : Sp O U vS s (msOf s) s.S A c w) (hU : U ≤ 60000) : ∃ AS cS, vS = .slice AS s.S.length cS ∧
    Calls Tryz.prog 22 #[.pointer (some ⟨O.K.gc, 0, none⟩), .agg (caM O.K.most (.slice A (hand s).length c) s.hits s.loads s.drops s.high), .slice AS s.S.length cS] w fun e w' => e = .returned (.bool true) ∧ Below w.heap.size w w' := by
  obtain ⟨r, kb, ab, ga, vt, vs, nk, na, AM, h1, h2, h3, h4, h5⟩ := h.ca
  obtain ⟨AS, cS, rfl, _⟩ := own_form h.sn
  exact ⟨AS, cS, rfl, told_any h1 hU A AS c cS h3.rd (Rd.of_own h.sn)⟩
theorem Sp.use {O : SpK} {w : World} {U : Nat} {vS : Value} {s : CS} {ms : MS} {Sn : List (Int × Int)} {A : Option Addr} {c : Nat} (h : Sp O U vS s ms Sn A c w) (hm : 1 ≤ O.K.most ∧ O.K.most ≤ 65536) (t : Int × Int) (h0 : ms.L.length ≤ 65536) (h1 : 0 ≤ ms.hits ∧ ms.hits ≤ 60000) (h2 : 0 ≤ ms.loads ∧ ms.loads ≤ 60000) (h3 : 0 ≤ ms.drops ∧ ms.drops ≤ 60000) (h4 : 0 ≤ ms.high ∧ ms.high ≤ 65536) :
    Calls Tryz.prog 16 #[.agg (caM O.K.most (.slice A ms.L.length c) ms.hits ms.loads ms.drops ms.high), .agg (tiA t.1 t.2)] w fun e w' => ∃ A' c', e = .returned (.agg (caM O.K.most (.slice A' (useM O.K.most ms t).L.length c') (useM O.K.most ms t).hits (useM O.K.most ms t).loads (useM O.K.most ms t).drops (useM O.K.most ms t).high)) ∧ Below w.heap.size w w' ∧
      ∀ w2, w'.grownBy w2 (some O.g) → Bk w2 O.g 55 (caM O.K.most (.slice A' (useM O.K.most ms t).L.length c') (useM O.K.most ms t).hits (useM O.K.most ms t).loads (useM O.K.most ms t).drops (useM O.K.most ms t).high) → Sp O U vS s (useM O.K.most ms t) Sn A' c' w2 := by
  obtain ⟨r, kb, ab, ga, vt, vs, nk, na, AM, g1, g2, g3, g4, g5⟩ := h.ca
  refine (ruse_t ms O.K.most A ms.L.length c t w rfl g3.rd (Nat.le_refl _) (by omega) hm ⟨h1.1, by omega⟩ ⟨h2.1, by omega⟩ ⟨h3.1, by omega⟩ ⟨h4.1, by omega⟩).mono ?_
  rintro e w' ⟨A', c', rfl, hr, hb⟩
  have hL : (useM O.K.most ms t).L ≠ [] := by
    unfold useM
    split
    · simp
    · split <;> simp
  refine ⟨A', c', rfl, hb, fun w2 hgr hk => h.put hb hr hgr hk ?_ hL⟩
  obtain ⟨b, o, e, _⟩ := hr 0 (by
    cases hl : (useM O.K.most ms t).L with
    | nil => exact absurd hl hL
    | cons x l => simp [encT])
  rw [e]; simp
theorem useS_cnt (K : SC) (s : CS) (t : Int × Int) (h : s.cnt = s.loads) : (useS K s t).cnt = (useS K s t).loads := by
  unfold useS
  simp only
  split
  · exact h
  · simp only
    rw [h]
theorem useS_S (K : SC) (s : CS) (t : Int × Int) : (useS K s t).S = s.S := by
  unfold useS
  simp only
  split
  · rfl
  · simp only
    unfold roomS
    split <;> rfl
theorem Sp.ms {O : SpK} {w : World} {U : Nat} {vS : Value} {s : CS} {ms : MS} {Sn : List (Int × Int)} {A : Option Addr} {c : Nat} (h : Sp O U vS s ms Sn A c w) (t : Int × Int) : useM O.K.most (msOf s) t = msOf (useS O.K s t) := by
  obtain ⟨r, kb, ab, ga, vt, vs, nk, na, AM, g1, _⟩ := h.ca
  exact (g1.use_ms t).symm
theorem Sp.ends {O : SpK} {w : World} {U : Nat} {vS : Value} {s : CS} {ms : MS} {Sn : List (Int × Int)} {A : Option Addr} {c : Nat} (h : Sp O U vS s ms Sn A c w) (h0 : 0 < O.K.ims.length) :
    (Calls Tryz.prog 23 #[.pointer (some ⟨O.K.gc, 0, none⟩), .int .i64 0] w fun e w' => e = .returned (.tuple #[.int .i64 O.K.ims[0].W, .int .i64 O.K.ims[0].H]) ∧ Below w.heap.size w w') ∧
    (∀ W, Below w.heap.size w W → Calls Tryz.prog 10 #[.pointer (some ⟨O.K.gc, 0, none⟩)] W fun e w' => e = .returned (.int .i64 (O.K.n : Nat)) ∧ Below W.heap.size W w') ∧
    (∀ W, Below w.heap.size w W → Calls Tryz.prog 24 #[.pointer (some ⟨O.K.gc, 0, none⟩)] W fun e w' => e = .returned (.int .i64 O.K.ims[0].C) ∧ Below W.heap.size W w') ∧
    (∀ W, Below w.heap.size w W → Calls Tryz.prog 25 #[.pointer (some ⟨O.K.gs, 0, none⟩)] W fun e w' => e = .returned (.int .i64 s.cnt) ∧ Below W.heap.size W w') := by
  obtain ⟨r, kb, ab, ga, vt, vs, nk, na, AM, g1, _⟩ := h.ca
  exact ⟨csize0 g1 h0, fun W hW => clevels (g1.nx hW), fun W hW => cchannels (g1.nx hW) h0, fun W hW => sfetched (g1.nx hW)⟩
theorem Sp.tile_in {O : SpK} {w : World} {U : Nat} {vS : Value} {s : CS} {ms : MS} {Sn : List (Int × Int)} {A : Option Addr} {c : Nat} (h : Sp O U vS s ms Sn A c w) (k : Nat) (hk : k < O.K.ims.length) (x y : Int) (hx : 0 ≤ x ∧ x < O.K.ims[k].W) (hy : 0 ≤ y ∧ y < O.K.ims[k].H) :
    Calls Tryz.prog 17 #[.pointer (some ⟨O.K.gs, 0, none⟩), .int .i64 k, .int .i64 x, .int .i64 y] w fun e w' => e = .returned (.tuple #[.agg (tiA k (tlI O.K.ims[k].W O.K.tw O.K.th x y)), .bool true]) ∧ Below w.heap.size w w' := by
  obtain ⟨r, kb, ab, ga, vt, vs, nk, na, AM, g1, _⟩ := h.ca
  exact stile_in g1.sto k hk x y hx hy
theorem Sp.tile_no {O : SpK} {w : World} {U : Nat} {vS : Value} {s : CS} {ms : MS} {Sn : List (Int × Int)} {A : Option Addr} {c : Nat} (h : Sp O U vS s ms Sn A c w) (k x y : Int) (hno : ∀ j : Nat, (j : Int) = k → ∀ hj : j < O.K.ims.length, ¬ (0 ≤ x ∧ x < O.K.ims[j].W ∧ 0 ≤ y ∧ y < O.K.ims[j].H)) :
    Calls Tryz.prog 17 #[.pointer (some ⟨O.K.gs, 0, none⟩), .int .i64 k, .int .i64 x, .int .i64 y] w fun e w' => e = .returned (.tuple #[.agg (tiA 0 0), .bool false]) ∧ Below w.heap.size w w' := by
  obtain ⟨r, kb, ab, ga, vt, vs, nk, na, AM, g1, _⟩ := h.ca
  exact stile_no g1.sto k x y hno
theorem useS_setS (K : SC) (s : CS) (X : List (Int × Int)) (t : Int × Int) : useS K { s with S := X } t = { useS K s t with S := X } := by
  unfold useS roomS
  simp only
  split <;> (try split) <;> rfl
end Go.Proofs.YtahiaeaobbofbaaGreat
end
section
set_option linter.unusedVariables false
namespace Go.Proofs.YtahiaeaobbofbaaGreat
open Go.RowKit
theorem gr_setc {w w2 : World} {g : Nat} (h : w.grownBy w2 (some g)) (p : Addr) (v : Value) : (w.setCell p v).grownBy (w2.setCell p v) (some g) :=
  ⟨h.os, h.tape, h.output, by simpa using h.size, fun i hi hn => by
    have h1 := h.block i (by simpa using hi) hn
    simp only [World.setCell, Array.getElem?_modify, h1]⟩
theorem be_setc {w w2 : World} {n : Nat} (h : Below n w w2) (p : Addr) (v : Value) : Below n (w.setCell p v) (w2.setCell p v) :=
  ⟨h.os, h.tape, h.output, by simpa using h.size, fun i hi => by
    have h1 := h.block i hi
    simp only [World.setCell, Array.getElem?_modify, h1]⟩
theorem Sp.use2 {O : SpK} {w5 w9 : World} {B U : Nat} {vS : Value} {s : CS} {ms : MS} {Sn : List (Int × Int)} {A : Option Addr} {c : Nat} (hX : ∀ w'', Below B w5 w'' → Sp O U vS s ms Sn A c w'') (hb : Below B w5 w9) (hB : O.g < B) (hm : 1 ≤ O.K.most ∧ O.K.most ≤ 65536) (t : Int × Int) (h0 : ms.L.length ≤ 65536) (h1 : 0 ≤ ms.hits ∧ ms.hits ≤ 60000) (h2 : 0 ≤ ms.loads ∧ ms.loads ≤ 60000) (h3 : 0 ≤ ms.drops ∧ ms.drops ≤ 60000) (h4 : 0 ≤ ms.high ∧ ms.high ≤ 65536) :
    Calls Tryz.prog 16 #[.agg (caM O.K.most (.slice A ms.L.length c) ms.hits ms.loads ms.drops ms.high), .agg (tiA t.1 t.2)] w9 fun e w' => ∃ A' c', e = .returned (.agg (caM O.K.most (.slice A' (useM O.K.most ms t).L.length c') (useM O.K.most ms t).hits (useM O.K.most ms t).loads (useM O.K.most ms t).drops (useM O.K.most ms t).high)) ∧ Below w9.heap.size w9 w' ∧
      ∀ w2, w'.grownBy w2 (some O.g) → Bk w2 O.g 55 (caM O.K.most (.slice A' (useM O.K.most ms t).L.length c') (useM O.K.most ms t).hits (useM O.K.most ms t).loads (useM O.K.most ms t).drops (useM O.K.most ms t).high) → ∀ (p : Addr) (v : Value), B ≤ p.block → p.block < w9.heap.size → Sp O U vS s (useM O.K.most ms t) Sn A' c' (w2.setCell p v) := by
  obtain ⟨r, kb, ab, ga, vt, vs, nk, na, AM, g1, g2, g3, g4, g5⟩ := (hX w9 hb).ca
  refine (ruse_t ms O.K.most A ms.L.length c t w9 rfl g3.rd (Nat.le_refl _) (by omega) hm ⟨h1.1, by omega⟩ ⟨h2.1, by omega⟩ ⟨h3.1, by omega⟩ ⟨h4.1, by omega⟩).mono ?_
  rintro e w' ⟨A', c', rfl, hr, hbU⟩
  have hL : (useM O.K.most ms t).L ≠ [] := by
    unfold useM
    split
    · simp
    · split <;> simp
  have hA0 : A' ≠ none := by
    obtain ⟨b, o, e, _⟩ := hr 0 (by
      cases hl : (useM O.K.most ms t).L with
      | nil => exact absurd hl hL
      | cons x l => simp [encT])
    rw [e]; simp
  refine ⟨A', c', rfl, hbU, fun w2 hgr hk p v hp1 hp2 => ?_⟩
  have hSX := hX (w9.setCell p v) (hb.setCell hp1 v)
  have hbX : Below (w9.setCell p v).heap.size (w9.setCell p v) (w'.setCell p v) := by
    rw [show (w9.setCell p v).heap.size = w9.heap.size by simp]
    exact be_setc hbU p v
  have hrX : RdL (w'.setCell p v) (w9.setCell p v).heap.size A' (encT (useM O.K.most ms t).L) := fun k hk => by
    obtain ⟨b, o, e, hb1, hb2, hc⟩ := hr k hk
    refine ⟨b, o, e, by simpa using hb1, by simpa using hb2, ?_⟩
    rw [World.cell?_setCell_other _ _ _ _ (fun e => ?_)]
    · exact hc
    · rw [e] at hp2; simp only at hp2; omega
  exact hSX.put hbX hrX (gr_setc hgr p v) (hk.far (by omega) v) hA0 hL
end Go.Proofs.YtahiaeaobbofbaaGreat
end
