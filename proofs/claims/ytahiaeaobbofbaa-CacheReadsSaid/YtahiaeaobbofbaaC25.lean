/- Several texts in one: The cache's law: what holds between the reads of a loop, as one fact. The cache's law: reads one after the other. The cache's law. CacheReads: the walk over the row's reading. -/
import Derived.Test.YtahiaeaobbofbaaC19
import Derived.Test.YtahiaeaobbofbaaSSE
import Derived.Deep.RegionWith
import Derived.StillTailTactics
import Derived.Lib.QuietBelow
import Derived.Deep.QuietTactic
section
set_option linter.unusedVariables false
namespace Go.Proofs.Ytahiaeaobbofbaa
open Go.RowKit
@[go_sem] theorem field_stats3 (a b c d : Int) (w : World) : (Instr.field 45 (.agg #[.int .i64 a, .int .i64 b, .int .i64 c, .int .i64 d]) 3).run Try.prog w = .ok (.int .i64 d) w :=
  by kernel_rfl
/-- A cache after some reads. -/
structure LpS (K : SC) (W0 : World) (k : Nat) (w : World) : Prop where
  ca : ∃ s r kb ab ga vt vs nk na AM, CaP K (6 * k) s r w kb ab ga vt vs nk na AM
  bel : Below W0.heap.size W0 w
  lo : W0.heap.size ≤ K.lo
  low : K.lo ≤ w.heap.size
section
variable {K : SC} {W0 w w' : World} {k : Nat}
theorem LpS.nx (h : LpS K W0 k w) (hb : Below w.heap.size w w') : LpS K W0 k w' := by
  obtain ⟨s, r, kb, ab, ga, vt, vs, nk, na, AM, hC⟩ := h.ca
  exact ⟨⟨s, r, kb, ab, ga, vt, vs, nk, na, AM, hC.nx hb⟩, h.bel.trans (hb.mono h.bel.size), h.lo, Nat.le_trans h.low hb.size⟩
theorem LpS.more (h : LpS K W0 k w) : LpS K W0 (k + 1) w := by
  obtain ⟨s, r, kb, ab, ga, vt, vs, nk, na, AM, hC⟩ := h.ca
  exact ⟨⟨s, r, kb, ab, ga, vt, vs, nk, na, AM, hC.more (by omega)⟩, h.bel, h.lo, h.low⟩
theorem LpS.read_in (h : LpS K W0 k w) (hk : k ≤ 200) (ty : TypeId) (cs : Array Value) (j : Nat) (hj : j < K.ims.length) (x y : Int) (hx : 0 ≤ x ∧ x < K.ims[j].W) (hy : 0 ≤ y ∧ y < K.ims[j].H) :
    Calls Try.prog 9 #[.pointer (some ⟨K.gc, 0, none⟩), .int .i64 j, .int .i64 x, .int .i64 y] (w.alloc (.cells cs ty)) fun e w' => ∃ A c, e = .returned (.slice A (pxV K.ims[j] x y).length c) ∧ Rd w' w'.heap.size A (pxV K.ims[j] x y) ∧ LpS K W0 (k + 1) w' ∧ Bk w' w.heap.size ty cs := by
  obtain ⟨s, r, kb, ab, ga, vt, vs, nk, na, AM, hC⟩ := h.ca
  have hb : Below w.heap.size w (w.alloc (.cells cs ty)) := (Below.refl _ _).alloc (Nat.le_refl _) _
  have hC1 := hC.nx hb
  refine (cread_in hC1 (by omega) j hj x y hx hy (Nat.le_trans h.low hb.size)).mono ?_
  rintro e w2 ⟨A, c, rfl, hr, r', vt', vs', nk', na', AM', hC2, hst⟩
  refine ⟨A, c, rfl, hr, ⟨⟨_, _, _, _, _, _, _, _, _, _, hC2.more (by omega)⟩, ?_, h.lo, Nat.le_trans (Nat.le_trans h.low hb.size) hst.size⟩, hst.bk (Bk.new w ty cs) (hC.fresh _ (Nat.le_refl _))⟩
  exact hst.below (h.bel.trans (hb.mono h.bel.size)) (Nat.le_trans h.bel.size hb.size) fun b hb => Nat.le_trans h.lo (hC1.ge b hb)
theorem LpS.read_no (h : LpS K W0 k w) (ty : TypeId) (cs : Array Value) (j x y : Int) (hno : ∀ i : Nat, (i : Int) = j → ∀ hj : i < K.ims.length, ¬ (0 ≤ x ∧ x < K.ims[i].W ∧ 0 ≤ y ∧ y < K.ims[i].H)) :
    Calls Try.prog 9 #[.pointer (some ⟨K.gc, 0, none⟩), .int .i64 j, .int .i64 x, .int .i64 y] (w.alloc (.cells cs ty)) fun e w' => e = .returned (.slice none 0 0) ∧ LpS K W0 (k + 1) w' ∧ Bk w' w.heap.size ty cs := by
  have hb : Below w.heap.size w (w.alloc (.cells cs ty)) := (Below.refl _ _).alloc (Nat.le_refl _) _
  have h1 := h.nx hb
  obtain ⟨s, r, kb, ab, ga, vt, vs, nk, na, AM, hC⟩ := h1.ca
  refine (cread_no hC j x y hno).mono ?_
  rintro e w2 ⟨rfl, hb2⟩
  exact ⟨rfl, (h1.nx hb2).more, (Bk.new w ty cs).nx hb2⟩
/-- What a cache tells of itself is within bounds. -/
theorem LpS.tells (h : LpS K W0 k w) : ∃ z a b c d : Int, z ≤ K.most ∧ d ≤ K.most ∧
    (∀ w', Below w.heap.size w w' → Calls Try.prog 12 #[.pointer (some ⟨K.gc, 0, none⟩)] w' fun e w'' => e = .returned (.int .i64 z) ∧ Below w'.heap.size w' w'') ∧
    (∀ w', Below w.heap.size w w' → Calls Try.prog 13 #[.pointer (some ⟨K.gc, 0, none⟩)] w' fun e w'' => e = .returned (.agg #[.int .i64 a, .int .i64 b, .int .i64 c, .int .i64 d]) ∧ Below w'.heap.size w' w'') := by
  obtain ⟨s, r, kb, ab, ga, vt, vs, nk, na, AM, hC⟩ := h.ca
  refine ⟨(s.ks.length : Nat), s.hits, s.loads, s.drops, s.high, hC.bl, hC.bh.2, fun w' hb => ?_, fun w' hb => ?_⟩
  · exact (clen (hC.nx hb)).mono fun e w'' ⟨h1, h2⟩ => ⟨h1, h2 ▸ Below.refl _ _⟩
  · exact cstats (hC.nx hb)
end
theorem enc3_get : ∀ (l : List (Int × Int × Int)) (k : Nat) (hk : k < l.length), (enc3 l)[k * 3]? = some (.int .i64 l[k].1) ∧ (enc3 l)[k * 3 + 1]? = some (.int .i64 l[k].2.1) ∧ (enc3 l)[k * 3 + 2]? = some (.int .i64 l[k].2.2)
  | [], _, h => absurd h (by simp)
  | a :: l, 0, _ => ⟨rfl, rfl, rfl⟩
  | a :: l, k + 1, h => by
    have h1 := enc3_get l k (by simpa using h)
    have e : enc3 (a :: l) = .int .i64 a.1 :: .int .i64 a.2.1 :: .int .i64 a.2.2 :: enc3 l := rfl
    rw [e, show (k + 1) * 3 = k * 3 + 1 + 1 + 1 by omega]
    simp only [List.getElem?_cons_succ, List.getElem_cons_succ, show k * 3 + 1 + 1 + 1 + 1 = k * 3 + 1 + 1 + 1 + 1 from rfl, show k * 3 + 1 + 1 + 1 + 2 = k * 3 + 2 + 1 + 1 + 1 by omega]
    exact h1
theorem rd_p3 {w : World} {B : Nat} {A : Option Addr} {ps : List (Int × Int × Int)} (h : Rd w B A (enc3 ps)) (k : Nat) (hk : k < ps.length) : ∃ b o, A = some ⟨b, o, none⟩ ∧ b < B ∧ w.cell? ⟨b, o + k * 3, none⟩ = some (.int .i64 ps[k].1) ∧ w.cell? ⟨b, o + k * 3 + 1, none⟩ = some (.int .i64 ps[k].2.1) ∧ w.cell? ⟨b, o + k * 3 + 2, none⟩ = some (.int .i64 ps[k].2.2) := by
  obtain ⟨g0, g1, g2⟩ := enc3_get ps k hk
  have l2 : k * 3 + 2 < (enc3 ps).length := by
    rcases Nat.lt_or_ge (k * 3 + 2) (enc3 ps).length with h | h
    · exact h
    · rw [List.getElem?_eq_none h] at g2; cases g2
  obtain ⟨b, o, rfl, hb, c0⟩ := h.get (k * 3) (by omega)
  obtain ⟨b1, o1, e1, _, c1⟩ := h.get (k * 3 + 1) (by omega)
  obtain ⟨b2, o2, e2, _, c2⟩ := h.get (k * 3 + 2) l2
  injection e1 with e1; injection e1 with e11 e12; subst e11; subst e12
  injection e2 with e2; injection e2 with e21 e22; subst e21; subst e22
  rw [List.getElem?_eq_getElem (by omega)] at g0 g1 g2
  injection g0 with g0; injection g1 with g1; injection g2 with g2
  exact ⟨b, o, rfl, hb, by rw [c0, g0], by rw [← Nat.add_assoc] at c1; rw [c1, g1], by rw [← Nat.add_assoc] at c2; rw [c2, g2]⟩
end Go.Proofs.Ytahiaeaobbofbaa
end
section
set_option linter.unusedVariables false
namespace Go.Proofs.Ytahiaeaobbofbaa
open Go.RowKit
abbrev w42A (a b c : Int) : Array Value := #[.int .i64 a, .int .i64 b, .int .i64 c]
set_option maxRecDepth 100000 in
set_option maxHeartbeats 16000000 in
theorem reads_main (ims : List Im) (A : Option Addr) (n c : Nat) (tw th most : Int) (ps : List (Int × Int × Int)) (A' : Option Addr) (n' c' : Nat) (w W0 : World) (hW0 : w.alloc (.cells (w42A tw th most) 24) = W0) (hn : ims.length = n) (hA : ImsAt W0 0 A ims)
    (hn' : ps.length = n') (hP : Rd W0 W0.heap.size A' (enc3 ps)) (hbz : ¬ (n' : Int) > 200) (hn6 : n ≤ 6)
    (hnew : newC ims tw th = 0) (hm : 1 ≤ most ∧ most ≤ 65536)
    (hfew : Calls Try.prog 4 #[.slice A n c] W0 fun e w' => e = .returned (.bool true) ∧ Below W0.heap.size W0 w')
    (hSN : ∀ W, Below W0.heap.size W0 W → Calls Try.prog 5 #[.slice A n c, .int .i64 tw, .int .i64 th] W fun e w' => Below W.heap.size W w' ∧ ∃ gs v, e = .returned (.tuple #[.pointer (some ⟨gs, 0, none⟩), .int .i64 0]) ∧ W.heap.size ≤ gs ∧ Bk w' gs 54 #[v, .int .i64 tw, .int .i64 th, .int .i64 0] ∧ ImsOwn w' W.heap.size v ims)
    (hCK : ∀ W, Below W0.heap.size W0 W → Calls Try.prog 7 #[.slice A n c, .int .i64 tw, .int .i64 th] W fun e w' => e = .returned (.int .i64 0) ∧ Below W.heap.size W w') :
    Calls Try.prog 3 #[.slice A n c, .agg (w42A tw th most), .slice A' n' c'] w fun e w' => e = .returned (.bool true) ∧ Below w.heap.size w w' := by
  have k0 : Bk W0 w.heap.size 24 (w42A tw th most) := by rw [← hW0]; exact Bk.new w _ _
  have hbw : Below w.heap.size w W0 := by rw [← hW0]; exact (Below.refl _ _).alloc (Nat.le_refl _) _
  have hzw : W0.heap.size = w.heap.size + 1 := by rw [← hW0]; simp
  have hCN := fun gs w => cnew_ok gs most w hm
  have hAl := fun w => alive42 w
  have hck : ∀ m ∈ ims, checkC m.W m.H m.C m.px.length = 0 := by
    have h0 : imagesC ims = 0 := by
      unfold newC at hnew
      by_cases e : imagesC ims = 0
      · exact e
      · rw [if_pos e] at hnew; exact absurd hnew e
    have hne : ims ≠ [] := by rintro rfl; exact absurd h0 (by decide)
    rw [imagesC_eq hne] at h0
    exact fun m hm => (imsC_all h0 m hm).1
  have htw : (1 ≤ tw ∧ tw ≤ 4096) ∧ (1 ≤ th ∧ th ≤ 4096) := by
    unfold newC at hnew
    split at hnew
    · rename_i e; exact absurd hnew e
    · split at hnew
      · cases hnew
      · omega
  have hm1 : ¬ most < 1 := by omega
  have hm2 : ¬ most > 65536 := by omega
  have HTW := Lib.hid htw
  have HM := Lib.hid hm
  have HN := Lib.hid hn
  have HN2 := Lib.hid hn'
  have HZW := Lib.hid hzw
  have HFEW := Lib.hid hfew
  obtain ⟨g4, hg4⟩ : ∃ g4, w.heap.size = g4 := ⟨_, rfl⟩
  have hg40 : g4 < W0.heap.size := by omega
  have HG4 := Lib.hid hg4
  have HW0 := Lib.hid hW0
  rw [hg4] at k0
  clear htw hnew hm hn hn' hzw hfew hg4 hW0
  have hb1 := Below.refl W0.heap.size W0
  obtain ⟨x0, x1, x2⟩ := k0.cell3
  go_enter Try.func3, Try.ntmps3
  go_upto_region 2 with fail
  rw [HW0.out, HG4.out]
  go_upto_region 3 with (go_at_call 4; (with_reducible refine HFEW.out.mono ?_); rintro e w1 ⟨rfl, hb1⟩)
  obtain ⟨x0, x1, x2⟩ := (k0.nx hb1).cell3
  go_upto_region 4 with (go_at_call 5; (with_reducible refine (hSN _ hb1).mono ?_); rintro e w2 ⟨hb2, gs, v, rfl, hgs, kS, hI⟩)
  have hb12 := below_then hb2 hb1
  obtain ⟨x0, x1, x2⟩ := (k0.nx hb12).cell3
  obtain ⟨A2, c2, rfl, _⟩ := hI.form
  rw [HN.out] at kS hI
  obtain ⟨gc, hgc⟩ : ∃ gc, w2.heap.size + 3 = gc := ⟨_, rfl⟩
  have hS0 : ∀ w3, w3 = _ → ∃ K : SC, K.ims = ims ∧ K.most = most ∧ K.gc = gc ∧ LpS K W0 0 w3 := fun w3 hw3 => by
    obtain ⟨r0, hC0⟩ := CaP.start (lo := w1.heap.size) kS hI hgs HN.out (by omega) hck HTW.out HM.out hw3
    have hb3 : Below w2.heap.size w2 w3 := by rw [hw3]; exact ((((Below.refl _ _).alloc (Nat.le_refl _) _).alloc (by simp) _).alloc (by simp; omega) _).alloc (by simp; omega) _
    exact ⟨_, rfl, rfl, hgc, ⟨_, r0, _, _, _, _, _, _, _, _, hC0⟩, hb12.trans (hb3.mono hb12.size), hb1.size, Nat.le_trans hb2.size hb3.size⟩
  have hCN2 : Calls Try.prog 6 #[.pointer (some ⟨gs, 0, none⟩), .int .i64 most] w2 fun e w' => e = .returned (.tuple #[.pointer (some ⟨gc, 0, none⟩), .int .i64 0]) ∧ ∃ K : SC, K.ims = ims ∧ K.most = most ∧ K.gc = gc ∧ LpS K W0 0 w' := (hCN gs w2).mono fun e w' ⟨q1, q2⟩ => ⟨by rw [q1, ← hgc], hS0 w' q2⟩
  clear hS0 hgc kS hI hgs hCN hb1
  go_upto_region 5 with (go_at_call 6; (with_reducible refine hCN2.mono ?_); rintro e w3 ⟨rfl, K, hKi, hKm, hKg, hL3⟩)
  clear hCN2 hb12 hb2 x0 x1 x2
  obtain ⟨x0, x1, x2⟩ := (k0.nx hL3.bel).cell3
  go_upto_region 7 with (go_at_call 7; (with_reducible refine (hCK _ hL3.bel).mono ?_); rintro e w4 ⟨rfl, hb4⟩; obtain ⟨x0, x1, x2⟩ := (k0.nx (hL3.nx hb4).bel).cell3)
  have hL4 := hL3.nx hb4
  clear hL3 hb4 hCK hSN x0 x1 x2
  subst hKi hKm hKg
  go_wp2_with fail
  go_loopw [71] (fun i wr => ∃ k : Nat, k ≤ n' ∧ i = .int .i64 k ∧ LpS K W0 k wr) (fun i _ => n' - (intOf i).toNat)
  case atStart => exact ⟨0, by omega, rfl, hL4⟩
  case round =>
    obtain ⟨k, hk, rfl, hL⟩ := hrel
    clear hL4
    by_cases hlt : k < n'
    · obtain ⟨b, o, rfl, hbl, d0, d1, d2⟩ := rd_p3 (hP.below' hL.bel (Nat.le_refl _)) k (by rw [HN2.out]; exact hlt)
      obtain ⟨⟨p0, p1, p2⟩, hp⟩ : ∃ p, ps[k]'(by rw [HN2.out]; exact hlt) = p := ⟨_, rfl⟩
      rw [hp] at d0 d1 d2
      clear hp
      dsimp only at d0 d1 d2
      have hltZ : (k : Int) < (n' : Int) := by omega
      have hkk : k ≤ 200 := by omega
      have hdone : ∀ w9, LpS K W0 (k + 1) w9 → (∃ k' : Nat, k' ≤ n' ∧ (Value.int .i64 ((k : Int) + 1)) = .int .i64 k' ∧ LpS K W0 k' w9) ∧ n' - (intOf (.int .i64 ((k : Int) + 1))).toNat < n' - (intOf (.int .i64 (k : Int))).toNat := fun w9 h9 => ⟨⟨k + 1, by omega, by simp, h9⟩, by simp [intOf]; omega⟩
      by_cases hin : ∃ j : Nat, (j : Int) = p0 ∧ ∃ hj : j < K.ims.length, (0 ≤ p1 ∧ p1 < K.ims[j].W) ∧ (0 ≤ p2 ∧ p2 < K.ims[j].H)
      · obtain ⟨j, rfl, hj, hx, hy⟩ := hin
        have hRd := hL.read_in hkk 36 #[.int .i64 (j : Int), .int .i64 p1, .int .i64 p2] j hj p1 p2 hx hy
        have hjn : (j : Int) < (n : Int) := by have := HN.out; omega
        have hj0 : (0 : Int) ≤ (j : Int) := by omega
        have hckj := hck _ (List.getElem_mem hj)
        have hgetj := fun (w9 : World) (h9 : LpS K W0 (k + 1) w9) => (hA.nx h9.bel (Nat.le_refl _)).get j hj
        obtain ⟨z, q, Cn, hat, et, et2, et3, hle, hz0, hz1, hC1, hC2, hC3, hpe, hpl, hpx⟩ := pxB_parts hckj hx hy
        have hPl := fun Ai cI w => rplace_in K.ims[j] Ai cI p1 p2 w hckj hx hy
        simp only [hat] at hPl
        have hpxr := fun (w9 : World) (bI oI : Nat) (hr : Rd w9 w9.heap.size (some ⟨bI, oI, none⟩) (K.ims[j].px.map (Value.int .u8))) => px_rd hckj hx hy hr
        simp only [hat, et] at hpxr
        have hpvl : (pxV K.ims[j] p1 p2).length = Cn := by unfold pxV; simp [et2]
        have hpll : (pxL K.ims[j] p1 p2).length = Cn := by rw [pxL_len, et2]
        rw [hpvl, pxV_eq] at hRd
        have HPLL := Lib.hid hpll
        generalize K.ims[j] = m at *
        generalize pxL m p1 p2 = xs at *
        have v4 : wrap64 (z + m.C) = z + m.C := IntWalk.wrap64_in _ ⟨by omega, by omega⟩
        have hzc : 0 ≤ z + m.C := by omega
        have hq0' : q + Cn - q = Cn := by omega
        have hnl : decide (z < 0) = false := by simp; omega
        have hnl2 : decide (z ≥ 0) = true := by simp; omega
        clear hx hy hckj hpl hpe hpvl hpll hat
        go_upto_region 11 with (go_at_call 9; (with_reducible refine hRd.mono ?_); rintro e w5 ⟨A9, c9, rfl, hr9, hL5, k12⟩)
        obtain ⟨y0, y1, y2⟩ := k12.cell3
        obtain ⟨bI, oI, Ai, ci, rfl, _, hbi, q0, q1, q2, q3, hci, hri⟩ := hgetj _ hL5
        obtain ⟨bP, oP, rfl, _⟩ := hri.rd.get 0 (by simp; omega)
        go_upto_region 13 with fail
        go_still_tail 9, (by kernel_rfl)
        go_upto_region 14 with (go_at_call 10; (with_reducible refine (hPl _ _ _).mono ?_); rintro e w6 ⟨rfl, hb6⟩)
        have hbb : Below w5.heap.size w5 w6 := (below_drewN (Below.refl w5.heap.size w5) 1).trans (hb6.mono (Nat.le_refl _))
        have hL6 := hL5.nx hbb
        obtain ⟨zl, a1, a2, a3, a4, hzl, ha4, hLen, hSts⟩ := hL6.tells
        have hzl' : ¬ zl > K.most := by omega
        have ha4' : ¬ a4 > K.most := by omega
        have t2 := fun (d : Nat) (os : Array Obj) => cell_regrown ((hbb.cell (by simpa using hbi)).trans q2) d os
        have t3 := fun (d : Nat) (os : Array Obj) => cell_regrown ((hbb.cell (by simpa using hbi)).trans q3) d os
        have k126 := k12.nx hbb
        obtain ⟨y0', y1', y2'⟩ := k126.cell3
        have u0 := fun (d : Nat) (os : Array Obj) => cell_regrown y0' d os
        obtain ⟨_, _, x2'⟩ := (k0.nx hL6.bel).cell3
        have u2 := fun (d : Nat) (os : Array Obj) => cell_regrown x2' d os
        have hr96 := (hr9.below' hbb (Nat.le_refl _)).more hbb.size
        have hri6 := hpxr w6 bP oP ((hri.rd.below' hbb (Nat.le_refl _)).more hbb.size)
        have hSm : ∀ (d : Nat) (os : Array Obj), Calls Try.prog 11 #[.slice A9 Cn c9, .slice (some ⟨bP, oP + q, none⟩) Cn (ci - q)] (Go.Sort.grow (redrawn w6 d) os) fun e w' => e = .returned (.bool true) ∧ Below (Go.Sort.grow (redrawn w6 d) os).heap.size (Go.Sort.grow (redrawn w6 d) os) w' := fun d os => by
          have hbr := below_regrown w6 d os
          exact same14 xs A9 _ Cn c9 _ _ HPLL.out (hr96.below' hbr (Nat.le_refl _)) (hri6.below' hbr (Nat.le_refl _))
        have hLn := fun (d : Nat) (os : Array Obj) => hLen _ (below_regrown w6 d os)
        have hSt := fun (d : Nat) (os : Array Obj) => hSts _ (below_regrown w6 d os)
        have hac : q + Cn ≤ ci := by omega
        have hif : (ci = q) = False := by simp; omega
        have HXS := Lib.hid hri6
        clear y0' y1' y2' x2' hgetj q0 q1 q2 q3 y0 y1 y2 hri hri6 hpxr hPl hRd hci hLen hSts d0 d1 d2
        clear hr9 k12 hb6 hbb hL5 hr96 k126
        refine wp_region_quiet_below (by kernel_rfl) (by kernel_rfl) ?_
        repeat (first
          | go_big_quiet_step ((first | with_reducible exact quiet_below (hSm _ _) | with_reducible exact quiet_below (hLn _ _) | with_reducible exact quiet_below (hSt _ _)))
          | quiet_step ((first | with_reducible exact quiet_below (hSm _ _) | with_reducible exact quiet_below (hLn _ _) | with_reducible exact quiet_below (hSt _ _))))
        refine wpQuiet_nil ?_
        intro _ hw'
        obtain ⟨⟨d9, os⟩, hw''⟩ := hw'
        subst hw''
        have hL9 := hL6.nx (below_regrown w6 d9 os)
        generalize Go.Sort.grow (redrawn w6 d9) os = wx at *
        go_wp2_with fail
        exact hdone _ hL9
      · have hRd := hL.read_no 36 #[.int .i64 p0, .int .i64 p1, .int .i64 p2] p0 p1 p2 (fun i hi hj hxy => hin ⟨i, hi, hj, ⟨hxy.1, hxy.2.1⟩, hxy.2.2⟩)
        have hzz : ((-1 : Int) < 0) = True := by decide
        by_cases hp : 0 ≤ p0 ∧ p0 < n
        · obtain ⟨j, rfl⟩ : ∃ j : Nat, p0 = j := ⟨p0.toNat, by omega⟩
          have hj : j < K.ims.length := by have := HN.out; omega
          have hjn : (j : Int) < (n : Int) := hp.2
          have hj0 : (0 : Int) ≤ (j : Int) := hp.1
          have hckj := hck _ (List.getElem_mem hj)
          have hgetj := fun (w9 : World) (h9 : LpS K W0 (k + 1) w9) => (hA.nx h9.bel (Nat.le_refl _)).get j hj
          have hPl := fun Ai cI w => rplace_out K.ims[j] Ai cI p1 p2 w hckj (by
            apply Classical.byContradiction
            intro e
            exact hin ⟨j, rfl, hj, ⟨by omega, by omega⟩, ⟨by omega, by omega⟩⟩)
          generalize K.ims[j] = m at *
          clear hckj hin hp
          go_upto_region 11 with (go_at_call 9; (with_reducible refine hRd.mono ?_); rintro e w5 ⟨rfl, hL5, k12⟩)
          obtain ⟨y0, y1, y2⟩ := k12.cell3
          obtain ⟨bI, oI, Ai, ci, rfl, _, hbi, q0, q1, q2, q3, hci, hri⟩ := hgetj _ hL5
          go_upto_region 13 with fail
          go_still_tail 9, (by kernel_rfl)
          go_upto_region 14 with (go_at_call 10; (with_reducible refine (hPl _ _ _).mono ?_); rintro e w6 ⟨rfl, hb6⟩)
          have hbb : Below w5.heap.size w5 w6 := (below_drewN (Below.refl w5.heap.size w5) 1).trans (hb6.mono (Nat.le_refl _))
          have hL6 := hL5.nx hbb
          obtain ⟨zl, a1, a2, a3, a4, hzl, ha4, hLen, hSts⟩ := hL6.tells
          clear hgetj q0 q1 q2 q3 y0 y1 y2 hri hPl hRd hci hb6 hbb hL5 k12
          have hzl' : ¬ zl > K.most := by omega
          have ha4' : ¬ a4 > K.most := by omega
          obtain ⟨_, _, x2'⟩ := (k0.nx hL6.bel).cell3
          have u2 := fun (d : Nat) (os : Array Obj) => cell_regrown x2' d os
          have hLn := fun (d : Nat) (os : Array Obj) => hLen _ (below_regrown w6 d os)
          have hSt := fun (d : Nat) (os : Array Obj) => hSts _ (below_regrown w6 d os)
          clear x2' hLen hSts d0 d1 d2
          refine wp_region_quiet_below (by kernel_rfl) (by kernel_rfl) ?_
          repeat (first
            | go_big_quiet_step ((first | with_reducible exact quiet_below (hLn _ _) | with_reducible exact quiet_below (hSt _ _)))
            | quiet_step ((first | with_reducible exact quiet_below (hLn _ _) | with_reducible exact quiet_below (hSt _ _))))
          refine wpQuiet_nil ?_
          intro _ hw'
          obtain ⟨⟨d9, os⟩, hw''⟩ := hw'
          subst hw''
          have hL9 := hL6.nx (below_regrown w6 d9 os)
          generalize Go.Sort.grow (redrawn w6 d9) os = wx at *
          go_wp2_with fail
          exact hdone _ hL9
        · rcases (show p0 < 0 ∨ (0 ≤ p0 ∧ (n : Int) ≤ p0) by omega) with hp1 | ⟨hp1, hp2⟩
          all_goals
            clear hin hp
            go_upto_region 11 with (go_at_call 9; (with_reducible refine hRd.mono ?_); rintro e w6 ⟨rfl, hL6, k12⟩)
            obtain ⟨y0, y1, y2⟩ := k12.cell3
            obtain ⟨zl, a1, a2, a3, a4, hzl, ha4, hLen, hSts⟩ := hL6.tells
            go_upto_region 14 with fail
            clear hRd k12 y0 y1 y2
            have hzl' : ¬ zl > K.most := by omega
            have ha4' : ¬ a4 > K.most := by omega
            obtain ⟨_, _, x2'⟩ := (k0.nx hL6.bel).cell3
            have u2 := fun (d : Nat) (os : Array Obj) => cell_regrown x2' d os
            have hLn := fun (d : Nat) (os : Array Obj) => hLen _ (below_regrown w6 d os)
            have hSt := fun (d : Nat) (os : Array Obj) => hSts _ (below_regrown w6 d os)
            clear x2' hLen hSts d0 d1 d2
            refine wp_region_quiet_below (by kernel_rfl) (by kernel_rfl) ?_
            repeat (first
              | go_big_quiet_step ((first | with_reducible exact quiet_below (hLn _ _) | with_reducible exact quiet_below (hSt _ _)))
              | quiet_step ((first | with_reducible exact quiet_below (hLn _ _) | with_reducible exact quiet_below (hSt _ _))))
            refine wpQuiet_nil ?_
            intro _ hw'
            obtain ⟨⟨d9, os⟩, hw''⟩ := hw'
            subst hw''
            have hL9 := hL6.nx (below_regrown w6 d9 os)
            generalize Go.Sort.grow (redrawn w6 d9) os = wx at *
            go_wp2_with fail
            exact hdone _ hL9
    · obtain rfl : k = n' := by omega
      go_wp2_with (go_at_call 8; (with_reducible refine (hAl _).mono ?_); rintro e w5 ⟨rfl, hb5⟩)
      go_returns
      exact ⟨rfl, hbw.trans ((hL.nx hb5).bel.mono (by have := HZW.out; have := HG4.out; omega))⟩
end Go.Proofs.Ytahiaeaobbofbaa
end
section
set_option linter.unusedVariables false
namespace Go.Proofs.Ytahiaeaobbofbaa
open Go.RowKit
set_option maxRecDepth 100000 in
set_option maxHeartbeats 16000000 in
theorem reads_walk (ims : List Im) (A : Option Addr) (n c : Nat) (tw th most : Int) (ps : List (Int × Int × Int)) (A' : Option Addr) (n' c' : Nat) (w : World) (hn : ims.length = n) (hA : ImsAt w 0 A ims) (hok : ∀ m ∈ ims, ImOk m) (hnc : n ≤ maxLen)
    (hn' : ps.length = n') (hP : Rd w w.heap.size A' (enc3 ps)) (hp64 : ∀ t ∈ ps, R64 t.1 ∧ R64 t.2.1 ∧ R64 t.2.2) (hnc' : n' ≤ maxLen) :
    Calls Try.prog 3 #[.slice A n c, .agg (w42A tw th most), .slice A' n' c'] w fun e w' => e = .returned (.bool true) ∧ Below w.heap.size w w' := by
  have hb0 := (Below.refl w.heap.size w).alloc (Nat.le_refl _) (.cells (w42A tw th most) 24)
  have k0 := Bk.new w 24 (w42A tw th most)
  have hA0 := hA.nx hb0 (Nat.le_refl _)
  have hfew := few_any6 ims A n c 0 _ hn hA0 (by simp [maxLen] at hnc; omega)
  obtain ⟨fb, hfb⟩ : ∃ fb, (fewB6 ims && decide ((n : Int) ≤ 6)) = fb := ⟨_, rfl⟩
  rw [hfb] at hfew
  have HFB := Lib.hid hfb
  clear hfb
  cases fb with
  | false =>
    clear hA hA0 hok hP hp64 k0
    go_enter Try.func3, Try.ntmps3
    go_wp2_with (go_at_call 4; (with_reducible refine hfew.mono ?_); rintro e w1 ⟨rfl, hb1⟩)
    go_returns
    exact ⟨rfl, hb0.trans (hb1.mono hb0.size)⟩
  | true =>
    by_cases hbig : n' > 200
    · have hbz : (n' : Int) > 200 := by omega
      clear hA hA0 hok hP hp64 k0
      go_enter Try.func3, Try.ntmps3
      go_wp2_with (go_at_call 4; (with_reducible refine hfew.mono ?_); rintro e w1 ⟨rfl, hb1⟩)
      go_returns
      exact ⟨rfl, hb0.trans (hb1.mono hb0.size)⟩
    · have hbz : ¬ (n' : Int) > 200 := by omega
      have hn6 : n ≤ 6 := by
        have := HFB.out
        simp at this
        omega
      have hpx : ∀ m ∈ ims, m.px.length ≤ 2000 := by
        have := HFB.out
        simp [fewB6] at this
        intro m hm
        have := this.1 m hm
        omega
      have hfew' : Calls Try.prog 4 #[.slice A n c] (w.alloc (.cells (w42A tw th most) 24)) fun e w' => e = .returned (.bool true) ∧ Below (w.alloc (.cells (w42A tw th most) 24)).heap.size (w.alloc (.cells (w42A tw th most) 24)) w' := hfew
      have hSN : ∀ W, Below (w.alloc (.cells (w42A tw th most) 24)).heap.size (w.alloc (.cells (w42A tw th most) 24)) W → Calls Try.prog 5 #[.slice A n c, .int .i64 tw, .int .i64 th] W (NewP ims tw th W) := fun W hW => snew ims A n c 0 tw th W hn (hA0.nx hW (Nat.le_refl _)) (by omega) (fun m hm => by have := hpx m hm; omega)
      have hCK : ∀ W, Below (w.alloc (.cells (w42A tw th most) 24)).heap.size (w.alloc (.cells (w42A tw th most) 24)) W → Calls Try.prog 7 #[.slice A n c, .int .i64 tw, .int .i64 th] W fun e w' => e = .returned (.int .i64 (newC ims tw th)) ∧ Below W.heap.size W w' := fun W hW => rcheck41 ims A n c 0 tw th W hn (hA0.nx hW (Nat.le_refl _)) (by omega)
      have hb1 := Below.refl (w.alloc (.cells (w42A tw th most) 24)).heap.size (w.alloc (.cells (w42A tw th most) 24))
      by_cases hnew : newC ims tw th = 0
      · have hSN' : ∀ W, Below (w.alloc (.cells (w42A tw th most) 24)).heap.size (w.alloc (.cells (w42A tw th most) 24)) W → Calls Try.prog 5 #[.slice A n c, .int .i64 tw, .int .i64 th] W fun e w' => Below W.heap.size W w' ∧ ∃ gs v, e = .returned (.tuple #[.pointer (some ⟨gs, 0, none⟩), .int .i64 0]) ∧ W.heap.size ≤ gs ∧ Bk w' gs 54 #[v, .int .i64 tw, .int .i64 th, .int .i64 0] ∧ ImsOwn w' W.heap.size v ims := fun W hW => (hSN W hW).mono fun e w' ⟨q1, q2⟩ => by
          rcases q2 with ⟨q3, _⟩ | ⟨_, q3⟩
          · exact absurd hnew q3
          · exact ⟨q1, q3⟩
        rw [hnew] at hCK
        by_cases hm : 1 ≤ most ∧ most ≤ 65536
        · exact reads_main ims A n c tw th most ps A' n' c' w _ rfl hn hA0 hn' ((hP.below hb0).more hb0.size) hbz hn6 hnew hm hfew' hSN' hCK
        · have hCN := fun a w => cnew_bad a most w (by omega)
          have hAl := fun w => alive42 w
          have hmz : most < 1 ∨ most > 65536 := by omega
          clear hSN hnew hA hA0 hok hP hp64 hpx HFB hfew hm
          rcases hmz with hmz | hmz
          all_goals
            go_enter Try.func3, Try.ntmps3
            go_upto_region 3 with (go_at_call 4; (with_reducible refine hfew'.mono ?_); rintro e w1 ⟨rfl, hb1⟩)
            obtain ⟨x0, x1, x2⟩ := (k0.nx hb1).cell3
            go_upto_region 4 with (go_at_call 5; (with_reducible refine (hSN' _ hb1).mono ?_); rintro e w2 ⟨hb2, gs, v, rfl, _, _, _⟩)
            have hb12 := below_then hb2 hb1
            obtain ⟨x0, x1, x2⟩ := (k0.nx hb12).cell3
            go_upto_region 5 with (go_at_call 6; (with_reducible refine (hCN _ _).mono ?_); rintro e w3 ⟨rfl, rfl⟩)
            go_upto_region 6 with (go_at_call 7; (with_reducible refine (hCK _ hb12).mono ?_); rintro e w4 ⟨rfl, hb4⟩; obtain ⟨x0, x1, x2⟩ := (k0.nx (below_then hb4 hb12)).cell3)
            have hb14 := below_then hb4 hb12
            go_wp2_with (go_at_call 8; (with_reducible refine (hAl _).mono ?_); rintro e w5 ⟨rfl, hb5⟩)
            go_returns
            exact ⟨rfl, hb0.trans ((below_then hb5 hb14).mono hb0.size)⟩
      · have hSN' : ∀ W, Below (w.alloc (.cells (w42A tw th most) 24)).heap.size (w.alloc (.cells (w42A tw th most) 24)) W → Calls Try.prog 5 #[.slice A n c, .int .i64 tw, .int .i64 th] W fun e w' => e = .returned (.tuple #[.pointer none, .int .i64 (newC ims tw th)]) ∧ Below W.heap.size W w' := fun W hW => (hSN W hW).mono fun e w' ⟨q1, q2⟩ => by
          rcases q2 with ⟨_, q3⟩ | ⟨q3, _⟩
          · exact ⟨q3, q1⟩
          · exact absurd q3 hnew
        have hz : (newC ims tw th != 0) = true := by simpa using hnew
        generalize newC ims tw th = z at *
        clear hSN hnew hA hA0 hok hP hp64 hpx HFB hfew
        have hCN := fun w => cnew_nil most w
        have hAl := fun w => alive42 w
        have k1 := k0.cell3
        obtain ⟨x0, x1, x2⟩ := k1
        go_enter Try.func3, Try.ntmps3
        go_upto_region 3 with (go_at_call 4; (with_reducible refine hfew'.mono ?_); rintro e w1 ⟨rfl, hb1⟩)
        obtain ⟨x0, x1, x2⟩ := (k0.nx hb1).cell3
        go_upto_region 4 with (go_at_call 5; (with_reducible refine (hSN' _ hb1).mono ?_); rintro e w2 ⟨rfl, hb2⟩)
        have hb12 := below_then hb2 hb1
        obtain ⟨x0, x1, x2⟩ := (k0.nx hb12).cell3
        go_upto_region 5 with (go_at_call 6; (with_reducible refine (hCN _).mono ?_); rintro e w3 ⟨rfl, rfl⟩)
        go_upto_region 6 with (go_at_call 7; (with_reducible refine (hCK _ hb12).mono ?_); rintro e w4 ⟨rfl, hb4⟩; obtain ⟨x0, x1, x2⟩ := (k0.nx (below_then hb4 hb12)).cell3)
        have hb14 := below_then hb4 hb12
        go_wp2_with (go_at_call 8; (with_reducible refine (hAl _).mono ?_); rintro e w5 ⟨rfl, hb5⟩)
        go_returns
        exact ⟨rfl, hb0.trans ((below_then hb5 hb14).mono hb0.size)⟩
end Go.Proofs.Ytahiaeaobbofbaa
end
section
set_option linter.unusedVariables false
namespace Go.Proofs.Ytahiaeaobbofbaa
open Go.RowKit
theorem lawCacheReads (A : Option Addr) (n c : Nat) (cs1 : Array Value) (A2 : Option Addr) (n2 c2 : Nat) (w : World) (h0 : Rv Try.prog w 22 [.slice A n c]) (h1 : Rv Try.prog w 24 cs1.toList) (h2 : Rv Try.prog w 25 [.slice A2 n2 c2]) :
    Calls Try.prog 3 #[.slice A n c, .agg cs1, .slice A2 n2 c2] w fun e w' => e = .returned (.bool true) ∧ Below w.heap.size w w' := by
  obtain ⟨hnc, hcm, ims, hn, hA, hok⟩ := open_ims h0
  obtain ⟨tw, th, most, e1, _, _, _⟩ := open_w42 h1
  obtain ⟨hnc2, hcm2, ps, hn2, hP, hp64⟩ := open_pxs h2
  have f1 : cs1 = w42A tw th most := by rw [← Array.toArray_toList (xs := cs1), e1]
  subst f1
  exact reads_walk ims A n c tw th most ps A2 n2 c2 w hn hA hok (by omega) hn2 hP hp64 (by omega)
end Go.Proofs.Ytahiaeaobbofbaa
end
