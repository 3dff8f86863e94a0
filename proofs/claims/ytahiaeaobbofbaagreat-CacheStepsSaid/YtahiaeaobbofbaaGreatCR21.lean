/- The cache's law: the walk through the steps, one after the other. -/
import Derived.Test.YtahiaeaobbofbaaGreatD19
import Derived.Test.YtahiaeaobbofbaaGreatSSE
set_option linter.unusedVariables false
namespace Go.Proofs.YtahiaeaobbofbaaGreat
open Go.RowKit
theorem first_of {cur : Array Value} {l : List Int} (h : cur.toList.take (l.length * 1) = l.map (Value.int .u8)) (h0 : 0 < l.length) : ∃ z, cur[0]? = some (.int .u8 z) := by
  have h1 : (cur.toList.take (l.length * 1))[0]? = (l.map (Value.int .u8))[0]? := by rw [h]
  rw [List.getElem?_take, if_pos (by omega), List.getElem?_map, List.getElem?_eq_getElem h0, Array.getElem?_toList] at h1
  exact ⟨_, h1⟩
set_option maxRecDepth 100000 in
set_option maxHeartbeats 16000000 in
theorem steps_main (ims : List Im) (A : Option Addr) (n c : Nat) (tw th most : Int) (ps : List St5) (A' : Option Addr) (n' c' : Nat) (w W0 : World) (hW0 : w.alloc (.cells (w42S tw th most) 24) = W0) (hn : ims.length = n) (hA : ImsAt W0 0 A ims)
    (hn' : ps.length = n') (hP : Rd W0 W0.heap.size A' (enc5 ps)) (hbz : ¬ (n' : Int) > 60) (hn6 : n ≤ 6)
    (hnew : newC ims tw th = 0) (hm : 1 ≤ most ∧ most ≤ 65536)
    (hfew : Calls Tryz.prog 4 #[.slice A n c] W0 fun e w' => e = .returned (.bool true) ∧ Below W0.heap.size W0 w')
    (hSN : ∀ W, Below W0.heap.size W0 W → Calls Tryz.prog 5 #[.slice A n c, .int .i64 tw, .int .i64 th] W fun e w' => Below W.heap.size W w' ∧ ∃ gs v, e = .returned (.tuple #[.pointer (some ⟨gs, 0, none⟩), .int .i64 0]) ∧ W.heap.size ≤ gs ∧ Bk w' gs 79 #[v, .int .i64 tw, .int .i64 th, .int .i64 0] ∧ ImsOwn w' W.heap.size v ims) :
    Calls Tryz.prog 3 #[.slice A n c, .agg (w42S tw th most), .slice A' n' c'] w fun e w' => e = .returned (.bool true) ∧ Below w.heap.size w w' := by
  have k0 : Bk W0 w.heap.size 24 (w42S tw th most) := by rw [← hW0]; exact Bk.new w _ _
  have hbw : Below w.heap.size w W0 := by rw [← hW0]; exact (Below.refl _ _).alloc (Nat.le_refl _) _
  have hzw : W0.heap.size = w.heap.size + 1 := by rw [← hW0]; simp
  have hCN := fun gs w => cnew_ok gs most w hm
  have hAl := fun w => alive42 w
  have hI0 : imagesC ims = 0 := by
    unfold newC at hnew
    by_cases e : imagesC ims = 0
    · exact e
    · rw [if_pos e] at hnew; exact absurd hnew e
  have hne : ims ≠ [] := by rintro rfl; exact absurd hI0 (by decide)
  have hck : ∀ m ∈ ims, checkC m.W m.H m.C m.px.length = 0 := by
    rw [imagesC_eq hne] at hI0
    exact fun m hm => (imsC_all hI0 m hm).1
  have htw : (1 ≤ tw ∧ tw ≤ 4096) ∧ (1 ≤ th ∧ th ≤ 4096) := by
    unfold newC at hnew
    split at hnew
    · rename_i e; exact absurd hnew e
    · split at hnew
      · cases hnew
      · omega
  have hn1 : 0 < n := by rw [← hn]; exact List.length_pos_iff.2 hne
  have hm1 : ¬ most < 1 := by omega
  have hm2 : ¬ most > 65536 := by omega
  have HTW := Lib.hid htw
  have HM := Lib.hid hm
  have HN := Lib.hid hn
  have HN2 := Lib.hid hn'
  have HZW := Lib.hid hzw
  have HFEW := Lib.hid hfew
  obtain ⟨g4, hg4⟩ : ∃ g4, w.heap.size = g4 := ⟨_, rfl⟩
  have hg40 : g4 < W0.heap.size := by omega
  have HG4 := Lib.hid hg4
  have HW0 := Lib.hid hW0
  rw [hg4] at k0
  clear htw hnew hm hn hn' hzw hfew hg4 hW0 hI0 hne
  have hb1 := Below.refl W0.heap.size W0
  obtain ⟨x0, x1, x2⟩ := k0.cell3
  go_enter Tryz.func3, Tryz.ntmps3
  go_upto_region 1 with fail
  rw [HW0.out, HG4.out]
  go_upto_region 3 with (go_at_call 4; (with_reducible refine HFEW.out.mono ?_); rintro e w1 ⟨rfl, hb1⟩)
  obtain ⟨x0, x1, x2⟩ := (k0.nx hb1).cell3
  go_upto_region 4 with (go_at_call 5; (with_reducible refine (hSN _ hb1).mono ?_); rintro e w2 ⟨hb2, gs, v, rfl, hgs, kS, hI⟩)
  have hb12 := below_then hb2 hb1
  obtain ⟨x0, x1, x2⟩ := (k0.nx hb12).cell3
  obtain ⟨A2, c2, rfl, _⟩ := hI.form
  rw [HN.out] at kS hI
  obtain ⟨gc, hgc⟩ : ∃ gc, w2.heap.size + 3 = gc := ⟨_, rfl⟩
  have hS0 : ∀ w3, w3 = _ → ∃ (K : SC) (r0 : Nat → Nat) (kb ab ga : Nat), K.ims = ims ∧ K.most = most ∧ K.gc = gc ∧ K.tw = tw ∧ K.th = th ∧ K.gs = gs ∧ K.n = n ∧ CaP K 0 s00 r0 w3 kb ab ga (.slice none 0 0) (.slice none 0 0) 0 0 (fun _ => none) ∧ Below W0.heap.size W0 w3 ∧ W0.heap.size ≤ K.lo ∧ K.lo ≤ w3.heap.size := fun w3 hw3 => by
    obtain ⟨r0, hC0⟩ := CaP.start (lo := w1.heap.size) kS hI hgs HN.out (by omega) hck HTW.out HM.out hw3
    have hb3 : Below w2.heap.size w2 w3 := by rw [hw3]; exact ((((Below.refl _ _).alloc (Nat.le_refl _) _).alloc (by simp) _).alloc (by simp; omega) _).alloc (by simp; omega) _
    exact ⟨_, r0, _, _, _, rfl, rfl, hgc, rfl, rfl, rfl, rfl, hC0, hb12.trans (hb3.mono hb12.size), hb1.size, Nat.le_trans hb2.size hb3.size⟩
  have hCN2 : Calls Tryz.prog 6 #[.pointer (some ⟨gs, 0, none⟩), .int .i64 most] w2 fun e w' => e = .returned (.tuple #[.pointer (some ⟨gc, 0, none⟩), .int .i64 0]) ∧ ∃ (K : SC) (r0 : Nat → Nat) (kb ab ga : Nat), K.ims = ims ∧ K.most = most ∧ K.gc = gc ∧ K.tw = tw ∧ K.th = th ∧ K.gs = gs ∧ K.n = n ∧ CaP K 0 s00 r0 w' kb ab ga (.slice none 0 0) (.slice none 0 0) 0 0 (fun _ => none) ∧ Below W0.heap.size W0 w' ∧ W0.heap.size ≤ K.lo ∧ K.lo ≤ w'.heap.size := (hCN gs w2).mono fun e w' ⟨q1, q2⟩ => ⟨by rw [q1, ← hgc], hS0 w' q2⟩
  clear hS0 hgc kS hI hgs hCN hb1
  go_upto_region 5 with (go_at_call 6; (with_reducible refine hCN2.mono ?_); rintro e w3 ⟨rfl, K, r0, kb, ab, ga, hKi, hKm, hKg, hKt, hKh, hKs, hKn, hC3, hb3, hlo, hlow⟩)
  clear hCN2 hb12 hb2 x0 x1 x2 hSN
  subst hKi hKm hKg hKt hKh hKs hKn
  obtain ⟨x0, x1, x2⟩ := (k0.nx hb3).cell3
  go_upto_region 11 with fail
  have hbz3 : Below w3.heap.size w3 (w3.alloc (.cells caZ 41)) := (Below.refl _ _).alloc (Nat.le_refl _) _
  have hC4 := hC3.nx hbz3
  have hb4 := hb3.trans (hbz3.mono hb3.size)
  have hlow4 := Nat.le_trans hlow hbz3.size
  obtain ⟨w4, hw4⟩ : ∃ w4, w3.alloc (.cells caZ 41) = w4 := ⟨_, rfl⟩
  rw [hw4] at hC4 hb4 hlow4 ⊢
  clear hw4 hbz3 hC3 hb3 hlow x0 x1 x2
  obtain ⟨x0, x1, x2⟩ := (k0.nx hb4).cell3
  go_upto_region 17 with fail
  have hbz4 : Below w4.heap.size w4 (w4.alloc (.cells (caM K.most (.slice none 0 0) 0 0 0 0) 55)) := (Below.refl _ _).alloc (Nat.le_refl _) _
  have hSp : Sp ⟨K, W0, w4, r0, w4.heap.size⟩ (6 * 0) (.slice none 0 0) s00 (msOf s00) s00.S none 0 (w4.alloc (.cells (caM K.most (.slice none 0 0) 0 0 0 0) 55)) :=
    ⟨⟨r0, kb, ab, ga, _, _, _, _, _, hC4.nx hbz4, hC4.fresh _ (Nat.le_refl _), fun k hk => absurd hk (by simp [msOf, hand, s00, encT]), fun b hb => (by cases hb), Step.of_below hbz4⟩, hC4.im, Nat.le_refl _, Bk.new w4 _ _, World.ownsRow_nil _ _ _ _, fun a ha => (by cases ha), fun a ha => (by cases ha), hb4.trans (hbz4.mono hb4.size), hb4.size, hlo, Nat.le_trans hlow4 hbz4.size⟩
  have hgs0 : K.gs < w4.heap.size := hC4.so.lt
  obtain ⟨O, hO⟩ : ∃ O : SpK, (⟨K, W0, w4, r0, w4.heap.size⟩ : SpK) = O := ⟨_, rfl⟩
  rw [hO] at hSp
  have hOK : O.K = K := by rw [← hO]
  have hOg : O.g = w4.heap.size := by rw [← hO]
  have hOW : O.W0 = W0 := by rw [← hO]
  obtain ⟨w5, hw5⟩ : ∃ w5, w4.alloc (.cells (caM K.most (.slice none 0 0) 0 0 0 0) 55) = w5 := ⟨_, rfl⟩
  rw [hw5] at hSp ⊢
  rw [← hOg]
  clear hO hw5 hbz4 hC4 hOg hb4 hlow4 hlo hgs0 x0 x1 x2
  subst hOK hOW
  go_wp2_with fail
  go_loopw [18, 142] (fun sv iv wr => ∃ (k : Nat) (s : CS) (Am : Option Addr) (cm : Nat), k ≤ n' ∧ iv = .int .i64 k ∧ Sp O (6 * k) sv s (msOf s) s.S Am cm wr ∧ s.cnt = s.loads) (fun _ iv _ => n' - (intOf iv).toNat)
  case atStart => exact ⟨0, s00, none, 0, by omega, rfl, hSp, rfl⟩
  case round =>
    clear hSp
    obtain ⟨k, s, Am, cm, hk, rfl, hSp, hcl⟩ := hrel
    have HCL := Lib.hid hcl
    clear hcl
    by_cases hlt : k < n'
    · obtain ⟨b, o, rfl, hbl, d0, d1, d2, d3, d4⟩ := rd_st5 (hP.below' hSp.bel (Nat.le_refl _)) k (by rw [HN2.out]; exact hlt)
      obtain ⟨⟨q0, q1, q2, q3, q4⟩, hp⟩ : ∃ p : St5, ps[k]'(by rw [HN2.out]; exact hlt) = p := ⟨_, rfl⟩
      rw [hp] at d0 d1 d2 d3 d4
      clear hp
      dsimp only at d0 d1 d2 d3 d4
      have hltZ : (k : Int) < (n' : Int) := by omega
      have hU6 : 6 * k ≤ 50000 := by omega
      have hU66 : 6 * k + 6 ≤ 60000 := by omega
      have hdone : ∀ (w9 : World) (sv : Value) (s' : CS) (A9 : Option Addr) (c9 : Nat), Sp O (6 * k + 6) sv s' (msOf s') s'.S A9 c9 w9 → s'.cnt = s'.loads → (∃ (k' : Nat) (s : CS) (Am : Option Addr) (cm : Nat), k' ≤ n' ∧ (Value.int .i64 ((k : Int) + 1)) = .int .i64 k' ∧ Sp O (6 * k') sv s (msOf s) s.S Am cm w9 ∧ s.cnt = s.loads) ∧ n' - (intOf (.int .i64 ((k : Int) + 1))).toNat < n' - (intOf (.int .i64 (k : Int))).toNat := fun w9 sv s' A9 c9 h9 e9 => ⟨⟨k + 1, s', A9, c9, by omega, by simp, by rw [show 6 * (k + 1) = 6 * k + 6 by omega]; exact h9, e9⟩, by simp [intOf]; omega⟩
      have hbA : Below wr.heap.size wr (wr.alloc (.cells #[.int .i64 q0, .int .i64 q1, .int .i64 q2, .int .i64 q3, .int .i64 q4] 57)) := (Below.refl _ _).alloc (Nat.le_refl _) _
      by_cases hq0 : q0 = 0
      · subst hq0
        by_cases hv : VT O.K.ims O.K.tw O.K.th (q1, q2)
        · have hG0 := hSp.get 57 #[.int .i64 0, .int .i64 q1, .int .i64 q2, .int .i64 q3, .int .i64 q4] (by omega) (q1, q2) hv
          have hms := hSp.ms (q1, q2)
          have hbds := hSp.bds (by omega)
          have hOg : O.g < wr.heap.size := hSp.m.lt
          obtain ⟨j, hj, hj1, hi0, hi1⟩ := hv
          simp only at hj1 hi0 hi1
          subst hj1
          have hG : Calls Tryz.prog 7 #[.pointer (some ⟨O.K.gc, 0, none⟩), .agg (tiA (j : Int) q2)] (wr.alloc (.cells #[.int .i64 0, .int .i64 (j : Int), .int .i64 q2, .int .i64 q3, .int .i64 q4] 57)) fun e w' => ∃ (Ap : Option Addr) (cp B : Nat), e = .returned (.tuple #[tlV O.K.ims[j] O.K.tw O.K.th q2 Ap cp, .int .i64 0]) ∧ wr.heap.size < B ∧ B ≤ w'.heap.size ∧
              w'.ownsRow B 5 1 (.slice Ap (tlB O.K.ims[j] O.K.tw O.K.th q2).length cp) (tlB O.K.ims[j] O.K.tw O.K.th q2).length ((tlB O.K.ims[j] O.K.tw O.K.th q2).map (Value.int .u8)) ∧ ∀ w'', Below B w' w'' → Sp O (6 * k + 5) u18 (useS O.K s ((j : Int), q2)) (msOf s) s.S Am cm w'' ∧ Bk w'' wr.heap.size 57 #[.int .i64 0, .int .i64 (j : Int), .int .i64 q2, .int .i64 q3, .int .i64 q4] := by
            refine hG0.mono ?_
            rintro e w' ⟨j', hj', Ap, cp, B, e1, e2, e3, e4, e5, e6⟩
            simp only at e1
            obtain rfl : j' = j := by omega
            exact ⟨Ap, cp, B, e2, e3, e4, e5, e6⟩
          have hTo := fun (W : World) (hW : Below O.W0.heap.size O.W0 W) => rtile_in O.K.ims A O.K.n c O.K.tw O.K.th q2 W HN.out (hA.nx hW (Nat.le_refl _)) hck HTW.out j hj ⟨hi0, hi1⟩
          have hl01 : 0 < (tlB O.K.ims[j] O.K.tw O.K.th q2).length ∧ (tlB O.K.ims[j] O.K.tw O.K.th q2).length ≤ 1000000000 := by
            have hckj := hck _ (List.getElem_mem hj)
            obtain ⟨hf, hpl⟩ := ck_parts hckj
            obtain ⟨hcc, hw1, hw2, hh1, hh2, hpp⟩ := fitsC_ok hf
            obtain ⟨⟨u0, u1⟩, ⟨v0, v1⟩, _⟩ := tl_xy (grC_zero.2 ⟨⟨hw1, hw2⟩, ⟨hh1, hh2⟩, HTW.out.1, HTW.out.2⟩) ⟨hi0, hi1⟩
            have htw := HTW.out
            have hck2 := crop_ck O.K.ims[j] (tlX O.K.ims[j].W O.K.tw q2) (tlY O.K.ims[j].W O.K.tw O.K.th q2) (min (tlX O.K.ims[j].W O.K.tw q2 + O.K.tw) O.K.ims[j].W) (min (tlY O.K.ims[j].W O.K.tw O.K.th q2 + O.K.th) O.K.ims[j].H) hckj ⟨u0, by omega⟩ (by omega) ⟨v0, by omega⟩ (by omega)
            obtain ⟨f1, f2⟩ := ck_parts hck2
            obtain ⟨z1, z2, z3, z4, z5, z6⟩ := fitsC_ok f1
            have hp := Int.mul_pos (Int.mul_pos (show 0 < min (tlX O.K.ims[j].W O.K.tw q2 + O.K.tw) O.K.ims[j].W - tlX O.K.ims[j].W O.K.tw q2 by omega) (show 0 < min (tlY O.K.ims[j].W O.K.tw O.K.th q2 + O.K.th) O.K.ims[j].H - tlY O.K.ims[j].W O.K.tw O.K.th q2 by omega)) (show 0 < O.K.ims[j].C by omega)
            have hq : (min (tlX O.K.ims[j].W O.K.tw q2 + O.K.tw) O.K.ims[j].W - tlX O.K.ims[j].W O.K.tw q2) * (min (tlY O.K.ims[j].W O.K.tw O.K.th q2 + O.K.th) O.K.ims[j].H - tlY O.K.ims[j].W O.K.tw O.K.th q2) * O.K.ims[j].C ≤ 4194304 * 4 := Int.mul_le_mul z6 (by omega) (by omega) (by omega)
            unfold tlB
            omega
          unfold RTileP tlPx tlR at hTo
          unfold tlB at hl01
          obtain ⟨hl0, hl1⟩ := hl01
          simp only [tlV, tlB] at hG
          clear hG0 hA hP hck hSp
          generalize tlX O.K.ims[j].W O.K.tw q2 = tx at *
          generalize tlY O.K.ims[j].W O.K.tw O.K.th q2 = ty at *
          generalize min (tx + O.K.tw) O.K.ims[j].W = tz at *
          generalize min (ty + O.K.th) O.K.ims[j].H = tv at *
          generalize O.K.ims[j].C = tc at *
          generalize cropL O.K.ims[j] tx ty tz (tv - ty).toNat = l at *
          clear hi0 hi1 hj
          go_upto_region 22 with (go_at_call 7; (with_reducible refine hG.mono ?_); rintro e w5 ⟨Ap, cp, B, rfl, hB1, hB2, hoP, hX⟩)
          have hb56 : Below w5.heap.size w5 (w5.alloc (.cells #[.int .i64 (tz - tx), .int .i64 (tv - ty), .int .i64 tc, .slice Ap l.length cp] 44)) := (Below.refl _ _).alloc (Nat.le_refl _) _
          have k21 := Bk.new w5 44 #[.int .i64 (tz - tx), .int .i64 (tv - ty), .int .i64 tc, .slice Ap l.length cp]
          obtain ⟨g21, hg21⟩ : ∃ g21, w5.heap.size = g21 := ⟨_, rfl⟩
          obtain ⟨w6, hw6⟩ : ∃ w6, w5.alloc (.cells #[.int .i64 (tz - tx), .int .i64 (tv - ty), .int .i64 tc, .slice Ap l.length cp] 44) = w6 := ⟨_, rfl⟩
          rw [hw6] at k21 hb56
          simp only [hw6, hg21]
          rw [hg21] at k21
          have hB6 : Below B w5 w6 := hb56.mono hB2
          obtain ⟨hS6, k20⟩ := hX w6 hB6
          have hbel6 := hS6.bel
          have hg21O : O.g ≠ g21 := by omega
          have hgB : O.g < B := by omega
          obtain ⟨y0, y1, y2, y3, y4⟩ := k20.cell5
          obtain ⟨x0, x1, x2⟩ := (k0.nx hbel6).cell3
          have hTo6 := hTo _ hbel6
          clear hTo hG hw6 hg21 d0 d1 d2 d3 d4 hS6
          go_upto_region 23 with (go_at_call 14; (with_reducible refine hTo6.mono ?_); rintro e w7 ⟨Aq, cq, rfl, hrq, hb7⟩)
          have hb8 : Below w6.heap.size w6 ((w7.alloc (.cells (rc_rectA tx ty tz tv) 59)).alloc (.cells #[.int .i64 (tz - tx), .int .i64 (tv - ty), .int .i64 tc, .slice Aq l.length cq] 44)) := (hb7.alloc hb7.size _).alloc (by have := hb7.size; simp; omega) _
          have hb78 : Below w7.heap.size w7 ((w7.alloc (.cells (rc_rectA tx ty tz tv) 59)).alloc (.cells #[.int .i64 (tz - tx), .int .i64 (tv - ty), .int .i64 tc, .slice Aq l.length cq] 44)) := ((Below.refl _ _).alloc (Nat.le_refl _) _).alloc (by simp) _
          have k24 := Bk.new (w7.alloc (.cells (rc_rectA tx ty tz tv) 59)) 44 #[.int .i64 (tz - tx), .int .i64 (tv - ty), .int .i64 tc, .slice Aq l.length cq]
          have k218 := k21.nx hb8
          have k208 := k20.nx hb8
          have hB8 : Below B w5 _ := hB6.trans (hb8.mono (Nat.le_trans hB2 hB6.size))
          have hrq8 := (hrq.below' hb78 (Nat.le_refl _)).more hb78.size
          have hsz58 := hB8.size
          obtain ⟨w8, hw8⟩ : ∃ w8, (w7.alloc (.cells (rc_rectA tx ty tz tv) 59)).alloc (.cells #[.int .i64 (tz - tx), .int .i64 (tv - ty), .int .i64 tc, .slice Aq l.length cq] 44) = w8 := ⟨_, rfl⟩
          rw [hw8] at k24 k218 k208 hB8 hrq8 hsz58 hb8 ⊢
          simp only [World.size_alloc] at k24
          have hb58 := hb56.trans (hb8.mono hb56.size)
          have hop8 := own_below hoP hb58 (Nat.le_refl _)
          have hSm := same_yes (tz - tx) (tv - ty) tc Ap Aq l.length cp cq (l.map (Value.int .u8)) w8 (Rd.of_own hop8) hrq8 (by simp) (fun v hv => by obtain ⟨z, _, rfl⟩ := List.mem_map.1 hv; exact ⟨z, rfl⟩) (by omega)
          obtain ⟨c0, c1, c2', c3⟩ := k218.cell4
          obtain ⟨e0, e1, e2, e3⟩ := k24.cell4
          clear hw8 hb8 hb78 hb7 k21 k20 y0 y1 y2 y3 y4 x0 x1 x2 hTo6 hrq hrq8 hoP hb56 hB6 hbel6
          go_upto_region 26 with (first
            | (refine ldB rfl _ _ rfl k218 rfl Tryz.underlying44 rfl img_size ?_; simp only [Act.put, List.setIfInBounds_toArray, List.set_cons_zero, List.set_cons_succ])
            | (refine ldB rfl _ _ rfl k24 rfl Tryz.underlying44 rfl img_size ?_; simp only [Act.put, List.setIfInBounds_toArray, List.set_cons_zero, List.set_cons_succ])
            | (go_at_call 15; (with_reducible refine hSm.mono ?_); rintro e w9 ⟨rfl, hb9⟩))
          have hB9 := hB8.trans (hb9.mono (Nat.le_trans hB2 hsz58))
          have k219 := k218.nx hb9
          have k209 := k208.nx hb9
          have hop9 := own_below hop8 hb9 (Nat.le_refl _)
          obtain ⟨hb_1, hb_2, hb_3, hb_4, hb_5, hb_6, hb_7⟩ := hbds
          have hUs := Sp.use2 (fun w'' hw => (hX w'' hw).1) hB9 hgB hb_7 ((j : Int), q2) (by show (hand s).length ≤ _; rw [hand_len]; exact hb_1) hb_2 hb_3 hb_4 hb_5
          have hm9 := (hX w9 hB9).1.m
          have hc1 : (useS O.K s ((j : Int), q2)).cnt = (useS O.K s ((j : Int), q2)).loads := useS_cnt _ _ _ HCL.out
          have hsS : (useS O.K s ((j : Int), q2)).S = s.S := useS_S _ _ _
          obtain ⟨s1, hs1⟩ : ∃ s1, useS O.K s ((j : Int), q2) = s1 := ⟨_, rfl⟩
          rw [hs1] at hc1 hsS
          rw [hms, hs1] at hUs
          simp only [msOf] at hUs hm9
          have HC1 := Lib.hid hc1
          have HSS := Lib.hid hsS
          obtain ⟨y0, y1, y2, y3, y4⟩ := k209.cell5
          have hsz9 := hB9.size
          clear hb_1 hb_2 hb_3 hb_4 hb_5 hb_7 hms hs1 hc1 hsS hX hSm hop8 k218 k24 k208 c0 c1 c2' c3 e0 e1 e2 e3 hB8 hb9 hsz58
          go_upto_region 27 with (first
            | (refine ldB rfl _ _ rfl hm9 rfl Tryz.underlying55 rfl cm_size ?_; simp only [Act.put, List.setIfInBounds_toArray, List.set_cons_zero, List.set_cons_succ])
            | (go_at_call 16; (with_reducible refine hUs.mono ?_); rintro e wA ⟨Au, cu, rfl, hbU, hput⟩; have kgA := hm9.nx hbU)
            | (refine stB (ty := 55) (cells := caM O.K.most (.slice Au (hand s1).length cu) s1.hits s1.loads s1.drops s1.high) rfl _ _ rfl kgA rfl rfl cm_size rfl (by simp [Value.oneCell']) ?_; intro wB kB hgB2 hsB))
          have hZ := hput wB hgB2 kB
          have k21B := (k219.nx hbU).grown hgB2 (fun e => hg21O (by injection e with e; exact e.symm))
          have hopA := own_below hop9 hbU (Nat.le_refl _)
          have hopB := hopA.kept hgB2 (.inr (fun e => by have := (hopA.lt _ e).1; omega))
          rcases hopB.2 with ⟨h1, h2⟩ | ⟨gp, cap, cur, hvp, hgp, hhp, hlep, hcap, hszp, hxp⟩
          · omega
          injection hvp with hv1 hv2 hv3
          subst hv1 hv3
          have hgpl : gp < w9.heap.size := (hop9.lt gp rfl).2
          have kP : Bk wB gp 5 cur := hhp
          have hcu : 0 < cur.size := by omega
          obtain ⟨z0, hz0⟩ := first_of hxp hl0
          have p0 := (kP.cell 0).trans hz0
          have pf := kP.frozen 0
          obtain ⟨c0, c1, c2', c3⟩ := k21B.cell4
          have hl0Z : (0 : Int) < (l.length : Int) := by omega
          clear hput hm9 kgA hgB2 kB hUs hsB hbU k219 k209 hop9 hopA y0 y1 y2 y3 y4 hv2 hxp hhp hlep hcap hszp k21B hopB
          try simp only [Act.put]
          go_cut [18] (fun p wx => p = u18 ∧ Sp O (6 * k + 6) u18 s1 (msOf s1) s1.S Au cu wx)
          case first =>
            go_region
            all_goals
              go_wp2_with fail
              go_meet
              exact ⟨rfl, by rw [HSS.out]; exact ((hZ _ _ hgp hgpl).nx (Below.refl _ _).drew).more (by omega)⟩
          case rest =>
            obtain ⟨hpv, hSZ⟩ := hcut
            subst hpv
            clear hZ p0 pf c0 c1 c2' c3 kP hz0 hcu
            obtain ⟨AS, cS, hv, hT⟩ := Sp.told hSZ (by omega)
            subst hv
            have hmZ := hSZ.m
            simp only [msOf] at hmZ
            go_wp2_with (first
              | (refine ldB rfl _ _ rfl hmZ rfl Tryz.underlying55 rfl cm_size ?_; simp only [Act.put, List.setIfInBounds_toArray, List.set_cons_zero, List.set_cons_succ])
              | (go_at_call 22; (with_reducible refine hT.mono ?_); rintro e wT ⟨rfl, hbT⟩))
            exact hdone _ _ _ _ _ (hSZ.nx hbT) HC1.out
        · have hSA := hSp.nx hbA
          have hG := hSA.get_no (q1, q2) hv
          have hTo := fun (W : World) (hW : Below O.W0.heap.size O.W0 W) => rtile_out O.K.ims A O.K.n c O.K.tw O.K.th q1 q2 W HN.out (hA.nx hW (Nat.le_refl _)) hck HTW.out hv
          have k20A := Bk.new wr 57 #[.int .i64 0, .int .i64 q1, .int .i64 q2, .int .i64 q3, .int .i64 q4]
          clear hA hP hck hv hSp
          go_upto_region 22 with (go_at_call 7; (with_reducible refine hG.mono ?_); rintro e w5 ⟨rfl, hb5⟩)
          have hb5' : Below _ (wr.alloc (.cells #[.int .i64 0, .int .i64 q1, .int .i64 q2, .int .i64 q3, .int .i64 q4] 57)) (w5.alloc (.cells im0A 44)) := hb5.alloc hb5.size _
          have k21 := Bk.new w5 44 im0A
          have hS6 := hSA.nx hb5'
          have k20 := k20A.nx hb5'
          obtain ⟨g21, hg21⟩ : ∃ g21, w5.heap.size = g21 := ⟨_, rfl⟩
          obtain ⟨w6, hw6⟩ : ∃ w6, w5.alloc (.cells im0A 44) = w6 := ⟨_, rfl⟩
          rw [hw6] at k21 hS6 k20
          simp only [hw6, hg21]
          rw [hg21] at k21
          obtain ⟨y0, y1, y2, y3, y4⟩ := k20.cell5
          obtain ⟨x0, x1, x2⟩ := (k0.nx hS6.bel).cell3
          have hTo6 := hTo _ hS6.bel
          clear hTo hG hSA hb5 hb5' hw6 hg21 k20A d0 d1 d2 d3 d4
          go_upto_region 23 with (go_at_call 14; (with_reducible refine hTo6.mono ?_); rintro e w7 ⟨rfl, hb7⟩)
          have hb8 : Below w6.heap.size w6 ((w7.alloc (.cells (rc_rectA 0 0 0 0) 59)).alloc (.cells im0A 44)) := (hb7.alloc hb7.size _).alloc (by have := hb7.size; simp; omega) _
          have k24 := Bk.new (w7.alloc (.cells (rc_rectA 0 0 0 0) 59)) 44 im0A
          have k218 := k21.nx hb8
          have hS8 := hS6.nx hb8
          obtain ⟨w8, hw8⟩ : ∃ w8, (w7.alloc (.cells (rc_rectA 0 0 0 0) 59)).alloc (.cells im0A 44) = w8 := ⟨_, rfl⟩
          rw [hw8] at k24 k218 hS8 ⊢
          simp only [World.size_alloc] at k24
          have hSm := same_yes 0 0 0 none none 0 0 0 [] w8 (fun k hk => absurd hk (by simp)) (fun k hk => absurd hk (by simp)) rfl (by simp) (by omega)
          clear hw8 hb8 hb7 hS6 k21 k20 y0 y1 y2 y3 y4 x0 x1 x2 hTo6
          obtain ⟨c0, c1, c2', c3⟩ := k218.cell4
          obtain ⟨e0, e1, e2, e3⟩ := k24.cell4
          go_upto_region 25 with (first
            | (refine ldB rfl _ _ rfl k218 rfl Tryz.underlying44 rfl img_size ?_; simp only [Act.put, List.setIfInBounds_toArray, List.set_cons_zero, List.set_cons_succ])
            | (refine ldB rfl _ _ rfl k24 rfl Tryz.underlying44 rfl img_size ?_; simp only [Act.put, List.setIfInBounds_toArray, List.set_cons_zero, List.set_cons_succ])
            | (go_at_call 15; (with_reducible refine hSm.mono ?_); rintro e w9 ⟨rfl, hb9⟩))
          have hSZ := (hS8.nx hb9).more (V := 6 * k + 6) (by omega)
          clear hS8 hSm hb9 k24 k218 c0 c1 c2' c3 e0 e1 e2 e3
          obtain ⟨AS, cS, hv, hT⟩ := Sp.told hSZ (by omega)
          subst hv
          have hmZ := hSZ.m
          simp only [msOf] at hmZ
          go_wp2_with (first
            | (refine ldB rfl _ _ rfl hmZ rfl Tryz.underlying55 rfl cm_size ?_; simp only [Act.put, List.setIfInBounds_toArray, List.set_cons_zero, List.set_cons_succ])
            | (go_at_call 22; (with_reducible refine hT.mono ?_); rintro e wT ⟨rfl, hbT⟩))
          exact hdone _ _ _ _ _ (hSZ.nx hbT) HCL.out
      · have hq0b : (q0 == 0) = false := by simpa using hq0
        by_cases hq1 : q0 = 1
        · subst hq1
          clear hq0 hq0b
          by_cases hin : ∃ j : Nat, (j : Int) = q1 ∧ ∃ hj : j < O.K.ims.length, (0 ≤ q3 ∧ q3 < O.K.ims[j].W) ∧ (0 ≤ q4 ∧ q4 < O.K.ims[j].H)
          · obtain ⟨j, rfl, hj, hx, hy⟩ := hin
            have hRd := hSp.read_in 57 #[.int .i64 1, .int .i64 (j : Int), .int .i64 q2, .int .i64 q3, .int .i64 q4] (by omega) j hj q3 q4 hx hy
            have hms := hSp.ms (j, tlI O.K.ims[j].W O.K.tw O.K.th q3 q4)
            have hbds := hSp.bds (by omega)
            have hTiI := fun (w9 : World) (sv : Value) (s9 : CS) (A9 : Option Addr) (c9 : Nat) (U9 : Nat) (ms9 : MS) (Sn9 : List (Int × Int)) (h9 : Sp O U9 sv s9 ms9 Sn9 A9 c9 w9) => h9.tile_in j hj q3 q4 hx hy
            have hjn : (j : Int) < (O.K.n : Int) := by have := HN.out; omega
            have hj0 : (0 : Int) ≤ (j : Int) := by omega
            have hckj := hck _ (List.getElem_mem hj)
            have hgetj := fun (w9 : World) (h9 : Below O.W0.heap.size O.W0 w9) => (hA.nx h9 (Nat.le_refl _)).get j hj
            obtain ⟨z, q, Cn, hat, et, et2, et3, hle, hz0, hz1, hC1, hC2, hC3, hpe, hpl, hpx⟩ := pxB_parts hckj hx hy
            have hPl := fun Ai cI w => rplace_in O.K.ims[j] Ai cI q3 q4 w hckj hx hy
            simp only [hat] at hPl
            have hpxr := fun (w9 : World) (bI oI : Nat) (hr : Rd w9 w9.heap.size (some ⟨bI, oI, none⟩) (O.K.ims[j].px.map (Value.int .u8))) => px_rd hckj hx hy hr
            simp only [hat, et] at hpxr
            have hpvl : (pxV O.K.ims[j] q3 q4).length = Cn := by unfold pxV; simp [et2]
            have hpll : (pxL O.K.ims[j] q3 q4).length = Cn := by rw [pxL_len, et2]
            rw [hpvl, pxV_eq] at hRd
            have HPLL := Lib.hid hpll
            obtain ⟨ti, hti⟩ : ∃ ti, tlI O.K.ims[j].W O.K.tw O.K.th q3 q4 = ti := ⟨_, rfl⟩
            rw [hti] at hRd hms
            simp only [hti] at hTiI
            generalize O.K.ims[j] = m at *
            generalize pxL m q3 q4 = xs at *
            have v4 : wrap64 (z + m.C) = z + m.C := IntWalk.wrap64_in _ ⟨by omega, by omega⟩
            have hzc : 0 ≤ z + m.C := by omega
            have hq0' : q + Cn - q = Cn := by omega
            have hOg : O.g < wr.heap.size := hSp.m.lt
            have HMS := Lib.hid hms
            clear hx hy hckj hpl hpe hpvl hpll hat hti hP hck hSp hms
            go_upto_region 30 with (go_at_call 11; (with_reducible refine hRd.mono ?_); rintro e w5 ⟨A9, c9, rfl, hr9, hS5, k20⟩)
            obtain ⟨y0, y1, y2, y3, y4⟩ := k20.cell5
            have hTi := hTiI _ _ _ _ _ _ _ _ hS5
            clear hRd hTiI d0 d1 d2 d3 d4
            go_upto_region 31 with (go_at_call 17; (with_reducible refine hTi.mono ?_); rintro e w6 ⟨rfl, hb6⟩)
            have hbB : Below w5.heap.size w5 (w6.alloc (.cells (tiA (j : Int) ti) 48)) := hb6.alloc hb6.size _
            have k27 := Bk.new w6 48 (tiA (j : Int) ti)
            obtain ⟨g27, hg27⟩ : ∃ g27, w6.heap.size = g27 := ⟨_, rfl⟩
            obtain ⟨w7, hw7⟩ : ∃ w7, w6.alloc (.cells (tiA (j : Int) ti) 48) = w7 := ⟨_, rfl⟩
            rw [hw7] at hbB k27
            simp only [hw7, hg27]
            rw [hg27] at k27
            have hS7 := hS5.nx hbB
            have k207 := k20.nx hbB
            have hr97 := (hr9.below' hbB (Nat.le_refl _)).more hbB.size
            have hg27O : O.g ≠ g27 := by have := hb6.size; have := k20.lt; omega
            clear hw7 hg27 hb6 hS5 k20 hTi hr9 hbB hOg y0 y1 y2 y3 y4
            obtain ⟨y0, y1, y2, y3, y4⟩ := k207.cell5
            obtain ⟨z0', z1'⟩ := k27.cell2
            obtain ⟨bI, oI, Ai, ci, rfl, _, hbi, q0', q1', q2', q3', hci, hri⟩ := hgetj _ hS7.bel
            obtain ⟨bP, oP, rfl, _⟩ := hri.rd.get 0 (by simp; omega)
            go_upto_region 34 with fail
            go_still_tail 9, (by kernel_rfl)
            go_upto_region 35 with (go_at_call 18; (with_reducible refine (hPl _ _ _).mono ?_); rintro e w8 ⟨rfl, hb8⟩)
            have hbb : Below w7.heap.size w7 w8 := (below_drewN (Below.refl w7.heap.size w7) 1).trans (hb8.mono (Nat.le_refl _))
            have hS8 := hS7.nx hbb
            have k208 := k207.nx hbb
            have k278 := k27.nx hbb
            have t2 := fun (d : Nat) (os : Array Obj) => cell_regrown ((hbb.cell (by simpa using hbi)).trans q2') d os
            have t3 := fun (d : Nat) (os : Array Obj) => cell_regrown ((hbb.cell (by simpa using hbi)).trans q3') d os
            have u0 := fun (d : Nat) (os : Array Obj) => cell_regrown k278.cell2.1 d os
            have hr98 := (hr97.below' hbb (Nat.le_refl _)).more hbb.size
            have hri8 := hpxr w8 bP oP ((hri.rd.below' hbb (Nat.le_refl _)).more hbb.size)
            have hSm : ∀ (d : Nat) (os : Array Obj), Calls Tryz.prog 19 #[.slice A9 Cn c9, .slice (some ⟨bP, oP + q, none⟩) Cn (ci - q)] (Go.Sort.grow (redrawn w8 d) os) fun e w' => e = .returned (.bool true) ∧ Below (Go.Sort.grow (redrawn w8 d) os).heap.size (Go.Sort.grow (redrawn w8 d) os) w' := fun d os => by
              have hbr := below_regrown w8 d os
              exact same14 xs A9 _ Cn c9 _ _ HPLL.out (hr98.below' hbr (Nat.le_refl _)) (hri8.below' hbr (Nat.le_refl _))
            have hac : q + Cn ≤ ci := by omega
            have hif : (ci = q) = False := by simp; omega
            have HXS := Lib.hid hri8
            clear hgetj q0' q1' q2' q3' y0 y1 y2 y3 y4 z0' z1' hri hri8 hpxr hPl hci hr97 hr98 hb8 hbb hS7 k207 k27
            refine wp_region_quiet_below (by kernel_rfl) (by kernel_rfl) ?_
            repeat (first
              | go_big_quiet_step (with_reducible exact quiet_below (hSm _ _))
              | quiet_step (with_reducible exact quiet_below (hSm _ _)))
            refine wpQuiet_nil ?_
            intro _ hw'
            obtain ⟨⟨d9, os⟩, hw''⟩ := hw'
            subst hw''
            have hbx := below_regrown w8 d9 os
            have hS9 := hS8.nx hbx
            have k279 := k278.nx hbx
            clear t2 t3 u0 hSm HXS hS8 k208 k278 hbx
            generalize Go.Sort.grow (redrawn w8 d9) os = wx at *
            have hm9 := hS9.m
            simp only [msOf] at hm9
            have hbm := hbds
            obtain ⟨hb_1, hb_2, hb_3, hb_4, hb_5, hb_6, hb_7⟩ := hbds
            have hUs := hS9.use hb_7 ((j : Int), ti) (by show (hand s).length ≤ _; rw [hand_len]; exact hb_1) hb_2 hb_3 hb_4 hb_5
            obtain ⟨s1, hs1⟩ : ∃ s1, useS O.K s ((j : Int), ti) = s1 := ⟨_, rfl⟩
            have hrs : rdS O.K s ((j : Int), ti) = { s1 with S := addT s.S ((j : Int), ti) } := by rw [← hs1]; exact useS_setS _ _ _ _
            have hc1 : s1.cnt = s1.loads := by rw [← hs1]; exact useS_cnt _ _ _ HCL.out
            rw [hrs] at hUs hS9
            rw [HMS.out, hs1] at hUs
            simp only [msOf] at hUs
            have HC1 := Lib.hid hc1
            clear hbm hs1 hrs hc1 hb_1 hb_2 hb_3 hb_4 hb_5 HMS
            go_upto_region 38 with (first
              | (refine ldB rfl _ _ rfl hm9 rfl Tryz.underlying55 rfl cm_size ?_; simp only [Act.put, List.setIfInBounds_toArray, List.set_cons_zero, List.set_cons_succ])
              | (refine ldB rfl _ _ rfl k279 rfl Tryz.underlying48 rfl ti_size ?_; simp only [Act.put, List.setIfInBounds_toArray, List.set_cons_zero, List.set_cons_succ])
              | (go_at_call 16; (with_reducible refine hUs.mono ?_); rintro e wA ⟨Au, cu, rfl, hbU, hput⟩; have kgA := hm9.nx hbU)
              | (refine stB (ty := 55) (cells := caM O.K.most (.slice Au (hand s1).length cu) s1.hits s1.loads s1.drops s1.high) rfl _ _ rfl kgA rfl rfl cm_size rfl (by simp [Value.oneCell']) ?_; intro wB kB hgB hsB))
            have hSB := hput _ hgB kB
            have k27B := (k279.nx hbU).grown hgB (fun e => by injection e with e; omega)
            obtain ⟨AS, cS, hsv, _⟩ := own_form hSB.sn
            subst hsv
            have hHas := rhas_t s.S AS s.S.length cS ((j : Int), ti) wB rfl (Rd.of_own hSB.sn) (Nat.le_refl _) (by omega)
            simp only at hHas
            clear hput hm9 kgA hgB kB hUs k279 hS9 hsB hbU
            by_cases hmem : ((j : Int), ti) ∈ s.S
            · rw [decide_eq_true hmem] at hHas
              have hadd : addT s.S ((j : Int), ti) = s.S := if_pos hmem
              rw [hadd] at hSB
              clear hmem hadd
              go_upto_region 42 with (first
                | (refine ldB rfl _ _ rfl k27B rfl Tryz.underlying48 rfl ti_size ?_; simp only [Act.put, List.setIfInBounds_toArray, List.set_cons_zero, List.set_cons_succ])
                | (go_at_call 20; (with_reducible refine hHas.mono ?_); rintro e wC ⟨rfl, hbC⟩))
              have hSZ : Sp O (6 * k + 6) _ { s1 with S := s.S } (msOf { s1 with S := s.S }) { s1 with S := s.S }.S _ _ wC := hSB.nx hbC
              clear hSB hHas k27B hbC
              obtain ⟨AT, cT, hv, hT⟩ := Sp.told hSZ (by omega)
              injection hv with hv1 hv2 hv3
              subst hv1 hv3
              have hmZ := hSZ.m
              have hhd : hand { s1 with S := s.S } = hand s1 := rfl
              simp only [msOf, hhd] at hmZ
              rw [hhd] at hT
              dsimp only at hT hmZ
              clear hhd hv2
              go_wp2_with (first
                | (refine ldB rfl _ _ rfl hmZ rfl Tryz.underlying55 rfl cm_size ?_; simp only [Act.put, List.setIfInBounds_toArray, List.set_cons_zero, List.set_cons_succ])
                | (go_at_call 22; (with_reducible refine hT.mono ?_); rintro e wT ⟨rfl, hbT⟩))
              exact hdone _ _ _ _ _ (hSZ.nx hbT) HC1.out
            · rw [decide_eq_false hmem] at hHas
              have hadd : addT s.S ((j : Int), ti) = s.S ++ [((j : Int), ti)] := if_neg hmem
              rw [hadd] at hSB
              clear hmem hadd
              go_upto_region 39 with (first
                | (refine ldB rfl _ _ rfl k27B rfl Tryz.underlying48 rfl ti_size ?_; simp only [Act.put, List.setIfInBounds_toArray, List.set_cons_zero, List.set_cons_succ])
                | (go_at_call 20; (with_reducible refine hHas.mono ?_); rintro e wC ⟨rfl, hbC⟩))
              have hSC := hSB.nx hbC
              have k27C := k27B.nx hbC
              obtain ⟨c0, c1⟩ := k27C.cell2
              have hsnC := hSC.sn
              have hgC : O.g + 1 ≤ wC.heap.size := hSC.m.lt
              clear hSB hHas k27B hbC
              go_upto_region 42 with (first
                | (refine ldB rfl _ _ rfl k27C rfl Tryz.underlying48 rfl ti_size ?_; simp only [Act.put, List.setIfInBounds_toArray, List.set_cons_zero, List.set_cons_succ])
                | (at_builtin; refine app1 rfl _ _ _ rfl Tryz.underlying35 ti_info rfl (by omega) rfl rfl hsnC (Below.refl 0 wC) (Nat.zero_le _) hgC rfl (by simp [Value.oneCell']) (by omega) (by omega) ?_; intro v' w' hown' _ _ hg' hv'))
              have hSZ : Sp O (6 * k + 6) v' { s1 with S := s.S ++ [((j : Int), ti)] } (msOf { s1 with S := s.S ++ [((j : Int), ti)] }) { s1 with S := s.S ++ [((j : Int), ti)] }.S _ _ w' := hSC.note (t := ((j : Int), ti)) wC (Below.refl _ _) hg' hown' (by
                rcases hv' with h | h
                · exact .inl h
                · exact .inr ⟨_, h, by omega⟩)
              clear hSC hown' hg' hv' k27C hsnC c0 c1
              obtain ⟨AT, cT, hv, hT⟩ := Sp.told hSZ (by omega)
              subst hv
              have hmZ := hSZ.m
              have hhd : hand { s1 with S := s.S ++ [((j : Int), ti)] } = hand s1 := rfl
              simp only [msOf, hhd] at hmZ
              rw [hhd] at hT
              dsimp only at hT hmZ
              simp only [List.length_append, List.length_singleton] at hT
              clear hhd
              go_wp2_with (first
                | (refine ldB rfl _ _ rfl hmZ rfl Tryz.underlying55 rfl cm_size ?_; simp only [Act.put, List.setIfInBounds_toArray, List.set_cons_zero, List.set_cons_succ])
                | (go_at_call 22; (with_reducible refine hT.mono ?_); rintro e wT ⟨rfl, hbT⟩))
              have hZ := hSZ.nx hbT
              rw [List.length_append, List.length_singleton] at hZ
              exact hdone _ _ _ _ _ hZ HC1.out
          · have hnoF : ∀ i : Nat, (i : Int) = q1 → ∀ hj : i < O.K.ims.length, ¬ (0 ≤ q3 ∧ q3 < O.K.ims[i].W ∧ 0 ≤ q4 ∧ q4 < O.K.ims[i].H) := fun i hi hj hxy => hin ⟨i, hi, hj, ⟨hxy.1, hxy.2.1⟩, hxy.2.2⟩
            have hSA := hSp.nx hbA
            have hRd := hSA.read_no q1 q3 q4 hnoF
            clear hA hP hck hin
            go_upto_region 30 with (go_at_call 11; (with_reducible refine hRd.mono ?_); rintro e w5 ⟨rfl, hb5⟩)
            have hS5 := hSA.nx hb5
            have k20 := (Bk.new wr 57 #[.int .i64 1, .int .i64 q1, .int .i64 q2, .int .i64 q3, .int .i64 q4]).nx hb5
            obtain ⟨y0, y1, y2, y3, y4⟩ := k20.cell5
            have hTi := hS5.tile_no q1 q3 q4 hnoF
            clear hRd hSA hnoF d0 d1 d2 d3 d4
            go_upto_region 31 with (go_at_call 17; (with_reducible refine hTi.mono ?_); rintro e w6 ⟨rfl, hb6⟩)
            have hSZ := (hS5.nx (hb6.trans (((Below.refl _ w6).alloc (Nat.le_refl _) (.cells (tiA 0 0) 48)).mono hb6.size))).more (V := 6 * k + 6) (by omega)
            obtain ⟨wz, hwz⟩ : ∃ wz, w6.alloc (.cells (tiA 0 0) 48) = wz := ⟨_, rfl⟩
            rw [hwz] at hSZ ⊢
            clear hwz hS5 hTi k20 y0 y1 y2 y3 y4
            obtain ⟨AS, cS, hv, hT⟩ := Sp.told hSZ (by omega)
            subst hv
            have hmZ := hSZ.m
            simp only [msOf] at hmZ
            go_wp2_with (first
              | (refine ldB rfl _ _ rfl hmZ rfl Tryz.underlying55 rfl cm_size ?_; simp only [Act.put, List.setIfInBounds_toArray, List.set_cons_zero, List.set_cons_succ])
              | (go_at_call 22; (with_reducible refine hT.mono ?_); rintro e wT ⟨rfl, hbT⟩))
            exact hdone _ _ _ _ _ (hSZ.nx hbT) HCL.out
        · have hq1b : (q0 == 1) = false := by simpa using hq1
          have hMk := (hSp.nx hbA).mark
          clear hSp hA hP hck
          go_upto_region 41 with (go_at_call 21; (with_reducible refine hMk.mono ?_); rintro e w5 ⟨rfl, hS5⟩)
          obtain ⟨AS, cS, hv, hT⟩ := Sp.told (s := { s with S := [] }) hS5 (by omega)
          injection hv with hv1 hv2 hv3
          subst hv1 hv3
          have hm5 := hS5.m
          simp only [msOf] at hm5
          have hhd : hand { s with S := [] } = hand s := rfl
          rw [hhd] at hT
          simp only [List.length_nil] at hT
          clear d0 d1 d2 d3 d4 hMk hhd hv2
          go_wp2_with (first
            | (refine ldB rfl _ _ rfl hm5 rfl Tryz.underlying55 rfl cm_size ?_; simp only [Act.put, List.setIfInBounds_toArray, List.set_cons_zero, List.set_cons_succ])
            | (go_at_call 22; (with_reducible refine hT.mono ?_); rintro e w6 ⟨rfl, hb6⟩))
          exact hdone _ _ _ _ _ ((Sp.nx (s := { s with S := [] }) hS5 hb6).more (by omega)) HCL.out
    · obtain rfl : k = n' := by omega
      have hn0 : 0 < O.K.ims.length := by rw [HN.out]; exact hn1
      obtain ⟨hE1, hE2, hE3, hE4⟩ := hSp.ends hn0
      obtain ⟨bI, oI, Ai, ci, rfl, _, hbi, q0, q1, q2, q3, hci, hri⟩ := (hA.nx hSp.bel (Nat.le_refl _)).get 0 hn0
      simp only [Nat.zero_mul, Nat.add_zero] at q0 q1 q2 q3
      have hm6 := hSp.m
      have hbE := hSp.bel
      rw [HCL.out] at hE4
      simp only [msOf] at hm6
      have hn1' : (0 : Int) < (O.K.n : Int) := by omega
      clear hSp HCL hA hP hck hri
      generalize O.K.ims[0] = m at *
      go_upto_region 46 with (go_at_call 23; (with_reducible refine hE1.mono ?_); rintro e w6 ⟨rfl, hb6⟩)
      have hE2' := fun (d : Nat) (os : Array Obj) => hE2 _ (hb6.trans ((below_regrown w6 d os).mono hb6.size))
      have hE3' := fun (d : Nat) (os : Array Obj) => hE3 _ (hb6.trans ((below_regrown w6 d os).mono hb6.size))
      have hE4' := fun (d : Nat) (os : Array Obj) => hE4 _ (hb6.trans ((below_regrown w6 d os).mono hb6.size))
      have y0 := fun (d : Nat) (os : Array Obj) => cell_regrown ((hb6.cell (by simpa using hbi)).trans q0) d os
      have y1 := fun (d : Nat) (os : Array Obj) => cell_regrown ((hb6.cell (by simpa using hbi)).trans q1) d os
      have y2 := fun (d : Nat) (os : Array Obj) => cell_regrown ((hb6.cell (by simpa using hbi)).trans q2) d os
      have z3 := fun (d : Nat) (os : Array Obj) => cell_regrown ((hm6.nx hb6).cell6'.2.2.2.1) d os
      have hbE6 := hbE.trans (hb6.mono hbE.size)
      clear hE1 hE2 hE3 hE4 q0 q1 q2 q3 hm6 hb6 hbE
      refine wp_region_quiet_below (by kernel_rfl) (by kernel_rfl) ?_
      repeat (first
        | go_big_quiet_step ((first | with_reducible exact quiet_below (hE2' _ _) | with_reducible exact quiet_below (hE3' _ _) | with_reducible exact quiet_below (hE4' _ _) | with_reducible exact quiet_below (hAl _)))
        | quiet_step ((first | with_reducible exact quiet_below (hE2' _ _) | with_reducible exact quiet_below (hE3' _ _) | with_reducible exact quiet_below (hE4' _ _) | with_reducible exact quiet_below (hAl _))))
      refine wpQuiet_nil ?_
      intro _ hw'
      obtain ⟨⟨d9, os⟩, hw''⟩ := hw'
      subst hw''
      have hb9 := hbE6.trans ((below_regrown w6 d9 os).mono hbE6.size)
      clear y0 y1 y2 z3 hE2' hE3' hE4'
      generalize Go.Sort.grow (redrawn w6 d9) os = wx at *
      go_wp2_with fail
      go_returns
      exact ⟨rfl, hbw.trans (hb9.mono hbw.size)⟩
end Go.Proofs.YtahiaeaobbofbaaGreat
