/- The law XformWhole: the walk. -/
import Derived.Test.YtlbiiljncacdoaaGreatXB
import Derived.Test.YtlbiiljncacdoaaGreatHa1
set_option linter.unusedVariables false
namespace Go.Proofs.YtlbiiljncacdoaaGreat
open Go.RowKit
theorem un_at {x y d : Int} (h : rightH x y d = true) : afX unL x y d = 65536 * x / d ∧ afY unL x y d = 65536 * y / d ∧ afE x y d = 0 := by
  obtain ⟨a0, a1, a2, a3⟩ := rightH_iff.1 h
  have key : ∀ z : Int, -1048576 ≤ z ∧ z ≤ 1048576 → plc (4294967296 * z) (4294967296 * d) = 65536 * z / d := by
    intro z hz
    unfold plc fq
    rw [if_neg (by omega), Int.mul_assoc, Int.mul_ediv_mul_of_pos _ _ (by decide), Int.mul_comm z]
    have := div_bd (p := 65536 * z) (d := d) (B := 70368744177664) a2 (by omega) (by omega) (by decide)
    unfold cutF
    rw [if_neg (by omega), if_neg (by omega)]
  have e0 : afU unL 0 = 4294967296 := by decide
  have e1 : afU unL 1 = 0 := by decide
  have e2 : afU unL 2 = 0 := by decide
  have e3 : afU unL 3 = 0 := by decide
  have e4 : afU unL 4 = 4294967296 := by decide
  have e5 : afU unL 5 = 0 := by decide
  have e6 : dtA unL = 4294967296 := by decide
  unfold afX afY afE smR
  rw [if_pos h, if_pos h, if_pos h, e0, e1, e2, e3, e4, e5, e6]
  refine ⟨?_, ?_, rfl⟩
  · rw [← key x a0]; congr 1; omega
  · rw [← key y a1]; congr 1; omega
theorem un_C : afC unL = 0 := by decide +kernel
set_option maxRecDepth 100000 in
set_option maxHeartbeats 8000000 in
theorem walkXformWhole (k H x y d : Int) (s : ByteArray) (w : World) :
    Calls Tryz.prog 3 #[.agg #[.int .i64 k, .int .i64 H], .agg #[.int .i64 x, .int .i64 y, .int .i64 d], .string s] w fun e w' => e = .returned (.bool true) ∧ Below w.heap.size w w' := by
  obtain ⟨M, hM⟩ : ∃ M, max (idxK s) 0 = M := ⟨_, rfl⟩
  obtain ⟨D, hD⟩ : ∃ D, decide (0 ≤ idxK s) = D := ⟨_, rfl⟩
  have hNm := fun w' : World => (xnamed_any s w').mono (R' := fun e w'' => e = .returned (.tuple #[.int .i64 M, .bool D]) ∧ Below w'.heap.size w' w'') (fun e w'' ⟨h1, h2⟩ => ⟨by rw [h1, hM, hD], h2⟩)
  have HW := Lib.hid (show wK s 6 = (M, D) by rw [wK_eq, hM, hD])
  clear hM hD
  have hL := ((Lie.start w).alloc #[.int .i64 k, .int .i64 H] 22).alloc #[.int .i64 x, .int .i64 y, .int .i64 d] 24
  simp only [World.size_alloc] at hL
  go_enter Tryz.func3, Tryz.ntmps3
  go_wp2_with (go_at_call 15; (with_reducible refine (hNm _).mono ?_); rintro e w1 ⟨rfl, hb1⟩; replace hL := hL.nx hb1)
  go_loopw [10, 11, 12] (fun a b i wr => ∃ j : Nat, j ≤ 6 ∧ i = .int .i64 ((j : Int) + 1) ∧ a = .int .i64 (wK s j).1 ∧ b = .bool (wK s j).2 ∧ Lie w [(w.heap.size + 1, 24, #[.int .i64 x, .int .i64 y, .int .i64 d]), (w.heap.size, 22, #[.int .i64 k, .int .i64 H])] wr) (fun _ _ i _ => 7 - (intOf i).toNat)
  case atStart => exact ⟨0, by omega, rfl, rfl, rfl, hL⟩
  case round =>
    clear hL hb1
    obtain ⟨j, hj, rfl, rfl, rfl, hL⟩ := hrel
    by_cases hlt : j < 6
    · cases he : (s.toList == (xnm ((j : Int) + 1)).toList)
      · have HWj : Hid (wK s (j + 1) = wK s j) := by show _ = _; rw [wK, if_neg (by rw [he]; simp)]
        generalize hp : wK s j = p at *
        have HP := Lib.hid hp
        clear hp
        go_wp2_with (go_at_call 16; (with_reducible refine (rxname_any _ _).mono ?_); rintro e w2 ⟨rfl, hb2⟩)
        exact ⟨⟨j + 1, by omega, by go_num, by rw [HWj.out], by rw [HWj.out], hL.nx hb2⟩, by simp [intOf]; omega⟩
      · have HWj : Hid (wK s (j + 1) = ((j : Int) + 1, true)) := by show _ = _; rw [wK, if_pos he]
        generalize hp : wK s j = p at *
        have HP := Lib.hid hp
        clear hp
        go_wp2_with (go_at_call 16; (with_reducible refine (rxname_any _ _).mono ?_); rintro e w2 ⟨rfl, hb2⟩)
        exact ⟨⟨j + 1, by omega, by go_num, by rw [HWj.out], by rw [HWj.out], hL.nx hb2⟩, by simp [intOf]; omega⟩
    · obtain rfl : j = 6 := by omega
      rw [HW.out]
      clear hj hlt HW hNm
      obtain ⟨n0, hn0⟩ : ∃ z, xnm k = z := ⟨_, rfl⟩
      obtain ⟨n1, hn1⟩ : ∃ z, xct k = z := ⟨_, rfl⟩
      have hN1 := fun w' : World => (xname_any k w').mono (R' := fun e w'' => e = .returned (.string n0) ∧ Below w'.heap.size w' w'') (fun e w'' ⟨h1, h2⟩ => ⟨by rw [h1, hn0], h2⟩)
      have hN2 := fun w' : World => (rxname_any k w').mono (R' := fun e w'' => e = .returned (.string n0) ∧ Below w'.heap.size w' w'') (fun e w'' ⟨h1, h2⟩ => ⟨by rw [h1, hn0], h2⟩)
      have hN3 := fun w' : World => (xcount_any k w').mono (R' := fun e w'' => e = .returned (.int .i64 n1) ∧ Below w'.heap.size w' w'') (fun e w'' ⟨h1, h2⟩ => ⟨by rw [h1, hn1], h2⟩)
      have hN4 := fun w' : World => (rxcount_any k w').mono (R' := fun e w'' => e = .returned (.int .i64 n1) ∧ Below w'.heap.size w' w'') (fun e w'' ⟨h1, h2⟩ => ⟨by rw [h1, hn1], h2⟩)
      clear hn0 hn1
      go_wp2_with (first
        | (go_at_call 17; (with_reducible refine (hN1 _).mono ?_); rintro e w3 ⟨rfl, hb3⟩; have hL3 := hL.nx hb3)
        | (go_at_call 16; (with_reducible refine (hN2 _).mono ?_); rintro e w4 ⟨rfl, hb4⟩; have hL4 := hL3.nx hb4)
        | (go_at_call 18; (with_reducible refine (hN3 _).mono ?_); rintro e w5 ⟨rfl, hb5⟩; have hL5 := hL4.nx hb5)
        | (go_at_call 19; (with_reducible refine (hN4 _).mono ?_); rintro e w6 ⟨rfl, hb6⟩; have hL6 := hL5.nx hb6; have hs6 : w6.cell? ⟨w.heap.size, 0, none⟩ = some (.int .i64 k) ∧ w6.cell? ⟨w.heap.size, 1, none⟩ = some (.int .i64 H) := (hL6.k 1 (by simp)).cell2; obtain ⟨c0, c1⟩ := hs6))
      clear c0 c1 hb3 hb4 hb5 hb6 hL hL3 hL4 hL5 hN1 hN2 hN3 hN4
      rcases sz_cases k H with ⟨hs, s0, s1, s2, s3⟩ | ⟨hs, hc⟩
      · refine (whole_yes k H _ hs).mono ?_
        rintro e w7 ⟨b, rfl, hU, hb7⟩
        have hL8 := (hL6.nx hb7).alloc #[.int .i64 1, .slice (some ⟨b, 0, none⟩) 6 6] 31
        have hU8 := hU.alloc (.cells #[.int .i64 1, .slice (some ⟨b, 0, none⟩) 6 6] 31)
        clear hL6 hb7 hU
        go_upto_region 12 with fail
        generalize w7.alloc (.cells #[.int .i64 1, .slice (some ⟨b, 0, none⟩) 6 6] 31) = w8 at *
        generalize w7.heap.size = gt at *
        obtain ⟨c0, c1⟩ := (hL8.k 2 (by simp)).cell2
        obtain ⟨t0, t1⟩ := (hL8.k 0 (by simp)).cell2
        simp only [List.getElem_cons_zero, List.getElem_cons_succ] at c0 c1 t0 t1
        have hrd : Rd w8 w8.heap.size (some ⟨b, 0, none⟩) (unL.map (Value.int .i64)) := Bk.rdl (l := unL.map (Value.int .i64)) hU8
        have hN := xnew_aff unL (some ⟨b, 0, none⟩) 6 6 k H w8 rfl hrd hs
        rw [un_C] at hN
        have hok : AfOk unL := (afC_zero.1 un_C).1
        have hdt : dtA unL ≠ 0 := (afC_zero.1 un_C).2
        clear hU8 hs hrd
        go_wp2_with fail
        refine hN.mono ?_
        rintro e w9 ⟨p, rfl, _, h2, hb9⟩
        obtain ⟨q, g, rfl, hq, hM, hg, hG⟩ := h2 (by trivial)
        have hL9 := hL8.nx hb9
        clear h2 hN c0 c1 t0 t1 hb9 hL8 hq hg
        obtain ⟨c0, c1⟩ := (hL9.k 2 (by simp)).cell2
        obtain ⟨t0, t1⟩ := (hL9.k 0 (by simp)).cell2
        obtain ⟨p0, p1, p2⟩ := (hL9.k 1 (by simp)).cell3
        simp only [List.getElem_cons_zero, List.getElem_cons_succ] at c0 c1 t0 t1 p0 p1 p2
        cases hp : rightH x y d
        · go_wp2_with (first
            | (go_at_call 23; (with_reducible refine (rright_h _ _ _ _).mono ?_); rintro e w' ⟨rfl, rfl⟩; rw [hp])
            | (go_at_call 22; (with_reducible refine (alive24 _).mono ?_); rintro e wz ⟨rfl, hbz⟩))
          go_returns
          exact ⟨rfl, (hL9.nx hbz).bel⟩
        · have hAt := xat_aff unL q g 1 k H x y d w9 hM hG hok hdt
          obtain ⟨u1, u2, u3⟩ := un_at hp
          rw [u1, u2, u3] at hAt
          obtain ⟨⟨r0, r1⟩, ⟨r2, r3⟩, r4, r5⟩ := rightH_iff.1 hp
          have hD1 := fun w' => rdown_any (65536 * x) d w' r4 ⟨by omega, by omega⟩ (by omega)
          have hD2 := fun w' => rdown_any (65536 * y) d w' r4 ⟨by omega, by omega⟩ (by omega)
          clear u1 u2 u3 hM hG hok hdt
          generalize 65536 * x / d = X at *
          generalize 65536 * y / d = Y at *
          go_wp2_with (first
            | (go_at_call 23; (with_reducible refine (rright_h _ _ _ _).mono ?_); rintro e w' ⟨rfl, rfl⟩; rw [hp])
            | (go_at_call 24; (with_reducible refine hAt.mono ?_); rintro e wa ⟨rfl, hba⟩; have hLa := hL9.nx hba; have hpc : wa.cell? ⟨w.heap.size + 1, 0, none⟩ = some (.int .i64 x) ∧ wa.cell? ⟨w.heap.size + 1, 1, none⟩ = some (.int .i64 y) ∧ wa.cell? ⟨w.heap.size + 1, 2, none⟩ = some (.int .i64 d) := (hLa.k 1 (by simp)).cell3; obtain ⟨e0, e1, e2⟩ := hpc)
            | (go_at_call 25; (with_reducible refine (hD1 _).mono ?_); rintro e w' ⟨rfl, rfl⟩)
            | (go_at_call 25; (with_reducible refine (hD2 _).mono ?_); rintro e w' ⟨rfl, rfl⟩)
            | (go_at_call 22; (with_reducible refine (alive24 _).mono ?_); rintro e wz ⟨rfl, hbz⟩))
          go_returns
          exact ⟨rfl, (hLa.nx hbz).bel⟩
      · refine (whole_no k H _ hs).mono ?_
        rintro e w7 ⟨rfl, hb7⟩
        have hL8 := (hL6.nx hb7).alloc #[.int .i64 0, .slice none 0 0] 31
        clear hL6 hb7 hs
        go_upto_region 12 with fail
        generalize w7.alloc (.cells #[.int .i64 0, .slice none 0 0] 31) = w8 at *
        generalize w7.heap.size = gt at *
        obtain ⟨c0, c1⟩ := (hL8.k 2 (by simp)).cell2
        obtain ⟨t0, t1⟩ := (hL8.k 0 (by simp)).cell2
        simp only [List.getElem_cons_zero, List.getElem_cons_succ] at c0 c1 t0 t1
        go_wp2_with fail
        refine (xnew_kind 0 none 0 0 k H _ (by decide)).mono ?_
        rintro e w9 ⟨rfl, hb9⟩
        have hL9 := hL8.nx hb9
        clear c0 c1 t0 t1 hb9 hL8
        obtain ⟨c0, c1⟩ := (hL9.k 2 (by simp)).cell2
        obtain ⟨t0, t1⟩ := (hL9.k 0 (by simp)).cell2
        simp only [List.getElem_cons_zero, List.getElem_cons_succ] at c0 c1 t0 t1
        rcases hc with h0 | ⟨h0, h1⟩ | ⟨h0, h1, h2⟩ | ⟨h0, h1, h2, h3⟩
        all_goals
          go_wp2_with (go_at_call 22; (with_reducible refine (alive24 _).mono ?_); rintro e wz ⟨rfl, hbz⟩)
          go_returns
          exact ⟨rfl, (hL9.nx hbz).bel⟩
theorem lawXformWhole (cs0 cs1 : Array Value) (s : ByteArray) (w : World) (h0 : Rv Tryz.prog w 22 cs0.toList) (h1 : Rv Tryz.prog w 24 cs1.toList) (h2 : s.size ≤ maxLen) :
    Calls Tryz.prog 3 #[.agg cs0, .agg cs1, .string s] w fun e w' => e = .returned (.bool true) ∧ Below w.heap.size w w' := by
  obtain ⟨k, H, rfl, _, _⟩ := open_size h0
  obtain ⟨x, y, d, e1, _, _, _⟩ := open_place h1
  obtain rfl : cs1 = #[.int .i64 x, .int .i64 y, .int .i64 d] := by cases cs1; simp at e1; simp [e1]
  exact walkXformWhole k H x y d s w
end Go.Proofs.YtlbiiljncacdoaaGreat
