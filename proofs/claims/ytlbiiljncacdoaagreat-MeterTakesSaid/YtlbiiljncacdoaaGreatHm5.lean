/- Maps of straight lines: what is divided by; its signs. -/
import Derived.Test.YtlbiiljncacdoaaGreatHm4
set_option linter.unusedVariables false
namespace Go.Proofs.YtlbiiljncacdoaaGreat
open Go.RowKit
structure AdOk (a : Nat → Int) : Prop where
  u : LnOk (a 0) (a 1) (a 2)
  v : LnOk (a 3) (a 4) (a 5)
  s : LnOk (a 6) (a 7) (a 8)
  b6 : -137438953472 ≤ a 6 ∧ a 6 ≤ 137438953472
  b7 : -137438953472 ≤ a 7 ∧ a 7 ≤ 137438953472
  b8 : -562949953421312 ≤ a 8 ∧ a 8 ≤ 562949953421312
theorem CfOk.dif {l : List Int} (h : CfOk l) (i1 i2 i3 i4 : Nat) (k : Int) (h1 : i1 < 9) (h2 : i2 < 9) (h3 : i3 < 9) (h4 : i4 < 9) (hk1 : most i1 * most i2 ≤ k) (hk2 : most i3 * most i4 ≤ k) : -(2 * k) ≤ cf l i1 * cf l i2 - cf l i3 * cf l i4 ∧ cf l i1 * cf l i2 - cf l i3 * cf l i4 ≤ 2 * k := by
  have g1 := h.prod i1 i2 h1 h2 k hk1
  have g2 := h.prod i3 i4 h3 h4 k hk2
  omega
theorem adOk {l : List Int} (h : CfOk l) : AdOk (adK (cf l) 9) := by
  have big : ∀ i1 i2 i3 i4 : Nat, i1 < 9 → i2 < 9 → i3 < 9 → i4 < 9 → most i1 * most i2 ≤ 36028797018963968 → most i3 * most i4 ≤ 36028797018963968 → -1152921504606846976 ≤ cf l i1 * cf l i2 - cf l i3 * cf l i4 ∧ cf l i1 * cf l i2 - cf l i3 * cf l i4 ≤ 1152921504606846976 := fun i1 i2 i3 i4 a b c d e f => by
    have := h.dif i1 i2 i3 i4 36028797018963968 a b c d e f
    omega
  have e0 := big 4 8 5 7 (by decide) (by decide) (by decide) (by decide) (by decide) (by decide)
  have e1 := big 7 2 8 1 (by decide) (by decide) (by decide) (by decide) (by decide) (by decide)
  have e2 := big 1 5 2 4 (by decide) (by decide) (by decide) (by decide) (by decide) (by decide)
  have e3 := big 5 6 3 8 (by decide) (by decide) (by decide) (by decide) (by decide) (by decide)
  have e4 := big 8 0 6 2 (by decide) (by decide) (by decide) (by decide) (by decide) (by decide)
  have e5 := big 2 3 0 5 (by decide) (by decide) (by decide) (by decide) (by decide) (by decide)
  have e6 := h.dif 3 7 4 6 68719476736 (by decide) (by decide) (by decide) (by decide) (by decide) (by decide)
  have e7 := h.dif 6 1 7 0 68719476736 (by decide) (by decide) (by decide) (by decide) (by decide) (by decide)
  have e8 := h.dif 0 4 1 3 281474976710656 (by decide) (by decide) (by decide) (by decide) (by decide) (by decide)
  rw [← ad_0] at e0
  rw [← ad_1] at e1
  rw [← ad_2] at e2
  rw [← ad_3] at e3
  rw [← ad_4] at e4
  rw [← ad_5] at e5
  rw [← ad_6] at e6
  rw [← ad_7] at e7
  rw [← ad_8] at e8
  exact ⟨⟨e0.1, e0.2, e1.1, e1.2, e2.1, e2.2⟩, ⟨e3.1, e3.2, e4.1, e4.2, e5.1, e5.2⟩, ⟨by omega, by omega, by omega, by omega, by omega, by omega⟩, by omega, by omega, by omega⟩
def undR (a : Nat → Int) (px py d : Int) : Int := if rightH px py d = true then a 6 * px + a 7 * py + a 8 * d else 0
theorem und_bd {a : Nat → Int} {px py d : Int} (h : AdOk a) (hp : rightH px py d = true) : (-144115188075855872 ≤ a 6 * px ∧ a 6 * px ≤ 144115188075855872) ∧ (-144115188075855872 ≤ a 7 * py ∧ a 7 * py ≤ 144115188075855872) ∧ (-9007199254740992 ≤ a 8 * d ∧ a 8 * d ≤ 9007199254740992) := by
  obtain ⟨⟨p0, p1⟩, ⟨p2, p3⟩, p4, p5⟩ := rightH_iff.1 hp
  have h1 := mulbd h.b6.1 h.b6.2 p0 p1
  have h2 := mulbd h.b7.1 h.b7.2 p2 p3
  have h3 := mulbd h.b8.1 h.b8.2 (show -16 ≤ d by omega) p5
  omega
set_option maxRecDepth 100000 in
set_option maxHeartbeats 4000000 in
theorem under_any (a : Nat → Int) (g : Nat) (px py d : Int) (w : World) (hK : Bk w g 268 (mA a)) (h : AdOk a) :
    Calls Tryz.prog 225 #[.pointer (some ⟨g, 0, none⟩), .int .i64 px, .int .i64 py, .int .i64 d] w fun e w' => e = .returned (.int .i64 (undR a px py d)) ∧ Below w.heap.size w w' := by
  cases hp : rightH px py d
  · have HR : Hid (undR a px py d = 0) := by show _ = _; unfold undR; rw [hp]; rfl
    go_enter Tryz.func225, Tryz.ntmps225
    go_wp2_with (go_at_call 224; (with_reducible refine (hright_any _ _ _ _).mono ?_); rintro e w' ⟨rfl, rfl⟩; rw [hp])
    go_returns
    exact ⟨ret_int HR.out.symm, Below.refl _ _⟩
  · have HR : Hid (undR a px py d = a 6 * px + a 7 * py + a 8 * d) := by show _ = _; unfold undR; rw [if_pos hp]
    obtain ⟨⟨b0, b1⟩, ⟨b2, b3⟩, b4, b5⟩ := und_bd h hp
    have e1 : IntKind.i64.wrap (a 6 * px) = a 6 * px := IntWalk.i64_in _ ⟨by omega, by omega⟩
    have e2 : IntKind.i64.wrap (a 7 * py) = a 7 * py := IntWalk.i64_in _ ⟨by omega, by omega⟩
    have e3 : IntKind.i64.wrap (a 8 * d) = a 8 * d := IntWalk.i64_in _ ⟨by omega, by omega⟩
    have e4 : IntKind.i64.wrap (a 6 * px + a 7 * py) = a 6 * px + a 7 * py := IntWalk.i64_in _ ⟨by omega, by omega⟩
    have e5 : IntKind.i64.wrap (a 6 * px + a 7 * py + a 8 * d) = a 6 * px + a 7 * py + a 8 * d := IntWalk.i64_in _ ⟨by omega, by omega⟩
    clear h b0 b1 b2 b3 b4 b5
    obtain ⟨_, _, _, _, _, _, c6, c7, c8⟩ := hK.cell9
    go_enter Tryz.func225, Tryz.ntmps225
    go_wp2_with (go_at_call 224; (with_reducible refine (hright_any _ _ _ _).mono ?_); rintro e w' ⟨rfl, rfl⟩; rw [hp])
    go_quiet (fail)
    go_wp2
    go_returns
    exact ⟨ret_int HR.out.symm, below_drewN (Below.refl _ _) _⟩
theorem under_nil (px py d : Int) (w : World) : Calls Tryz.prog 225 #[.pointer none, .int .i64 px, .int .i64 py, .int .i64 d] w fun e w' => e = .returned (.int .i64 0) ∧ w = w' := by
  go_enter Tryz.func225, Tryz.ntmps225
  go_wp2_with fail
  go_returns
  exact ⟨rfl, rfl⟩
/-- The least and the greatest of four. -/
def mn4 (a b c d : Int) : Int := min (min (min a b) c) d
def mx4 (a b c d : Int) : Int := max (max (max a b) c) d
def mnK (a b c d : Int) : Nat → Int
  | 0 => a
  | 1 => a
  | 2 => min a b
  | 3 => min (min a b) c
  | _ => mn4 a b c d
set_option maxRecDepth 100000 in
set_option maxHeartbeats 4000000 in
theorem min4_any (g : Nat) (a b c d : Int) (w : World) (hK : Bk w g 2 #[.int .i64 a, .int .i64 b, .int .i64 c, .int .i64 d]) :
    Calls Tryz.prog 257 #[.slice (some ⟨g, 0, none⟩) 4 4] w fun e w' => e = .returned (.int .i64 (mn4 a b c d)) ∧ Below w.heap.size w w' := by
  obtain ⟨c0, c1, c2, c3⟩ := hK.cell4
  go_enter Tryz.func257, Tryz.ntmps257
  go_wp2_with fail
  go_loop [3, 4] (fun mv kv => ∃ k : Nat, 1 ≤ k ∧ k ≤ 4 ∧ kv = .int .i64 k ∧ mv = .int .i64 (mnK a b c d k)) (fun _ kv => 4 - (intOf kv).toNat)
  case atStart => exact ⟨1, by omega, by omega, rfl, rfl⟩
  case round =>
    obtain ⟨k, hk1, hk, rfl, rfl⟩ := hrel
    by_cases hlt : k < 4
    · have h3 : k = 1 ∨ k = 2 ∨ k = 3 := by omega
      rcases h3 with rfl | rfl | rfl
      · have HN := Lib.hid (show mnK a b c d 2 = min (mnK a b c d 1) b from rfl)
        generalize mnK a b c d 1 = m at *
        go_wp2_with fail
        all_goals first
            | exact ⟨⟨2, by omega, by omega, rfl, val_int (by rw [HN.out]; omega)⟩, by simp [intOf]⟩
            | exact ⟨⟨2, by omega, by omega, rfl, val_int (by rw [HN.out]; split <;> omega)⟩, by simp [intOf]⟩
      · have HN := Lib.hid (show mnK a b c d 3 = min (mnK a b c d 2) c from rfl)
        generalize mnK a b c d 2 = m at *
        go_wp2_with fail
        all_goals first
            | exact ⟨⟨3, by omega, by omega, rfl, val_int (by rw [HN.out]; omega)⟩, by simp [intOf]⟩
            | exact ⟨⟨3, by omega, by omega, rfl, val_int (by rw [HN.out]; split <;> omega)⟩, by simp [intOf]⟩
      · have HN := Lib.hid (show mnK a b c d 4 = min (mnK a b c d 3) d from rfl)
        generalize mnK a b c d 3 = m at *
        go_wp2_with fail
        all_goals first
            | exact ⟨⟨4, by omega, by omega, rfl, val_int (by rw [HN.out]; omega)⟩, by simp [intOf]⟩
            | exact ⟨⟨4, by omega, by omega, rfl, val_int (by rw [HN.out]; split <;> omega)⟩, by simp [intOf]⟩
    · obtain rfl : k = 4 := by omega
      go_wp2_with fail
      go_returns
      exact ⟨rfl, Below.refl _ _⟩
def mxK (a b c d : Int) : Nat → Int
  | 0 => a
  | 1 => a
  | 2 => max a b
  | 3 => max (max a b) c
  | _ => mx4 a b c d
set_option maxRecDepth 100000 in
set_option maxHeartbeats 4000000 in
theorem max4_any (g : Nat) (a b c d : Int) (w : World) (hK : Bk w g 2 #[.int .i64 a, .int .i64 b, .int .i64 c, .int .i64 d]) :
    Calls Tryz.prog 258 #[.slice (some ⟨g, 0, none⟩) 4 4] w fun e w' => e = .returned (.int .i64 (mx4 a b c d)) ∧ Below w.heap.size w w' := by
  obtain ⟨c0, c1, c2, c3⟩ := hK.cell4
  go_enter Tryz.func258, Tryz.ntmps258
  go_wp2_with fail
  go_loop [3, 4] (fun mv kv => ∃ k : Nat, 1 ≤ k ∧ k ≤ 4 ∧ kv = .int .i64 k ∧ mv = .int .i64 (mxK a b c d k)) (fun _ kv => 4 - (intOf kv).toNat)
  case atStart => exact ⟨1, by omega, by omega, rfl, rfl⟩
  case round =>
    obtain ⟨k, hk1, hk, rfl, rfl⟩ := hrel
    by_cases hlt : k < 4
    · have h3 : k = 1 ∨ k = 2 ∨ k = 3 := by omega
      rcases h3 with rfl | rfl | rfl
      · have HN := Lib.hid (show mxK a b c d 2 = max (mxK a b c d 1) b from rfl)
        generalize mxK a b c d 1 = m at *
        go_wp2_with fail
        all_goals first
            | exact ⟨⟨2, by omega, by omega, rfl, val_int (by rw [HN.out]; omega)⟩, by simp [intOf]⟩
            | exact ⟨⟨2, by omega, by omega, rfl, val_int (by rw [HN.out]; split <;> omega)⟩, by simp [intOf]⟩
      · have HN := Lib.hid (show mxK a b c d 3 = max (mxK a b c d 2) c from rfl)
        generalize mxK a b c d 2 = m at *
        go_wp2_with fail
        all_goals first
            | exact ⟨⟨3, by omega, by omega, rfl, val_int (by rw [HN.out]; omega)⟩, by simp [intOf]⟩
            | exact ⟨⟨3, by omega, by omega, rfl, val_int (by rw [HN.out]; split <;> omega)⟩, by simp [intOf]⟩
      · have HN := Lib.hid (show mxK a b c d 4 = max (mxK a b c d 3) d from rfl)
        generalize mxK a b c d 3 = m at *
        go_wp2_with fail
        all_goals first
            | exact ⟨⟨4, by omega, by omega, rfl, val_int (by rw [HN.out]; omega)⟩, by simp [intOf]⟩
            | exact ⟨⟨4, by omega, by omega, rfl, val_int (by rw [HN.out]; split <;> omega)⟩, by simp [intOf]⟩
    · obtain rfl : k = 4 := by omega
      go_wp2_with fail
      go_returns
      exact ⟨rfl, Below.refl _ _⟩
set_option maxRecDepth 100000 in
set_option maxHeartbeats 8000000 in
/-- The four corners. -/
theorem signs_any (a : Nat → Int) (g : Nat) (W H : Int) (w : World) (hK : Bk w g 268 (mA a)) (h : AdOk a) (hW : 1 ≤ W ∧ W ≤ 32768) (hH : 1 ≤ H ∧ H ≤ 32768) :
    Calls Tryz.prog 223 #[.pointer (some ⟨g, 0, none⟩), .int .i64 W, .int .i64 H] w fun e w' =>
      e = .returned (.bool (decide (0 < mn4 (undR a (-1) (-1) 2) (undR a (2 * W - 1) (-1) 2) (undR a (-1) (2 * H - 1) 2) (undR a (2 * W - 1) (2 * H - 1) 2)) || decide (mx4 (undR a (-1) (-1) 2) (undR a (2 * W - 1) (-1) 2) (undR a (-1) (2 * H - 1) 2) (undR a (2 * W - 1) (2 * H - 1) 2) < 0))) ∧ Below w.heap.size w w' := by
  have hU1 := fun (w' : World) (hb : Below w.heap.size w w') => under_any a g (-1) (-1) 2 w' (hK.nx hb) h
  have hU2 := fun (w' : World) (hb : Below w.heap.size w w') => under_any a g (2 * W - 1) (-1) 2 w' (hK.nx hb) h
  have hU3 := fun (w' : World) (hb : Below w.heap.size w w') => under_any a g (-1) (2 * H - 1) 2 w' (hK.nx hb) h
  have hU4 := fun (w' : World) (hb : Below w.heap.size w w') => under_any a g (2 * W - 1) (2 * H - 1) 2 w' (hK.nx hb) h
  generalize undR a (-1) (-1) 2 = p1 at *
  generalize undR a (2 * W - 1) (-1) 2 = p2 at *
  generalize undR a (-1) (2 * H - 1) 2 = p3 at *
  generalize undR a (2 * W - 1) (2 * H - 1) 2 = p4 at *
  clear h
  have hb0 := Below.refl w.heap.size w
  go_enter Tryz.func223, Tryz.ntmps223
  go_wp2_with fail
  refine (hU1 _ hb0).mono ?_
  rintro e w1 ⟨rfl, hb1⟩
  go_wp2_with fail
  refine (hU2 _ hb1).mono ?_
  rintro e w2 ⟨rfl, hb2⟩
  replace hb2 := hb1.trans (hb2.mono hb1.size)
  go_wp2_with fail
  refine (hU3 _ hb2).mono ?_
  rintro e w3 ⟨rfl, hb3⟩
  replace hb3 := hb2.trans (hb3.mono hb2.size)
  go_wp2_with fail
  refine (hU4 _ hb3).mono ?_
  rintro e w4 ⟨rfl, hb4⟩
  replace hb4 := hb3.trans (hb4.mono hb3.size)
  clear hb1 hb2 hb3 hU1 hU2 hU3 hU4
  have kL := Bk.new w4 2 #[.int .i64 p1, .int .i64 p2, .int .i64 p3, .int .i64 p4]
  have hb5 := hb4.alloc hb4.size (.cells #[.int .i64 p1, .int .i64 p2, .int .i64 p3, .int .i64 p4] 2)
  obtain ⟨mn, hmn⟩ : ∃ mn, Hid (mn4 p1 p2 p3 p4 = mn) := ⟨_, Lib.hid rfl⟩
  obtain ⟨mx, hmx⟩ : ∃ mx, Hid (mx4 p1 p2 p3 p4 = mx) := ⟨_, Lib.hid rfl⟩
  have hMin := fun (w' : World) (hk : Bk w' w4.heap.size 2 #[.int .i64 p1, .int .i64 p2, .int .i64 p3, .int .i64 p4]) => min4_any w4.heap.size p1 p2 p3 p4 w' hk
  have hMax := fun (w' : World) (hk : Bk w' w4.heap.size 2 #[.int .i64 p1, .int .i64 p2, .int .i64 p3, .int .i64 p4]) => max4_any w4.heap.size p1 p2 p3 p4 w' hk
  rw [hmn.out] at hMin
  rw [hmx.out] at hMax
  by_cases hp : 0 < mn
  all_goals
    go_wp2_with (first
      | (go_at_call 257; (with_reducible refine (hMin _ (by exact kL)).mono ?_); rintro e w6 ⟨rfl, hb6⟩; have kL6 := kL.nx hb6; have hb6' := hb5.trans (hb6.mono hb5.size))
      | (go_at_call 258; (with_reducible refine (hMax _ (by exact kL6)).mono ?_); rintro e w7 ⟨rfl, hb7⟩; have hb7' := hb6'.trans (hb7.mono hb6'.size)))
    go_returns
    rw [hmn.out, hmx.out]
    first
      | exact ⟨ret_bool (by rw [decide_eq_true hp]; rfl), hb6'⟩
      | exact ⟨ret_bool (by rw [show decide (0 < mn) = false from decide_eq_false (by omega)]; first | done | rfl | simp), hb7'⟩
end Go.Proofs.YtlbiiljncacdoaaGreat
