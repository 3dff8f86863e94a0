/- Several texts in one: row: X, Next and Skip, over what the functions that it holds do. (Printed by wip/tools/genrw.py.) row: what straight's and plain's functions do. row: walk and New, over what the walks' makers do. (Printed by wip/tools/genrw3.py.) row: what a row does, at whichever column it stands (the bundle RwFn). (Printed by wip/tools/genrw4.py.) -/
import Derived.Test.YtmnnilkdaibgkaaGreatLie
import Derived.Test.YtmnnilkdaibgkaaGreatOpen
import Derived.Test.YtmnnilkdaibgkaaGreatQTail
import Derived.Deep.QuietTactic
import Derived.BigQuiet
import Derived.Deep.Cut
import Derived.Laws.EntriesVeiled
import Derived.Test.YtmnnilkdaibgkaaGreatHd5
import Derived.Test.YtmnnilkdaibgkaaGreatNP
import Derived.Test.YtmnnilkdaibgkaaGreatQLate
import Derived.BigRegion
import Derived.RegionTactic
section
set_option linter.unusedVariables false
namespace Go.Proofs.YtmnnilkdaibgkaaGreat
open Go.RowKit
/-- A row's cells. -/
abbrev rwA (x W : Int) (fn fs : Value) : Array Value := #[.int .i64 x, .int .i64 W, fn, fs]
theorem rwx_any (g : Nat) (x W : Int) (fn fs : Value) (w : World) (hK : Bk w g 48 (rwA x W fn fs)) :
    Calls Tryz.prog 9 #[.pointer (some ⟨g, 0, none⟩)] w fun e w' => e = .returned (.int .i64 x) ∧ w = w' := by
  obtain ⟨c0, c1, c2, c3⟩ := hK.cell4
  clear c2 c3
  go_enter Tryz.func9, Tryz.ntmps9
  go_wp2_with fail
  go_returns
  exact ⟨rfl, rfl⟩
theorem rwx_nil (w : World) : Calls Tryz.prog 9 #[.pointer none] w fun e w' => e = .returned (.int .i64 0) ∧ w = w' := by
  go_enter Tryz.func9, Tryz.ntmps9
  go_wp2_with fail
  go_returns
  exact ⟨rfl, rfl⟩
theorem rwskip_nil (n : Int) (w : World) : Calls Tryz.prog 8 #[.pointer none, .int .i64 n] w fun e w' => e = .returned (.bool false) ∧ Below w.heap.size w w' := by
  have hb := Below.refl w.heap.size w
  go_enter Tryz.func8, Tryz.ntmps8
  go_upto_region 1 with fail
  go_quiet (fail)
  go_wp2_with fail
  go_returns
  exact ⟨rfl, below_drewN hb _⟩
theorem rwnext_nil (w : World) : Calls Tryz.prog 6 #[.pointer none] w fun e w' => e = .returned (.tuple #[.int .i64 0, .int .i64 0, .bool false]) ∧ Below w.heap.size w w' := by
  have hb := Below.refl w.heap.size w
  go_enter Tryz.func6, Tryz.ntmps6
  go_upto_region 1 with fail
  go_quiet (fail)
  go_wp2_with fail
  go_returns
  exact ⟨rfl, below_drewN hb _⟩
/-- At the end. -/
theorem rwnext_end (g : Nat) (x W : Int) (fn fs : Value) (w : World) (hK : Bk w g 48 (rwA x W fn fs)) (hx : W ≤ x) :
    Calls Tryz.prog 6 #[.pointer (some ⟨g, 0, none⟩)] w fun e w' => e = .returned (.tuple #[.int .i64 0, .int .i64 0, .bool false]) ∧ ∃ n, w' = w.drewN n := by
  obtain ⟨c0, c1, c2, c3⟩ := hK.cell4
  clear c2 c3 hK
  go_enter Tryz.func6, Tryz.ntmps6
  go_upto_region 1 with fail
  go_quiet (fail)
  go_wp2_with fail
  go_returns
  exact ⟨rfl, _, rfl⟩
theorem rwskip_no (g : Nat) (x W n : Int) (fn fs : Value) (w : World) (hK : Bk w g 48 (rwA x W fn fs)) (hW : 1 ≤ W ∧ W ≤ 32768) (hx : 0 ≤ x ∧ x ≤ W) (hn : n < 0 ∨ W - x < n) :
    Calls Tryz.prog 8 #[.pointer (some ⟨g, 0, none⟩), .int .i64 n] w fun e w' => e = .returned (.bool false) ∧ ∃ n, w' = w.drewN n := by
  obtain ⟨c0, c1, c2, c3⟩ := hK.cell4
  clear c2 c3 hK
  have hWb : (W == 0) = false := by simp; omega
  obtain ⟨r, hr⟩ : ∃ r, W - x = r := ⟨_, rfl⟩
  have hwx : wrap64 (W - x) = r := (IntWalk.wrap64_in _ ⟨by omega, by omega⟩).trans hr
  rw [hr] at hn
  clear hr hW hx
  by_cases h0 : n < 0
  · have g0 : decide (n < 0) = true := decide_eq_true h0
    clear hn h0
    go_enter Tryz.func8, Tryz.ntmps8
    go_upto_region 1 with fail
    go_quiet (fail)
    go_wp2_with fail
    go_returns
    exact ⟨rfl, _, rfl⟩
  · have g0 : decide (n < 0) = false := decide_eq_false h0
    have g1 : r < n := by omega
    clear hn h0
    go_enter Tryz.func8, Tryz.ntmps8
    go_upto_region 1 with fail
    go_quiet (fail)
    go_wp2_with fail
    go_returns
    exact ⟨rfl, _, rfl⟩
abbrev rnA (q : Nat) : Value := .func (.func 31) #[.pointer (some ⟨q, 0, none⟩)] #[]
abbrev rsA (q : Nat) : Value := .func (.func 32) #[.pointer (some ⟨q, 0, none⟩)] #[]
set_option maxRecDepth 100000 in
set_option maxHeartbeats 4000000 in
theorem rwnext_A (g q : Nat) (x W U V : Int) (J : World → Prop) (w : World) (hK : Bk w g 48 (rwA x W (rnA q) (rsA q))) (hx : 0 ≤ x ∧ x < W ∧ W ≤ 32768)
    (hN : ∀ w', Bk w' g 48 (rwA (x + 1) W (rnA q) (rsA q)) → w.grownBy w' (some g) → Calls Tryz.prog 31 #[.pointer (some ⟨q, 0, none⟩)] w' fun e w'' => e = .returned (.tuple #[.int .i64 U, .int .i64 V, .bool true]) ∧ J w'') :
    Calls Tryz.prog 6 #[.pointer (some ⟨g, 0, none⟩)] w fun e w' => e = .returned (.tuple #[.int .i64 U, .int .i64 V, .bool true]) ∧ J w' := by
  obtain ⟨x0, x1, x2⟩ := hx
  obtain ⟨c0, c1, c2, c3⟩ := hK.cell4
  have hwx : wrap64 (x + 1) = x + 1 := IntWalk.wrap64_in _ ⟨by omega, by omega⟩
  have hwx2 : IntKind.i64.wrap (x + 1) = x + 1 := IntWalk.i64_in _ ⟨by omega, by omega⟩
  go_enter Tryz.func6, Tryz.ntmps6
  go_upto_region 1 with fail
  go_quiet (fail)
  have kq : Bk (w.drewN nq) g 48 (rwA x W (rnA q) (rsA q)) := hK.drewN nq
  have gq : w.grownBy (w.drewN nq) (some g) := gb_drewN (gb_of_below (Below.refl _ _)) nq
  clear c0 c1 c2 c3
  generalize w.drewN nq = wq at *
  obtain ⟨c0, c1, c2, c3⟩ := kq.cell4
  have f0 := kq.frozen 0
  go_upto_region 4 with fail
  have k1 : Bk (wq.setCell ⟨g, 0, none⟩ (.int .i64 (x + 1))) g 48 (rwA (x + 1) W (rnA q) (rsA q)) := kq.set 0 _
  have g1 := gb_trans gq (gb_set1 wq ⟨g, 0, none⟩ (.int .i64 (x + 1))) (fun g e => .inl e)
  clear c0 c1 c2 c3 f0 kq gq hK
  generalize wq.setCell ⟨g, 0, none⟩ (.int .i64 (x + 1)) = w1 at *
  obtain ⟨c0, c1, c2, c3⟩ := k1.cell4
  have hN1 := hN w1 k1 g1
  clear hN
  go_wp2_with (go_at_call 31; (with_reducible refine hN1.mono ?_); rintro e w2 ⟨rfl, hJ⟩)
  go_returns
  exact ⟨rfl, hJ⟩
set_option maxRecDepth 100000 in
set_option maxHeartbeats 4000000 in
theorem rwskip_A (g q : Nat) (x W n : Int) (J : World → Prop) (w : World) (hK : Bk w g 48 (rwA x W (rnA q) (rsA q))) (hW : 1 ≤ W ∧ W ≤ 32768) (hx : 0 ≤ x) (hn : 0 ≤ n ∧ x + n ≤ W)
    (hS : ∀ w', Bk w' g 48 (rwA (x + n) W (rnA q) (rsA q)) → w.grownBy w' (some g) → Calls Tryz.prog 32 #[.pointer (some ⟨q, 0, none⟩), .int .i64 n] w' fun e w'' => e = .returned (.bool true) ∧ J w'') :
    Calls Tryz.prog 8 #[.pointer (some ⟨g, 0, none⟩), .int .i64 n] w fun e w' => e = .returned (.bool true) ∧ J w' := by
  obtain ⟨c0, c1, c2, c3⟩ := hK.cell4
  have hWb : (W == 0) = false := by simp; omega
  obtain ⟨r, hr⟩ : ∃ r, W - x = r := ⟨_, rfl⟩
  have hwr : wrap64 (W - x) = r := (IntWalk.wrap64_in _ ⟨by omega, by omega⟩).trans hr
  have hwx : wrap64 (x + n) = x + n := IntWalk.wrap64_in _ ⟨by omega, by omega⟩
  have hwx2 : IntKind.i64.wrap (x + n) = x + n := IntWalk.i64_in _ ⟨by omega, by omega⟩
  have g0 : decide (n < 0) = false := decide_eq_false (by omega)
  have g1 : ¬ (r < n) := by omega
  clear hW hx hr hn
  go_enter Tryz.func8, Tryz.ntmps8
  go_upto_region 1 with fail
  go_quiet (fail)
  have kq : Bk (w.drewN nq) g 48 (rwA x W (rnA q) (rsA q)) := hK.drewN nq
  have gq : w.grownBy (w.drewN nq) (some g) := gb_drewN (gb_of_below (Below.refl _ _)) nq
  clear c0 c1 c2 c3
  generalize w.drewN nq = wq at *
  obtain ⟨c0, c1, c2, c3⟩ := kq.cell4
  have f0 := kq.frozen 0
  go_upto_region 4 with fail
  have k1 : Bk (wq.setCell ⟨g, 0, none⟩ (.int .i64 (x + n))) g 48 (rwA (x + n) W (rnA q) (rsA q)) := kq.set 0 _
  have g1 := gb_trans gq (gb_set1 wq ⟨g, 0, none⟩ (.int .i64 (x + n))) (fun g e => .inl e)
  clear c0 c1 c2 c3 f0 kq gq hK
  generalize wq.setCell ⟨g, 0, none⟩ (.int .i64 (x + n)) = w1 at *
  obtain ⟨c0, c1, c2, c3⟩ := k1.cell4
  have hN1 := hS w1 k1 g1
  clear hS
  go_wp2_with (go_at_call 32; (with_reducible refine hN1.mono ?_); rintro e w2 ⟨rfl, hJ⟩)
  go_returns
  exact ⟨rfl, hJ⟩
abbrev rnH (q : Nat) : Value := .func (.func 34) #[.agg #[.pointer (some ⟨q, 0, none⟩)]] #[]
abbrev rsH (q : Nat) : Value := .func (.func 35) #[.pointer (some ⟨q, 0, none⟩)] #[]
set_option maxRecDepth 100000 in
set_option maxHeartbeats 4000000 in
theorem rwnext_H (g q : Nat) (x W U V : Int) (J : World → Prop) (w : World) (hK : Bk w g 48 (rwA x W (rnH q) (rsH q))) (hx : 0 ≤ x ∧ x < W ∧ W ≤ 32768)
    (hN : ∀ w', Bk w' g 48 (rwA (x + 1) W (rnH q) (rsH q)) → w.grownBy w' (some g) → Calls Tryz.prog 34 #[.agg #[.pointer (some ⟨q, 0, none⟩)]] w' fun e w'' => e = .returned (.tuple #[.int .i64 U, .int .i64 V, .bool true]) ∧ J w'') :
    Calls Tryz.prog 6 #[.pointer (some ⟨g, 0, none⟩)] w fun e w' => e = .returned (.tuple #[.int .i64 U, .int .i64 V, .bool true]) ∧ J w' := by
  obtain ⟨x0, x1, x2⟩ := hx
  obtain ⟨c0, c1, c2, c3⟩ := hK.cell4
  have hwx : wrap64 (x + 1) = x + 1 := IntWalk.wrap64_in _ ⟨by omega, by omega⟩
  have hwx2 : IntKind.i64.wrap (x + 1) = x + 1 := IntWalk.i64_in _ ⟨by omega, by omega⟩
  go_enter Tryz.func6, Tryz.ntmps6
  go_upto_region 1 with fail
  go_quiet (fail)
  have kq : Bk (w.drewN nq) g 48 (rwA x W (rnH q) (rsH q)) := hK.drewN nq
  have gq : w.grownBy (w.drewN nq) (some g) := gb_drewN (gb_of_below (Below.refl _ _)) nq
  clear c0 c1 c2 c3
  generalize w.drewN nq = wq at *
  obtain ⟨c0, c1, c2, c3⟩ := kq.cell4
  have f0 := kq.frozen 0
  go_upto_region 4 with fail
  have k1 : Bk (wq.setCell ⟨g, 0, none⟩ (.int .i64 (x + 1))) g 48 (rwA (x + 1) W (rnH q) (rsH q)) := kq.set 0 _
  have g1 := gb_trans gq (gb_set1 wq ⟨g, 0, none⟩ (.int .i64 (x + 1))) (fun g e => .inl e)
  clear c0 c1 c2 c3 f0 kq gq hK
  generalize wq.setCell ⟨g, 0, none⟩ (.int .i64 (x + 1)) = w1 at *
  obtain ⟨c0, c1, c2, c3⟩ := k1.cell4
  have hN1 := hN w1 k1 g1
  clear hN
  go_wp2_with (go_at_call 34; (with_reducible refine hN1.mono ?_); rintro e w2 ⟨rfl, hJ⟩)
  go_returns
  exact ⟨rfl, hJ⟩
set_option maxRecDepth 100000 in
set_option maxHeartbeats 4000000 in
theorem rwskip_H (g q : Nat) (x W n : Int) (J : World → Prop) (w : World) (hK : Bk w g 48 (rwA x W (rnH q) (rsH q))) (hW : 1 ≤ W ∧ W ≤ 32768) (hx : 0 ≤ x) (hn : 0 ≤ n ∧ x + n ≤ W)
    (hS : ∀ w', Bk w' g 48 (rwA (x + n) W (rnH q) (rsH q)) → w.grownBy w' (some g) → Calls Tryz.prog 35 #[.pointer (some ⟨q, 0, none⟩), .int .i64 n] w' fun e w'' => e = .returned (.bool true) ∧ J w'') :
    Calls Tryz.prog 8 #[.pointer (some ⟨g, 0, none⟩), .int .i64 n] w fun e w' => e = .returned (.bool true) ∧ J w' := by
  obtain ⟨c0, c1, c2, c3⟩ := hK.cell4
  have hWb : (W == 0) = false := by simp; omega
  obtain ⟨r, hr⟩ : ∃ r, W - x = r := ⟨_, rfl⟩
  have hwr : wrap64 (W - x) = r := (IntWalk.wrap64_in _ ⟨by omega, by omega⟩).trans hr
  have hwx : wrap64 (x + n) = x + n := IntWalk.wrap64_in _ ⟨by omega, by omega⟩
  have hwx2 : IntKind.i64.wrap (x + n) = x + n := IntWalk.i64_in _ ⟨by omega, by omega⟩
  have g0 : decide (n < 0) = false := decide_eq_false (by omega)
  have g1 : ¬ (r < n) := by omega
  clear hW hx hr hn
  go_enter Tryz.func8, Tryz.ntmps8
  go_upto_region 1 with fail
  go_quiet (fail)
  have kq : Bk (w.drewN nq) g 48 (rwA x W (rnH q) (rsH q)) := hK.drewN nq
  have gq : w.grownBy (w.drewN nq) (some g) := gb_drewN (gb_of_below (Below.refl _ _)) nq
  clear c0 c1 c2 c3
  generalize w.drewN nq = wq at *
  obtain ⟨c0, c1, c2, c3⟩ := kq.cell4
  have f0 := kq.frozen 0
  go_upto_region 4 with fail
  have k1 : Bk (wq.setCell ⟨g, 0, none⟩ (.int .i64 (x + n))) g 48 (rwA (x + n) W (rnH q) (rsH q)) := kq.set 0 _
  have g1 := gb_trans gq (gb_set1 wq ⟨g, 0, none⟩ (.int .i64 (x + n))) (fun g e => .inl e)
  clear c0 c1 c2 c3 f0 kq gq hK
  generalize wq.setCell ⟨g, 0, none⟩ (.int .i64 (x + n)) = w1 at *
  obtain ⟨c0, c1, c2, c3⟩ := k1.cell4
  have hN1 := hS w1 k1 g1
  clear hS
  go_wp2_with (go_at_call 35; (with_reducible refine hN1.mono ?_); rintro e w2 ⟨rfl, hJ⟩)
  go_returns
  exact ⟨rfl, hJ⟩
abbrev rnP (q : Nat) : Value := .func (.func 36) #[.pointer (some ⟨q, 0, none⟩)] #[]
abbrev rsP (q : Nat) : Value := .func (.func 37) #[.pointer (some ⟨q, 0, none⟩)] #[]
set_option maxRecDepth 100000 in
set_option maxHeartbeats 4000000 in
theorem rwnext_P (g q : Nat) (x W U V : Int) (J : World → Prop) (w : World) (hK : Bk w g 48 (rwA x W (rnP q) (rsP q))) (hx : 0 ≤ x ∧ x < W ∧ W ≤ 32768)
    (hN : ∀ w', Bk w' g 48 (rwA (x + 1) W (rnP q) (rsP q)) → w.grownBy w' (some g) → Calls Tryz.prog 36 #[.pointer (some ⟨q, 0, none⟩)] w' fun e w'' => e = .returned (.tuple #[.int .i64 U, .int .i64 V, .bool true]) ∧ J w'') :
    Calls Tryz.prog 6 #[.pointer (some ⟨g, 0, none⟩)] w fun e w' => e = .returned (.tuple #[.int .i64 U, .int .i64 V, .bool true]) ∧ J w' := by
  obtain ⟨x0, x1, x2⟩ := hx
  obtain ⟨c0, c1, c2, c3⟩ := hK.cell4
  have hwx : wrap64 (x + 1) = x + 1 := IntWalk.wrap64_in _ ⟨by omega, by omega⟩
  have hwx2 : IntKind.i64.wrap (x + 1) = x + 1 := IntWalk.i64_in _ ⟨by omega, by omega⟩
  go_enter Tryz.func6, Tryz.ntmps6
  go_upto_region 1 with fail
  go_quiet (fail)
  have kq : Bk (w.drewN nq) g 48 (rwA x W (rnP q) (rsP q)) := hK.drewN nq
  have gq : w.grownBy (w.drewN nq) (some g) := gb_drewN (gb_of_below (Below.refl _ _)) nq
  clear c0 c1 c2 c3
  generalize w.drewN nq = wq at *
  obtain ⟨c0, c1, c2, c3⟩ := kq.cell4
  have f0 := kq.frozen 0
  go_upto_region 4 with fail
  have k1 : Bk (wq.setCell ⟨g, 0, none⟩ (.int .i64 (x + 1))) g 48 (rwA (x + 1) W (rnP q) (rsP q)) := kq.set 0 _
  have g1 := gb_trans gq (gb_set1 wq ⟨g, 0, none⟩ (.int .i64 (x + 1))) (fun g e => .inl e)
  clear c0 c1 c2 c3 f0 kq gq hK
  generalize wq.setCell ⟨g, 0, none⟩ (.int .i64 (x + 1)) = w1 at *
  obtain ⟨c0, c1, c2, c3⟩ := k1.cell4
  have hN1 := hN w1 k1 g1
  clear hN
  go_wp2_with (go_at_call 36; (with_reducible refine hN1.mono ?_); rintro e w2 ⟨rfl, hJ⟩)
  go_returns
  exact ⟨rfl, hJ⟩
set_option maxRecDepth 100000 in
set_option maxHeartbeats 4000000 in
theorem rwskip_P (g q : Nat) (x W n : Int) (J : World → Prop) (w : World) (hK : Bk w g 48 (rwA x W (rnP q) (rsP q))) (hW : 1 ≤ W ∧ W ≤ 32768) (hx : 0 ≤ x) (hn : 0 ≤ n ∧ x + n ≤ W)
    (hS : ∀ w', Bk w' g 48 (rwA (x + n) W (rnP q) (rsP q)) → w.grownBy w' (some g) → Calls Tryz.prog 37 #[.pointer (some ⟨q, 0, none⟩), .int .i64 n] w' fun e w'' => e = .returned (.bool true) ∧ J w'') :
    Calls Tryz.prog 8 #[.pointer (some ⟨g, 0, none⟩), .int .i64 n] w fun e w' => e = .returned (.bool true) ∧ J w' := by
  obtain ⟨c0, c1, c2, c3⟩ := hK.cell4
  have hWb : (W == 0) = false := by simp; omega
  obtain ⟨r, hr⟩ : ∃ r, W - x = r := ⟨_, rfl⟩
  have hwr : wrap64 (W - x) = r := (IntWalk.wrap64_in _ ⟨by omega, by omega⟩).trans hr
  have hwx : wrap64 (x + n) = x + n := IntWalk.wrap64_in _ ⟨by omega, by omega⟩
  have hwx2 : IntKind.i64.wrap (x + n) = x + n := IntWalk.i64_in _ ⟨by omega, by omega⟩
  have g0 : decide (n < 0) = false := decide_eq_false (by omega)
  have g1 : ¬ (r < n) := by omega
  clear hW hx hr hn
  go_enter Tryz.func8, Tryz.ntmps8
  go_upto_region 1 with fail
  go_quiet (fail)
  have kq : Bk (w.drewN nq) g 48 (rwA x W (rnP q) (rsP q)) := hK.drewN nq
  have gq : w.grownBy (w.drewN nq) (some g) := gb_drewN (gb_of_below (Below.refl _ _)) nq
  clear c0 c1 c2 c3
  generalize w.drewN nq = wq at *
  obtain ⟨c0, c1, c2, c3⟩ := kq.cell4
  have f0 := kq.frozen 0
  go_upto_region 4 with fail
  have k1 : Bk (wq.setCell ⟨g, 0, none⟩ (.int .i64 (x + n))) g 48 (rwA (x + n) W (rnP q) (rsP q)) := kq.set 0 _
  have g1 := gb_trans gq (gb_set1 wq ⟨g, 0, none⟩ (.int .i64 (x + n))) (fun g e => .inl e)
  clear c0 c1 c2 c3 f0 kq gq hK
  generalize wq.setCell ⟨g, 0, none⟩ (.int .i64 (x + n)) = w1 at *
  obtain ⟨c0, c1, c2, c3⟩ := k1.cell4
  have hN1 := hS w1 k1 g1
  clear hS
  go_wp2_with (go_at_call 37; (with_reducible refine hN1.mono ?_); rintro e w2 ⟨rfl, hJ⟩)
  go_returns
  exact ⟨rfl, hJ⟩
end Go.Proofs.YtmnnilkdaibgkaaGreat
end
section
set_option linter.unusedVariables false
namespace Go.Proofs.YtmnnilkdaibgkaaGreat
open Go.RowKit
set_option maxRecDepth 100000 in
set_option maxHeartbeats 4000000 in
theorem snext_any (a : Nat → Int) (q : Nat) (x y : Int) (w : World) (hK : Bk w q 132 (wkT a x y)) (h : WkOk a x y) (hx : x ≤ 1048576) (hE : atE a x y 1 = 0) :
    Calls Tryz.prog 34 #[.agg #[.pointer (some ⟨q, 0, none⟩)]] w fun e w' => e = .returned (.tuple #[.int .i64 (atX a x y 1), .int .i64 (atY a x y 1), .bool true]) ∧ Bk w' q 132 (wkT a (x + 1) y) ∧ w.grownBy w' (some q) := by
  have hN := next_any a q x y _ (hK.alloc (.cells #[.pointer (some ⟨q, 0, none⟩)] 69)) h hx
  rw [hE] at hN
  have hg0 : w.grownBy (w.alloc (.cells #[.pointer (some ⟨q, 0, none⟩)] 69)) (some q) := gb_alloc (gb_of_below (Below.refl _ _)) _
  clear h hx hE hK
  generalize atX a x y 1 = U at *
  generalize atY a x y 1 = V at *
  generalize wkT a (x + 1) y = W1 at *
  go_enter Tryz.func34, Tryz.ntmps34
  go_wp2_with (go_at_call 76; (with_reducible refine hN.mono ?_); rintro e w1 ⟨rfl, hK1, hg1⟩)
  go_returns
  exact ⟨rfl, hK1, gb_trans hg0 hg1 (fun g e => .inl e)⟩
/-- The blocks from lo to hi lie as in wm. -/
def Agr (lo hi : Nat) (wm w : World) : Prop := hi ≤ w.heap.size ∧ ∀ i, lo ≤ i → i < hi → w.heap[i]? = wm.heap[i]?
theorem Agr.nx {lo hi : Nat} {wm w w' : World} (h : Agr lo hi wm w) (hb : Below w.heap.size w w') : Agr lo hi wm w' :=
  ⟨Nat.le_trans h.1 hb.size, fun i h1 h2 => (hb.block i (Nat.lt_of_lt_of_le h2 h.1)).trans (h.2 i h1 h2)⟩
theorem Agr.nxC {lo hi C : Nat} {wm w w' : World} (h : Agr lo hi wm w) (hb : Below C w w') (hC : hi ≤ C) : Agr lo hi wm w' :=
  ⟨Nat.le_trans h.1 hb.size, fun i h1 h2 => (hb.block i (Nat.lt_of_lt_of_le h2 hC)).trans (h.2 i h1 h2)⟩
theorem Agr.gb {lo hi g : Nat} {wm w w' : World} (h : Agr lo hi wm w) (hg : w.grownBy w' (some g)) (hq : hi ≤ g) : Agr lo hi wm w' :=
  ⟨Nat.le_trans h.1 hg.size, fun i h1 h2 => (hg.block i (Nat.lt_of_lt_of_le h2 h.1) (by simp; omega)).trans (h.2 i h1 h2)⟩
set_option maxRecDepth 100000 in
set_option maxHeartbeats 4000000 in
theorem pnext_any (lo hi q : Nat) (wm : World) (p : Option Addr) (x y U V : Int) (w : World) (hK : Bk w q 72 #[.pointer p, .int .i64 x, .int .i64 y]) (hx : 0 ≤ x ∧ x ≤ 1048576) (hA : Agr lo hi wm w)
    (hAt : ∀ w', Agr lo hi wm w' → Calls Tryz.prog 78 #[.pointer p, .int .i64 x, .int .i64 y, .int .i64 1] w' fun e w'' => e = .returned (.tuple #[.int .i64 U, .int .i64 V, .int .i64 0]) ∧ Below w'.heap.size w' w'') :
    Calls Tryz.prog 36 #[.pointer (some ⟨q, 0, none⟩)] w fun e w' => e = .returned (.tuple #[.int .i64 U, .int .i64 V, .bool true]) ∧ Bk w' q 72 #[.pointer p, .int .i64 (x + 1), .int .i64 y] ∧ w.grownBy w' (some q) := by
  obtain ⟨x0, x1⟩ := hx
  have hwx : wrap64 (x + 1) = x + 1 := IntWalk.wrap64_in _ ⟨by omega, by omega⟩
  obtain ⟨c0, c1, c2⟩ := hK.cell3
  have q0 := fun (d : Nat) (os : Array Obj) => cell_regrown c0 d os
  have q1 := fun (d : Nat) (os : Array Obj) => cell_regrown c1 d os
  have q2 := fun (d : Nat) (os : Array Obj) => cell_regrown c2 d os
  have hB := fun (n : Nat) (os : Array Obj) => hAt (Go.Sort.grow (redrawn w n) os) (hA.nx (below_regrown w n os))
  clear c0 c1 c2 hAt hA
  go_enter Tryz.func36, Tryz.ntmps36
  go_upto_region 1 with fail
  refine wp_region_quiet_late 14 14 (by kernel_rfl) (by kernel_rfl) ?_
  simp only [List.take_succ_cons, List.take_zero]
  repeat (first | go_big_quiet_step (with_reducible exact quiet_below (hB _ _)) | quiet_step (with_reducible exact quiet_below (hB _ _)))
  refine wpQuiet_nil ?_
  intro _ hw'
  obtain ⟨⟨d, os⟩, hw''⟩ := hw'
  subst hw''
  have hbx := below_regrown w d os
  generalize Go.Sort.grow (redrawn w d) os = wx at *
  have kx := hK.nx hbx
  obtain ⟨c0, c1, c2⟩ := kx.cell3
  have f1 := kx.frozen 1
  clear q0 q1 q2 hB
  show wpAny _ _ _ _ 6 _ _ _
  refine wpAny_ext (i := 14) _ _ _ _ _ rfl rfl rfl rfl rfl rfl (by kernel_rfl) (by kernel_rfl) (by kernel_rfl) (fun _ _ _ h => h) ?_
  refine wpAny_ext (i := 15) _ _ _ _ _ rfl rfl rfl rfl rfl rfl (by kernel_rfl) (by kernel_rfl) (by kernel_rfl) (fun _ _ _ h => h) ?_
  refine wpAny_ext (i := 16) _ _ _ _ _ rfl rfl rfl rfl rfl rfl (by kernel_rfl) (by kernel_rfl) (by kernel_rfl) (fun _ _ _ h => h) ?_
  refine wpAny_tail 17 rfl (by kernel_rfl) ?_
  simp only [Act.put, List.setIfInBounds_toArray, List.set_cons_zero, List.set_cons_succ, List.drop_succ_cons, List.drop_zero, List.getElem_toArray, List.getElem_cons_succ, List.getElem_cons_zero]
  go_wp2_with fail
  go_returns
  exact ⟨rfl, kx.set 1 _, gb_trans (gb_of_below hbx) (gb_set1 wx ⟨q, 1, none⟩ (.int .i64 (x + 1))) (fun g e => .inl e)⟩
theorem pskip_any (q : Nat) (p : Option Addr) (x y n : Int) (w : World) (hK : Bk w q 72 #[.pointer p, .int .i64 x, .int .i64 y]) (hx : 0 ≤ x ∧ x ≤ 1048576) (hn : 0 ≤ n ∧ n ≤ 1048576) :
    Calls Tryz.prog 37 #[.pointer (some ⟨q, 0, none⟩), .int .i64 n] w fun e w' => e = .returned (.bool true) ∧ Bk w' q 72 #[.pointer p, .int .i64 (x + n), .int .i64 y] ∧ w.grownBy w' (some q) := by
  have hwx : wrap64 (x + n) = x + n := IntWalk.wrap64_in _ ⟨by omega, by omega⟩
  obtain ⟨c0, c1, c2⟩ := hK.cell3
  have f1 := hK.frozen 1
  clear hx hn
  go_enter Tryz.func37, Tryz.ntmps37
  go_wp2_with fail
  go_returns
  exact ⟨rfl, hK.set 1 _, gb_set1 w ⟨q, 1, none⟩ (.int .i64 (x + n))⟩
end Go.Proofs.YtmnnilkdaibgkaaGreat
end
section
set_option linter.unusedVariables false
namespace Go.Proofs.YtmnnilkdaibgkaaGreat
open Go.RowKit
set_option maxRecDepth 100000 in
set_option maxHeartbeats 4000000 in
theorem rwalk_A (A : Option Addr) (n cp : Nat) (W H y : Int) (J : Nat → World → Prop) (w : World)
    (hD : ∀ w', Below w.heap.size w w' → Calls Tryz.prog 30 #[.slice A n cp, .int .i64 0, .int .i64 y] w' fun e w'' => ∃ q, e = .returned (.tuple #[.pointer (some ⟨q, 0, none⟩), .int .i64 0]) ∧ J q w'' ∧ Below w'.heap.size w' w'') :
    Calls Tryz.prog 13 #[xfV 1 A n cp, .int .i64 W, .int .i64 H, .int .i64 y] w fun e w' => ∃ q, e = .returned (.tuple #[rnA q, rsA q]) ∧ J q w' ∧ Below w.heap.size w w' := by
  have hb := (Below.refl w.heap.size w).alloc (Nat.le_refl _) (.cells #[.int .i64 1, .slice A n cp] 24)
  have hBs := hb.size
  have hD1 := hD _ hb
  clear hD
  go_enter Tryz.func13, Tryz.ntmps13
  go_wp2_with (go_at_call 30; (with_reducible refine hD1.mono ?_); rintro e w1 ⟨q, rfl, hJ, hb1⟩)
  go_returns
  exact ⟨q, rfl, hJ, hb.trans (hb1.mono hBs)⟩
set_option maxRecDepth 100000 in
set_option maxHeartbeats 4000000 in
theorem rwalk_H (A : Option Addr) (n cp : Nat) (W H y : Int) (J : Nat → World → Prop) (w : World)
    (hD : ∀ w', Below w.heap.size w w' → Calls Tryz.prog 33 #[.slice A n cp, .int .i64 W, .int .i64 H, .int .i64 0, .int .i64 y] w' fun e w'' => ∃ q, e = .returned (.tuple #[.pointer (some ⟨q, 0, none⟩), .int .i64 0]) ∧ J q w'' ∧ Below w'.heap.size w' w'') :
    Calls Tryz.prog 13 #[xfV 2 A n cp, .int .i64 W, .int .i64 H, .int .i64 y] w fun e w' => ∃ q, e = .returned (.tuple #[rnH q, rsH q]) ∧ J q w' ∧ Below w.heap.size w w' := by
  have hb := (Below.refl w.heap.size w).alloc (Nat.le_refl _) (.cells #[.int .i64 2, .slice A n cp] 24)
  have hBs := hb.size
  have hD1 := hD _ hb
  clear hD
  go_enter Tryz.func13, Tryz.ntmps13
  go_wp2_with (go_at_call 33; (with_reducible refine hD1.mono ?_); rintro e w1 ⟨q, rfl, hJ, hb1⟩)
  go_returns
  exact ⟨q, rfl, hJ, hb.trans (hb1.mono hBs)⟩
set_option maxRecDepth 100000 in
set_option maxHeartbeats 4000000 in
theorem rwalk_P (k : Int) (A : Option Addr) (n cp : Nat) (W H y : Int) (J : Option Addr → World → World → Prop) (w : World) (h1 : k ≠ 1) (h2 : k ≠ 2)
    (hD : ∀ w', Below w.heap.size w w' → Calls Tryz.prog 29 #[.agg #[.int .i64 k, .slice A n cp], .int .i64 W, .int .i64 H] w' fun e w'' => ∃ p, e = .returned (.tuple #[.pointer p, .int .i64 0]) ∧ J p w' w'' ∧ Below w'.heap.size w' w'') :
    Calls Tryz.prog 13 #[xfV k A n cp, .int .i64 W, .int .i64 H, .int .i64 y] w fun e w' => ∃ q, e = .returned (.tuple #[rnP q, rsP q]) ∧ (∃ p w1 w2, J p w1 w2 ∧ w1.heap.size ≤ w2.heap.size ∧ w.heap.size ≤ w1.heap.size ∧ q = w2.heap.size ∧ w' = w2.alloc (.cells #[.pointer p, .int .i64 0, .int .i64 y] 72)) ∧ Below w.heap.size w w' := by
  have hb := (Below.refl w.heap.size w).alloc (Nat.le_refl _) (.cells #[.int .i64 k, .slice A n cp] 24)
  have hBs := hb.size
  have hD1 := hD _ hb
  have k1 : (k == 1) = false := by simpa using h1
  have k2 : (k == 2) = false := by simpa using h2
  clear hD h1 h2
  go_enter Tryz.func13, Tryz.ntmps13
  go_wp2_with (first
    | (refine ldB rfl _ _ rfl (Bk.new w 24 #[.int .i64 k, .slice A n cp]) rfl Tryz.underlying24 rfl (by kernel_rfl) ?_)
    | (go_at_call 29; (with_reducible refine hD1.mono ?_); rintro e w1 ⟨p, rfl, hJ, hb1⟩))
  go_returns
  exact ⟨_, rfl, ⟨p, _, w1, hJ, hb1.size, hBs, rfl, rfl⟩, (hb.trans (hb1.mono hBs)).alloc (Nat.le_trans hBs hb1.size) _⟩
set_option maxRecDepth 100000 in
set_option maxHeartbeats 4000000 in
theorem rwnew_bad (k : Int) (A : Option Addr) (n cp : Nat) (W H y C : Int) (w : World) (hC : C ≠ 0)
    (hX : ∀ w', Below w.heap.size w w' → Calls Tryz.prog 12 #[xfV k A n cp, .int .i64 W, .int .i64 H] w' fun e w'' => e = .returned (.int .i64 C) ∧ Below w'.heap.size w' w'') :
    Calls Tryz.prog 4 #[xfV k A n cp, .int .i64 W, .int .i64 H, .int .i64 y] w fun e w' => e = .returned (.tuple #[.pointer none, .int .i64 C]) ∧ Below w.heap.size w w' := by
  have hb := (Below.refl w.heap.size w).alloc (Nat.le_refl _) (.cells #[.int .i64 k, .slice A n cp] 24)
  have hBs := hb.size
  have hX1 := hX _ hb
  have hc : (C != 0) = true := by simpa using hC
  clear hX hC
  go_enter Tryz.func4, Tryz.ntmps4
  go_wp2_with (first
    | (refine ldB rfl _ _ rfl (Bk.new w 24 #[.int .i64 k, .slice A n cp]) rfl Tryz.underlying24 rfl (by kernel_rfl) ?_)
    | (go_at_call 12; (with_reducible refine hX1.mono ?_); rintro e w1 ⟨rfl, hb1⟩))
  go_returns
  exact ⟨rfl, hb.trans (hb1.mono hBs)⟩
set_option maxRecDepth 100000 in
set_option maxHeartbeats 4000000 in
theorem rwnew_far (k : Int) (A : Option Addr) (n cp : Nat) (W H y : Int) (w : World) (hy : y < 0 ∨ H ≤ y)
    (hX : ∀ w', Below w.heap.size w w' → Calls Tryz.prog 12 #[xfV k A n cp, .int .i64 W, .int .i64 H] w' fun e w'' => e = .returned (.int .i64 0) ∧ Below w'.heap.size w' w'') :
    Calls Tryz.prog 4 #[xfV k A n cp, .int .i64 W, .int .i64 H, .int .i64 y] w fun e w' => e = .returned (.tuple #[.pointer none, .int .i64 11]) ∧ Below w.heap.size w w' := by
  have hb := (Below.refl w.heap.size w).alloc (Nat.le_refl _) (.cells #[.int .i64 k, .slice A n cp] 24)
  have hBs := hb.size
  have hX1 := hX _ hb
  clear hX
  by_cases h0 : y < 0
  · clear hy
    go_enter Tryz.func4, Tryz.ntmps4
    go_wp2_with (first
      | (refine ldB rfl _ _ rfl (Bk.new w 24 #[.int .i64 k, .slice A n cp]) rfl Tryz.underlying24 rfl (by kernel_rfl) ?_)
      | (go_at_call 12; (with_reducible refine hX1.mono ?_); rintro e w1 ⟨rfl, hb1⟩))
    go_returns
    exact ⟨rfl, hb.trans (hb1.mono hBs)⟩
  · have h1 : H ≤ y := by omega
    clear hy
    go_enter Tryz.func4, Tryz.ntmps4
    go_wp2_with (first
      | (refine ldB rfl _ _ rfl (Bk.new w 24 #[.int .i64 k, .slice A n cp]) rfl Tryz.underlying24 rfl (by kernel_rfl) ?_)
      | (go_at_call 12; (with_reducible refine hX1.mono ?_); rintro e w1 ⟨rfl, hb1⟩))
    go_returns
    exact ⟨rfl, hb.trans (hb1.mono hBs)⟩
set_option maxRecDepth 100000 in
set_option maxHeartbeats 4000000 in
theorem rwnew_A (k : Int) (A : Option Addr) (n cp : Nat) (W H y : Int) (J : Nat → World → Prop) (w : World) (hy : 0 ≤ y ∧ y < H)
    (hX : ∀ w', Below w.heap.size w w' → Calls Tryz.prog 12 #[xfV k A n cp, .int .i64 W, .int .i64 H] w' fun e w'' => e = .returned (.int .i64 0) ∧ Below w'.heap.size w' w'')
    (hW : ∀ w', Below w.heap.size w w' → Calls Tryz.prog 13 #[xfV k A n cp, .int .i64 W, .int .i64 H, .int .i64 y] w' fun e w'' => ∃ q, e = .returned (.tuple #[rnA q, rsA q]) ∧ J q w'' ∧ Below w'.heap.size w' w'') :
    Calls Tryz.prog 4 #[xfV k A n cp, .int .i64 W, .int .i64 H, .int .i64 y] w fun e w' => ∃ q w2, e = .returned (.tuple #[.pointer (some ⟨w2.heap.size, 0, none⟩), .int .i64 0]) ∧ J q w2 ∧ w' = w2.alloc (.cells (rwA 0 W (rnA q) (rsA q)) 48) ∧ Below w.heap.size w w2 := by
  have hb := (Below.refl w.heap.size w).alloc (Nat.le_refl _) (.cells #[.int .i64 k, .slice A n cp] 24)
  have hBs := hb.size
  have hX1 := hX _ hb
  obtain ⟨y0, y1⟩ := hy
  clear hX
  have kb : Bk (w.alloc (.cells #[.int .i64 k, .slice A n cp] 24)) w.heap.size 24 #[.int .i64 k, .slice A n cp] := Bk.new w 24 #[.int .i64 k, .slice A n cp]
  go_enter Tryz.func4, Tryz.ntmps4
  go_wp2_with (first
    | (refine ldB rfl _ _ rfl kb rfl Tryz.underlying24 rfl (by kernel_rfl) ?_)
    | (go_at_call 12; (with_reducible refine hX1.mono ?_); rintro e w1 ⟨rfl, hb1⟩; have kb1 := kb.nx hb1; have hb2 := hb.trans (hb1.mono hBs); have hB2 := hb2.size)
    | (refine ldB rfl _ _ rfl kb1 rfl Tryz.underlying24 rfl (by kernel_rfl) ?_)
    | (go_at_call 13; (with_reducible refine (hW _ hb2).mono ?_); rintro e w3 ⟨q, rfl, hJ, hb3⟩))
  go_returns
  exact ⟨q, w3, rfl, hJ, rfl, hb2.trans (hb3.mono hB2)⟩
set_option maxRecDepth 100000 in
set_option maxHeartbeats 4000000 in
theorem rwnew_H (k : Int) (A : Option Addr) (n cp : Nat) (W H y : Int) (J : Nat → World → Prop) (w : World) (hy : 0 ≤ y ∧ y < H)
    (hX : ∀ w', Below w.heap.size w w' → Calls Tryz.prog 12 #[xfV k A n cp, .int .i64 W, .int .i64 H] w' fun e w'' => e = .returned (.int .i64 0) ∧ Below w'.heap.size w' w'')
    (hW : ∀ w', Below w.heap.size w w' → Calls Tryz.prog 13 #[xfV k A n cp, .int .i64 W, .int .i64 H, .int .i64 y] w' fun e w'' => ∃ q, e = .returned (.tuple #[rnH q, rsH q]) ∧ J q w'' ∧ Below w'.heap.size w' w'') :
    Calls Tryz.prog 4 #[xfV k A n cp, .int .i64 W, .int .i64 H, .int .i64 y] w fun e w' => ∃ q w2, e = .returned (.tuple #[.pointer (some ⟨w2.heap.size, 0, none⟩), .int .i64 0]) ∧ J q w2 ∧ w' = w2.alloc (.cells (rwA 0 W (rnH q) (rsH q)) 48) ∧ Below w.heap.size w w2 := by
  have hb := (Below.refl w.heap.size w).alloc (Nat.le_refl _) (.cells #[.int .i64 k, .slice A n cp] 24)
  have hBs := hb.size
  have hX1 := hX _ hb
  obtain ⟨y0, y1⟩ := hy
  clear hX
  have kb : Bk (w.alloc (.cells #[.int .i64 k, .slice A n cp] 24)) w.heap.size 24 #[.int .i64 k, .slice A n cp] := Bk.new w 24 #[.int .i64 k, .slice A n cp]
  go_enter Tryz.func4, Tryz.ntmps4
  go_wp2_with (first
    | (refine ldB rfl _ _ rfl kb rfl Tryz.underlying24 rfl (by kernel_rfl) ?_)
    | (go_at_call 12; (with_reducible refine hX1.mono ?_); rintro e w1 ⟨rfl, hb1⟩; have kb1 := kb.nx hb1; have hb2 := hb.trans (hb1.mono hBs); have hB2 := hb2.size)
    | (refine ldB rfl _ _ rfl kb1 rfl Tryz.underlying24 rfl (by kernel_rfl) ?_)
    | (go_at_call 13; (with_reducible refine (hW _ hb2).mono ?_); rintro e w3 ⟨q, rfl, hJ, hb3⟩))
  go_returns
  exact ⟨q, w3, rfl, hJ, rfl, hb2.trans (hb3.mono hB2)⟩
set_option maxRecDepth 100000 in
set_option maxHeartbeats 4000000 in
theorem rwnew_P (k : Int) (A : Option Addr) (n cp : Nat) (W H y : Int) (J : Nat → World → Prop) (w : World) (hy : 0 ≤ y ∧ y < H)
    (hX : ∀ w', Below w.heap.size w w' → Calls Tryz.prog 12 #[xfV k A n cp, .int .i64 W, .int .i64 H] w' fun e w'' => e = .returned (.int .i64 0) ∧ Below w'.heap.size w' w'')
    (hW : ∀ w', Below w.heap.size w w' → Calls Tryz.prog 13 #[xfV k A n cp, .int .i64 W, .int .i64 H, .int .i64 y] w' fun e w'' => ∃ q, e = .returned (.tuple #[rnP q, rsP q]) ∧ J q w'' ∧ Below w'.heap.size w' w'') :
    Calls Tryz.prog 4 #[xfV k A n cp, .int .i64 W, .int .i64 H, .int .i64 y] w fun e w' => ∃ q w2, e = .returned (.tuple #[.pointer (some ⟨w2.heap.size, 0, none⟩), .int .i64 0]) ∧ J q w2 ∧ w' = w2.alloc (.cells (rwA 0 W (rnP q) (rsP q)) 48) ∧ Below w.heap.size w w2 := by
  have hb := (Below.refl w.heap.size w).alloc (Nat.le_refl _) (.cells #[.int .i64 k, .slice A n cp] 24)
  have hBs := hb.size
  have hX1 := hX _ hb
  obtain ⟨y0, y1⟩ := hy
  clear hX
  have kb : Bk (w.alloc (.cells #[.int .i64 k, .slice A n cp] 24)) w.heap.size 24 #[.int .i64 k, .slice A n cp] := Bk.new w 24 #[.int .i64 k, .slice A n cp]
  go_enter Tryz.func4, Tryz.ntmps4
  go_wp2_with (first
    | (refine ldB rfl _ _ rfl kb rfl Tryz.underlying24 rfl (by kernel_rfl) ?_)
    | (go_at_call 12; (with_reducible refine hX1.mono ?_); rintro e w1 ⟨rfl, hb1⟩; have kb1 := kb.nx hb1; have hb2 := hb.trans (hb1.mono hBs); have hB2 := hb2.size)
    | (refine ldB rfl _ _ rfl kb1 rfl Tryz.underlying24 rfl (by kernel_rfl) ?_)
    | (go_at_call 13; (with_reducible refine (hW _ hb2).mono ?_); rintro e w3 ⟨q, rfl, hJ, hb3⟩))
  go_returns
  exact ⟨q, w3, rfl, hJ, rfl, hb2.trans (hb3.mono hB2)⟩
end Go.Proofs.YtmnnilkdaibgkaaGreat
end
section
set_option linter.unusedVariables false
namespace Go.Proofs.YtmnnilkdaibgkaaGreat
open Go.RowKit
/-- What lay from C on lies as it lay. -/
def Oth (C : Nat) (w w' : World) : Prop := ∀ i, C ≤ i → i < w.heap.size → w'.heap[i]? = w.heap[i]?
theorem own_oth {w w' : World} {C base : Nat} {e : TypeId} {size n : Nat} {v : Value} {xs : List Value} (h : w.ownsRow base e size v n xs) (ho : Oth C w w') (hC : C ≤ base) : w'.ownsRow base e size v n xs := by
  refine ⟨h.1, ?_⟩
  rcases h.2 with h2 | ⟨g, cap, cur, hv, hg, hh, r⟩
  · exact .inl h2
  · exact .inr ⟨g, cap, cur, hv, hg, by rw [ho g (by omega) (Bk.lt hh)]; exact hh, r⟩
/-- What a row of W columns does whose state at a column is RS: it tells F and G. -/
def RwFn (B C g : Nat) (W : Int) (RS : Int → World → Prop) (F G : Int → Int) : Prop :=
  (∀ x w, RS x w → C ≤ w.heap.size ∧ ∃ fn fs, Bk w g 48 (rwA x W fn fs)) ∧
  (∀ x w w', RS x w → Below C w w' → RS x w') ∧
  (∀ x w, RS x w → 0 ≤ x → x < W → Calls Tryz.prog 6 #[.pointer (some ⟨g, 0, none⟩)] w fun e w' => e = .returned (.tuple #[.int .i64 (F x), .int .i64 (G x), .bool true]) ∧ RS (x + 1) w' ∧ Below B w w' ∧ Oth C w w') ∧
  (∀ x n w, RS x w → 0 ≤ x → 0 ≤ n → x + n ≤ W → Calls Tryz.prog 8 #[.pointer (some ⟨g, 0, none⟩), .int .i64 n] w fun e w' => e = .returned (.bool true) ∧ RS (x + n) w' ∧ Below B w w' ∧ Oth C w w')
theorem oth_two {w w1 w2 : World} {C g q : Nat} (h1 : w.grownBy w1 (some g)) (h2 : w1.grownBy w2 (some q)) (hg : g < C) (hq : q < C) : Oth C w w2 := fun i h0 hi =>
  (h2.block i (Nat.lt_of_lt_of_le hi h1.size) (by simp; omega)).trans (h1.block i hi (by simp; omega))
theorem bk_gb {w w' : World} {g q : Nat} {t : TypeId} {cs : Array Value} (hK : Bk w q t cs) (hg : w.grownBy w' (some g)) (hne : q ≠ g) : Bk w' q t cs := (hg.block q hK.lt (by simpa using hne)).trans hK
theorem rwfn_A (B C g q : Nat) (W : Int) (I : Int → World → Prop) (F G : Int → Int) (hBq : B ≤ q) (hBg : B ≤ g) (hqC : q < C) (hgC : g < C) (hne : q ≠ g) (hW : 1 ≤ W ∧ W ≤ 32768)
    (hIC : ∀ x w, I x w → C ≤ w.heap.size) (hIk : ∀ x w w', I x w → Below C w w' → I x w') (hIg : ∀ x w w', I x w → w.grownBy w' (some g) → I x w')
    (hN : ∀ x w, I x w → 0 ≤ x → x < W → Calls Tryz.prog 31 #[.pointer (some ⟨q, 0, none⟩)] w fun e w' => e = .returned (.tuple #[.int .i64 (F x), .int .i64 (G x), .bool true]) ∧ I (x + 1) w' ∧ w.grownBy w' (some q))
    (hS : ∀ x n w, I x w → 0 ≤ x → 0 ≤ n → x + n ≤ W → Calls Tryz.prog 32 #[.pointer (some ⟨q, 0, none⟩), .int .i64 n] w fun e w' => e = .returned (.bool true) ∧ I (x + n) w' ∧ w.grownBy w' (some q)) :
    RwFn B C g W (fun x w => Bk w g 48 (rwA x W (rnA q) (rsA q)) ∧ I x w) F G := by
  refine ⟨fun x w h => ⟨hIC x w h.2, _, _, h.1⟩, fun x w w' h hb => ⟨h.1.below hb hgC, hIk x w w' h.2 hb⟩, ?_, ?_⟩
  · intro x w h h0 h1
    refine rwnext_A g q x W (F x) (G x) (fun w' => (Bk w' g 48 (rwA (x + 1) W (rnA q) (rsA q)) ∧ I (x + 1) w') ∧ Below B w w' ∧ Oth C w w') w h.1 ⟨h0, h1, hW.2⟩ ?_
    intro w' hk hg
    refine (hN x w' (hIg x w w' h.2 hg) h0 h1).mono ?_
    rintro e w2 ⟨rfl, hI, hg2⟩
    have hBw : B ≤ w.heap.size := Nat.le_of_lt (Nat.lt_of_le_of_lt hBg h.1.lt)
    exact ⟨rfl, ⟨bk_gb hk hg2 hne.symm, hI⟩, ((Below.refl B w).grown hg hBw (fun k e => by injection e with e; omega)).grown hg2 (Nat.le_trans hBw hg.size) (fun k e => by injection e with e; omega), oth_two hg hg2 hgC hqC⟩
  · intro x n w h h0 h1 h2
    refine rwskip_A g q x W n (fun w' => (Bk w' g 48 (rwA (x + n) W (rnA q) (rsA q)) ∧ I (x + n) w') ∧ Below B w w' ∧ Oth C w w') w h.1 hW h0 ⟨h1, h2⟩ ?_
    intro w' hk hg
    refine (hS x n w' (hIg x w w' h.2 hg) h0 h1 h2).mono ?_
    rintro e w2 ⟨rfl, hI, hg2⟩
    have hBw : B ≤ w.heap.size := Nat.le_of_lt (Nat.lt_of_le_of_lt hBg h.1.lt)
    exact ⟨rfl, ⟨bk_gb hk hg2 hne.symm, hI⟩, ((Below.refl B w).grown hg hBw (fun k e => by injection e with e; omega)).grown hg2 (Nat.le_trans hBw hg.size) (fun k e => by injection e with e; omega), oth_two hg hg2 hgC hqC⟩
theorem rwfn_H (B C g q : Nat) (W : Int) (I : Int → World → Prop) (F G : Int → Int) (hBq : B ≤ q) (hBg : B ≤ g) (hqC : q < C) (hgC : g < C) (hne : q ≠ g) (hW : 1 ≤ W ∧ W ≤ 32768)
    (hIC : ∀ x w, I x w → C ≤ w.heap.size) (hIk : ∀ x w w', I x w → Below C w w' → I x w') (hIg : ∀ x w w', I x w → w.grownBy w' (some g) → I x w')
    (hN : ∀ x w, I x w → 0 ≤ x → x < W → Calls Tryz.prog 34 #[.agg #[.pointer (some ⟨q, 0, none⟩)]] w fun e w' => e = .returned (.tuple #[.int .i64 (F x), .int .i64 (G x), .bool true]) ∧ I (x + 1) w' ∧ w.grownBy w' (some q))
    (hS : ∀ x n w, I x w → 0 ≤ x → 0 ≤ n → x + n ≤ W → Calls Tryz.prog 35 #[.pointer (some ⟨q, 0, none⟩), .int .i64 n] w fun e w' => e = .returned (.bool true) ∧ I (x + n) w' ∧ w.grownBy w' (some q)) :
    RwFn B C g W (fun x w => Bk w g 48 (rwA x W (rnH q) (rsH q)) ∧ I x w) F G := by
  refine ⟨fun x w h => ⟨hIC x w h.2, _, _, h.1⟩, fun x w w' h hb => ⟨h.1.below hb hgC, hIk x w w' h.2 hb⟩, ?_, ?_⟩
  · intro x w h h0 h1
    refine rwnext_H g q x W (F x) (G x) (fun w' => (Bk w' g 48 (rwA (x + 1) W (rnH q) (rsH q)) ∧ I (x + 1) w') ∧ Below B w w' ∧ Oth C w w') w h.1 ⟨h0, h1, hW.2⟩ ?_
    intro w' hk hg
    refine (hN x w' (hIg x w w' h.2 hg) h0 h1).mono ?_
    rintro e w2 ⟨rfl, hI, hg2⟩
    have hBw : B ≤ w.heap.size := Nat.le_of_lt (Nat.lt_of_le_of_lt hBg h.1.lt)
    exact ⟨rfl, ⟨bk_gb hk hg2 hne.symm, hI⟩, ((Below.refl B w).grown hg hBw (fun k e => by injection e with e; omega)).grown hg2 (Nat.le_trans hBw hg.size) (fun k e => by injection e with e; omega), oth_two hg hg2 hgC hqC⟩
  · intro x n w h h0 h1 h2
    refine rwskip_H g q x W n (fun w' => (Bk w' g 48 (rwA (x + n) W (rnH q) (rsH q)) ∧ I (x + n) w') ∧ Below B w w' ∧ Oth C w w') w h.1 hW h0 ⟨h1, h2⟩ ?_
    intro w' hk hg
    refine (hS x n w' (hIg x w w' h.2 hg) h0 h1 h2).mono ?_
    rintro e w2 ⟨rfl, hI, hg2⟩
    have hBw : B ≤ w.heap.size := Nat.le_of_lt (Nat.lt_of_le_of_lt hBg h.1.lt)
    exact ⟨rfl, ⟨bk_gb hk hg2 hne.symm, hI⟩, ((Below.refl B w).grown hg hBw (fun k e => by injection e with e; omega)).grown hg2 (Nat.le_trans hBw hg.size) (fun k e => by injection e with e; omega), oth_two hg hg2 hgC hqC⟩
theorem rwfn_P (B C g q : Nat) (W : Int) (I : Int → World → Prop) (F G : Int → Int) (hBq : B ≤ q) (hBg : B ≤ g) (hqC : q < C) (hgC : g < C) (hne : q ≠ g) (hW : 1 ≤ W ∧ W ≤ 32768)
    (hIC : ∀ x w, I x w → C ≤ w.heap.size) (hIk : ∀ x w w', I x w → Below C w w' → I x w') (hIg : ∀ x w w', I x w → w.grownBy w' (some g) → I x w')
    (hN : ∀ x w, I x w → 0 ≤ x → x < W → Calls Tryz.prog 36 #[.pointer (some ⟨q, 0, none⟩)] w fun e w' => e = .returned (.tuple #[.int .i64 (F x), .int .i64 (G x), .bool true]) ∧ I (x + 1) w' ∧ w.grownBy w' (some q))
    (hS : ∀ x n w, I x w → 0 ≤ x → 0 ≤ n → x + n ≤ W → Calls Tryz.prog 37 #[.pointer (some ⟨q, 0, none⟩), .int .i64 n] w fun e w' => e = .returned (.bool true) ∧ I (x + n) w' ∧ w.grownBy w' (some q)) :
    RwFn B C g W (fun x w => Bk w g 48 (rwA x W (rnP q) (rsP q)) ∧ I x w) F G := by
  refine ⟨fun x w h => ⟨hIC x w h.2, _, _, h.1⟩, fun x w w' h hb => ⟨h.1.below hb hgC, hIk x w w' h.2 hb⟩, ?_, ?_⟩
  · intro x w h h0 h1
    refine rwnext_P g q x W (F x) (G x) (fun w' => (Bk w' g 48 (rwA (x + 1) W (rnP q) (rsP q)) ∧ I (x + 1) w') ∧ Below B w w' ∧ Oth C w w') w h.1 ⟨h0, h1, hW.2⟩ ?_
    intro w' hk hg
    refine (hN x w' (hIg x w w' h.2 hg) h0 h1).mono ?_
    rintro e w2 ⟨rfl, hI, hg2⟩
    have hBw : B ≤ w.heap.size := Nat.le_of_lt (Nat.lt_of_le_of_lt hBg h.1.lt)
    exact ⟨rfl, ⟨bk_gb hk hg2 hne.symm, hI⟩, ((Below.refl B w).grown hg hBw (fun k e => by injection e with e; omega)).grown hg2 (Nat.le_trans hBw hg.size) (fun k e => by injection e with e; omega), oth_two hg hg2 hgC hqC⟩
  · intro x n w h h0 h1 h2
    refine rwskip_P g q x W n (fun w' => (Bk w' g 48 (rwA (x + n) W (rnP q) (rsP q)) ∧ I (x + n) w') ∧ Below B w w' ∧ Oth C w w') w h.1 hW h0 ⟨h1, h2⟩ ?_
    intro w' hk hg
    refine (hS x n w' (hIg x w w' h.2 hg) h0 h1 h2).mono ?_
    rintro e w2 ⟨rfl, hI, hg2⟩
    have hBw : B ≤ w.heap.size := Nat.le_of_lt (Nat.lt_of_le_of_lt hBg h.1.lt)
    exact ⟨rfl, ⟨bk_gb hk hg2 hne.symm, hI⟩, ((Below.refl B w).grown hg hBw (fun k e => by injection e with e; omega)).grown hg2 (Nat.le_trans hBw hg.size) (fun k e => by injection e with e; omega), oth_two hg hg2 hgC hqC⟩
end Go.Proofs.YtmnnilkdaibgkaaGreat
end
