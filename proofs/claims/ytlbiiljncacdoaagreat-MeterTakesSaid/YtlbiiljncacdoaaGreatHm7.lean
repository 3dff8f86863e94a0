/- Maps of straight lines: the place of a place. -/
import Derived.Test.YtlbiiljncacdoaaGreatHm6
set_option linter.unusedVariables false
namespace Go.Proofs.YtlbiiljncacdoaaGreat
open Go.RowKit
/-- At's answer. -/
def atX (a : Nat → Int) (x y d : Int) : Int := if rightH x y d = true ∧ undR a x y d ≠ 0 then plc (smR (a 0) (a 1) (a 2) x y d) (undR a x y d) else 0
def atY (a : Nat → Int) (x y d : Int) : Int := if rightH x y d = true ∧ undR a x y d ≠ 0 then plc (smR (a 3) (a 4) (a 5) x y d) (undR a x y d) else 0
def atE (a : Nat → Int) (x y d : Int) : Int := if rightH x y d = true then if undR a x y d ≠ 0 then 0 else 41 else 11
theorem sm_wq {x y z px py d : Int} (h : LnOk x y z) (hp : rightH px py d = true) : Wq (smR x y z px py d * 65536) := by
  obtain ⟨b0, b1, b2, b3, b4, b5, _⟩ := sum_bd h hp
  unfold Wq smR
  omega
theorem und_j64 {a : Nat → Int} {px py d : Int} (h : AdOk a) : J64 (undR a px py d) := by
  unfold undR J64
  split
  · rename_i hp
    obtain ⟨⟨b0, b1⟩, ⟨b2, b3⟩, b4, b5⟩ := und_bd h hp
    omega
  · omega
set_option maxRecDepth 100000 in
set_option maxHeartbeats 8000000 in
theorem at_nil (x y d : Int) (w : World) : Calls Tryz.prog 182 #[.pointer none, .int .i64 x, .int .i64 y, .int .i64 d] w fun e w' =>
    e = .returned (.tuple #[.int .i64 0, .int .i64 0, .int .i64 10]) ∧ w = w' := by
  go_enter Tryz.func182, Tryz.ntmps182
  go_wp2_with fail
  go_returns
  exact ⟨rfl, rfl⟩
set_option maxRecDepth 100000 in
set_option maxHeartbeats 8000000 in
theorem hat_any (a : Nat → Int) (g : Nat) (x y d : Int) (w : World) (hK : Bk w g 268 (mA a)) (h : AdOk a) :
    Calls Tryz.prog 182 #[.pointer (some ⟨g, 0, none⟩), .int .i64 x, .int .i64 y, .int .i64 d] w fun e w' =>
      e = .returned (.tuple #[.int .i64 (atX a x y d), .int .i64 (atY a x y d), .int .i64 (atE a x y d)]) ∧ Below w.heap.size w w' := by
  have hb0 := Below.refl w.heap.size w
  have hR := fun w' => hright_any x y d w'
  cases hp : rightH x y d
  · have E1 : atX a x y d = 0 := by simp [atX, hp]
    have E2 : atY a x y d = 0 := by simp [atY, hp]
    have E3 : atE a x y d = 11 := by simp [atE, hp]
    rw [E1, E2, E3]
    clear E1 E2 E3
    rw [hp] at hR
    clear hp
    go_enter Tryz.func182, Tryz.ntmps182
    go_wp2_with (first | (go_at_call 224; (with_reducible refine (hR _).mono ?_); rintro e w1 ⟨rfl, rfl⟩))
    go_returns
    exact ⟨rfl, hb0⟩
  · have hU := fun (w' : World) (hk : Bk w' g 268 (mA a)) => under_any a g x y d w' hk h
    have hS1 := fun w' => hsum_any (a 0) (a 1) (a 2) x y d w' h.u hp
    have hS2 := fun w' => hsum_any (a 3) (a 4) (a 5) x y d w' h.v hp
    have hj := und_j64 (px := x) (py := y) (d := d) h
    have q1 := sm_wq h.u hp
    have q2 := sm_wq h.v hp
    by_cases hu : undR a x y d = 0
    · have E1 : atX a x y d = 0 := by simp [atX, hu]
      have E2 : atY a x y d = 0 := by simp [atY, hu]
      have E3 : atE a x y d = 41 := by simp [atE, hp, hu]
      rw [E1, E2, E3]
      clear E1 E2 E3
      rw [hp] at hR
      rw [hu] at hU
      clear hp hu hj q1 q2
      generalize smR (a 0) (a 1) (a 2) x y d = s1 at *
      generalize smR (a 3) (a 4) (a 5) x y d = s2 at *
      have hP1 := fun w' => qplace_0 s1 w'
      have hP2 := fun w' => qplace_0 s2 w'
      go_enter Tryz.func182, Tryz.ntmps182
      go_wp2_with (first | (go_at_call 224; (with_reducible refine (hR _).mono ?_); rintro e w1 ⟨rfl, rfl⟩))
      refine (hU _ hK).mono ?_
      rintro e w2 ⟨rfl, hb2⟩
      replace hK := hK.nx hb2
      obtain ⟨c0, c1, c2, c3, c4, c5, c6, c7, c8⟩ := hK.cell9
      go_wp2_with fail
      refine (hS1 _).mono ?_
      rintro e w3 ⟨rfl, hb3⟩
      replace hK := hK.nx hb3
      replace hb3 := hb2.trans (hb3.mono hb2.size)
      clear c0 c1 c2 c3 c4 c5 c6 c7 c8 hb2
      go_wp2_with fail
      refine (hP1 _).mono ?_
      rintro e w4 ⟨rfl, hb4⟩
      replace hK := hK.nx hb4
      replace hb4 := hb3.trans (hb4.mono hb3.size)
      clear hb3
      obtain ⟨c0, c1, c2, c3, c4, c5, c6, c7, c8⟩ := hK.cell9
      go_wp2_with fail
      refine (hS2 _).mono ?_
      rintro e w5 ⟨rfl, hb5⟩
      replace hb5 := hb4.trans (hb5.mono hb4.size)
      clear c0 c1 c2 c3 c4 c5 c6 c7 c8 hb4
      go_wp2_with fail
      refine (hP2 _).mono ?_
      rintro e w6 ⟨rfl, hb6⟩
      replace hb6 := hb5.trans (hb6.mono hb5.size)
      go_wp2_with fail
      go_returns
      exact ⟨rfl, hb6⟩
    · have E1 : atX a x y d = plc (smR (a 0) (a 1) (a 2) x y d) (undR a x y d) := by simp [atX, hp, hu]
      have E2 : atY a x y d = plc (smR (a 3) (a 4) (a 5) x y d) (undR a x y d) := by simp [atY, hp, hu]
      have E3 : atE a x y d = 0 := by simp [atE, hp, hu]
      rw [E1, E2, E3]
      clear E1 E2 E3
      rw [hp] at hR
      have hP1 := fun w' => qplace_any (smR (a 0) (a 1) (a 2) x y d) (undR a x y d) w' q1 hu hj
      have hP2 := fun w' => qplace_any (smR (a 3) (a 4) (a 5) x y d) (undR a x y d) w' q2 hu hj
      clear hp hu hj q1 q2
      generalize plc (smR (a 0) (a 1) (a 2) x y d) (undR a x y d) = p1 at *
      generalize plc (smR (a 3) (a 4) (a 5) x y d) (undR a x y d) = p2 at *
      generalize smR (a 0) (a 1) (a 2) x y d = s1 at *
      generalize smR (a 3) (a 4) (a 5) x y d = s2 at *
      generalize undR a x y d = u at *
      go_enter Tryz.func182, Tryz.ntmps182
      go_wp2_with (first | (go_at_call 224; (with_reducible refine (hR _).mono ?_); rintro e w1 ⟨rfl, rfl⟩))
      refine (hU _ hK).mono ?_
      rintro e w2 ⟨rfl, hb2⟩
      replace hK := hK.nx hb2
      obtain ⟨c0, c1, c2, c3, c4, c5, c6, c7, c8⟩ := hK.cell9
      go_wp2_with fail
      refine (hS1 _).mono ?_
      rintro e w3 ⟨rfl, hb3⟩
      replace hK := hK.nx hb3
      replace hb3 := hb2.trans (hb3.mono hb2.size)
      clear c0 c1 c2 c3 c4 c5 c6 c7 c8 hb2
      go_wp2_with fail
      refine (hP1 _).mono ?_
      rintro e w4 ⟨rfl, hb4⟩
      replace hK := hK.nx hb4
      replace hb4 := hb3.trans (hb4.mono hb3.size)
      clear hb3
      obtain ⟨c0, c1, c2, c3, c4, c5, c6, c7, c8⟩ := hK.cell9
      go_wp2_with fail
      refine (hS2 _).mono ?_
      rintro e w5 ⟨rfl, hb5⟩
      replace hb5 := hb4.trans (hb5.mono hb4.size)
      clear c0 c1 c2 c3 c4 c5 c6 c7 c8 hb4
      go_wp2_with fail
      refine (hP2 _).mono ?_
      rintro e w6 ⟨rfl, hb6⟩
      replace hb6 := hb5.trans (hb6.mono hb5.size)
      go_wp2_with fail
      go_returns
      exact ⟨rfl, hb6⟩
end Go.Proofs.YtlbiiljncacdoaaGreat
