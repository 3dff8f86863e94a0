/- Maps of straight lines: their numbers. -/
import Derived.Test.YtlbiiljncacdoaaGreatMt3
set_option linter.unusedVariables false
namespace Go.Proofs.YtlbiiljncacdoaaGreat
open Go.RowKit
def inH (z m : Int) : Bool := decide (-m ≤ z ∧ z ≤ m)
theorem inH_iff {z m : Int} : inH z m = true ↔ (-m ≤ z ∧ z ≤ m) := by unfold inH; exact decide_eq_true_iff
theorem inH_eq (z m : Int) : inH z m = (decide (-m ≤ z) && decide (z ≤ m)) := by unfold inH; simp
set_option maxHeartbeats 400000 in
theorem hin_any (a b : Int) (w : World) (hb0 : 0 ≤ b) (hb : b ≤ 9223372036854775807) : Calls Tryz.prog 252 #[.int .i64 a, .int .i64 b] w fun e w' => e = .returned (.bool (inH a b)) ∧ w = w' := by
  have hw : wrap64 (-b) = -b := IntWalk.wrap64_in _ ⟨by omega, by omega⟩
  by_cases h1 : -b ≤ a
  all_goals
    go_enter Tryz.func252, Tryz.ntmps252
    go_wp2
    go_ret
    exact ⟨ret_bool (by rw [inH_eq]; simp <;> omega), rfl⟩
def most (k : Nat) : Int := if k = 2 ∨ k = 5 then 2147483648 else if k = 6 ∨ k = 7 then 4096 else 16777216
theorem most_bd (k : Nat) : 0 ≤ most k ∧ most k ≤ 2147483648 := by unfold most; split <;> (try split) <;> omega
set_option maxRecDepth 100000 in
theorem most_ix (k : Nat) (hk : k < 9) (w : World) : (Instr.index 295 (.agg #[.int .i64 16777216, .int .i64 16777216, .int .i64 2147483648, .int .i64 16777216, .int .i64 16777216, .int .i64 2147483648, .int .i64 4096, .int .i64 4096, .int .i64 16777216]) (.int .i64 k)).run Tryz.prog w = .ok (.int .i64 (most k)) w := by
  have h9 : k = 0 ∨ k = 1 ∨ k = 2 ∨ k = 3 ∨ k = 4 ∨ k = 5 ∨ k = 6 ∨ k = 7 ∨ k = 8 := by omega
  rcases h9 with rfl | rfl | rfl | rfl | rfl | rfl | rfl | rfl | rfl <;> rfl
def rgB (l : List Int) : Bool := (List.range 9).all (fun i => inH (l.getD i 0) (most i))
theorem rgB_iff {l : List Int} : rgB l = true ↔ ∀ i, i < 9 → inH (l.getD i 0) (most i) = true := by
  unfold rgB; rw [List.all_eq_true]; exact ⟨fun h i hi => h i (List.mem_range.2 hi), fun h i hi => h i (List.mem_range.1 hi)⟩
def rngC (l : List Int) : Int := if l.length ≠ 9 then 12 else if rgB l = true then 0 else 11
set_option maxHeartbeats 2000000 in
theorem ranges_any (l : List Int) (A : Option Addr) (n cp : Nat) (w : World) {B : Nat} (hl : l.length = n) (hr : Rd w B A (l.map (Value.int .i64))) :
    Calls Tryz.prog 221 #[.slice A n cp] w fun e w' => e = .returned (.int .i64 (rngC l)) ∧ w = w' := by
  by_cases hn : n = 9
  · subst hn
    have HL := Lib.hid hl
    clear hl
    go_enter Tryz.func221, Tryz.ntmps221
    go_wp2_with fail
    go_loop [3, 4, 9] (fun _ _ kv => ∃ k : Nat, k ≤ 9 ∧ kv = .int .i64 k ∧ Hid (∀ i, i < k → inH (l.getD i 0) (most i) = true)) (fun _ _ kv => 9 - (intOf kv).toNat)
    case atStart => exact ⟨0, by omega, rfl, by intro i hi; omega⟩
    case round =>
      obtain ⟨k, hk, rfl, hall⟩ := hrel
      by_cases hlt : k < 9
      · obtain ⟨b, o, rfl, hb, hc⟩ := hr.get k (by rw [List.length_map, HL.out]; exact hlt)
        have hx : (l.map (Value.int .i64))[k]'(by rw [List.length_map, HL.out]; exact hlt) = .int .i64 (l.getD k 0) := by
          rw [List.getElem_map, List.getD_eq_getElem?_getD, List.getElem?_eq_getElem (by rw [HL.out]; exact hlt)]; rfl
        rw [hx] at hc
        clear hx
        have hix := most_ix k hlt
        obtain ⟨m0, m1⟩ := most_bd k
        cases hi : inH (l.getD k 0) (most k)
        · have HR : Hid (rngC l = 11) := by
            show _ = _
            unfold rngC
            rw [if_neg (by rw [HL.out]; simp), if_neg]
            intro h
            have := rgB_iff.1 h k hlt
            rw [hi] at this; cases this
          generalize l.getD k 0 = x at *
          generalize most k = mk at *
          go_wp2_with (go_at_call 252; (with_reducible refine (hin_any _ _ _ m0 (by omega)).mono ?_); rintro e w' ⟨rfl, rfl⟩; rw [hi])
          go_ret
          exact ⟨ret_int HR.out.symm, rfl⟩
        · have HN : Hid (∀ i, i < k + 1 → inH (l.getD i 0) (most i) = true) := by
            intro i hi2
            by_cases e : i = k
            · rw [e]; exact hi
            · exact hall.out i (by omega)
          generalize l.getD k 0 = x at *
          generalize most k = mk at *
          go_wp2_with (go_at_call 252; (with_reducible refine (hin_any _ _ _ m0 (by omega)).mono ?_); rintro e w' ⟨rfl, rfl⟩; rw [hi])
          exact ⟨⟨k + 1, by omega, by go_num, HN⟩, by simp [intOf]; omega⟩
      · obtain rfl : k = 9 := by omega
        have HR : Hid (rngC l = 0) := by
          show _ = _
          unfold rngC
          rw [if_neg (by rw [HL.out]; simp), if_pos]
          exact rgB_iff.2 hall.out
        go_wp2_with fail
        go_ret
        exact ⟨ret_int HR.out.symm, rfl⟩
  · have HR : Hid (rngC l = 12) := by show _ = _; unfold rngC; rw [if_pos (by omega)]
    have hnb : ((n : Int) != 9) = true := by rw [bne_iff_ne]; omega
    clear hl hn
    go_enter Tryz.func221, Tryz.ntmps221
    go_wp2_with fail
    all_goals first
      | (go_ret; exact ⟨ret_int HR.out.symm, rfl⟩)
      | (exfalso; omega)
def rightH (x y d : Int) : Bool := decide ((-1048576 ≤ x ∧ x ≤ 1048576) ∧ (-1048576 ≤ y ∧ y ≤ 1048576) ∧ 1 ≤ d ∧ d ≤ 16)
theorem rightH_iff {x y d : Int} : rightH x y d = true ↔ ((-1048576 ≤ x ∧ x ≤ 1048576) ∧ (-1048576 ≤ y ∧ y ≤ 1048576) ∧ 1 ≤ d ∧ d ≤ 16) := by unfold rightH; exact decide_eq_true_iff
set_option maxHeartbeats 1000000 in
theorem hright_any (x y d : Int) (w : World) : Calls Tryz.prog 224 #[.int .i64 x, .int .i64 y, .int .i64 d] w fun e w' => e = .returned (.bool (rightH x y d)) ∧ w = w' := by
  have e0 : rightH x y d = (inH x 1048576 && (inH y 1048576 && (decide (1 ≤ d) && decide (d ≤ 16)))) := by
    unfold rightH inH
    rw [Bool.eq_iff_iff]; simp only [decide_eq_true_iff, Bool.and_eq_true]
  have E0 := Lib.hid e0
  clear e0
  cases h1 : inH x 1048576
  · go_enter Tryz.func224, Tryz.ntmps224
    go_wp2_with (go_at_call 252; (with_reducible refine (hin_any _ _ _ (by decide) (by decide)).mono ?_); rintro e w' ⟨rfl, rfl⟩)
    go_ret
    exact ⟨ret_bool (by rw [E0.out, h1]; rfl), rfl⟩
  · cases h2 : inH y 1048576
    · go_enter Tryz.func224, Tryz.ntmps224
      go_wp2_with (go_at_call 252; (with_reducible refine (hin_any _ _ _ (by decide) (by decide)).mono ?_); rintro e w' ⟨rfl, rfl⟩)
      go_ret
      exact ⟨ret_bool (by rw [E0.out, h1, h2]; rfl), rfl⟩
    · by_cases h3 : 1 ≤ d
      all_goals
        go_enter Tryz.func224, Tryz.ntmps224
        go_wp2_with (go_at_call 252; (with_reducible refine (hin_any _ _ _ (by decide) (by decide)).mono ?_); rintro e w' ⟨rfl, rfl⟩)
        go_ret
        exact ⟨ret_bool (by rw [E0.out, h1, h2]; simp <;> omega), rfl⟩
end Go.Proofs.YtlbiiljncacdoaaGreat
