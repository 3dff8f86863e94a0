/- Several texts in one: Commands: the reference's choice of a name (printed by wip/tools/gencpl.py). -/
import Derived.Test.YtgohbkkeppknoaaGreatDoorCmdParsesZz27
section
set_option linter.unusedVariables false
namespace Go.Proofs.YtgohbkkeppknoaaGreatDoor
open Go.RowKit
/-- The number of a name, and how many numbers it has. -/
def chV (q : Nat) (s : ByteArray) : Value := .tuple #[.int .i64 (kndQ q s), .int .i64 (if kndQ q s < 0 then 0 else cntQ q (kndQ q s))]
theorem emp_of {s : ByteArray} (h : bl s = []) : s = ⟨#[]⟩ := bl_of h
theorem chV_no {q : Nat} {s : ByteArray} (h : kndQ q s = -1) : chV q s = .tuple #[.int .i64 (-1), .int .i64 0] := by unfold chV; rw [h]; rfl
theorem chV_at {q : Nat} {s : ByteArray} {k : Nat} (h : kndQ q s = k) : chV q s = .tuple #[.int .i64 k, .int .i64 (cntQ q k)] := by unfold chV; rw [h, if_neg (by omega)]
theorem knd0_hit (s : ByteArray) (k : Nat) (hk : k < 7) (hne : bl s ≠ []) (he : bl s = nm33 k) : kndQ 0 s = k := by
  rcases (show k = 0 ∨ k = 1 ∨ k = 2 ∨ k = 3 ∨ k = 4 ∨ k = 5 ∨ k = 6 by omega) with rfl | rfl | rfl | rfl | rfl | rfl | rfl
  all_goals first | exact absurd he hne | (obtain rfl := bl_of he; decide +kernel)
theorem knd0_no (s : ByteArray) (hall : ∀ j : Nat, j < 7 → bl s ≠ nm33 j) : kndQ 0 s = -1 := by
  have h : idxS kerW s = -1 := idxS_not _ _ fun b hb => by
    simp only [kerW, List.mem_cons, List.not_mem_nil, or_false] at hb
    rcases hb with rfl | rfl | rfl | rfl
    · exact hall 0 (by omega)
    · exact hall 1 (by omega)
    · exact hall 2 (by omega)
    · exact hall 3 (by omega)
  unfold kndQ
  rw [h]; rfl
set_option maxRecDepth 100000 in
set_option maxHeartbeats 16000000 in
theorem choice_0 (s : ByteArray) (w : World) : Calls Tryz.prog 39 #[.int .i64 3, .string s] w fun e w' => e = .returned (chV 0 s) ∧ Below w.heap.size w w' := by
  by_cases hne : bl s = []
  · obtain rfl := emp_of hne
    have HR : Hid (chV 0 ⟨#[]⟩ = .tuple #[.int .i64 (-1), .int .i64 0]) := chV_no (by decide +kernel)
    clear hne
    go_enter Tryz.func39, Tryz.ntmps39
    go_wp2_with fail
    go_loopw [6] (fun kv wr => ∃ k : Nat, k ≤ 7 ∧ kv = .int .i64 k ∧ w = wr) (fun kv _ => 7 - (intOf kv).toNat)
    case atStart => exact ⟨0, by omega, rfl, rfl⟩
    case round =>
      obtain ⟨k, hk, rfl, rfl⟩ := hrel
      by_cases hlt : k < 7
      · have hlt' : (k : Int) < 7 := by omega
        go_wp2_with fail
        exact ⟨⟨k + 1, by omega, by go_num, by first | rfl | trivial⟩, by simp [intOf]; omega⟩
      · obtain rfl : k = 7 := by omega
        go_wp2_with fail
        go_returns
        exact ⟨by rw [HR.out]; rfl, Below.refl _ _⟩
  have hem := bl_ne hne
  go_enter Tryz.func39, Tryz.ntmps39
  go_wp2_with fail
  go_loopw [6] (fun kv wr => ∃ k : Nat, k ≤ 7 ∧ kv = .int .i64 k ∧ Hid (∀ j : Nat, j < k → bl s ≠ nm33 j) ∧ Below w.heap.size w wr) (fun kv _ => 7 - (intOf kv).toNat)
  case atStart => exact ⟨0, by omega, rfl, (fun j hj => absurd hj (by omega)), Below.refl _ _⟩
  case round =>
    obtain ⟨k, hk, rfl, hall, hbr⟩ := hrel
    by_cases hlt : k < 7
    · have hlt' : (k : Int) < 7 := by omega
      have hN := fun w' => rname33 (k : Int) w'
      obtain ⟨V, HV, hV⟩ : ∃ V, strV (nm33 k) = .string V ∧ bl V = nm33 k := ⟨_, rfl, rfl⟩
      have hcmp : (s.toList == V.toList) = decide (bl s = nm33 k) := by rw [str_eqD, hV]
      clear hV
      by_cases he : bl s = nm33 k
      · rw [decide_eq_true he] at hcmp
        have HK := Lib.hid (knd0_hit s k hlt hne he)
        clear he hall
        rw [HV] at hN
        by_cases h3 : k = 3
        · subst h3
          have HR : Hid (chV 0 s = .tuple #[.int .i64 3, .int .i64 1]) := chV_at HK.out
          clear HV
          replace hN : ∀ w', Calls Tryz.prog 77 #[.int .i64 3] w' fun e w2 => e = .returned (.string V) ∧ Below w'.heap.size w' w2 := hN
          go_wp2_with (go_at_call 77; (with_reducible refine (hN _).mono ?_); rintro e w2 ⟨rfl, hb2⟩)
          go_returns
          exact ⟨by rw [HR.out]; rfl, hbr.trans (hb2.mono hbr.size)⟩
        · have h3b : ((k : Int) == 3) = false := beq_eq_false_iff_ne.2 (by omega)
          have HR : Hid (chV 0 s = .tuple #[.int .i64 k, .int .i64 0]) := by
            show _ = _
            rw [chV_at HK.out, show cntQ 0 k = 0 by simp only [cntQ]; simp; omega]; rfl
          clear h3
          go_wp2_with (go_at_call 77; (with_reducible refine (hN _).mono ?_); rintro e w2 ⟨rfl, hb2⟩)
          go_returns
          exact ⟨by rw [HR.out]; rfl, hbr.trans (hb2.mono hbr.size)⟩
      · rw [decide_eq_false he] at hcmp
        rw [HV] at hN
        have HA : Hid (∀ j : Nat, j < k + 1 → bl s ≠ nm33 j) := fun j hj => by
          rcases Nat.lt_or_ge j k with h | h
          · exact hall.out j h
          · obtain rfl : j = k := by omega
            exact he
        clear he hall
        go_wp2_with (go_at_call 77; (with_reducible refine (hN _).mono ?_); rintro e w2 ⟨rfl, hb2⟩)
        exact ⟨⟨k + 1, by omega, by go_num, HA, hbr.trans (hb2.mono hbr.size)⟩, by simp [intOf]; omega⟩
    · obtain rfl : k = 7 := by omega
      have HR : Hid (chV 0 s = .tuple #[.int .i64 (-1), .int .i64 0]) := chV_no (knd0_no s hall.out)
      go_wp2_with fail
      go_returns
      exact ⟨by rw [HR.out]; rfl, hbr⟩
theorem knd2_hit (s : ByteArray) (k : Nat) (hk : k < 7) (hne : bl s ≠ []) (he : bl s = nm10 k) : kndQ 2 s = k := by
  rcases (show k = 0 ∨ k = 1 ∨ k = 2 ∨ k = 3 ∨ k = 4 ∨ k = 5 ∨ k = 6 by omega) with rfl | rfl | rfl | rfl | rfl | rfl | rfl
  all_goals first | exact absurd he hne | (obtain rfl := bl_of he; decide +kernel)
theorem knd2_no (s : ByteArray) (hall : ∀ j : Nat, j < 7 → bl s ≠ nm10 j) : kndQ 2 s = -1 := by
  have h : idxS permW s = -1 := idxS_not _ _ fun b hb => by
    simp only [permW, List.mem_cons, List.not_mem_nil, or_false] at hb
    rcases hb with rfl | rfl | rfl | rfl | rfl | rfl
    · exact hall 0 (by omega)
    · exact hall 1 (by omega)
    · exact hall 2 (by omega)
    · exact hall 3 (by omega)
    · exact hall 4 (by omega)
    · exact hall 5 (by omega)
  unfold kndQ
  rw [h]; rfl
set_option maxRecDepth 100000 in
set_option maxHeartbeats 16000000 in
theorem choice_2 (s : ByteArray) (w : World) : Calls Tryz.prog 39 #[.int .i64 8, .string s] w fun e w' => e = .returned (chV 2 s) ∧ Below w.heap.size w w' := by
  by_cases hne : bl s = []
  · obtain rfl := emp_of hne
    have HR : Hid (chV 2 ⟨#[]⟩ = .tuple #[.int .i64 (-1), .int .i64 0]) := chV_no (by decide +kernel)
    clear hne
    go_enter Tryz.func39, Tryz.ntmps39
    go_wp2_with fail
    go_loopw [6] (fun kv wr => ∃ k : Nat, k ≤ 7 ∧ kv = .int .i64 k ∧ w = wr) (fun kv _ => 7 - (intOf kv).toNat)
    case atStart => exact ⟨0, by omega, rfl, rfl⟩
    case round =>
      obtain ⟨k, hk, rfl, rfl⟩ := hrel
      by_cases hlt : k < 7
      · have hlt' : (k : Int) < 7 := by omega
        go_wp2_with fail
        exact ⟨⟨k + 1, by omega, by go_num, by first | rfl | trivial⟩, by simp [intOf]; omega⟩
      · obtain rfl : k = 7 := by omega
        go_wp2_with fail
        go_returns
        exact ⟨by rw [HR.out]; rfl, Below.refl _ _⟩
  have hem := bl_ne hne
  go_enter Tryz.func39, Tryz.ntmps39
  go_wp2_with fail
  go_loopw [6] (fun kv wr => ∃ k : Nat, k ≤ 7 ∧ kv = .int .i64 k ∧ Hid (∀ j : Nat, j < k → bl s ≠ nm10 j) ∧ Below w.heap.size w wr) (fun kv _ => 7 - (intOf kv).toNat)
  case atStart => exact ⟨0, by omega, rfl, (fun j hj => absurd hj (by omega)), Below.refl _ _⟩
  case round =>
    obtain ⟨k, hk, rfl, hall, hbr⟩ := hrel
    by_cases hlt : k < 7
    · have hlt' : (k : Int) < 7 := by omega
      have hN := fun w' => rname10 (k : Int) w'
      obtain ⟨V, HV, hV⟩ : ∃ V, strV (nm10 k) = .string V ∧ bl V = nm10 k := ⟨_, rfl, rfl⟩
      have hcmp : (s.toList == V.toList) = decide (bl s = nm10 k) := by rw [str_eqD, hV]
      clear hV
      by_cases he : bl s = nm10 k
      · rw [decide_eq_true he] at hcmp
        have HK := Lib.hid (knd2_hit s k hlt hne he)
        clear he hall
        rw [HV] at hN
        by_cases h3 : k = 5
        · subst h3
          have HR : Hid (chV 2 s = .tuple #[.int .i64 5, .int .i64 1]) := chV_at HK.out
          clear HV
          replace hN : ∀ w', Calls Tryz.prog 78 #[.int .i64 5] w' fun e w2 => e = .returned (.string V) ∧ Below w'.heap.size w' w2 := hN
          go_wp2_with (go_at_call 78; (with_reducible refine (hN _).mono ?_); rintro e w2 ⟨rfl, hb2⟩)
          go_returns
          exact ⟨by rw [HR.out]; rfl, hbr.trans (hb2.mono hbr.size)⟩
        · have h3b : ((k : Int) == 5) = false := beq_eq_false_iff_ne.2 (by omega)
          have HR : Hid (chV 2 s = .tuple #[.int .i64 k, .int .i64 0]) := by
            show _ = _
            rw [chV_at HK.out, show cntQ 2 k = 0 by simp only [cntQ]; simp; omega]; rfl
          clear h3
          go_wp2_with (go_at_call 78; (with_reducible refine (hN _).mono ?_); rintro e w2 ⟨rfl, hb2⟩)
          go_returns
          exact ⟨by rw [HR.out]; rfl, hbr.trans (hb2.mono hbr.size)⟩
      · rw [decide_eq_false he] at hcmp
        rw [HV] at hN
        have HA : Hid (∀ j : Nat, j < k + 1 → bl s ≠ nm10 j) := fun j hj => by
          rcases Nat.lt_or_ge j k with h | h
          · exact hall.out j h
          · obtain rfl : j = k := by omega
            exact he
        clear he hall
        go_wp2_with (go_at_call 78; (with_reducible refine (hN _).mono ?_); rintro e w2 ⟨rfl, hb2⟩)
        exact ⟨⟨k + 1, by omega, by go_num, HA, hbr.trans (hb2.mono hbr.size)⟩, by simp [intOf]; omega⟩
    · obtain rfl : k = 7 := by omega
      have HR : Hid (chV 2 s = .tuple #[.int .i64 (-1), .int .i64 0]) := chV_no (knd2_no s hall.out)
      go_wp2_with fail
      go_returns
      exact ⟨by rw [HR.out]; rfl, hbr⟩
theorem knd3_hit (s : ByteArray) (k : Nat) (hk : k < 7) (hne : bl s ≠ []) (he : bl s = nm17 k) : kndQ 3 s = k := by
  rcases (show k = 0 ∨ k = 1 ∨ k = 2 ∨ k = 3 ∨ k = 4 ∨ k = 5 ∨ k = 6 by omega) with rfl | rfl | rfl | rfl | rfl | rfl | rfl
  all_goals first | exact absurd he hne | (obtain rfl := bl_of he; decide +kernel)
theorem knd3_no (s : ByteArray) (hall : ∀ j : Nat, j < 7 → bl s ≠ nm17 j) : kndQ 3 s = -1 := by
  have h : idxS codW s = -1 := idxS_not _ _ fun b hb => by
    simp only [codW, List.mem_cons, List.not_mem_nil, or_false] at hb
    rcases hb with rfl | rfl | rfl | rfl
    · exact hall 1 (by omega)
    · exact hall 2 (by omega)
    · exact hall 3 (by omega)
    · exact hall 4 (by omega)
  unfold kndQ codI
  rw [h]; rfl
set_option maxRecDepth 100000 in
set_option maxHeartbeats 16000000 in
theorem choice_3 (s : ByteArray) (w : World) : Calls Tryz.prog 39 #[.int .i64 10, .string s] w fun e w' => e = .returned (chV 3 s) ∧ Below w.heap.size w w' := by
  by_cases hne : bl s = []
  · obtain rfl := emp_of hne
    have HR : Hid (chV 3 ⟨#[]⟩ = .tuple #[.int .i64 (-1), .int .i64 0]) := chV_no (by decide +kernel)
    clear hne
    go_enter Tryz.func39, Tryz.ntmps39
    go_wp2_with fail
    go_loopw [6] (fun kv wr => ∃ k : Nat, k ≤ 7 ∧ kv = .int .i64 k ∧ w = wr) (fun kv _ => 7 - (intOf kv).toNat)
    case atStart => exact ⟨0, by omega, rfl, rfl⟩
    case round =>
      obtain ⟨k, hk, rfl, rfl⟩ := hrel
      by_cases hlt : k < 7
      · have hlt' : (k : Int) < 7 := by omega
        go_wp2_with fail
        exact ⟨⟨k + 1, by omega, by go_num, by first | rfl | trivial⟩, by simp [intOf]; omega⟩
      · obtain rfl : k = 7 := by omega
        go_wp2_with fail
        go_returns
        exact ⟨by rw [HR.out]; rfl, Below.refl _ _⟩
  have hem := bl_ne hne
  go_enter Tryz.func39, Tryz.ntmps39
  go_wp2_with fail
  go_loopw [6] (fun kv wr => ∃ k : Nat, k ≤ 7 ∧ kv = .int .i64 k ∧ Hid (∀ j : Nat, j < k → bl s ≠ nm17 j) ∧ Below w.heap.size w wr) (fun kv _ => 7 - (intOf kv).toNat)
  case atStart => exact ⟨0, by omega, rfl, (fun j hj => absurd hj (by omega)), Below.refl _ _⟩
  case round =>
    obtain ⟨k, hk, rfl, hall, hbr⟩ := hrel
    by_cases hlt : k < 7
    · have hlt' : (k : Int) < 7 := by omega
      have hN := fun w' => rname17 (k : Int) w'
      obtain ⟨V, HV, hV⟩ : ∃ V, strV (nm17 k) = .string V ∧ bl V = nm17 k := ⟨_, rfl, rfl⟩
      have hcmp : (s.toList == V.toList) = decide (bl s = nm17 k) := by rw [str_eqD, hV]
      clear hV
      by_cases he : bl s = nm17 k
      · rw [decide_eq_true he] at hcmp
        have HR : Hid (chV 3 s = .tuple #[.int .i64 k, .int .i64 0]) := chV_at (knd3_hit s k hlt hne he)
        clear he hall
        rw [HV] at hN
        go_wp2_with (go_at_call 79; (with_reducible refine (hN _).mono ?_); rintro e w2 ⟨rfl, hb2⟩)
        go_returns
        exact ⟨by rw [HR.out]; rfl, hbr.trans (hb2.mono hbr.size)⟩
      · rw [decide_eq_false he] at hcmp
        rw [HV] at hN
        have HA : Hid (∀ j : Nat, j < k + 1 → bl s ≠ nm17 j) := fun j hj => by
          rcases Nat.lt_or_ge j k with h | h
          · exact hall.out j h
          · obtain rfl : j = k := by omega
            exact he
        clear he hall
        go_wp2_with (go_at_call 79; (with_reducible refine (hN _).mono ?_); rintro e w2 ⟨rfl, hb2⟩)
        exact ⟨⟨k + 1, by omega, by go_num, HA, hbr.trans (hb2.mono hbr.size)⟩, by simp [intOf]; omega⟩
    · obtain rfl : k = 7 := by omega
      have HR : Hid (chV 3 s = .tuple #[.int .i64 (-1), .int .i64 0]) := chV_no (knd3_no s hall.out)
      go_wp2_with fail
      go_returns
      exact ⟨by rw [HR.out]; rfl, hbr⟩
set_option maxRecDepth 100000 in
set_option maxHeartbeats 16000000 in
theorem choice_1 (s : ByteArray) (w : World) : Calls Tryz.prog 39 #[.int .i64 4, .string s] w fun e w' => e = .returned (chV 1 s) ∧ Below w.heap.size w w' := by
  go_enter Tryz.func39, Tryz.ntmps39
  go_wp2_with fail
  go_loopw [6] (fun kv wr => ∃ k : Nat, k ≤ 7 ∧ kv = .int .i64 k ∧ Hid (∀ j (hj : j < k) (hw : j < modeW.length), bl s ≠ bl modeW[j]) ∧ Below w.heap.size w wr) (fun kv _ => 7 - (intOf kv).toNat)
  case atStart => exact ⟨0, by omega, rfl, (fun j hj => absurd hj (by omega)), Below.refl _ _⟩
  case round =>
    obtain ⟨k, hk, rfl, hall, hbr⟩ := hrel
    by_cases hlt : k < 7
    · by_cases h4 : k < 4
      · rcases (show k = 0 ∨ k = 1 ∨ k = 2 ∨ k = 3 by omega) with rfl | rfl | rfl | rfl
        · have hcmp : (s.toList == ([99, 111, 110, 115, 116] : List UInt8)) = decide (bl s = bl (strB [99, 111, 110, 115, 116])) := by have h := str_eqD s ⟨#[99, 111, 110, 115, 116]⟩; rw [ByteArray.toList_eq ⟨#[99, 111, 110, 115, 116]⟩] at h; exact h
          have hbn := (hbr.alloc hbr.size (.cells (modeW.map Value.string).toArray 9))
          by_cases he : bl s = bl (strB [99, 111, 110, 115, 116])
          · have HR : Hid (chV 1 s = .tuple #[.int .i64 0, .int .i64 4]) := by
              show _ = _
              rw [bl_inj he]; unfold chV
              rw [show kndQ 1 (strB [99, 111, 110, 115, 116]) = 0 by decide +kernel]; rfl
            rw [decide_eq_true he] at hcmp
            clear he hall
            go_wp2_with fail
            go_returns
            exact ⟨by rw [HR.out]; rfl, hbn⟩
          · rw [decide_eq_false he] at hcmp
            have HA : Hid (∀ j (hj : j < 1) (hw : j < modeW.length), bl s ≠ bl modeW[j]) := fun j hj hw => by
              rcases Nat.lt_or_ge j 0 with h | h
              · exact hall.out j h hw
              · obtain rfl : j = 0 := by omega
                exact he
            clear he hall
            go_wp2_with fail
            exact ⟨⟨1, by omega, by go_num, HA, hbn⟩, by simp [intOf]⟩
        · have hcmp : (s.toList == ([99, 108, 97, 109, 112] : List UInt8)) = decide (bl s = bl (strB [99, 108, 97, 109, 112])) := by have h := str_eqD s ⟨#[99, 108, 97, 109, 112]⟩; rw [ByteArray.toList_eq ⟨#[99, 108, 97, 109, 112]⟩] at h; exact h
          have hbn := (hbr.alloc hbr.size (.cells (modeW.map Value.string).toArray 9))
          by_cases he : bl s = bl (strB [99, 108, 97, 109, 112])
          · have HR : Hid (chV 1 s = .tuple #[.int .i64 1, .int .i64 0]) := by
              show _ = _
              rw [bl_inj he]; unfold chV
              rw [show kndQ 1 (strB [99, 108, 97, 109, 112]) = 1 by decide +kernel]; rfl
            rw [decide_eq_true he] at hcmp
            clear he hall
            go_wp2_with fail
            go_returns
            exact ⟨by rw [HR.out]; rfl, hbn⟩
          · rw [decide_eq_false he] at hcmp
            have HA : Hid (∀ j (hj : j < 2) (hw : j < modeW.length), bl s ≠ bl modeW[j]) := fun j hj hw => by
              rcases Nat.lt_or_ge j 1 with h | h
              · exact hall.out j h hw
              · obtain rfl : j = 1 := by omega
                exact he
            clear he hall
            go_wp2_with fail
            exact ⟨⟨2, by omega, by go_num, HA, hbn⟩, by simp [intOf]⟩
        · have hcmp : (s.toList == ([119, 114, 97, 112] : List UInt8)) = decide (bl s = bl (strB [119, 114, 97, 112])) := by have h := str_eqD s ⟨#[119, 114, 97, 112]⟩; rw [ByteArray.toList_eq ⟨#[119, 114, 97, 112]⟩] at h; exact h
          have hbn := (hbr.alloc hbr.size (.cells (modeW.map Value.string).toArray 9))
          by_cases he : bl s = bl (strB [119, 114, 97, 112])
          · have HR : Hid (chV 1 s = .tuple #[.int .i64 2, .int .i64 0]) := by
              show _ = _
              rw [bl_inj he]; unfold chV
              rw [show kndQ 1 (strB [119, 114, 97, 112]) = 2 by decide +kernel]; rfl
            rw [decide_eq_true he] at hcmp
            clear he hall
            go_wp2_with fail
            go_returns
            exact ⟨by rw [HR.out]; rfl, hbn⟩
          · rw [decide_eq_false he] at hcmp
            have HA : Hid (∀ j (hj : j < 3) (hw : j < modeW.length), bl s ≠ bl modeW[j]) := fun j hj hw => by
              rcases Nat.lt_or_ge j 2 with h | h
              · exact hall.out j h hw
              · obtain rfl : j = 2 := by omega
                exact he
            clear he hall
            go_wp2_with fail
            exact ⟨⟨3, by omega, by go_num, HA, hbn⟩, by simp [intOf]⟩
        · have hcmp : (s.toList == ([109, 105, 114, 114, 111, 114] : List UInt8)) = decide (bl s = bl (strB [109, 105, 114, 114, 111, 114])) := by have h := str_eqD s ⟨#[109, 105, 114, 114, 111, 114]⟩; rw [ByteArray.toList_eq ⟨#[109, 105, 114, 114, 111, 114]⟩] at h; exact h
          have hbn := (hbr.alloc hbr.size (.cells (modeW.map Value.string).toArray 9))
          by_cases he : bl s = bl (strB [109, 105, 114, 114, 111, 114])
          · have HR : Hid (chV 1 s = .tuple #[.int .i64 3, .int .i64 0]) := by
              show _ = _
              rw [bl_inj he]; unfold chV
              rw [show kndQ 1 (strB [109, 105, 114, 114, 111, 114]) = 3 by decide +kernel]; rfl
            rw [decide_eq_true he] at hcmp
            clear he hall
            go_wp2_with fail
            go_returns
            exact ⟨by rw [HR.out]; rfl, hbn⟩
          · rw [decide_eq_false he] at hcmp
            have HA : Hid (∀ j (hj : j < 4) (hw : j < modeW.length), bl s ≠ bl modeW[j]) := fun j hj hw => by
              rcases Nat.lt_or_ge j 3 with h | h
              · exact hall.out j h hw
              · obtain rfl : j = 3 := by omega
                exact he
            clear he hall
            go_wp2_with fail
            exact ⟨⟨4, by omega, by go_num, HA, hbn⟩, by simp [intOf]⟩
      · have h4' : ¬ ((k : Int) < 4) := by omega
        have hlt' : (k : Int) < 7 := by omega
        have HA : Hid (∀ j (hj : j < k + 1) (hw : j < modeW.length), bl s ≠ bl modeW[j]) := fun j hj hw => hall.out j (by have : modeW.length = 4 := rfl; omega) hw
        clear hall
        go_wp2_with fail
        exact ⟨⟨k + 1, by omega, by go_num, HA, hbr⟩, by simp [intOf]; omega⟩
    · obtain rfl : k = 7 := by omega
      have HR : Hid (chV 1 s = .tuple #[.int .i64 (-1), .int .i64 0]) := chV_no (by
        show idxS modeW s = -1
        exact idxS_no _ _ (fun j hj => hall.out j (by have : modeW.length = 4 := rfl; omega) hj))
      go_wp2_with fail
      go_returns
      exact ⟨by rw [HR.out]; rfl, hbr⟩
end Go.Proofs.YtgohbkkeppknoaaGreatDoor
end
