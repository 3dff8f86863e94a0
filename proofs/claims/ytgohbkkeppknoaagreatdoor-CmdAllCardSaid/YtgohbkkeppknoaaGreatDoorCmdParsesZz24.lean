/- Several texts in one: Commands: first places of names among tables (printed by wip/tools/gencpe.py). -/
import Derived.Test.YtgohbkkeppknoaaGreatDoorCmdParsesZz23
import Derived.Test.YtgohbkkeppknoaaGreatDoorCmdParsesZz22
import Derived.Laws.EntriesVeiled
import Derived.Deep.RegionHeld3
section
set_option linter.unusedVariables false
namespace Go.Proofs.YtgohbkkeppknoaaGreatDoor
open Go.RowKit
theorem neq_funcX (F : Fn) (bs fr : Array Value) (w : World) : (binOp .neq 126 (.func F bs fr) .nilFunc).run Tryz.prog w = .ok (.bool true) w := by
  first | kernel_rfl | rfl
theorem neq_funcX0 (w : World) : (binOp .neq 126 .nilFunc .nilFunc).run Tryz.prog w = .ok (.bool false) w := by
  first | kernel_rfl | rfl
abbrev xkA : Array Value := #[.string ⟨#[]⟩, .int .i64 0, .nilFunc, .string (strB [97, 102, 102, 105, 110, 101]), .int .i64 6, .func (.func 128) #[] #[], .string (strB [104, 111, 109, 111, 103]), .int .i64 9, .func (.func 129) #[] #[], .string (strB [108, 101, 110, 115]), .int .i64 7, .func (.func 130) #[] #[], .string (strB [109, 101, 115, 104]), .int .i64 0, .func (.func 131) #[] #[], .string (strB [115, 104, 101, 97, 114]), .int .i64 4, .func (.func 132) #[] #[], .string (strB [116, 117, 114, 110]), .int .i64 3, .func (.func 133) #[] #[]]
abbrev cfA : Array Value := #[.string ⟨#[]⟩, .int .i64 0, .string (strB [112, 103, 109]), .int .i64 1, .string (strB [112, 112, 109]), .int .i64 3, .string (strB [98, 109, 112, 50, 52]), .int .i64 3, .string (strB [98, 109, 112, 51, 50]), .int .i64 4]
abbrev foA : Array Value := #[.string (strB [108, 111, 97, 100]), .int .i64 1, .func (.func 62) #[] #[], .func (.func 63) #[.int .i64 1] #[], .string (strB [115, 105, 122, 101]), .int .i64 2, .func (.func 62) #[] #[], .func (.func 63) #[.int .i64 2] #[], .string (strB [107, 101, 114, 110, 101, 108]), .int .i64 3, .func (.func 64) #[] #[], .func (.func 65) #[.agg #[.int .i64 3, .int .i64 1]] #[], .string (strB [98, 111, 114, 100, 101, 114]), .int .i64 4, .func (.func 66) #[] #[], .func (.func 65) #[.agg #[.int .i64 0, .int .i64 4]] #[], .string (strB [109, 105, 112, 115]), .int .i64 5, .func (.func 62) #[] #[], .func (.func 63) #[.int .i64 1] #[], .string (strB [116, 105, 108, 101]), .int .i64 6, .func (.func 62) #[] #[], .func (.func 63) #[.int .i64 2] #[], .string (strB [99, 97, 99, 104, 101]), .int .i64 7, .func (.func 62) #[] #[], .func (.func 63) #[.int .i64 1] #[], .string (strB [111, 114, 100, 101, 114]), .int .i64 8, .func (.func 67) #[] #[], .func (.func 65) #[.agg #[.int .i64 5, .int .i64 1]] #[], .string (strB [115, 97, 118, 101]), .int .i64 10, .func (.func 68) #[] #[], .func (.func 63) #[.int .i64 0] #[], .string (strB [116, 105, 110, 116]), .int .i64 11, .func (.func 62) #[] #[], .func (.func 63) #[.int .i64 1] #[], .string (strB [99, 114, 111, 112]), .int .i64 12, .func (.func 62) #[] #[], .func (.func 63) #[.int .i64 4] #[], .string (strB [98, 117, 100, 103, 101, 116]), .int .i64 13, .func (.func 62) #[] #[], .func (.func 63) #[.int .i64 1] #[]]
theorem foA_eq : foA = formsA := rfl
def xfI (s : ByteArray) : Int := if idxS xfW s < 0 then -1 else idxS xfW s + 1
theorem sh_hit (W : List ByteArray) (s : ByteArray) (k : Nat) (h : k < W.length) (h1 : ∀ j (hj : j + 1 < k + 1) (hw : j < W.length), bl s ≠ bl W[j]) (h2 : bl s = bl W[k]) : (if idxS W s < 0 then -1 else idxS W s + 1) = ((k + 1 : Nat) : Int) := by
  rw [idxS_hit W s k h (fun j hj => h1 j (by omega) (by omega)) h2, if_neg (by omega)]; omega
theorem sh_no (W : List ByteArray) (s : ByteArray) (n : Nat) (hn : W.length + 1 = n) (h1 : ∀ j (hj : j + 1 < n) (hw : j < W.length), bl s ≠ bl W[j]) : (if idxS W s < 0 then -1 else idxS W s + 1) = -1 := by
  rw [idxS_no W s (fun j hj => h1 j (by omega) hj), if_pos (by omega)]
set_option maxRecDepth 100000 in
theorem xkinds_any (w : World) : Calls Tryz.prog 72 #[] w fun e w' => e = .returned (.slice (some ⟨w.heap.size, 0, none⟩) 7 7) ∧ w.alloc (.cells xkA 128) = w' := by
  go_enter Tryz.func72, Tryz.ntmps72
  go_wp2_with fail
  go_returns
  exact ⟨rfl, rfl⟩
theorem xisq_any (k : Int) (w : World) : Calls Tryz.prog 80 #[.int .i64 k] w fun e w' => e = .returned (.bool (decide (1 ≤ k ∧ k ≤ 6))) ∧ w = w' := by
  by_cases h : 1 ≤ k
  all_goals
    go_enter Tryz.func80, Tryz.ntmps80
    go_wp2
    go_returns
    exact ⟨ret_bool (by simp <;> omega), rfl⟩
theorem sixq {k : Int} (h : 1 ≤ k ∧ k ≤ 6) : k = 1 ∨ k = 2 ∨ k = 3 ∨ k = 4 ∨ k = 5 ∨ k = 6 := by omega
set_option maxRecDepth 100000 in
set_option maxHeartbeats 4000000 in
theorem xnameq_any (k : Int) (w : World) : Calls Tryz.prog 40 #[.int .i64 k] w fun e w' => e = .returned (strV (nm24 k)) ∧ Below w.heap.size w w' := by
  have hb := (Below.refl w.heap.size w).alloc (Nat.le_refl _) (.cells xkA 128)
  by_cases h : 1 ≤ k ∧ k ≤ 6
  · have hd : decide (1 ≤ k ∧ k ≤ 6) = true := decide_eq_true h
    rcases sixq h with rfl | rfl | rfl | rfl | rfl | rfl
    all_goals
      clear h
      go_enter Tryz.func40, Tryz.ntmps40
      go_wp2_with (first
        | (go_at_call 80; (with_reducible refine (xisq_any _ _).mono ?_); rintro e w' ⟨rfl, rfl⟩; rw [hd])
        | (go_at_call 72; (with_reducible refine (xkinds_any _).mono ?_); rintro e w1 ⟨rfl, rfl⟩))
      go_returns
      exact ⟨rfl, hb⟩
  · have hd : decide (1 ≤ k ∧ k ≤ 6) = false := decide_eq_false h
    have HN : Hid (nm24 k = []) := by show _ = _; unfold nm24; rw [if_neg (by omega), if_neg (by omega), if_neg (by omega), if_neg (by omega), if_neg (by omega), if_neg (by omega)]
    have hb0 := Below.refl w.heap.size w
    clear h
    go_enter Tryz.func40, Tryz.ntmps40
    go_wp2_with (go_at_call 80; (with_reducible refine (xisq_any _ _).mono ?_); rintro e w' ⟨rfl, rfl⟩; rw [hd])
    go_returns
    exact ⟨by rw [HN.out]; rfl, hb0⟩
set_option maxRecDepth 100000 in
set_option maxHeartbeats 4000000 in
theorem xcntq_any (k : Int) (w : World) : Calls Tryz.prog 75 #[.int .i64 k] w fun e w' => e = .returned (.int .i64 (cntL k)) ∧ Below w.heap.size w w' := by
  have hb := (Below.refl w.heap.size w).alloc (Nat.le_refl _) (.cells xkA 128)
  by_cases h : 1 ≤ k ∧ k ≤ 6
  · have hd : decide (1 ≤ k ∧ k ≤ 6) = true := decide_eq_true h
    rcases sixq h with rfl | rfl | rfl | rfl | rfl | rfl
    all_goals
      clear h
      go_enter Tryz.func75, Tryz.ntmps75
      go_wp2_with (first
        | (go_at_call 80; (with_reducible refine (xisq_any _ _).mono ?_); rintro e w' ⟨rfl, rfl⟩; rw [hd])
        | (go_at_call 72; (with_reducible refine (xkinds_any _).mono ?_); rintro e w1 ⟨rfl, rfl⟩))
      go_returns
      exact ⟨rfl, hb⟩
  · have hd : decide (1 ≤ k ∧ k ≤ 6) = false := decide_eq_false h
    have HN : Hid (cntL k = 0) := by show _ = _; unfold cntL; rw [if_neg (by omega), if_neg (by omega), if_neg (by omega), if_neg (by omega), if_neg (by omega)]
    have hb0 := Below.refl w.heap.size w
    clear h
    go_enter Tryz.func75, Tryz.ntmps75
    go_wp2_with (go_at_call 80; (with_reducible refine (xisq_any _ _).mono ?_); rintro e w' ⟨rfl, rfl⟩; rw [hd])
    go_returns
    exact ⟨by rw [HN.out]; rfl, hb0⟩
theorem xn1q_any (x s : ByteArray) (f : FuncId) (n : Int) (b : Nat) (w : World) (hb : b < w.heap.size) (hc : w.cell? ⟨b, 0, none⟩ = some (.string s)) :
    Calls Tryz.prog 73 #[.agg #[.string x, .int .i64 n, .func (.func f) #[] #[]], .pointer (some ⟨b, 0, none⟩)] w fun e w' => e = .returned (.bool (x.toList == s.toList)) ∧ Below w.heap.size w w' := by
  have hq0 := neq_funcX (.func f) #[] #[]
  go_enter Tryz.func73, Tryz.ntmps73
  go_wp2
  go_returns
  exact ⟨ret_bool rfl, by go_grown⟩
theorem xn0q_any (x s : ByteArray) (n : Int) (b : Nat) (w : World) (hb : b < w.heap.size) (hc : w.cell? ⟨b, 0, none⟩ = some (.string s)) :
    Calls Tryz.prog 73 #[.agg #[.string x, .int .i64 n, .nilFunc], .pointer (some ⟨b, 0, none⟩)] w fun e w' => e = .returned (.bool false) ∧ Below w.heap.size w w' := by
  have hq0 := neq_funcX0
  go_enter Tryz.func73, Tryz.ntmps73
  go_wp2
  go_returns
  exact ⟨ret_bool rfl, by go_grown⟩
set_option maxRecDepth 100000 in
theorem cforms_any (w : World) : Calls Tryz.prog 120 #[] w fun e w' => e = .returned (.slice (some ⟨w.heap.size, 0, none⟩) 5 5) ∧ w.alloc (.cells cfA 150) = w' := by
  go_enter Tryz.func120, Tryz.ntmps120
  go_wp2_with fail
  go_returns
  exact ⟨rfl, rfl⟩
theorem cn1_any (x s : ByteArray) (n : Int) (hn : 0 < n) (b : Nat) (w : World) (hb : b < w.heap.size) (hc : w.cell? ⟨b, 0, none⟩ = some (.string s)) :
    Calls Tryz.prog 121 #[.agg #[.string x, .int .i64 n], .pointer (some ⟨b, 0, none⟩)] w fun e w' => e = .returned (.bool (x.toList == s.toList)) ∧ Below w.heap.size w w' := by
  have hn2 : n > 0 := hn
  clear hn
  go_enter Tryz.func121, Tryz.ntmps121
  go_wp2
  all_goals
    go_returns
    exact ⟨ret_bool rfl, by go_grown⟩
theorem cn0_any (x s : ByteArray) (b : Nat) (w : World) (hb : b < w.heap.size) (hc : w.cell? ⟨b, 0, none⟩ = some (.string s)) :
    Calls Tryz.prog 121 #[.agg #[.string x, .int .i64 0], .pointer (some ⟨b, 0, none⟩)] w fun e w' => e = .returned (.bool false) ∧ Below w.heap.size w w' := by
  go_enter Tryz.func121, Tryz.ntmps121
  go_wp2
  go_returns
  exact ⟨ret_bool rfl, by go_grown⟩
set_option maxRecDepth 100000 in
set_option maxHeartbeats 4000000 in
theorem fn1_any (x s : ByteArray) (o f h : Value) (b : Nat) (A : Option Addr) (n c : Nat) (ws : List ByteArray) (w : World) (hK : Bk w b 22 #[.slice A n c]) (hn : 0 < n) (hr : Rd w w.heap.size A ((s :: ws).map Value.string)) :
    Calls Tryz.prog 27 #[.agg #[.string x, o, f, h], .pointer (some ⟨b, 0, none⟩)] w fun e w' => e = .returned (.bool (x.toList == s.toList)) ∧ Below w.heap.size w w' := by
  obtain ⟨bb, oo, rfl, hbw, hcc⟩ := hr 0 (by simp)
  simp only [List.map_cons, List.getElem_cons_zero, Nat.add_zero] at hcc
  have hlt := hK.lt
  have hc := hK.cell1
  have hn2 : (0 : Int) < (n : Int) := by omega
  clear hr hK
  have hb0 := (Below.refl w.heap.size w).alloc (Nat.le_refl _) (.cells #[.string x, o, f, h] 69)
  go_enter Tryz.func27, Tryz.ntmps27
  go_wp2_with fail
  go_quiet ((fail))
  go_wp2_with fail
  go_returns
  exact ⟨ret_bool rfl, below_drewN hb0 _⟩
set_option maxRecDepth 100000 in
set_option maxHeartbeats 16000000 in
theorem xidxq_any (s : ByteArray) (b g : Nat) (w : World) (hb : b < w.heap.size) (hc : w.cell? ⟨b, 0, none⟩ = some (.string s)) (hK : Bk w g 128 xkA) :
    Calls Tryz.prog 71 #[.slice (some ⟨g, 0, none⟩) 7 7, .func (.func 73) #[] #[.pointer (some ⟨b, 0, none⟩)]] w fun e w' => e = .returned (.int .i64 (xfI s)) ∧ Below w.heap.size w w' := by
  go_enter Tryz.func71, Tryz.ntmps71
  go_wp2_with fail
  go_loopw [8] (fun v wr => ∃ k : Nat, k ≤ 7 ∧ v = .int .i64 k ∧ Below w.heap.size w wr ∧ Hid (∀ j (hj : j + 1 < k) (hw : j < xfW.length), bl s ≠ bl xfW[j])) (fun v _ => 7 - (intOf v).toNat)
  case atStart => exact ⟨0, by omega, rfl, Below.refl _ _, fun j hj => absurd hj (by omega)⟩
  case round =>
    obtain ⟨k, hk, rfl, hbr, hall⟩ := hrel
    by_cases hlt : k < 7
    · have h4 : k = 0 ∨ k = 1 ∨ k = 2 ∨ k = 3 ∨ k = 4 ∨ k = 5 ∨ k = 6 := by omega
      have hKr := hK.nx hbr
      have hcr := (hbr.cell (p := ⟨b, 0, none⟩) hb).trans hc
      have hbr2 : b < wr.heap.size := Nat.lt_of_lt_of_le hb hbr.size
      clear hc
      have c0 := hKr.cell 0
      have c1 := hKr.cell 1
      have c2 := hKr.cell 2
      have c3 := hKr.cell 3
      have c4 := hKr.cell 4
      have c5 := hKr.cell 5
      have c6 := hKr.cell 6
      have c7 := hKr.cell 7
      have c8 := hKr.cell 8
      have c9 := hKr.cell 9
      have c10 := hKr.cell 10
      have c11 := hKr.cell 11
      have c12 := hKr.cell 12
      have c13 := hKr.cell 13
      have c14 := hKr.cell 14
      have c15 := hKr.cell 15
      have c16 := hKr.cell 16
      have c17 := hKr.cell 17
      have c18 := hKr.cell 18
      have c19 := hKr.cell 19
      have c20 := hKr.cell 20
      simp at c0 c1 c2 c3 c4 c5 c6 c7 c8 c9 c10 c11 c12 c13 c14 c15 c16 c17 c18 c19 c20
      clear hK hKr
      rcases h4 with rfl | rfl | rfl | rfl | rfl | rfl | rfl
      · go_wp2_with (refine (xn0q_any _ s _ b _ (by exact hbr2) (by exact hcr)).mono ?_; rintro e w1 ⟨rfl, hb1⟩)
        exact ⟨⟨1, by omega, rfl, hbr.trans (hb1.mono hbr.size), fun j hj => absurd hj (by omega)⟩, by simp [intOf]⟩
      · have hcmp := str_eqD (strB [97, 102, 102, 105, 110, 101]) s
        by_cases he : bl s = bl (strB [97, 102, 102, 105, 110, 101])
        · have HR : Hid (xfI s = 1) := sh_hit xfW s 0 (by decide) hall.out he
          rw [decide_eq_true he.symm] at hcmp
          go_wp2_with (refine (xn1q_any (strB [97, 102, 102, 105, 110, 101]) s _ _ b _ (by exact hbr2) (by exact hcr)).mono ?_; rintro e w1 ⟨rfl, hb1⟩; rw [hcmp])
          go_returns
          exact ⟨by rw [HR.out]; rfl, hbr.trans (hb1.mono hbr.size)⟩
        · rw [decide_eq_false (fun h => he h.symm)] at hcmp
          go_wp2_with (refine (xn1q_any (strB [97, 102, 102, 105, 110, 101]) s _ _ b _ (by exact hbr2) (by exact hcr)).mono ?_; rintro e w1 ⟨rfl, hb1⟩; rw [hcmp])
          refine ⟨⟨2, by omega, rfl, hbr.trans (hb1.mono hbr.size), ?_⟩, by simp [intOf]⟩
          intro j hj hw
          rcases Nat.lt_or_ge (j + 1) 1 with h | h
          · exact hall.out j h hw
          · obtain rfl : j = 0 := by omega
            exact he
      · have hcmp := str_eqD (strB [104, 111, 109, 111, 103]) s
        by_cases he : bl s = bl (strB [104, 111, 109, 111, 103])
        · have HR : Hid (xfI s = 2) := sh_hit xfW s 1 (by decide) hall.out he
          rw [decide_eq_true he.symm] at hcmp
          go_wp2_with (refine (xn1q_any (strB [104, 111, 109, 111, 103]) s _ _ b _ (by exact hbr2) (by exact hcr)).mono ?_; rintro e w1 ⟨rfl, hb1⟩; rw [hcmp])
          go_returns
          exact ⟨by rw [HR.out]; rfl, hbr.trans (hb1.mono hbr.size)⟩
        · rw [decide_eq_false (fun h => he h.symm)] at hcmp
          go_wp2_with (refine (xn1q_any (strB [104, 111, 109, 111, 103]) s _ _ b _ (by exact hbr2) (by exact hcr)).mono ?_; rintro e w1 ⟨rfl, hb1⟩; rw [hcmp])
          refine ⟨⟨3, by omega, rfl, hbr.trans (hb1.mono hbr.size), ?_⟩, by simp [intOf]⟩
          intro j hj hw
          rcases Nat.lt_or_ge (j + 1) 2 with h | h
          · exact hall.out j h hw
          · obtain rfl : j = 1 := by omega
            exact he
      · have hcmp := str_eqD (strB [108, 101, 110, 115]) s
        by_cases he : bl s = bl (strB [108, 101, 110, 115])
        · have HR : Hid (xfI s = 3) := sh_hit xfW s 2 (by decide) hall.out he
          rw [decide_eq_true he.symm] at hcmp
          go_wp2_with (refine (xn1q_any (strB [108, 101, 110, 115]) s _ _ b _ (by exact hbr2) (by exact hcr)).mono ?_; rintro e w1 ⟨rfl, hb1⟩; rw [hcmp])
          go_returns
          exact ⟨by rw [HR.out]; rfl, hbr.trans (hb1.mono hbr.size)⟩
        · rw [decide_eq_false (fun h => he h.symm)] at hcmp
          go_wp2_with (refine (xn1q_any (strB [108, 101, 110, 115]) s _ _ b _ (by exact hbr2) (by exact hcr)).mono ?_; rintro e w1 ⟨rfl, hb1⟩; rw [hcmp])
          refine ⟨⟨4, by omega, rfl, hbr.trans (hb1.mono hbr.size), ?_⟩, by simp [intOf]⟩
          intro j hj hw
          rcases Nat.lt_or_ge (j + 1) 3 with h | h
          · exact hall.out j h hw
          · obtain rfl : j = 2 := by omega
            exact he
      · have hcmp := str_eqD (strB [109, 101, 115, 104]) s
        by_cases he : bl s = bl (strB [109, 101, 115, 104])
        · have HR : Hid (xfI s = 4) := sh_hit xfW s 3 (by decide) hall.out he
          rw [decide_eq_true he.symm] at hcmp
          go_wp2_with (refine (xn1q_any (strB [109, 101, 115, 104]) s _ _ b _ (by exact hbr2) (by exact hcr)).mono ?_; rintro e w1 ⟨rfl, hb1⟩; rw [hcmp])
          go_returns
          exact ⟨by rw [HR.out]; rfl, hbr.trans (hb1.mono hbr.size)⟩
        · rw [decide_eq_false (fun h => he h.symm)] at hcmp
          go_wp2_with (refine (xn1q_any (strB [109, 101, 115, 104]) s _ _ b _ (by exact hbr2) (by exact hcr)).mono ?_; rintro e w1 ⟨rfl, hb1⟩; rw [hcmp])
          refine ⟨⟨5, by omega, rfl, hbr.trans (hb1.mono hbr.size), ?_⟩, by simp [intOf]⟩
          intro j hj hw
          rcases Nat.lt_or_ge (j + 1) 4 with h | h
          · exact hall.out j h hw
          · obtain rfl : j = 3 := by omega
            exact he
      · have hcmp := str_eqD (strB [115, 104, 101, 97, 114]) s
        by_cases he : bl s = bl (strB [115, 104, 101, 97, 114])
        · have HR : Hid (xfI s = 5) := sh_hit xfW s 4 (by decide) hall.out he
          rw [decide_eq_true he.symm] at hcmp
          go_wp2_with (refine (xn1q_any (strB [115, 104, 101, 97, 114]) s _ _ b _ (by exact hbr2) (by exact hcr)).mono ?_; rintro e w1 ⟨rfl, hb1⟩; rw [hcmp])
          go_returns
          exact ⟨by rw [HR.out]; rfl, hbr.trans (hb1.mono hbr.size)⟩
        · rw [decide_eq_false (fun h => he h.symm)] at hcmp
          go_wp2_with (refine (xn1q_any (strB [115, 104, 101, 97, 114]) s _ _ b _ (by exact hbr2) (by exact hcr)).mono ?_; rintro e w1 ⟨rfl, hb1⟩; rw [hcmp])
          refine ⟨⟨6, by omega, rfl, hbr.trans (hb1.mono hbr.size), ?_⟩, by simp [intOf]⟩
          intro j hj hw
          rcases Nat.lt_or_ge (j + 1) 5 with h | h
          · exact hall.out j h hw
          · obtain rfl : j = 4 := by omega
            exact he
      · have hcmp := str_eqD (strB [116, 117, 114, 110]) s
        by_cases he : bl s = bl (strB [116, 117, 114, 110])
        · have HR : Hid (xfI s = 6) := sh_hit xfW s 5 (by decide) hall.out he
          rw [decide_eq_true he.symm] at hcmp
          go_wp2_with (refine (xn1q_any (strB [116, 117, 114, 110]) s _ _ b _ (by exact hbr2) (by exact hcr)).mono ?_; rintro e w1 ⟨rfl, hb1⟩; rw [hcmp])
          go_returns
          exact ⟨by rw [HR.out]; rfl, hbr.trans (hb1.mono hbr.size)⟩
        · rw [decide_eq_false (fun h => he h.symm)] at hcmp
          go_wp2_with (refine (xn1q_any (strB [116, 117, 114, 110]) s _ _ b _ (by exact hbr2) (by exact hcr)).mono ?_; rintro e w1 ⟨rfl, hb1⟩; rw [hcmp])
          refine ⟨⟨7, by omega, rfl, hbr.trans (hb1.mono hbr.size), ?_⟩, by simp [intOf]⟩
          intro j hj hw
          rcases Nat.lt_or_ge (j + 1) 6 with h | h
          · exact hall.out j h hw
          · obtain rfl : j = 5 := by omega
            exact he
    · obtain rfl : k = 7 := by omega
      have HR : Hid (xfI s = -1) := sh_no xfW s 7 rfl hall.out
      go_wp2_with fail
      go_returns
      exact ⟨by rw [HR.out]; rfl, hbr⟩
set_option maxRecDepth 100000 in
set_option maxHeartbeats 16000000 in
theorem cidx_any (s : ByteArray) (b g : Nat) (w : World) (hb : b < w.heap.size) (hc : w.cell? ⟨b, 0, none⟩ = some (.string s)) (hK : Bk w g 150 cfA) :
    Calls Tryz.prog 119 #[.slice (some ⟨g, 0, none⟩) 5 5, .func (.func 121) #[] #[.pointer (some ⟨b, 0, none⟩)]] w fun e w' => e = .returned (.int .i64 (codI s)) ∧ Below w.heap.size w w' := by
  go_enter Tryz.func119, Tryz.ntmps119
  go_wp2_with fail
  go_loopw [8] (fun v wr => ∃ k : Nat, k ≤ 5 ∧ v = .int .i64 k ∧ Below w.heap.size w wr ∧ Hid (∀ j (hj : j + 1 < k) (hw : j < codW.length), bl s ≠ bl codW[j])) (fun v _ => 5 - (intOf v).toNat)
  case atStart => exact ⟨0, by omega, rfl, Below.refl _ _, fun j hj => absurd hj (by omega)⟩
  case round =>
    obtain ⟨k, hk, rfl, hbr, hall⟩ := hrel
    by_cases hlt : k < 5
    · have h4 : k = 0 ∨ k = 1 ∨ k = 2 ∨ k = 3 ∨ k = 4 := by omega
      have hKr := hK.nx hbr
      have hcr := (hbr.cell (p := ⟨b, 0, none⟩) hb).trans hc
      have hbr2 : b < wr.heap.size := Nat.lt_of_lt_of_le hb hbr.size
      clear hc
      have c0 := hKr.cell 0
      have c1 := hKr.cell 1
      have c2 := hKr.cell 2
      have c3 := hKr.cell 3
      have c4 := hKr.cell 4
      have c5 := hKr.cell 5
      have c6 := hKr.cell 6
      have c7 := hKr.cell 7
      have c8 := hKr.cell 8
      have c9 := hKr.cell 9
      simp at c0 c1 c2 c3 c4 c5 c6 c7 c8 c9
      clear hK hKr
      rcases h4 with rfl | rfl | rfl | rfl | rfl
      · go_wp2_with (refine (cn0_any _ s b _ (by exact hbr2) (by exact hcr)).mono ?_; rintro e w1 ⟨rfl, hb1⟩)
        exact ⟨⟨1, by omega, rfl, hbr.trans (hb1.mono hbr.size), fun j hj => absurd hj (by omega)⟩, by simp [intOf]⟩
      · have hcmp := str_eqD (strB [112, 103, 109]) s
        by_cases he : bl s = bl (strB [112, 103, 109])
        · have HR : Hid (codI s = 1) := sh_hit codW s 0 (by decide) hall.out he
          rw [decide_eq_true he.symm] at hcmp
          go_wp2_with (refine (cn1_any (strB [112, 103, 109]) s _ (by decide) b _ (by exact hbr2) (by exact hcr)).mono ?_; rintro e w1 ⟨rfl, hb1⟩; rw [hcmp])
          go_returns
          exact ⟨by rw [HR.out]; rfl, hbr.trans (hb1.mono hbr.size)⟩
        · rw [decide_eq_false (fun h => he h.symm)] at hcmp
          go_wp2_with (refine (cn1_any (strB [112, 103, 109]) s _ (by decide) b _ (by exact hbr2) (by exact hcr)).mono ?_; rintro e w1 ⟨rfl, hb1⟩; rw [hcmp])
          refine ⟨⟨2, by omega, rfl, hbr.trans (hb1.mono hbr.size), ?_⟩, by simp [intOf]⟩
          intro j hj hw
          rcases Nat.lt_or_ge (j + 1) 1 with h | h
          · exact hall.out j h hw
          · obtain rfl : j = 0 := by omega
            exact he
      · have hcmp := str_eqD (strB [112, 112, 109]) s
        by_cases he : bl s = bl (strB [112, 112, 109])
        · have HR : Hid (codI s = 2) := sh_hit codW s 1 (by decide) hall.out he
          rw [decide_eq_true he.symm] at hcmp
          go_wp2_with (refine (cn1_any (strB [112, 112, 109]) s _ (by decide) b _ (by exact hbr2) (by exact hcr)).mono ?_; rintro e w1 ⟨rfl, hb1⟩; rw [hcmp])
          go_returns
          exact ⟨by rw [HR.out]; rfl, hbr.trans (hb1.mono hbr.size)⟩
        · rw [decide_eq_false (fun h => he h.symm)] at hcmp
          go_wp2_with (refine (cn1_any (strB [112, 112, 109]) s _ (by decide) b _ (by exact hbr2) (by exact hcr)).mono ?_; rintro e w1 ⟨rfl, hb1⟩; rw [hcmp])
          refine ⟨⟨3, by omega, rfl, hbr.trans (hb1.mono hbr.size), ?_⟩, by simp [intOf]⟩
          intro j hj hw
          rcases Nat.lt_or_ge (j + 1) 2 with h | h
          · exact hall.out j h hw
          · obtain rfl : j = 1 := by omega
            exact he
      · have hcmp := str_eqD (strB [98, 109, 112, 50, 52]) s
        by_cases he : bl s = bl (strB [98, 109, 112, 50, 52])
        · have HR : Hid (codI s = 3) := sh_hit codW s 2 (by decide) hall.out he
          rw [decide_eq_true he.symm] at hcmp
          go_wp2_with (refine (cn1_any (strB [98, 109, 112, 50, 52]) s _ (by decide) b _ (by exact hbr2) (by exact hcr)).mono ?_; rintro e w1 ⟨rfl, hb1⟩; rw [hcmp])
          go_returns
          exact ⟨by rw [HR.out]; rfl, hbr.trans (hb1.mono hbr.size)⟩
        · rw [decide_eq_false (fun h => he h.symm)] at hcmp
          go_wp2_with (refine (cn1_any (strB [98, 109, 112, 50, 52]) s _ (by decide) b _ (by exact hbr2) (by exact hcr)).mono ?_; rintro e w1 ⟨rfl, hb1⟩; rw [hcmp])
          refine ⟨⟨4, by omega, rfl, hbr.trans (hb1.mono hbr.size), ?_⟩, by simp [intOf]⟩
          intro j hj hw
          rcases Nat.lt_or_ge (j + 1) 3 with h | h
          · exact hall.out j h hw
          · obtain rfl : j = 2 := by omega
            exact he
      · have hcmp := str_eqD (strB [98, 109, 112, 51, 50]) s
        by_cases he : bl s = bl (strB [98, 109, 112, 51, 50])
        · have HR : Hid (codI s = 4) := sh_hit codW s 3 (by decide) hall.out he
          rw [decide_eq_true he.symm] at hcmp
          go_wp2_with (refine (cn1_any (strB [98, 109, 112, 51, 50]) s _ (by decide) b _ (by exact hbr2) (by exact hcr)).mono ?_; rintro e w1 ⟨rfl, hb1⟩; rw [hcmp])
          go_returns
          exact ⟨by rw [HR.out]; rfl, hbr.trans (hb1.mono hbr.size)⟩
        · rw [decide_eq_false (fun h => he h.symm)] at hcmp
          go_wp2_with (refine (cn1_any (strB [98, 109, 112, 51, 50]) s _ (by decide) b _ (by exact hbr2) (by exact hcr)).mono ?_; rintro e w1 ⟨rfl, hb1⟩; rw [hcmp])
          refine ⟨⟨5, by omega, rfl, hbr.trans (hb1.mono hbr.size), ?_⟩, by simp [intOf]⟩
          intro j hj hw
          rcases Nat.lt_or_ge (j + 1) 4 with h | h
          · exact hall.out j h hw
          · obtain rfl : j = 3 := by omega
            exact he
    · obtain rfl : k = 5 := by omega
      have HR : Hid (codI s = -1) := sh_no codW s 5 rfl hall.out
      go_wp2_with fail
      go_returns
      exact ⟨by rw [HR.out]; rfl, hbr⟩
set_option maxRecDepth 100000 in
set_option maxHeartbeats 16000000 in
theorem fidx_any (s : ByteArray) (b g : Nat) (w : World) (A : Option Addr) (n c : Nat) (ws : List ByteArray) (hB : Bk w b 22 #[.slice A n c]) (hn : 0 < n) (hr : Rd w w.heap.size A ((s :: ws).map Value.string)) (hK : Bk w g 69 foA) :
    Calls Tryz.prog 26 #[.slice (some ⟨g, 0, none⟩) 12 12, .func (.func 27) #[] #[.pointer (some ⟨b, 0, none⟩)]] w fun e w' => e = .returned (.int .i64 (idxS formW s)) ∧ Below w.heap.size w w' := by
  go_enter Tryz.func26, Tryz.ntmps26
  go_wp2_with fail
  go_loopw [8] (fun v wr => ∃ k : Nat, k ≤ 12 ∧ v = .int .i64 k ∧ Below w.heap.size w wr ∧ Hid (∀ j (hj : j + 0 < k) (hw : j < formW.length), bl s ≠ bl formW[j])) (fun v _ => 12 - (intOf v).toNat)
  case atStart => exact ⟨0, by omega, rfl, Below.refl _ _, fun j hj => absurd hj (by omega)⟩
  case round =>
    obtain ⟨k, hk, rfl, hbr, hall⟩ := hrel
    by_cases hlt : k < 12
    · have h4 : k = 0 ∨ k = 1 ∨ k = 2 ∨ k = 3 ∨ k = 4 ∨ k = 5 ∨ k = 6 ∨ k = 7 ∨ k = 8 ∨ k = 9 ∨ k = 10 ∨ k = 11 := by omega
      have hKr := hK.nx hbr
      have hBr := hB.nx hbr
      have hrr := (hr.below hbr).more hbr.size
      clear hB hr
      have c0 := hKr.cell 0
      have c1 := hKr.cell 1
      have c2 := hKr.cell 2
      have c3 := hKr.cell 3
      have c4 := hKr.cell 4
      have c5 := hKr.cell 5
      have c6 := hKr.cell 6
      have c7 := hKr.cell 7
      have c8 := hKr.cell 8
      have c9 := hKr.cell 9
      have c10 := hKr.cell 10
      have c11 := hKr.cell 11
      have c12 := hKr.cell 12
      have c13 := hKr.cell 13
      have c14 := hKr.cell 14
      have c15 := hKr.cell 15
      have c16 := hKr.cell 16
      have c17 := hKr.cell 17
      have c18 := hKr.cell 18
      have c19 := hKr.cell 19
      have c20 := hKr.cell 20
      have c21 := hKr.cell 21
      have c22 := hKr.cell 22
      have c23 := hKr.cell 23
      have c24 := hKr.cell 24
      have c25 := hKr.cell 25
      have c26 := hKr.cell 26
      have c27 := hKr.cell 27
      have c28 := hKr.cell 28
      have c29 := hKr.cell 29
      have c30 := hKr.cell 30
      have c31 := hKr.cell 31
      have c32 := hKr.cell 32
      have c33 := hKr.cell 33
      have c34 := hKr.cell 34
      have c35 := hKr.cell 35
      have c36 := hKr.cell 36
      have c37 := hKr.cell 37
      have c38 := hKr.cell 38
      have c39 := hKr.cell 39
      have c40 := hKr.cell 40
      have c41 := hKr.cell 41
      have c42 := hKr.cell 42
      have c43 := hKr.cell 43
      have c44 := hKr.cell 44
      have c45 := hKr.cell 45
      have c46 := hKr.cell 46
      have c47 := hKr.cell 47
      simp at c0 c1 c2 c3 c4 c5 c6 c7 c8 c9 c10 c11 c12 c13 c14 c15 c16 c17 c18 c19 c20 c21 c22 c23 c24 c25 c26 c27 c28 c29 c30 c31 c32 c33 c34 c35 c36 c37 c38 c39 c40 c41 c42 c43 c44 c45 c46 c47
      clear hK hKr
      rcases h4 with rfl | rfl | rfl | rfl | rfl | rfl | rfl | rfl | rfl | rfl | rfl | rfl
      · have hcmp := str_eqD (strB [108, 111, 97, 100]) s
        by_cases he : bl s = bl (strB [108, 111, 97, 100])
        · have HR : Hid (idxS formW s = 0) := idxS_hit formW s 0 (by decide) (fun j hj => hall.out j (by omega) (by simp [formW]; omega)) he
          rw [decide_eq_true he.symm] at hcmp
          go_wp2_with (refine (fn1_any (strB [108, 111, 97, 100]) s _ _ _ b A n c ws _ (by exact hBr) hn (by exact hrr)).mono ?_; rintro e w1 ⟨rfl, hb1⟩; rw [hcmp])
          go_returns
          exact ⟨by rw [HR.out]; rfl, hbr.trans (hb1.mono hbr.size)⟩
        · rw [decide_eq_false (fun h => he h.symm)] at hcmp
          go_wp2_with (refine (fn1_any (strB [108, 111, 97, 100]) s _ _ _ b A n c ws _ (by exact hBr) hn (by exact hrr)).mono ?_; rintro e w1 ⟨rfl, hb1⟩; rw [hcmp])
          refine ⟨⟨1, by omega, rfl, hbr.trans (hb1.mono hbr.size), ?_⟩, by simp [intOf]⟩
          intro j hj hw
          rcases Nat.lt_or_ge (j + 0) 0 with h | h
          · exact hall.out j h hw
          · obtain rfl : j = 0 := by omega
            exact he
      · have hcmp := str_eqD (strB [115, 105, 122, 101]) s
        by_cases he : bl s = bl (strB [115, 105, 122, 101])
        · have HR : Hid (idxS formW s = 1) := idxS_hit formW s 1 (by decide) (fun j hj => hall.out j (by omega) (by simp [formW]; omega)) he
          rw [decide_eq_true he.symm] at hcmp
          go_wp2_with (refine (fn1_any (strB [115, 105, 122, 101]) s _ _ _ b A n c ws _ (by exact hBr) hn (by exact hrr)).mono ?_; rintro e w1 ⟨rfl, hb1⟩; rw [hcmp])
          go_returns
          exact ⟨by rw [HR.out]; rfl, hbr.trans (hb1.mono hbr.size)⟩
        · rw [decide_eq_false (fun h => he h.symm)] at hcmp
          go_wp2_with (refine (fn1_any (strB [115, 105, 122, 101]) s _ _ _ b A n c ws _ (by exact hBr) hn (by exact hrr)).mono ?_; rintro e w1 ⟨rfl, hb1⟩; rw [hcmp])
          refine ⟨⟨2, by omega, rfl, hbr.trans (hb1.mono hbr.size), ?_⟩, by simp [intOf]⟩
          intro j hj hw
          rcases Nat.lt_or_ge (j + 0) 1 with h | h
          · exact hall.out j h hw
          · obtain rfl : j = 1 := by omega
            exact he
      · have hcmp := str_eqD (strB [107, 101, 114, 110, 101, 108]) s
        by_cases he : bl s = bl (strB [107, 101, 114, 110, 101, 108])
        · have HR : Hid (idxS formW s = 2) := idxS_hit formW s 2 (by decide) (fun j hj => hall.out j (by omega) (by simp [formW]; omega)) he
          rw [decide_eq_true he.symm] at hcmp
          go_wp2_with (refine (fn1_any (strB [107, 101, 114, 110, 101, 108]) s _ _ _ b A n c ws _ (by exact hBr) hn (by exact hrr)).mono ?_; rintro e w1 ⟨rfl, hb1⟩; rw [hcmp])
          go_returns
          exact ⟨by rw [HR.out]; rfl, hbr.trans (hb1.mono hbr.size)⟩
        · rw [decide_eq_false (fun h => he h.symm)] at hcmp
          go_wp2_with (refine (fn1_any (strB [107, 101, 114, 110, 101, 108]) s _ _ _ b A n c ws _ (by exact hBr) hn (by exact hrr)).mono ?_; rintro e w1 ⟨rfl, hb1⟩; rw [hcmp])
          refine ⟨⟨3, by omega, rfl, hbr.trans (hb1.mono hbr.size), ?_⟩, by simp [intOf]⟩
          intro j hj hw
          rcases Nat.lt_or_ge (j + 0) 2 with h | h
          · exact hall.out j h hw
          · obtain rfl : j = 2 := by omega
            exact he
      · have hcmp := str_eqD (strB [98, 111, 114, 100, 101, 114]) s
        by_cases he : bl s = bl (strB [98, 111, 114, 100, 101, 114])
        · have HR : Hid (idxS formW s = 3) := idxS_hit formW s 3 (by decide) (fun j hj => hall.out j (by omega) (by simp [formW]; omega)) he
          rw [decide_eq_true he.symm] at hcmp
          go_wp2_with (refine (fn1_any (strB [98, 111, 114, 100, 101, 114]) s _ _ _ b A n c ws _ (by exact hBr) hn (by exact hrr)).mono ?_; rintro e w1 ⟨rfl, hb1⟩; rw [hcmp])
          go_returns
          exact ⟨by rw [HR.out]; rfl, hbr.trans (hb1.mono hbr.size)⟩
        · rw [decide_eq_false (fun h => he h.symm)] at hcmp
          go_wp2_with (refine (fn1_any (strB [98, 111, 114, 100, 101, 114]) s _ _ _ b A n c ws _ (by exact hBr) hn (by exact hrr)).mono ?_; rintro e w1 ⟨rfl, hb1⟩; rw [hcmp])
          refine ⟨⟨4, by omega, rfl, hbr.trans (hb1.mono hbr.size), ?_⟩, by simp [intOf]⟩
          intro j hj hw
          rcases Nat.lt_or_ge (j + 0) 3 with h | h
          · exact hall.out j h hw
          · obtain rfl : j = 3 := by omega
            exact he
      · have hcmp := str_eqD (strB [109, 105, 112, 115]) s
        by_cases he : bl s = bl (strB [109, 105, 112, 115])
        · have HR : Hid (idxS formW s = 4) := idxS_hit formW s 4 (by decide) (fun j hj => hall.out j (by omega) (by simp [formW]; omega)) he
          rw [decide_eq_true he.symm] at hcmp
          go_wp2_with (refine (fn1_any (strB [109, 105, 112, 115]) s _ _ _ b A n c ws _ (by exact hBr) hn (by exact hrr)).mono ?_; rintro e w1 ⟨rfl, hb1⟩; rw [hcmp])
          go_returns
          exact ⟨by rw [HR.out]; rfl, hbr.trans (hb1.mono hbr.size)⟩
        · rw [decide_eq_false (fun h => he h.symm)] at hcmp
          go_wp2_with (refine (fn1_any (strB [109, 105, 112, 115]) s _ _ _ b A n c ws _ (by exact hBr) hn (by exact hrr)).mono ?_; rintro e w1 ⟨rfl, hb1⟩; rw [hcmp])
          refine ⟨⟨5, by omega, rfl, hbr.trans (hb1.mono hbr.size), ?_⟩, by simp [intOf]⟩
          intro j hj hw
          rcases Nat.lt_or_ge (j + 0) 4 with h | h
          · exact hall.out j h hw
          · obtain rfl : j = 4 := by omega
            exact he
      · have hcmp := str_eqD (strB [116, 105, 108, 101]) s
        by_cases he : bl s = bl (strB [116, 105, 108, 101])
        · have HR : Hid (idxS formW s = 5) := idxS_hit formW s 5 (by decide) (fun j hj => hall.out j (by omega) (by simp [formW]; omega)) he
          rw [decide_eq_true he.symm] at hcmp
          go_wp2_with (refine (fn1_any (strB [116, 105, 108, 101]) s _ _ _ b A n c ws _ (by exact hBr) hn (by exact hrr)).mono ?_; rintro e w1 ⟨rfl, hb1⟩; rw [hcmp])
          go_returns
          exact ⟨by rw [HR.out]; rfl, hbr.trans (hb1.mono hbr.size)⟩
        · rw [decide_eq_false (fun h => he h.symm)] at hcmp
          go_wp2_with (refine (fn1_any (strB [116, 105, 108, 101]) s _ _ _ b A n c ws _ (by exact hBr) hn (by exact hrr)).mono ?_; rintro e w1 ⟨rfl, hb1⟩; rw [hcmp])
          refine ⟨⟨6, by omega, rfl, hbr.trans (hb1.mono hbr.size), ?_⟩, by simp [intOf]⟩
          intro j hj hw
          rcases Nat.lt_or_ge (j + 0) 5 with h | h
          · exact hall.out j h hw
          · obtain rfl : j = 5 := by omega
            exact he
      · have hcmp := str_eqD (strB [99, 97, 99, 104, 101]) s
        by_cases he : bl s = bl (strB [99, 97, 99, 104, 101])
        · have HR : Hid (idxS formW s = 6) := idxS_hit formW s 6 (by decide) (fun j hj => hall.out j (by omega) (by simp [formW]; omega)) he
          rw [decide_eq_true he.symm] at hcmp
          go_wp2_with (refine (fn1_any (strB [99, 97, 99, 104, 101]) s _ _ _ b A n c ws _ (by exact hBr) hn (by exact hrr)).mono ?_; rintro e w1 ⟨rfl, hb1⟩; rw [hcmp])
          go_returns
          exact ⟨by rw [HR.out]; rfl, hbr.trans (hb1.mono hbr.size)⟩
        · rw [decide_eq_false (fun h => he h.symm)] at hcmp
          go_wp2_with (refine (fn1_any (strB [99, 97, 99, 104, 101]) s _ _ _ b A n c ws _ (by exact hBr) hn (by exact hrr)).mono ?_; rintro e w1 ⟨rfl, hb1⟩; rw [hcmp])
          refine ⟨⟨7, by omega, rfl, hbr.trans (hb1.mono hbr.size), ?_⟩, by simp [intOf]⟩
          intro j hj hw
          rcases Nat.lt_or_ge (j + 0) 6 with h | h
          · exact hall.out j h hw
          · obtain rfl : j = 6 := by omega
            exact he
      · have hcmp := str_eqD (strB [111, 114, 100, 101, 114]) s
        by_cases he : bl s = bl (strB [111, 114, 100, 101, 114])
        · have HR : Hid (idxS formW s = 7) := idxS_hit formW s 7 (by decide) (fun j hj => hall.out j (by omega) (by simp [formW]; omega)) he
          rw [decide_eq_true he.symm] at hcmp
          go_wp2_with (refine (fn1_any (strB [111, 114, 100, 101, 114]) s _ _ _ b A n c ws _ (by exact hBr) hn (by exact hrr)).mono ?_; rintro e w1 ⟨rfl, hb1⟩; rw [hcmp])
          go_returns
          exact ⟨by rw [HR.out]; rfl, hbr.trans (hb1.mono hbr.size)⟩
        · rw [decide_eq_false (fun h => he h.symm)] at hcmp
          go_wp2_with (refine (fn1_any (strB [111, 114, 100, 101, 114]) s _ _ _ b A n c ws _ (by exact hBr) hn (by exact hrr)).mono ?_; rintro e w1 ⟨rfl, hb1⟩; rw [hcmp])
          refine ⟨⟨8, by omega, rfl, hbr.trans (hb1.mono hbr.size), ?_⟩, by simp [intOf]⟩
          intro j hj hw
          rcases Nat.lt_or_ge (j + 0) 7 with h | h
          · exact hall.out j h hw
          · obtain rfl : j = 7 := by omega
            exact he
      · have hcmp := str_eqD (strB [115, 97, 118, 101]) s
        by_cases he : bl s = bl (strB [115, 97, 118, 101])
        · have HR : Hid (idxS formW s = 8) := idxS_hit formW s 8 (by decide) (fun j hj => hall.out j (by omega) (by simp [formW]; omega)) he
          rw [decide_eq_true he.symm] at hcmp
          go_wp2_with (refine (fn1_any (strB [115, 97, 118, 101]) s _ _ _ b A n c ws _ (by exact hBr) hn (by exact hrr)).mono ?_; rintro e w1 ⟨rfl, hb1⟩; rw [hcmp])
          go_returns
          exact ⟨by rw [HR.out]; rfl, hbr.trans (hb1.mono hbr.size)⟩
        · rw [decide_eq_false (fun h => he h.symm)] at hcmp
          go_wp2_with (refine (fn1_any (strB [115, 97, 118, 101]) s _ _ _ b A n c ws _ (by exact hBr) hn (by exact hrr)).mono ?_; rintro e w1 ⟨rfl, hb1⟩; rw [hcmp])
          refine ⟨⟨9, by omega, rfl, hbr.trans (hb1.mono hbr.size), ?_⟩, by simp [intOf]⟩
          intro j hj hw
          rcases Nat.lt_or_ge (j + 0) 8 with h | h
          · exact hall.out j h hw
          · obtain rfl : j = 8 := by omega
            exact he
      · have hcmp := str_eqD (strB [116, 105, 110, 116]) s
        by_cases he : bl s = bl (strB [116, 105, 110, 116])
        · have HR : Hid (idxS formW s = 9) := idxS_hit formW s 9 (by decide) (fun j hj => hall.out j (by omega) (by simp [formW]; omega)) he
          rw [decide_eq_true he.symm] at hcmp
          go_wp2_with (refine (fn1_any (strB [116, 105, 110, 116]) s _ _ _ b A n c ws _ (by exact hBr) hn (by exact hrr)).mono ?_; rintro e w1 ⟨rfl, hb1⟩; rw [hcmp])
          go_returns
          exact ⟨by rw [HR.out]; rfl, hbr.trans (hb1.mono hbr.size)⟩
        · rw [decide_eq_false (fun h => he h.symm)] at hcmp
          go_wp2_with (refine (fn1_any (strB [116, 105, 110, 116]) s _ _ _ b A n c ws _ (by exact hBr) hn (by exact hrr)).mono ?_; rintro e w1 ⟨rfl, hb1⟩; rw [hcmp])
          refine ⟨⟨10, by omega, rfl, hbr.trans (hb1.mono hbr.size), ?_⟩, by simp [intOf]⟩
          intro j hj hw
          rcases Nat.lt_or_ge (j + 0) 9 with h | h
          · exact hall.out j h hw
          · obtain rfl : j = 9 := by omega
            exact he
      · have hcmp := str_eqD (strB [99, 114, 111, 112]) s
        by_cases he : bl s = bl (strB [99, 114, 111, 112])
        · have HR : Hid (idxS formW s = 10) := idxS_hit formW s 10 (by decide) (fun j hj => hall.out j (by omega) (by simp [formW]; omega)) he
          rw [decide_eq_true he.symm] at hcmp
          go_wp2_with (refine (fn1_any (strB [99, 114, 111, 112]) s _ _ _ b A n c ws _ (by exact hBr) hn (by exact hrr)).mono ?_; rintro e w1 ⟨rfl, hb1⟩; rw [hcmp])
          go_returns
          exact ⟨by rw [HR.out]; rfl, hbr.trans (hb1.mono hbr.size)⟩
        · rw [decide_eq_false (fun h => he h.symm)] at hcmp
          go_wp2_with (refine (fn1_any (strB [99, 114, 111, 112]) s _ _ _ b A n c ws _ (by exact hBr) hn (by exact hrr)).mono ?_; rintro e w1 ⟨rfl, hb1⟩; rw [hcmp])
          refine ⟨⟨11, by omega, rfl, hbr.trans (hb1.mono hbr.size), ?_⟩, by simp [intOf]⟩
          intro j hj hw
          rcases Nat.lt_or_ge (j + 0) 10 with h | h
          · exact hall.out j h hw
          · obtain rfl : j = 10 := by omega
            exact he
      · have hcmp := str_eqD (strB [98, 117, 100, 103, 101, 116]) s
        by_cases he : bl s = bl (strB [98, 117, 100, 103, 101, 116])
        · have HR : Hid (idxS formW s = 11) := idxS_hit formW s 11 (by decide) (fun j hj => hall.out j (by omega) (by simp [formW]; omega)) he
          rw [decide_eq_true he.symm] at hcmp
          go_wp2_with (refine (fn1_any (strB [98, 117, 100, 103, 101, 116]) s _ _ _ b A n c ws _ (by exact hBr) hn (by exact hrr)).mono ?_; rintro e w1 ⟨rfl, hb1⟩; rw [hcmp])
          go_returns
          exact ⟨by rw [HR.out]; rfl, hbr.trans (hb1.mono hbr.size)⟩
        · rw [decide_eq_false (fun h => he h.symm)] at hcmp
          go_wp2_with (refine (fn1_any (strB [98, 117, 100, 103, 101, 116]) s _ _ _ b A n c ws _ (by exact hBr) hn (by exact hrr)).mono ?_; rintro e w1 ⟨rfl, hb1⟩; rw [hcmp])
          refine ⟨⟨12, by omega, rfl, hbr.trans (hb1.mono hbr.size), ?_⟩, by simp [intOf]⟩
          intro j hj hw
          rcases Nat.lt_or_ge (j + 0) 11 with h | h
          · exact hall.out j h hw
          · obtain rfl : j = 11 := by omega
            exact he
    · obtain rfl : k = 12 := by omega
      have HR : Hid (idxS formW s = -1) := idxS_no formW s (fun j hj => hall.out j (by have : formW.length = 12 := rfl; omega) hj)
      go_wp2_with fail
      go_returns
      exact ⟨by rw [HR.out]; rfl, hbr⟩
theorem xnamedq_bd (s : ByteArray) : -1 ≤ xfI s := by have := idxS_ge xfW s; unfold xfI; split <;> omega
set_option maxRecDepth 100000 in
set_option maxHeartbeats 4000000 in
theorem xnamedq_any (s : ByteArray) (w : World) : Calls Tryz.prog 29 #[.string s] w fun e w' => e = .returned (kindV (xfI s)) ∧ Below w.heap.size w w' := by
  have hge := xnamedq_bd s
  have hbz := ((Below.refl w.heap.size w).alloc (Nat.le_refl _) (.cells #[.string s] 9)).alloc (by simp) (.cells xkA 128)
  have hS := (Bk.new w 9 #[.string s]).alloc (.cells xkA 128)
  have hK := Bk.new (w.alloc (.cells #[.string s] 9)) 128 xkA
  simp only [World.size_alloc] at hK
  have hI := xidxq_any s w.heap.size _ _ hS.lt hS.cell1 hK
  generalize xfI s = i at *
  go_enter Tryz.func29, Tryz.ntmps29
  rcases idx_cases i hge with rfl | h0
  · go_wp2_with (first
      | (go_at_call 72; (with_reducible refine (xkinds_any _).mono ?_); rintro e w1 ⟨rfl, rfl⟩)
      | (go_at_call 71; refine Calls.mono (show Calls _ _ _ _ _ from hI) ?_; rintro e w2 ⟨rfl, hb2⟩))
    go_returns
    exact ⟨rfl, hbz.trans (hb2.mono hbz.size)⟩
  · have h1 : max i 0 = i := by omega
    have HM : Hid (kindV i = .tuple #[.int .i64 i, .bool true]) := by show _ = _; unfold kindV; rw [h1, decide_eq_true h0]
    go_wp2_with (first
      | (go_at_call 72; (with_reducible refine (xkinds_any _).mono ?_); rintro e w1 ⟨rfl, rfl⟩)
      | (go_at_call 71; refine Calls.mono (show Calls _ _ _ _ _ from hI) ?_; rintro e w2 ⟨rfl, hb2⟩))
    go_returns
    exact ⟨by rw [HM.out]; rfl, hbz.trans (hb2.mono hbz.size)⟩
theorem cnamed_bd (s : ByteArray) : -1 ≤ codI s := by have := idxS_ge codW s; unfold codI; split <;> omega
set_option maxRecDepth 100000 in
set_option maxHeartbeats 4000000 in
theorem cnamed_any (s : ByteArray) (w : World) : Calls Tryz.prog 68 #[.string s] w fun e w' => e = .returned (kindV (codI s)) ∧ Below w.heap.size w w' := by
  have hge := cnamed_bd s
  have hbz := ((Below.refl w.heap.size w).alloc (Nat.le_refl _) (.cells #[.string s] 9)).alloc (by simp) (.cells cfA 150)
  have hS := (Bk.new w 9 #[.string s]).alloc (.cells cfA 150)
  have hK := Bk.new (w.alloc (.cells #[.string s] 9)) 150 cfA
  simp only [World.size_alloc] at hK
  have hI := cidx_any s w.heap.size _ _ hS.lt hS.cell1 hK
  generalize codI s = i at *
  go_enter Tryz.func68, Tryz.ntmps68
  rcases idx_cases i hge with rfl | h0
  · go_wp2_with (first
      | (go_at_call 120; (with_reducible refine (cforms_any _).mono ?_); rintro e w1 ⟨rfl, rfl⟩)
      | (go_at_call 119; refine Calls.mono (show Calls _ _ _ _ _ from hI) ?_; rintro e w2 ⟨rfl, hb2⟩))
    go_returns
    exact ⟨rfl, hbz.trans (hb2.mono hbz.size)⟩
  · have h1 : max i 0 = i := by omega
    have HM : Hid (kindV i = .tuple #[.int .i64 i, .bool true]) := by show _ = _; unfold kindV; rw [h1, decide_eq_true h0]
    go_wp2_with (first
      | (go_at_call 120; (with_reducible refine (cforms_any _).mono ?_); rintro e w1 ⟨rfl, rfl⟩)
      | (go_at_call 119; refine Calls.mono (show Calls _ _ _ _ _ from hI) ?_; rintro e w2 ⟨rfl, hb2⟩))
    go_returns
    exact ⟨by rw [HM.out]; rfl, hbz.trans (hb2.mono hbz.size)⟩
end Go.Proofs.YtgohbkkeppknoaaGreatDoor
end
