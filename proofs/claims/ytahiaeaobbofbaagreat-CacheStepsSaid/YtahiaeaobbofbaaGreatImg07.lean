/- Walks of layer 7 (img) and of its reference: sizes that fit, images that are alike. -/
import Derived.Test.YtahiaeaobbofbaaGreatBase
import Derived.Deep.QuietTactic
import Derived.BigQuiet
set_option linter.unusedVariables false
namespace Go.Proofs.YtahiaeaobbofbaaGreat
open Go.RowKit
def fitsC (w h c : Int) : Int :=
  if c ≠ 1 ∧ c ≠ 3 ∧ c ≠ 4 then 10 else if 32768 < w ∨ 32768 < h ∨ (0 < w ∧ 0 < h ∧ 4194304 < w * h) then 30 else if w < 1 ∨ h < 1 then 12 else 0
theorem mul_bd (w h : Int) (h1 : 0 < w) (h2 : 0 < h) (h3 : w ≤ 32768) (h4 : h ≤ 32768) : 0 < w * h ∧ w * h ≤ 1073741824 := by
  constructor
  · exact Int.mul_pos h1 h2
  · have : w * h ≤ 32768 * h := Int.mul_le_mul_of_nonneg_right h3 (by omega)
    omega
theorem wmul (w h : Int) (h1 : 0 < w) (h2 : 0 < h) (h3 : w ≤ 32768) (h4 : h ≤ 32768) : wrap64 (w * h) = w * h := by
  have := mul_bd w h h1 h2 h3 h4
  exact IntWalk.wrap64_in _ ⟨by omega, by omega⟩
theorem wmul_or (w h : Int) : (0 < w ∧ 0 < h ∧ w ≤ 32768 ∧ h ≤ 32768 ∧ wrap64 (w * h) = w * h) ∨ ¬ (0 < w ∧ 0 < h ∧ w ≤ 32768 ∧ h ≤ 32768) := by
  by_cases e : 0 < w ∧ 0 < h ∧ w ≤ 32768 ∧ h ≤ 32768
  · exact .inl ⟨e.1, e.2.1, e.2.2.1, e.2.2.2, wmul w h e.1 e.2.1 e.2.2.1 e.2.2.2⟩
  · exact .inr e
theorem fitsC_ok {w h c : Int} (e : fitsC w h c = 0) : (c = 1 ∨ c = 3 ∨ c = 4) ∧ 1 ≤ w ∧ w ≤ 32768 ∧ 1 ≤ h ∧ h ≤ 32768 ∧ w * h ≤ 4194304 := by
  unfold fitsC at e
  split at e
  · omega
  · split at e
    · omega
    · split at e
      · omega
      · omega
theorem mul3_bd (w h c : Int) (h1 : 0 ≤ w * h) (h2 : w * h ≤ 4194304) (h3 : 1 ≤ c) (h4 : c ≤ 4) : w * h ≤ w * h * c ∧ w * h * c ≤ 16777216 := by
  constructor
  · have := Int.mul_le_mul_of_nonneg_left h3 h1; omega
  · have := Int.mul_le_mul h2 h4 (by omega) (by omega : (0:Int) ≤ 4194304); omega
set_option maxHeartbeats 1000000 in
theorem fits_any (a b c : Int) (w : World) :
    Calls Tryz.prog 71 #[.int .i64 a, .int .i64 b, .int .i64 c] w fun e w' => e = .returned (.int .i64 (fitsC a b c)) ∧ w = w' := by
  go_enter Tryz.func71, Tryz.ntmps71
  go_wp2
  all_goals
    go_ret
    refine ⟨ret_int ?_, rfl⟩
    have hm := wmul_or a b
    try simp only [bne_iff_ne, ne_eq, bne_eq_false_iff_eq] at *
    unfold fitsC
    repeat' split
    all_goals omega
set_option maxHeartbeats 1000000 in
theorem rfits_any (a b c : Int) (w : World) :
    Calls Tryz.prog 68 #[.int .i64 a, .int .i64 b, .int .i64 c] w fun e w' => e = .returned (.int .i64 (fitsC a b c)) ∧ w = w' := by
  go_enter Tryz.func68, Tryz.ntmps68
  go_wp2
  all_goals
    go_ret
    refine ⟨ret_int ?_, rfl⟩
    have hm := wmul_or a b
    try simp only [bne_iff_ne, ne_eq, bne_eq_false_iff_eq] at *
    unfold fitsC
    repeat' split
    all_goals omega
theorem rfits_ok (a b c : Int) (w : World) (h : fitsC a b c = 0) :
    Calls Tryz.prog 68 #[.int .i64 a, .int .i64 b, .int .i64 c] w fun e w' => e = .returned (.int .i64 0) ∧ w = w' :=
  (rfits_any a b c w).mono fun e w' ⟨h1, h2⟩ => ⟨by rw [h1, h], h2⟩
theorem img_size : (Tryz.prog.info? 44).map (·.size) = some 4 := by kernel_rfl
theorem u8_info : (Tryz.prog.info? 5).map (fun i => (i.zero, i.size, i.bytes)) = some (some (.int .u8 0), 1, 1) := by kernel_rfl
def checkC (W H C : Int) (n : Nat) : Int := if fitsC W H C = 0 ∧ (n : Int) ≠ W * H * C then 12 else fitsC W H C
set_option maxHeartbeats 1000000 in
theorem ircheck_any (W H C : Int) (A : Option Addr) (n c : Nat) (w : World) :
    Calls Tryz.prog 44 #[.agg #[.int .i64 W, .int .i64 H, .int .i64 C, .slice A n c]] w fun e w' => e = .returned (.int .i64 (checkC W H C n)) ∧ Below w.heap.size w w' := by
  by_cases hf : fitsC W H C = 0
  · obtain ⟨hc, hw1, hw2, hh1, hh2, hp⟩ := fitsC_ok hf
    have hp0 := mul_bd W H (by omega) (by omega) hw2 hh2
    have hp3 := mul3_bd W H C (by omega) hp (by omega) (by omega)
    by_cases hn : (n : Int) = W * H * C
    all_goals
      have hfb : (fitsC W H C == 0) = true := by simpa using hf
      have HF := Lib.hid hf
      clear hf hc
      go_enter Tryz.func44, Tryz.ntmps44
      go_wp2_with (go_at_call 68; refine (rfits_any _ _ _ _).mono ?_; rintro e w' ⟨rfl, rfl⟩)
      go_returns
      exact ⟨ret_int (by unfold checkC; rw [HF.out]; first | (rw [if_pos ⟨rfl, by assumption⟩]) | (rw [if_neg (by omega)])), by go_grown⟩
  · have hfb : (fitsC W H C == 0) = false := by simpa using hf
    have HF := Lib.hid hf
    clear hf
    go_enter Tryz.func44, Tryz.ntmps44
    go_wp2_with (go_at_call 68; refine (rfits_any _ _ _ _).mono ?_; rintro e w' ⟨rfl, rfl⟩)
    go_returns
    exact ⟨ret_int (by unfold checkC; rw [if_neg (fun h => HF.out h.1)]), by go_grown⟩
theorem rcheck_ok (W H C : Int) (A : Option Addr) (n c : Nat) (w : World) (h : checkC W H C n = 0) :
    Calls Tryz.prog 44 #[.agg #[.int .i64 W, .int .i64 H, .int .i64 C, .slice A n c]] w fun e w' => e = .returned (.int .i64 0) ∧ Below w.heap.size w w' :=
  (ircheck_any W H C A n c w).mono fun e w' ⟨h1, h2⟩ => ⟨by rw [h1, h], h2⟩
set_option maxHeartbeats 1000000 in
theorem made_any (W H C : Int) (A : Option Addr) (n c : Nat) (w : World) :
    Calls Tryz.prog 62 #[.int .i64 W, .int .i64 H, .int .i64 C, .slice A n c] w fun e w' => e = .returned (.agg #[.int .i64 W, .int .i64 H, .int .i64 C, .slice A n c]) ∧ Below w.heap.size w w' := by
  go_enter Tryz.func62, Tryz.ntmps62
  go_wp2
  go_returns
  exact ⟨rfl, by go_grown⟩
set_option maxHeartbeats 1000000 in
theorem same_yes (W H C : Int) (A A' : Option Addr) (n c c' : Nat) (xs : List Value) (w : World) (h : Rd w w.heap.size A xs) (h' : Rd w w.heap.size A' xs) (hn : xs.length = n) (hx : ∀ v ∈ xs, ∃ k, v = .int .u8 k) (hn2 : n ≤ 9223372036854775807) :
    Calls Tryz.prog 15 #[.agg #[.int .i64 W, .int .i64 H, .int .i64 C, .slice A n c], .agg #[.int .i64 W, .int .i64 H, .int .i64 C, .slice A' n c']] w fun e w' => e = .returned (.bool true) ∧ Below w.heap.size w w' := by
  go_enter Tryz.func15, Tryz.ntmps15
  go_wp2
  go_loopw [5] (fun i wr => ∃ k : Nat, k ≤ n ∧ i = .int .i64 k ∧ ∃ m, wr = (((w.alloc (.cells #[.int .i64 W, .int .i64 H, .int .i64 C, .slice A n c] 44)).alloc (.cells #[.int .i64 W, .int .i64 H, .int .i64 C, .slice A' n c'] 44))).drewN m) (fun i _ => n - (intOf i).toNat)
  case atStart => exact ⟨0, by omega, rfl, 0, rfl⟩
  case round =>
    obtain ⟨k, hk, rfl, m, rfl⟩ := hrel
    by_cases hlt : k < n
    · obtain ⟨b, o, rfl, hb, hcl⟩ := h.get k (by omega)
      obtain ⟨b', o', rfl, hb', hcl'⟩ := h'.get k (by omega)
      obtain ⟨z, hz⟩ := hx xs[k] (List.getElem_mem _)
      rw [hz] at hcl hcl'
      clear hz
      go_wp2
      go_quiet (fail)
      go_wp2
      exact ⟨⟨k + 1, by omega, by go_num, _, rfl⟩, by simp [intOf]; omega⟩
    · go_wp2
      go_returns
      exact ⟨rfl, below_drewN (by go_grown) _⟩
end Go.Proofs.YtahiaeaobbofbaaGreat
