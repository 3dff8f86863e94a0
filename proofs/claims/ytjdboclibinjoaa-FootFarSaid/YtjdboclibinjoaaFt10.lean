/- foot's round, again and there and back. -/
import Derived.Test.YtjdboclibinjoaaFt9
set_option linter.unusedVariables false
namespace Go.Proofs.Ytjdboclibinjoaa
open Go.RowKit
def layA (n k a b : Int) : Rn := (a, b + 1)
def roundL (lay : Int → Int → Int → Int → Rn) (f l a b n : Int) (j : Nat) : List Rn := (List.range j).map fun t : Nat => lay n (f + t) (if t = 0 then a else 0) (if f + t = l then b else n - 1)
def roundF (lay : Int → Int → Int → Int → Rn) (times lo hi n : Int) : List Rn :=
  if times * n - 1 ≤ hi - lo then [(0, n)] else roundL lay (lo / n) (hi / n) (lo % n) (hi % n) n (hi / n - lo / n + 1).toNat
theorem roundL_len (lay : Int → Int → Int → Int → Rn) (f l a b n : Int) (j : Nat) : (roundL lay f l a b n j).length = j := by simp [roundL]
theorem roundL_snoc (lay : Int → Int → Int → Int → Rn) (f l a b n : Int) (j : Nat) : roundL lay f l a b n (j + 1) = roundL lay f l a b n j ++ [lay n (f + j) (if j = 0 then a else 0) (if f + j = l then b else n - 1)] := by
  simp [roundL, List.range_succ]
theorem wrap_hilo {lo hi : Int} (h : lo ≤ hi) (h1 : -4611686018427387904 ≤ lo ∧ lo ≤ 4611686018427387904) (h2 : -4611686018427387904 ≤ hi ∧ hi ≤ 4611686018427387904) : IntKind.u64.wrap (IntKind.u64.wrap hi - IntKind.u64.wrap lo) = hi - lo := by
  simp [IntKind.wrap, IntKind.bits, IntKind.signed]
  omega
theorem blocks_few {lo hi n t : Int} (hn : 1 ≤ n) (ht : t = 1 ∨ t = 2) (h : lo ≤ hi) (hc : ¬ t * n - 1 ≤ hi - lo) (h1 : -4611686018427387904 ≤ lo ∧ lo ≤ 4611686018427387904) (h2 : -4611686018427387904 ≤ hi ∧ hi ≤ 4611686018427387904) :
    0 ≤ hi / n - lo / n ∧ hi / n - lo / n ≤ 2 ∧ -4611686018427387904 ≤ lo / n ∧ lo / n ≤ 4611686018427387904 ∧ -4611686018427387904 ≤ hi / n ∧ hi / n ≤ 4611686018427387904 := by
  have a1 := Int.mul_ediv_add_emod lo n
  have a2 := Int.emod_nonneg lo (show n ≠ 0 by omega)
  have a3 := Int.emod_lt_of_pos lo (show 0 < n by omega)
  have b1 := Int.mul_ediv_add_emod hi n
  have b2 := Int.emod_nonneg hi (show n ≠ 0 by omega)
  have b3 := Int.emod_lt_of_pos hi (show 0 < n by omega)
  have c1 : lo / n ≤ hi / n := Int.ediv_le_ediv (by omega) h
  have hc' : hi - lo < 2 * n := by
    rcases ht with rfl | rfl
    · omega
    · omega
  have c2 : n * (hi / n - lo / n) < n * 3 := by
    rw [Int.mul_sub]
    omega
  have c3 : hi / n - lo / n < 3 := Int.lt_of_mul_lt_mul_left c2 (by omega)
  have bd : ∀ x : Int, -4611686018427387904 ≤ x → x ≤ 4611686018427387904 → -4611686018427387904 ≤ x / n ∧ x / n ≤ 4611686018427387904 := by
    intro x g1 g2
    constructor
    · rw [Int.le_ediv_iff_mul_le (by omega)]
      have : -4611686018427387904 * n ≤ -4611686018427387904 * 1 := by omega
      omega
    · have : x / n < 4611686018427387904 + 1 := by
        rw [Int.ediv_lt_iff_lt_mul (by omega)]
        omega
      omega
  have d1 := bd lo h1.1 h1.2
  have d2 := bd hi h2.1 h2.2
  exact ⟨by omega, by omega, d1.1, d1.2, d2.1, d2.2⟩
set_option maxHeartbeats 4000000 in
theorem round_again (lo hi n : Int) (w : World) (hn : 1 ≤ n) (hn2 : n ≤ 2147483648) (hlh : lo ≤ hi) (h1 : -4611686018427387904 ≤ lo ∧ lo ≤ 4611686018427387904) (h2 : -4611686018427387904 ≤ hi ∧ hi ≤ 4611686018427387904) :
    Calls Try.prog 104 #[askV lo hi n, .int .i64 1, .func (.func 105) #[] #[]] w fun e w' => ∃ v, e = .returned v ∧ w'.ownsRow w.heap.size 35 2 v (roundF layA 1 lo hi n).length (encR (roundF layA 1 lo hi n)) ∧ Below w.heap.size w w' := by
  have hK := Bk.new w 92 #[.int .i64 lo, .int .i64 hi, .int .i64 n]
  have HU := wrap_hilo hlh h1 h2
  have hbA : Below w.heap.size w (w.alloc (.cells #[.int .i64 lo, .int .i64 hi, .int .i64 n] 92)) := (Below.refl _ w).alloc (Nat.le_refl _) _
  have hsA : (w.alloc (.cells #[.int .i64 lo, .int .i64 hi, .int .i64 n] 92)).heap.size = w.heap.size + 1 := by simp
  by_cases hc : 1 * n - 1 ≤ hi - lo
  · have HR := Lib.hid (show roundF layA 1 lo hi n = [(0, n)] by unfold roundF; rw [if_pos hc])
    have hr : -9223372036854775808 ≤ n - 1 + 1 ∧ n - 1 + 1 ≤ 9223372036854775807 := by omega
    go_enter Try.func104, Try.ntmps104
    go_wp2_with (go_at_call 103; (with_reducible refine (run_any _ _ _ hr).mono ?_); rintro e w1 ⟨rfl, hb1⟩; have hb2 := hbA.trans (hb1.mono (by simp)); rw [show n - 1 + 1 = n by omega])
    go_returns
    refine ⟨_, rfl, ?_, hb2.alloc hb2.size _⟩
    rw [HR.out]
    exact own_base own_one hb2.size
  · obtain ⟨q1, q2, q3, q4, q5, q6⟩ := blocks_few hn (by omega) hlh hc h1 h2
    have HR := Lib.hid (show roundF layA 1 lo hi n = roundL layA (lo / n) (hi / n) (lo % n) (hi % n) n (hi / n - lo / n + 1).toNat by unfold roundF; rw [if_neg hc])
    have hc' : hi - lo < 1 * n - 1 := by omega
    have a2 := Int.emod_nonneg lo (show n ≠ 0 by omega)
    have a3 := Int.emod_lt_of_pos lo (show 0 < n by omega)
    have b2 := Int.emod_nonneg hi (show n ≠ 0 by omega)
    have b3 := Int.emod_lt_of_pos hi (show 0 < n by omega)
    have hblo := fun W => block_any lo hi n lo W hn hn2 h1
    have hbhi := fun W => block_any lo hi n hi W hn hn2 h2
    generalize lo / n = F at *
    generalize hi / n = L at *
    generalize lo % n = a at *
    generalize hi % n = b at *
    clear hc
    go_enter Try.func104, Try.ntmps104
    go_wp2_with fail
    refine (hblo _).mono ?_
    rintro e w1 ⟨rfl, hb1⟩
    have hK1 := hK.nx hb1
    have hbB := hbA.trans (hb1.mono (by simp))
    have hs1 := hb1.size
    rw [hsA] at hs1
    clear hK hb1 hbA HU hc'
    obtain ⟨e0, e1, e2⟩ := hK1.cell3
    go_wp2_with fail
    refine (hbhi _).mono ?_
    rintro e w2 ⟨rfl, hb2⟩
    have hK2 := hK1.nx hb2
    have hbC := hbB.trans (hb2.mono (by omega))
    have hs2 := hb2.size
    clear hK1 hb2 hbB hblo hbhi e0 e1 e2
    go_wp2_with fail
    go_loopw [11, 12] (fun v i wr => ∃ j : Nat, (j : Int) ≤ L - F + 1 ∧ i = .int .i64 (F + j) ∧ wr.ownsRow w2.heap.size 35 2 v j (encR (roundL layA F L a b n j)) ∧ Below w2.heap.size w2 wr) (fun _ i _ => (L + 1 - intOf i).toNat)
    case atStart => exact ⟨0, by omega, by simp, by simpa [roundL, encR] using World.ownsRow_nil _ _ _ _, by go_grown⟩
    case round =>
      obtain ⟨j, hj, rfl, hown, hbr⟩ := hrel
      have hK3 := hK2.nx hbr
      obtain ⟨c0, c1, c2⟩ := hK3.cell3
      have hbw := hbr.size
      by_cases hlt : F + (j : Int) ≤ L
      · have hwl : w.heap.size < wr.heap.size := by omega
        have hj3 : j ≤ 2 := by omega
        rcases Nat.eq_zero_or_pos j with hj0 | hj0
        · subst hj0
          have hsn := Lib.hid (roundL_snoc layA F L a b n 0)
          rw [if_pos rfl, show F + ((0 : Nat) : Int) = F by omega] at hsn
          have hbel9 := hbr
          by_cases hL : F = L
          · rw [if_pos hL] at hsn
            have hLb : (F == L) = true := by simpa using hL
            have hLh := Lib.hid hL
            clear hL
            have hrt : -9223372036854775808 ≤ b + 1 ∧ b + 1 ≤ 9223372036854775807 := by omega
            go_wp2_with fail
            go_quiet (fail)
            have hK4 := hK3.drewN nq
            have hown0 : (wr.drewN nq).ownsRow w2.heap.size 35 2 u11 0 (encR (roundL layA F L a b n 0)) := hown
            have hbr0 := below_drewN hbr nq
            clear hown hK3 c0 c1 c2 hbr
            generalize wr.drewN nq = wz at *
            obtain ⟨c0, c1, c2⟩ := hK4.cell3
            go_wp2_with (first
                        | (go_at_call 105; (with_reducible refine (again1_any _ a b _ hrt).mono ?_); rintro e wq ⟨rfl, hbq⟩; have hown1 := own_below hown0 hbq (Nat.le_refl _); have hbr1 := hbr0.trans (hbq.mono hbr0.size); have hbw1 := hbr1.size; clear hown0)
                        | (at_builtin; go_loud (refine app1 rfl _ _ _ rfl Try.underlying23 run_info rfl (by omega) rfl rfl hown1 hbr1 (Nat.le_refl _) hbw1 rfl (by simp [Value.oneCell']) (by omega) (by omega) ?_); intro v' w' hown' hbel' _ _ _; clear hown1))
            refine ⟨⟨0 + 1, by omega, by simp <;> omega, ?_, hbel'⟩, by simp [intOf]; omega⟩
            rw [hsn.out, encR_append]
            first | exact hown' | (simp only [layA, show (n : Int) - 1 + 1 = n by omega]; exact hown')
          · rw [if_neg hL] at hsn
            have hLb : (F == L) = false := by simpa using hL
            have hrt : -9223372036854775808 ≤ (n - 1) + 1 ∧ (n - 1) + 1 ≤ 9223372036854775807 := by omega
            go_wp2_with fail
            go_quiet (fail)
            have hK4 := hK3.drewN nq
            have hown0 : (wr.drewN nq).ownsRow w2.heap.size 35 2 u11 0 (encR (roundL layA F L a b n 0)) := hown
            have hbr0 := below_drewN hbr nq
            clear hown hK3 c0 c1 c2 hbr
            generalize wr.drewN nq = wz at *
            obtain ⟨c0, c1, c2⟩ := hK4.cell3
            go_wp2_with (first
                        | (go_at_call 105; (with_reducible refine (again1_any _ a (n - 1) _ hrt).mono ?_); rintro e wq ⟨rfl, hbq⟩; have hown1 := own_below hown0 hbq (Nat.le_refl _); have hbr1 := hbr0.trans (hbq.mono hbr0.size); have hbw1 := hbr1.size; clear hown0)
                        | (at_builtin; go_loud (refine app1 rfl _ _ _ rfl Try.underlying23 run_info rfl (by omega) rfl rfl hown1 hbr1 (Nat.le_refl _) hbw1 rfl (by simp [Value.oneCell']) (by omega) (by omega) ?_); intro v' w' hown' hbel' _ _ _; clear hown1))
            refine ⟨⟨0 + 1, by omega, by simp <;> omega, ?_, hbel'⟩, by simp [intOf]; omega⟩
            rw [hsn.out, encR_append]
            first | exact hown' | (simp only [layA, show (n : Int) - 1 + 1 = n by omega]; exact hown')
        · have hj1 : ¬ j = 0 := by omega
          have hsn := Lib.hid (roundL_snoc layA F L a b n j)
          rw [if_neg hj1] at hsn
          by_cases hL : F + (j : Int) = L
          · rw [if_pos hL] at hsn
            have hLb : (F + (j : Int) == L) = true := by simpa using hL
            have hLh := Lib.hid hL
            clear hL
            have hrt : -9223372036854775808 ≤ b + 1 ∧ b + 1 ≤ 9223372036854775807 := by omega
            go_wp2_with fail
            go_quiet (fail)
            have hK4 := hK3.drewN nq
            have hown0 : (wr.drewN nq).ownsRow w2.heap.size 35 2 u11 j (encR (roundL layA F L a b n j)) := hown
            have hbr0 := below_drewN hbr nq
            clear hown hK3 c0 c1 c2 hbr
            generalize wr.drewN nq = wz at *
            obtain ⟨c0, c1, c2⟩ := hK4.cell3
            go_wp2_with (first
                        | (go_at_call 105; (with_reducible refine (again1_any _ 0 b _ hrt).mono ?_); rintro e wq ⟨rfl, hbq⟩; have hown1 := own_below hown0 hbq (Nat.le_refl _); have hbr1 := hbr0.trans (hbq.mono hbr0.size); have hbw1 := hbr1.size; clear hown0)
                        | (at_builtin; go_loud (refine app1 rfl _ _ _ rfl Try.underlying23 run_info rfl (by omega) rfl rfl hown1 hbr1 (Nat.le_refl _) hbw1 rfl (by simp [Value.oneCell']) (by omega) (by omega) ?_); intro v' w' hown' hbel' _ _ _; clear hown1))
            refine ⟨⟨j + 1, by omega, by simp <;> omega, ?_, hbel'⟩, by simp [intOf]; omega⟩
            rw [hsn.out, encR_append]
            first | exact hown' | (simp only [layA, show (n : Int) - 1 + 1 = n by omega]; exact hown')
          · rw [if_neg hL] at hsn
            have hLb : (F + (j : Int) == L) = false := by simpa using hL
            have hrt : -9223372036854775808 ≤ (n - 1) + 1 ∧ (n - 1) + 1 ≤ 9223372036854775807 := by omega
            go_wp2_with fail
            go_quiet (fail)
            have hK4 := hK3.drewN nq
            have hown0 : (wr.drewN nq).ownsRow w2.heap.size 35 2 u11 j (encR (roundL layA F L a b n j)) := hown
            have hbr0 := below_drewN hbr nq
            clear hown hK3 c0 c1 c2 hbr
            generalize wr.drewN nq = wz at *
            obtain ⟨c0, c1, c2⟩ := hK4.cell3
            go_wp2_with (first
                        | (go_at_call 105; (with_reducible refine (again1_any _ 0 (n - 1) _ hrt).mono ?_); rintro e wq ⟨rfl, hbq⟩; have hown1 := own_below hown0 hbq (Nat.le_refl _); have hbr1 := hbr0.trans (hbq.mono hbr0.size); have hbw1 := hbr1.size; clear hown0)
                        | (at_builtin; go_loud (refine app1 rfl _ _ _ rfl Try.underlying23 run_info rfl (by omega) rfl rfl hown1 hbr1 (Nat.le_refl _) hbw1 rfl (by simp [Value.oneCell']) (by omega) (by omega) ?_); intro v' w' hown' hbel' _ _ _; clear hown1))
            refine ⟨⟨j + 1, by omega, by simp <;> omega, ?_, hbel'⟩, by simp [intOf]; omega⟩
            rw [hsn.out, encR_append]
            first | exact hown' | (simp only [layA, show (n : Int) - 1 + 1 = n by omega]; exact hown')
      · have hjN : j = (L - F + 1).toNat := by omega
        go_wp2_with fail
        go_returns
        refine ⟨_, rfl, ?_, hbC.trans (hbr.mono (by omega))⟩
        rw [HR.out, roundL_len, ← hjN]
        exact own_base hown (by omega)
set_option maxHeartbeats 4000000 in
theorem round_back (lo hi n : Int) (g : Nat) (w : World) (hg : g < w.heap.size) (hKg : Bk w g 92 #[.int .i64 lo, .int .i64 hi, .int .i64 n]) (hn : 1 ≤ n) (hn2 : n ≤ 2147483648) (hlh : lo ≤ hi) (h1 : -4611686018427387904 ≤ lo ∧ lo ≤ 4611686018427387904) (h2 : -4611686018427387904 ≤ hi ∧ hi ≤ 4611686018427387904) :
    Calls Try.prog 104 #[askV lo hi n, .int .i64 2, .func (.func 106) #[] #[.pointer (some ⟨g, 0, none⟩)]] w fun e w' => ∃ v, e = .returned v ∧ w'.ownsRow w.heap.size 35 2 v (roundF layB 2 lo hi n).length (encR (roundF layB 2 lo hi n)) ∧ Below w.heap.size w w' := by
  have hK := Bk.new w 92 #[.int .i64 lo, .int .i64 hi, .int .i64 n]
  have HU := wrap_hilo hlh h1 h2
  have hbA : Below w.heap.size w (w.alloc (.cells #[.int .i64 lo, .int .i64 hi, .int .i64 n] 92)) := (Below.refl _ w).alloc (Nat.le_refl _) _
  have hsA : (w.alloc (.cells #[.int .i64 lo, .int .i64 hi, .int .i64 n] 92)).heap.size = w.heap.size + 1 := by simp
  by_cases hc : 2 * n - 1 ≤ hi - lo
  · have HR := Lib.hid (show roundF layB 2 lo hi n = [(0, n)] by unfold roundF; rw [if_pos hc])
    have hr : -9223372036854775808 ≤ n - 1 + 1 ∧ n - 1 + 1 ≤ 9223372036854775807 := by omega
    go_enter Try.func104, Try.ntmps104
    go_wp2_with (go_at_call 103; (with_reducible refine (run_any _ _ _ hr).mono ?_); rintro e w1 ⟨rfl, hb1⟩; have hb2 := hbA.trans (hb1.mono (by simp)); rw [show n - 1 + 1 = n by omega])
    go_returns
    refine ⟨_, rfl, ?_, hb2.alloc hb2.size _⟩
    rw [HR.out]
    exact own_base own_one hb2.size
  · obtain ⟨q1, q2, q3, q4, q5, q6⟩ := blocks_few hn (by omega) hlh hc h1 h2
    have HR := Lib.hid (show roundF layB 2 lo hi n = roundL layB (lo / n) (hi / n) (lo % n) (hi % n) n (hi / n - lo / n + 1).toNat by unfold roundF; rw [if_neg hc])
    have hc' : hi - lo < 2 * n - 1 := by omega
    have a2 := Int.emod_nonneg lo (show n ≠ 0 by omega)
    have a3 := Int.emod_lt_of_pos lo (show 0 < n by omega)
    have b2 := Int.emod_nonneg hi (show n ≠ 0 by omega)
    have b3 := Int.emod_lt_of_pos hi (show 0 < n by omega)
    have hblo := fun W => block_any lo hi n lo W hn hn2 h1
    have hbhi := fun W => block_any lo hi n hi W hn hn2 h2
    generalize lo / n = F at *
    generalize hi / n = L at *
    generalize lo % n = a at *
    generalize hi % n = b at *
    clear hc
    go_enter Try.func104, Try.ntmps104
    go_wp2_with fail
    refine (hblo _).mono ?_
    rintro e w1 ⟨rfl, hb1⟩
    have hK1 := hK.nx hb1
    have hbB := hbA.trans (hb1.mono (by simp))
    have hs1 := hb1.size
    rw [hsA] at hs1
    clear hK hb1 hbA HU hc'
    obtain ⟨e0, e1, e2⟩ := hK1.cell3
    go_wp2_with fail
    refine (hbhi _).mono ?_
    rintro e w2 ⟨rfl, hb2⟩
    have hK2 := hK1.nx hb2
    have hbC := hbB.trans (hb2.mono (by omega))
    have hs2 := hb2.size
    clear hK1 hb2 hbB hblo hbhi e0 e1 e2
    go_wp2_with fail
    go_loopw [11, 12] (fun v i wr => ∃ j : Nat, (j : Int) ≤ L - F + 1 ∧ i = .int .i64 (F + j) ∧ wr.ownsRow w2.heap.size 35 2 v j (encR (roundL layB F L a b n j)) ∧ Below w2.heap.size w2 wr) (fun _ i _ => (L + 1 - intOf i).toNat)
    case atStart => exact ⟨0, by omega, by simp, by simpa [roundL, encR] using World.ownsRow_nil _ _ _ _, by go_grown⟩
    case round =>
      obtain ⟨j, hj, rfl, hown, hbr⟩ := hrel
      have hK3 := hK2.nx hbr
      obtain ⟨c0, c1, c2⟩ := hK3.cell3
      have hbw := hbr.size
      by_cases hlt : F + (j : Int) ≤ L
      · have hwl : w.heap.size < wr.heap.size := by omega
        have hj3 : j ≤ 2 := by omega
        rcases Nat.eq_zero_or_pos j with hj0 | hj0
        · subst hj0
          have hsn := Lib.hid (roundL_snoc layB F L a b n 0)
          rw [if_pos rfl, show F + ((0 : Nat) : Int) = F by omega] at hsn
          have hbel9 := hbr
          by_cases hL : F = L
          · rw [if_pos hL] at hsn
            have hLb : (F == L) = true := by simpa using hL
            have hLh := Lib.hid hL
            clear hL
            have hrt : -9223372036854775808 ≤ b + 1 ∧ b + 1 ≤ 9223372036854775807 := by omega
            have hfa : 0 ≤ a ∧ a < n := by omega
            have hfb : 0 ≤ b ∧ b < n := by omega
            have hkk : -9223372036854775808 ≤ F ∧ F ≤ 9223372036854775807 := by omega
            go_wp2_with fail
            go_quiet (fail)
            have hK4 := hK3.drewN nq
            have hown0 : (wr.drewN nq).ownsRow w2.heap.size 35 2 u11 0 (encR (roundL layB F L a b n 0)) := hown
            have hbr0 := below_drewN hbr nq
            clear hown hK3 c0 c1 c2 hbr
            generalize wr.drewN nq = wz at *
            have hKgz := (hKg.nx hbC).below hbr0 (by have := hbC.size; omega)
            have hgz := hKgz.lt
            obtain ⟨c0, c1, c2⟩ := hK4.cell3
            go_wp2_with (first
                        | (go_at_call 106; (with_reducible refine (back1_any lo hi n _ a b g _ (by exact hgz) hKgz hn hn2 hfa hfb hkk).mono ?_); rintro e wq ⟨rfl, hbq⟩; have hown1 := own_below hown0 hbq (Nat.le_refl _); have hbr1 := hbr0.trans (hbq.mono hbr0.size); have hbw1 := hbr1.size; clear hown0)
                        | (at_builtin; go_loud (refine app1 rfl _ _ _ rfl Try.underlying23 run_info rfl (by omega) rfl rfl hown1 hbr1 (Nat.le_refl _) hbw1 rfl (by simp [Value.oneCell']) (by omega) (by omega) ?_); intro v' w' hown' hbel' _ _ _; clear hown1))
            refine ⟨⟨0 + 1, by omega, by simp <;> omega, ?_, hbel'⟩, by simp [intOf]; omega⟩
            rw [hsn.out, encR_append]
            first | exact hown' | (simp only [layA, show (n : Int) - 1 + 1 = n by omega]; exact hown')
          · rw [if_neg hL] at hsn
            have hLb : (F == L) = false := by simpa using hL
            have hrt : -9223372036854775808 ≤ (n - 1) + 1 ∧ (n - 1) + 1 ≤ 9223372036854775807 := by omega
            have hfa : 0 ≤ a ∧ a < n := by omega
            have hfb : 0 ≤ (n - 1) ∧ (n - 1) < n := by omega
            have hkk : -9223372036854775808 ≤ F ∧ F ≤ 9223372036854775807 := by omega
            go_wp2_with fail
            go_quiet (fail)
            have hK4 := hK3.drewN nq
            have hown0 : (wr.drewN nq).ownsRow w2.heap.size 35 2 u11 0 (encR (roundL layB F L a b n 0)) := hown
            have hbr0 := below_drewN hbr nq
            clear hown hK3 c0 c1 c2 hbr
            generalize wr.drewN nq = wz at *
            have hKgz := (hKg.nx hbC).below hbr0 (by have := hbC.size; omega)
            have hgz := hKgz.lt
            obtain ⟨c0, c1, c2⟩ := hK4.cell3
            go_wp2_with (first
                        | (go_at_call 106; (with_reducible refine (back1_any lo hi n _ a (n - 1) g _ (by exact hgz) hKgz hn hn2 hfa hfb hkk).mono ?_); rintro e wq ⟨rfl, hbq⟩; have hown1 := own_below hown0 hbq (Nat.le_refl _); have hbr1 := hbr0.trans (hbq.mono hbr0.size); have hbw1 := hbr1.size; clear hown0)
                        | (at_builtin; go_loud (refine app1 rfl _ _ _ rfl Try.underlying23 run_info rfl (by omega) rfl rfl hown1 hbr1 (Nat.le_refl _) hbw1 rfl (by simp [Value.oneCell']) (by omega) (by omega) ?_); intro v' w' hown' hbel' _ _ _; clear hown1))
            refine ⟨⟨0 + 1, by omega, by simp <;> omega, ?_, hbel'⟩, by simp [intOf]; omega⟩
            rw [hsn.out, encR_append]
            first | exact hown' | (simp only [layA, show (n : Int) - 1 + 1 = n by omega]; exact hown')
        · have hj1 : ¬ j = 0 := by omega
          have hsn := Lib.hid (roundL_snoc layB F L a b n j)
          rw [if_neg hj1] at hsn
          by_cases hL : F + (j : Int) = L
          · rw [if_pos hL] at hsn
            have hLb : (F + (j : Int) == L) = true := by simpa using hL
            have hLh := Lib.hid hL
            clear hL
            have hrt : -9223372036854775808 ≤ b + 1 ∧ b + 1 ≤ 9223372036854775807 := by omega
            have hfa : 0 ≤ (0 : Int) ∧ (0 : Int) < n := by omega
            have hfb : 0 ≤ b ∧ b < n := by omega
            have hkk : -9223372036854775808 ≤ (F + (j : Int)) ∧ (F + (j : Int)) ≤ 9223372036854775807 := by omega
            go_wp2_with fail
            go_quiet (fail)
            have hK4 := hK3.drewN nq
            have hown0 : (wr.drewN nq).ownsRow w2.heap.size 35 2 u11 j (encR (roundL layB F L a b n j)) := hown
            have hbr0 := below_drewN hbr nq
            clear hown hK3 c0 c1 c2 hbr
            generalize wr.drewN nq = wz at *
            have hKgz := (hKg.nx hbC).below hbr0 (by have := hbC.size; omega)
            have hgz := hKgz.lt
            obtain ⟨c0, c1, c2⟩ := hK4.cell3
            go_wp2_with (first
                        | (go_at_call 106; (with_reducible refine (back1_any lo hi n _ 0 b g _ (by exact hgz) hKgz hn hn2 hfa hfb hkk).mono ?_); rintro e wq ⟨rfl, hbq⟩; have hown1 := own_below hown0 hbq (Nat.le_refl _); have hbr1 := hbr0.trans (hbq.mono hbr0.size); have hbw1 := hbr1.size; clear hown0)
                        | (at_builtin; go_loud (refine app1 rfl _ _ _ rfl Try.underlying23 run_info rfl (by omega) rfl rfl hown1 hbr1 (Nat.le_refl _) hbw1 rfl (by simp [Value.oneCell']) (by omega) (by omega) ?_); intro v' w' hown' hbel' _ _ _; clear hown1))
            refine ⟨⟨j + 1, by omega, by simp <;> omega, ?_, hbel'⟩, by simp [intOf]; omega⟩
            rw [hsn.out, encR_append]
            first | exact hown' | (simp only [layA, show (n : Int) - 1 + 1 = n by omega]; exact hown')
          · rw [if_neg hL] at hsn
            have hLb : (F + (j : Int) == L) = false := by simpa using hL
            have hrt : -9223372036854775808 ≤ (n - 1) + 1 ∧ (n - 1) + 1 ≤ 9223372036854775807 := by omega
            have hfa : 0 ≤ (0 : Int) ∧ (0 : Int) < n := by omega
            have hfb : 0 ≤ (n - 1) ∧ (n - 1) < n := by omega
            have hkk : -9223372036854775808 ≤ (F + (j : Int)) ∧ (F + (j : Int)) ≤ 9223372036854775807 := by omega
            go_wp2_with fail
            go_quiet (fail)
            have hK4 := hK3.drewN nq
            have hown0 : (wr.drewN nq).ownsRow w2.heap.size 35 2 u11 j (encR (roundL layB F L a b n j)) := hown
            have hbr0 := below_drewN hbr nq
            clear hown hK3 c0 c1 c2 hbr
            generalize wr.drewN nq = wz at *
            have hKgz := (hKg.nx hbC).below hbr0 (by have := hbC.size; omega)
            have hgz := hKgz.lt
            obtain ⟨c0, c1, c2⟩ := hK4.cell3
            go_wp2_with (first
                        | (go_at_call 106; (with_reducible refine (back1_any lo hi n _ 0 (n - 1) g _ (by exact hgz) hKgz hn hn2 hfa hfb hkk).mono ?_); rintro e wq ⟨rfl, hbq⟩; have hown1 := own_below hown0 hbq (Nat.le_refl _); have hbr1 := hbr0.trans (hbq.mono hbr0.size); have hbw1 := hbr1.size; clear hown0)
                        | (at_builtin; go_loud (refine app1 rfl _ _ _ rfl Try.underlying23 run_info rfl (by omega) rfl rfl hown1 hbr1 (Nat.le_refl _) hbw1 rfl (by simp [Value.oneCell']) (by omega) (by omega) ?_); intro v' w' hown' hbel' _ _ _; clear hown1))
            refine ⟨⟨j + 1, by omega, by simp <;> omega, ?_, hbel'⟩, by simp [intOf]; omega⟩
            rw [hsn.out, encR_append]
            first | exact hown' | (simp only [layA, show (n : Int) - 1 + 1 = n by omega]; exact hown')
      · have hjN : j = (L - F + 1).toNat := by omega
        go_wp2_with fail
        go_returns
        refine ⟨_, rfl, ?_, hbC.trans (hbr.mono (by omega))⟩
        rw [HR.out, roundL_len, ← hjN]
        exact own_base hown (by omega)
end Go.Proofs.Ytjdboclibinjoaa
