/- Where a place beyond a row stands. -/
import Derived.Test.YthgcfahacoonaaaGreatIx2
set_option linter.unusedVariables false
namespace Go.Proofs.YthgcfahacoonaaaGreat
open Go.RowKit
theorem run_index1 {P : Program} {t e : TypeId} {n : Nat} {d : TypeDesc} (h : P.underlying t = some (.array n e)) (hd : P.underlying e = some d) (hn : (match d with | .struct _ | .array _ _ => true | _ => false) = false) (hs : (P.info? e).map (·.size) = some 1)
    (cs : Array Value) (k : IntKind) (j : Nat) (hj : j < n) (v : Value) (hv : cs[j]? = some v) (w : World) : (Instr.index t (.agg cs) (.int k j)).run P w = .ok v w := by
  obtain ⟨i, hi, hz⟩ : ∃ i, P.info? e = some i ∧ i.size = 1 := by
    cases hi : P.info? e with
    | none => rw [hi] at hs; cases hs
    | some i => rw [hi] at hs; exact ⟨i, rfl, by simpa using hs⟩
  have hagg : (isAgg e).run P w = .ok false w := by
    unfold isAgg
    rw [Sem.run_bind, run_underlying hd w]
    cases d <;> simp_all
  have hj' : (0:Int) ≤ (j:Int) ∧ (j:Int) < n := by omega
  simp [Instr.index, asIntOf, run_underlying h, hj', sizeOf, typeInfo, hi, hz, part, Sem.run_bind, hagg, hv]
  intro h; omega
theorem fn_size : (Tryz.prog.info? 160).map (·.size) = some 1 := by kernel_rfl
@[go_sem] theorem idx_w0 (a b c d : Value) (w : World) : (Instr.index 161 (.agg #[a, b, c, d]) (.int .i64 0)).run Tryz.prog w = .ok a w :=
  run_index1 (P := Tryz.prog) (j := 0) Tryz.underlying161 Tryz.underlying160 rfl fn_size _ _ (by decide) _ rfl w
@[go_sem] theorem idx_w1 (a b c d : Value) (w : World) : (Instr.index 161 (.agg #[a, b, c, d]) (.int .i64 1)).run Tryz.prog w = .ok b w :=
  run_index1 (P := Tryz.prog) (j := 1) Tryz.underlying161 Tryz.underlying160 rfl fn_size _ _ (by decide) _ rfl w
@[go_sem] theorem idx_w2 (a b c d : Value) (w : World) : (Instr.index 161 (.agg #[a, b, c, d]) (.int .i64 2)).run Tryz.prog w = .ok c w :=
  run_index1 (P := Tryz.prog) (j := 2) Tryz.underlying161 Tryz.underlying160 rfl fn_size _ _ (by decide) _ rfl w
@[go_sem] theorem idx_w3 (a b c d : Value) (w : World) : (Instr.index 161 (.agg #[a, b, c, d]) (.int .i64 3)).run Tryz.prog w = .ok d w :=
  run_index1 (P := Tryz.prog) (j := 3) Tryz.underlying161 Tryz.underlying160 rfl fn_size _ _ (by decide) _ rfl w
set_option maxHeartbeats 1000000 in
theorem rownone_any (n i : Int) (w : World) :
    Calls Tryz.prog 149 #[row1 n, .int .i64 i] w fun e w' => e = .returned (.tuple #[.int .i64 0, .bool false]) ∧ Below w.heap.size w w' := by
  go_enter Tryz.func149, Tryz.ntmps149
  go_wp2
  go_returns
  exact ⟨rfl, by go_grown⟩
abbrev waysV : Value := .agg #[.func (.func 149) #[] #[], .func (.func 150) #[] #[], .func (.func 151) #[] #[], .func (.func 152) #[] #[]]
theorem ways_size : (Tryz.prog.info? 161).map (·.size) = some 4 := by kernel_rfl
set_option maxHeartbeats 1000000 in
theorem ways_any (w : World) :
    Calls Tryz.prog 109 #[] w fun e w' => e = .returned waysV ∧ Below w.heap.size w w' := by
  go_enter Tryz.func109, Tryz.ntmps109
  have hK := Bk.new w 161 #[.nilFunc, .nilFunc, .nilFunc, .nilFunc]
  go_wp2_with (refine stB rfl _ _ _ rfl hK #[.func (.func 149) #[] #[], .func (.func 150) #[] #[], .func (.func 151) #[] #[], .func (.func 152) #[] #[]] rfl rfl ways_size rfl (by simp [Value.oneCell']) ?_; intro w6 hK6 hg6 _)
  refine bodyPost_ret (res_cell rfl hK6 rfl Tryz.underlying161 rfl ways_size) rfl ?_
  exact ⟨rfl, below_of_gb (by go_grown) hg6 (Nat.le_refl _) (by simp)⟩
set_option maxRecDepth 100000 in
set_option maxHeartbeats 4000000 in
theorem index_any (m i n : Int) (w : World) (h0 : -9223372036854775808 < i) (h1 : i ≤ 9223372036854775807) (hn2 : n ≤ 2147483648) :
    Calls Tryz.prog 60 #[.int .i64 m, .int .i64 i, .int .i64 n] w fun e w' => e = .returned (ixV (idx m i n)) ∧ Below w.heap.size w w' := by
  by_cases c1 : m < 0 ∨ 3 < m ∨ n < 1
  · have HX := Lib.hid (show idx m i n = (0, false) by unfold idx; rw [if_pos c1])
    rcases c1 with c | c | c
    all_goals
      go_enter Tryz.func60, Tryz.ntmps60
      go_wp2
      all_goals
        go_returns
        exact ⟨by rw [HX.out]; rfl, by go_grown⟩
  · obtain ⟨hm0, hm3, hn1⟩ : 0 ≤ m ∧ m ≤ 3 ∧ 1 ≤ n := by omega
    by_cases c2 : 0 ≤ i ∧ i < n
    · have HX := Lib.hid (show idx m i n = (i, true) by unfold idx; rw [if_neg c1, if_pos c2])
      obtain ⟨c3, c4⟩ := c2
      clear c1
      go_enter Tryz.func60, Tryz.ntmps60
      go_wp2
      go_returns
      exact ⟨by rw [HX.out]; rfl, by go_grown⟩
    · have hcases : m = 0 ∨ m = 1 ∨ m = 2 ∨ m = 3 := by omega
      rcases hcases with rfl | rfl | rfl | rfl
      · have HX := Lib.hid (show idx 0 i n = (0, false) by unfold idx; rw [if_neg c1, if_neg c2, if_pos rfl])
        clear c1
        rcases (show i < 0 ∨ n ≤ i by omega) with c | c
        all_goals
          go_enter Tryz.func60, Tryz.ntmps60
          go_wp2_with (first
            | (go_at_call 109; (with_reducible refine (ways_any _).mono ?_); rintro e w1 ⟨rfl, hb1⟩)
            | (go_at_call 149; (with_reducible refine (rownone_any _ _ _).mono ?_); rintro e w2 ⟨rfl, hb2⟩))
          all_goals
            go_returns
            exact ⟨by rw [HX.out]; rfl, hb1.trans (hb2.mono hb1.size)⟩
      · have HX := Lib.hid (show idx 1 i n = (lastV n i, true) by
          unfold idx; rw [if_neg c1, if_neg c2, if_neg (by omega)]
          rw [if_pos rfl]; rfl)
        clear c1
        rcases (show i < 0 ∨ n ≤ i by omega) with c | c
        all_goals
          go_enter Tryz.func60, Tryz.ntmps60
          go_wp2_with (first
            | (go_at_call 109; (with_reducible refine (ways_any _).mono ?_); rintro e w1 ⟨rfl, hb1⟩)
            | (go_at_call 150; (with_reducible refine (rowlast_any _ _ _ hn1 hn2).mono ?_); rintro e w2 ⟨rfl, hb2⟩))
          all_goals
            go_returns
            exact ⟨by rw [HX.out]; rfl, hb1.trans (hb2.mono hb1.size)⟩
      · have HX := Lib.hid (show idx 2 i n = (i % n, true) by
          unfold idx; rw [if_neg c1, if_neg c2, if_neg (by omega)]
          rw [if_neg (by omega), if_pos rfl])
        clear c1
        rcases (show i < 0 ∨ n ≤ i by omega) with c | c
        all_goals
          go_enter Tryz.func60, Tryz.ntmps60
          go_wp2_with (first
            | (go_at_call 109; (with_reducible refine (ways_any _).mono ?_); rintro e w1 ⟨rfl, hb1⟩)
            | (go_at_call 151; (with_reducible refine (rowagain_any _ _ _ hn1 hn2 (by omega)).mono ?_); rintro e w2 ⟨rfl, hb2⟩))
          all_goals
            go_returns
            exact ⟨by rw [HX.out]; rfl, hb1.trans (hb2.mono hb1.size)⟩
      · have HX := Lib.hid (show idx 3 i n = (backV n i, true) by
          unfold idx; rw [if_neg c1, if_neg c2, if_neg (by omega)]
          rw [if_neg (by omega), if_neg (by omega)]; unfold backV; rw [again_eq hn1]; split <;> rfl)
        clear c1
        rcases (show i < 0 ∨ n ≤ i by omega) with c | c
        all_goals
          go_enter Tryz.func60, Tryz.ntmps60
          go_wp2_with (first
            | (go_at_call 109; (with_reducible refine (ways_any _).mono ?_); rintro e w1 ⟨rfl, hb1⟩)
            | (go_at_call 152; (with_reducible refine (rowback_any _ _ _ hn1 hn2 (by omega)).mono ?_); rintro e w2 ⟨rfl, hb2⟩))
          all_goals
            go_returns
            exact ⟨by rw [HX.out]; rfl, hb1.trans (hb2.mono hb1.size)⟩
end Go.Proofs.YthgcfahacoonaaaGreat
