/- Several texts in one: Where a place beyond a row stands. foot.Columns, walked. foot.Columns: its answer. foot.Columns at every input. Which columns: the plain law. Whether foot is alive. plan: a box in an image of a pyramid; which columns are asked for. A region that draws its order: its head in whatever order, each operation quiet; what stands behind it comes after the head, in whatever order. -/
import Derived.Test.YtibmhabipghjlaaGreatPlanHoldsZz7
import Derived.Test.YtibmhabipghjlaaGreatPlanHoldsZz3
import Derived.Test.YtibmhabipghjlaaGreatPlanHoldsZz4
import Derived.Test.YtibmhabipghjlaaGreatPlanHoldsZz2
section
set_option linter.unusedVariables false
namespace Go.Proofs.YtibmhabipghjlaaGreat
open Go.RowKit
theorem run_index1 {P : Program} {t e : TypeId} {n : Nat} {d : TypeDesc} (h : P.underlying t = some (.array n e)) (hd : P.underlying e = some d) (hn : (match d with | .struct _ | .array _ _ => true | _ => false) = false) (hs : (P.info? e).map (·.size) = some 1)
    (cs : Array Value) (k : IntKind) (j : Nat) (hj : j < n) (v : Value) (hv : cs[j]? = some v) (w : World) : (Instr.index t (.agg cs) (.int k j)).run P w = .ok v w := by
  obtain ⟨i, hi, hz⟩ : ∃ i, P.info? e = some i ∧ i.size = 1 := by
    cases hi : P.info? e with
    | none => rw [hi] at hs; cases hs
    | some i => rw [hi] at hs; exact ⟨i, rfl, by simpa using hs⟩
  have hagg : (isAgg e).run P w = .ok false w := by
    unfold isAgg
    rw [Sem.run_bind, run_underlying hd w]
    cases d <;> simp_all
  have hj' : (0:Int) ≤ (j:Int) ∧ (j:Int) < n := by omega
  simp [Instr.index, asIntOf, run_underlying h, hj', sizeOf, typeInfo, hi, hz, part, Sem.run_bind, hagg, hv]
  intro h; omega
theorem fn_size : (Tryz.prog.info? 156).map (·.size) = some 1 := by kernel_rfl
@[go_sem] theorem idx_w0 (a b c d : Value) (w : World) : (Instr.index 157 (.agg #[a, b, c, d]) (.int .i64 0)).run Tryz.prog w = .ok a w :=
  run_index1 (P := Tryz.prog) (j := 0) Tryz.underlying157 Tryz.underlying156 rfl fn_size _ _ (by decide) _ rfl w
@[go_sem] theorem idx_w1 (a b c d : Value) (w : World) : (Instr.index 157 (.agg #[a, b, c, d]) (.int .i64 1)).run Tryz.prog w = .ok b w :=
  run_index1 (P := Tryz.prog) (j := 1) Tryz.underlying157 Tryz.underlying156 rfl fn_size _ _ (by decide) _ rfl w
@[go_sem] theorem idx_w2 (a b c d : Value) (w : World) : (Instr.index 157 (.agg #[a, b, c, d]) (.int .i64 2)).run Tryz.prog w = .ok c w :=
  run_index1 (P := Tryz.prog) (j := 2) Tryz.underlying157 Tryz.underlying156 rfl fn_size _ _ (by decide) _ rfl w
@[go_sem] theorem idx_w3 (a b c d : Value) (w : World) : (Instr.index 157 (.agg #[a, b, c, d]) (.int .i64 3)).run Tryz.prog w = .ok d w :=
  run_index1 (P := Tryz.prog) (j := 3) Tryz.underlying157 Tryz.underlying156 rfl fn_size _ _ (by decide) _ rfl w
set_option maxHeartbeats 1000000 in
theorem rownone_any (n i : Int) (w : World) :
    Calls Tryz.prog 121 #[row1 n, .int .i64 i] w fun e w' => e = .returned (.tuple #[.int .i64 0, .bool false]) ∧ Below w.heap.size w w' := by
  go_enter Tryz.func121, Tryz.ntmps121
  go_wp2
  go_returns
  exact ⟨rfl, by go_grown⟩
abbrev waysV : Value := .agg #[.func (.func 121) #[] #[], .func (.func 122) #[] #[], .func (.func 123) #[] #[], .func (.func 124) #[] #[]]
theorem ways_size : (Tryz.prog.info? 157).map (·.size) = some 4 := by kernel_rfl
set_option maxHeartbeats 1000000 in
theorem ways_any (w : World) :
    Calls Tryz.prog 92 #[] w fun e w' => e = .returned waysV ∧ Below w.heap.size w w' := by
  go_enter Tryz.func92, Tryz.ntmps92
  have hK := Bk.new w 157 #[.nilFunc, .nilFunc, .nilFunc, .nilFunc]
  go_wp2_with (refine stB rfl _ _ _ rfl hK #[.func (.func 121) #[] #[], .func (.func 122) #[] #[], .func (.func 123) #[] #[], .func (.func 124) #[] #[]] rfl rfl ways_size rfl (by simp [Value.oneCell']) ?_; intro w6 hK6 hg6 _)
  refine bodyPost_ret (res_cell rfl hK6 rfl Tryz.underlying157 rfl ways_size) rfl ?_
  exact ⟨rfl, below_of_gb (by go_grown) hg6 (Nat.le_refl _) (by simp)⟩
set_option maxRecDepth 100000 in
set_option maxHeartbeats 4000000 in
theorem index_any (m i n : Int) (w : World) (h0 : -9223372036854775808 < i) (h1 : i ≤ 9223372036854775807) (hn2 : n ≤ 2147483648) :
    Calls Tryz.prog 59 #[.int .i64 m, .int .i64 i, .int .i64 n] w fun e w' => e = .returned (ixV (idx m i n)) ∧ Below w.heap.size w w' := by
  by_cases c1 : m < 0 ∨ 3 < m ∨ n < 1
  · have HX := Lib.hid (show idx m i n = (0, false) by unfold idx; rw [if_pos c1])
    rcases c1 with c | c | c
    all_goals
      go_enter Tryz.func59, Tryz.ntmps59
      go_wp2
      all_goals
        go_returns
        exact ⟨by rw [HX.out]; rfl, by go_grown⟩
  · obtain ⟨hm0, hm3, hn1⟩ : 0 ≤ m ∧ m ≤ 3 ∧ 1 ≤ n := by omega
    by_cases c2 : 0 ≤ i ∧ i < n
    · have HX := Lib.hid (show idx m i n = (i, true) by unfold idx; rw [if_neg c1, if_pos c2])
      obtain ⟨c3, c4⟩ := c2
      clear c1
      go_enter Tryz.func59, Tryz.ntmps59
      go_wp2
      go_returns
      exact ⟨by rw [HX.out]; rfl, by go_grown⟩
    · have hcases : m = 0 ∨ m = 1 ∨ m = 2 ∨ m = 3 := by omega
      rcases hcases with rfl | rfl | rfl | rfl
      · have HX := Lib.hid (show idx 0 i n = (0, false) by unfold idx; rw [if_neg c1, if_neg c2, if_pos rfl])
        clear c1
        rcases (show i < 0 ∨ n ≤ i by omega) with c | c
        all_goals
          go_enter Tryz.func59, Tryz.ntmps59
          go_wp2_with (first
            | (go_at_call 92; (with_reducible refine (ways_any _).mono ?_); rintro e w1 ⟨rfl, hb1⟩)
            | (go_at_call 121; (with_reducible refine (rownone_any _ _ _).mono ?_); rintro e w2 ⟨rfl, hb2⟩))
          all_goals
            go_returns
            exact ⟨by rw [HX.out]; rfl, hb1.trans (hb2.mono hb1.size)⟩
      · have HX := Lib.hid (show idx 1 i n = (lastV n i, true) by
          unfold idx; rw [if_neg c1, if_neg c2, if_neg (by omega)]
          rw [if_pos rfl]; rfl)
        clear c1
        rcases (show i < 0 ∨ n ≤ i by omega) with c | c
        all_goals
          go_enter Tryz.func59, Tryz.ntmps59
          go_wp2_with (first
            | (go_at_call 92; (with_reducible refine (ways_any _).mono ?_); rintro e w1 ⟨rfl, hb1⟩)
            | (go_at_call 122; (with_reducible refine (rowlast_any _ _ _ hn1 hn2).mono ?_); rintro e w2 ⟨rfl, hb2⟩))
          all_goals
            go_returns
            exact ⟨by rw [HX.out]; rfl, hb1.trans (hb2.mono hb1.size)⟩
      · have HX := Lib.hid (show idx 2 i n = (i % n, true) by
          unfold idx; rw [if_neg c1, if_neg c2, if_neg (by omega)]
          rw [if_neg (by omega), if_pos rfl])
        clear c1
        rcases (show i < 0 ∨ n ≤ i by omega) with c | c
        all_goals
          go_enter Tryz.func59, Tryz.ntmps59
          go_wp2_with (first
            | (go_at_call 92; (with_reducible refine (ways_any _).mono ?_); rintro e w1 ⟨rfl, hb1⟩)
            | (go_at_call 123; (with_reducible refine (rowagain_any _ _ _ hn1 hn2 (by omega)).mono ?_); rintro e w2 ⟨rfl, hb2⟩))
          all_goals
            go_returns
            exact ⟨by rw [HX.out]; rfl, hb1.trans (hb2.mono hb1.size)⟩
      · have HX := Lib.hid (show idx 3 i n = (backV n i, true) by
          unfold idx; rw [if_neg c1, if_neg c2, if_neg (by omega)]
          rw [if_neg (by omega), if_neg (by omega)]; unfold backV; rw [again_eq hn1]; split <;> rfl)
        clear c1
        rcases (show i < 0 ∨ n ≤ i by omega) with c | c
        all_goals
          go_enter Tryz.func59, Tryz.ntmps59
          go_wp2_with (first
            | (go_at_call 92; (with_reducible refine (ways_any _).mono ?_); rintro e w1 ⟨rfl, hb1⟩)
            | (go_at_call 124; (with_reducible refine (rowback_any _ _ _ hn1 hn2 (by omega)).mono ?_); rintro e w2 ⟨rfl, hb2⟩))
          all_goals
            go_returns
            exact ⟨by rw [HX.out]; rfl, hb1.trans (hb2.mono hb1.size)⟩
end Go.Proofs.YtibmhabipghjlaaGreat
end
section
set_option linter.unusedVariables false
namespace Go.Proofs.YtibmhabipghjlaaGreat
open Go.RowKit
def offB (i : Int) : Bool := decide (i < -4611686018427387904) || decide (4611686018427387904 < i)
theorem off_any (i : Int) (w : World) : Calls Tryz.prog 93 #[.int .i64 i] w fun e w' => e = .returned (.bool (offB i)) ∧ w' = w := by
  unfold offB
  go_enter Tryz.func93, Tryz.ntmps93
  by_cases h1 : i < -4611686018427387904
  · have hd : decide (i < -4611686018427387904) = true := by simpa using h1
    rw [hd, Bool.true_or]
    go_wp2
    go_returns
    exact ⟨rfl, rfl⟩
  · have hd : decide (i < -4611686018427387904) = false := by simpa using h1
    rw [hd, Bool.false_or]
    have h2 : -4611686018427387904 ≤ i := by omega
    go_wp2
    go_returns
    exact ⟨rfl, rfl⟩
section
variable (lo hi n : Int) (w : World) (hn : 1 ≤ n) (hn2 : n ≤ 2147483648) (hlh : lo ≤ hi) (h1 : -4611686018427387904 ≤ lo ∧ lo ≤ 4611686018427387904) (h2 : -4611686018427387904 ≤ hi ∧ hi ≤ 4611686018427387904)
include hn hn2 hlh h1 h2
set_option maxHeartbeats 1000000 in
theorem again_any :
    Calls Tryz.prog 130 #[askV lo hi n] w fun e w' => ∃ v, e = .returned v ∧ w'.ownsRow w.heap.size 111 2 v (roundF layA 1 lo hi n).length (encR (roundF layA 1 lo hi n)) ∧ Below w.heap.size w w' := by
  have hK := Bk.new w 166 #[.int .i64 lo, .int .i64 hi, .int .i64 n]
  have hrd := fun W => round_again lo hi n W hn hn2 hlh h1 h2
  generalize roundF layA 1 lo hi n = L at *
  go_enter Tryz.func130, Tryz.ntmps130
  go_wp2_with (go_at_call 153; (with_reducible refine (hrd _).mono ?_); rintro e w1 ⟨v, rfl, hown, hb1⟩)
  go_returns
  exact ⟨_, rfl, own_base hown (by simp), ((Below.refl _ w).alloc (Nat.le_refl _) _).trans (hb1.mono (by simp))⟩
set_option maxHeartbeats 1000000 in
theorem back_any :
    Calls Tryz.prog 131 #[askV lo hi n] w fun e w' => ∃ v, e = .returned v ∧ w'.ownsRow w.heap.size 111 2 v (roundF layB 2 lo hi n).length (encR (roundF layB 2 lo hi n)) ∧ Below w.heap.size w w' := by
  have hK := Bk.new w 166 #[.int .i64 lo, .int .i64 hi, .int .i64 n]
  have hrd := round_back lo hi n w.heap.size (w.alloc (.cells #[.int .i64 lo, .int .i64 hi, .int .i64 n] 166)) hK.lt hK hn hn2 hlh h1 h2
  generalize roundF layB 2 lo hi n = L at *
  go_enter Tryz.func131, Tryz.ntmps131
  go_wp2_with (go_at_call 153; (with_reducible refine (hrd).mono ?_); rintro e w1 ⟨v, rfl, hown, hb1⟩)
  go_returns
  exact ⟨_, rfl, own_base hown (by simp), ((Below.refl _ w).alloc (Nat.le_refl _) _).trans (hb1.mono (by simp))⟩
end
theorem ask_fn_size : (Tryz.prog.info? 162).map (·.size) = some 1 := by kernel_rfl
@[go_sem] theorem idx_f0 (a b c d : Value) (w : World) : (Instr.index 163 (.agg #[a, b, c, d]) (.int .i64 0)).run Tryz.prog w = .ok a w :=
  run_index1 (P := Tryz.prog) (j := 0) Tryz.underlying163 Tryz.underlying162 rfl ask_fn_size _ _ (by decide) _ rfl w
@[go_sem] theorem idx_f1 (a b c d : Value) (w : World) : (Instr.index 163 (.agg #[a, b, c, d]) (.int .i64 1)).run Tryz.prog w = .ok b w :=
  run_index1 (P := Tryz.prog) (j := 1) Tryz.underlying163 Tryz.underlying162 rfl ask_fn_size _ _ (by decide) _ rfl w
@[go_sem] theorem idx_f2 (a b c d : Value) (w : World) : (Instr.index 163 (.agg #[a, b, c, d]) (.int .i64 2)).run Tryz.prog w = .ok c w :=
  run_index1 (P := Tryz.prog) (j := 2) Tryz.underlying163 Tryz.underlying162 rfl ask_fn_size _ _ (by decide) _ rfl w
@[go_sem] theorem idx_f3 (a b c d : Value) (w : World) : (Instr.index 163 (.agg #[a, b, c, d]) (.int .i64 3)).run Tryz.prog w = .ok d w :=
  run_index1 (P := Tryz.prog) (j := 3) Tryz.underlying163 Tryz.underlying162 rfl ask_fn_size _ _ (by decide) _ rfl w
abbrev fwaysV : Value := .agg #[.func (.func 128) #[] #[], .func (.func 129) #[] #[], .func (.func 130) #[] #[], .func (.func 131) #[] #[]]
theorem fways_size : (Tryz.prog.info? 163).map (·.size) = some 4 := by kernel_rfl
set_option maxHeartbeats 1000000 in
theorem fways_any (w : World) :
    Calls Tryz.prog 95 #[] w fun e w' => e = .returned fwaysV ∧ Below w.heap.size w w' := by
  go_enter Tryz.func95, Tryz.ntmps95
  have hK := Bk.new w 163 #[.nilFunc, .nilFunc, .nilFunc, .nilFunc]
  go_wp2_with (refine stB rfl _ _ _ rfl hK #[.func (.func 128) #[] #[], .func (.func 129) #[] #[], .func (.func 130) #[] #[], .func (.func 131) #[] #[]] rfl rfl fways_size rfl (by simp [Value.oneCell']) ?_; intro w6 hK6 hg6 _)
  refine bodyPost_ret (res_cell rfl hK6 rfl Tryz.underlying163 rfl fways_size) rfl ?_
  exact ⟨rfl, below_of_gb (by go_grown) hg6 (Nat.le_refl _) (by simp)⟩
end Go.Proofs.YtibmhabipghjlaaGreat
end
section
set_option linter.unusedVariables false
namespace Go.Proofs.YtibmhabipghjlaaGreat
open Go.RowKit
def colsF (m lo hi n : Int) : List Rn :=
  if m = 0 then [(max lo 0, min hi (n - 1) + 1)] else if m = 1 then [(max 0 (min lo (n - 1)), max 0 (min hi (n - 1)) + 1)]
  else if m = 2 then roundF layA 1 lo hi n else roundF layB 2 lo hi n
def okC (m lo hi n : Int) : Prop := lo ≤ hi ∧ (0 ≤ m ∧ m ≤ 3) ∧ (1 ≤ n ∧ n ≤ 2147483648) ∧ offB lo = false ∧ offB hi = false
instance (m lo hi n : Int) : Decidable (okC m lo hi n) := by unfold okC; infer_instance
def colsR (m lo hi n : Int) : List Rn := if okC m lo hi n then joinF (colsF m lo hi n) else []
theorem off_no {i : Int} (h : offB i = false) : -4611686018427387904 ≤ i ∧ i ≤ 4611686018427387904 := by
  unfold offB at h
  simp at h
  omega
theorem roundF_len (lay : Int → Int → Int → Int → Rn) (t lo hi n : Int) (hn : 1 ≤ n) (ht : t = 1 ∨ t = 2) (h : lo ≤ hi) (h1 : -4611686018427387904 ≤ lo ∧ lo ≤ 4611686018427387904) (h2 : -4611686018427387904 ≤ hi ∧ hi ≤ 4611686018427387904) : (roundF lay t lo hi n).length ≤ 3 := by
  unfold roundF
  split
  · simp
  · rename_i hc
    have := blocks_few hn ht h hc h1 h2
    rw [roundL_len]
    omega
theorem colsF_len {m lo hi n : Int} (hok : okC m lo hi n) : (colsF m lo hi n).length ≤ 3 := by
  obtain ⟨a, b, c, d, e⟩ := hok
  unfold colsF
  split
  · simp
  · split
    · simp
    · split
      · exact roundF_len _ _ _ _ _ c.1 (.inl rfl) a (off_no d) (off_no e)
      · exact roundF_len _ _ _ _ _ c.1 (.inr rfl) a (off_no d) (off_no e)
set_option maxHeartbeats 4000000 in
theorem columns_ok (m lo hi n : Int) (w : World) (hok : okC m lo hi n) :
    Calls Tryz.prog 63 #[.int .i64 m, .int .i64 lo, .int .i64 hi, .int .i64 n] w fun e w' => ∃ v, e = .returned v ∧ w'.ownsRow w.heap.size 111 2 v (joinF (colsF m lo hi n)).length (encR (joinF (colsF m lo hi n))) ∧ Below w.heap.size w w' := by
  have hlen := colsF_len hok
  obtain ⟨hlh, ⟨hm0, hm3⟩, ⟨hn, hn2⟩, ho1, ho2⟩ := hok
  have h1 := off_no ho1
  have h2 := off_no ho2
  have hof1 := fun W => off_any lo W
  have hof2 := fun W => off_any hi W
  rw [ho1] at hof1
  rw [ho2] at hof2
  have hin := fun W => inside_any lo hi n W hn hn2 h1 h2
  have hcl := fun W => clamped_any lo hi n W hn hn2 h1 h2
  have hag := fun W => again_any lo hi n W hn hn2 hlh h1 h2
  have hba := fun W => back_any lo hi n W hn hn2 hlh h1 h2
  have hcase : m = 0 ∨ m = 1 ∨ m = 2 ∨ m = 3 := by omega
  clear h1 h2 ho1 ho2
  rcases hcase with rfl | rfl | rfl | rfl
  · rw [show colsF 0 lo hi n = [(max lo 0, min hi (n - 1) + 1)] from rfl] at *
    have hw : ∀ W, Calls Tryz.prog 128 #[askV lo hi n] W fun e w' => ∃ v, e = .returned v ∧ w'.ownsRow W.heap.size 111 2 v ([(max lo 0, min hi (n - 1) + 1)]).length (encR ([(max lo 0, min hi (n - 1) + 1)])) ∧ Below W.heap.size W w' := hin
    clear hin hcl hag hba
    generalize ([(max lo 0, min hi (n - 1) + 1)]) = L at *
    go_enter Tryz.func63, Tryz.ntmps63
    go_wp2_with (first
      | (go_at_call 93; (with_reducible refine (hof1 _).mono ?_); rintro e w1 ⟨rfl, rfl⟩)
      | (go_at_call 93; (with_reducible refine (hof2 _).mono ?_); rintro e w2 ⟨rfl, rfl⟩)
      | (go_at_call 95; (with_reducible refine (fways_any _).mono ?_); rintro e w3 ⟨rfl, hb3⟩)
      | (go_at_call 128; (with_reducible refine (hw _).mono ?_); rintro e w4 ⟨v, rfl, hown, hb4⟩; obtain ⟨A4, c4, rfl, g41, g42, hA4, hr4, _⟩ := own_form2 hown)
      | (go_at_call 94; (with_reducible refine (joinf_any L A4 L.length c4 _ rfl hr4 (by omega)).mono ?_); rintro e w5 ⟨v5, rfl, hown5, hb5⟩))
    go_returns
    exact ⟨_, rfl, own_base hown5 (by have := hb3.size; have := hb4.size; omega), hb3.trans ((hb4.mono hb3.size).trans (hb5.mono (Nat.le_trans hb3.size hb4.size)))⟩
  · rw [show colsF 1 lo hi n = [(max 0 (min lo (n - 1)), max 0 (min hi (n - 1)) + 1)] from rfl] at *
    have hw : ∀ W, Calls Tryz.prog 129 #[askV lo hi n] W fun e w' => ∃ v, e = .returned v ∧ w'.ownsRow W.heap.size 111 2 v ([(max 0 (min lo (n - 1)), max 0 (min hi (n - 1)) + 1)]).length (encR ([(max 0 (min lo (n - 1)), max 0 (min hi (n - 1)) + 1)])) ∧ Below W.heap.size W w' := hcl
    clear hin hcl hag hba
    generalize ([(max 0 (min lo (n - 1)), max 0 (min hi (n - 1)) + 1)]) = L at *
    go_enter Tryz.func63, Tryz.ntmps63
    go_wp2_with (first
      | (go_at_call 93; (with_reducible refine (hof1 _).mono ?_); rintro e w1 ⟨rfl, rfl⟩)
      | (go_at_call 93; (with_reducible refine (hof2 _).mono ?_); rintro e w2 ⟨rfl, rfl⟩)
      | (go_at_call 95; (with_reducible refine (fways_any _).mono ?_); rintro e w3 ⟨rfl, hb3⟩)
      | (go_at_call 129; (with_reducible refine (hw _).mono ?_); rintro e w4 ⟨v, rfl, hown, hb4⟩; obtain ⟨A4, c4, rfl, g41, g42, hA4, hr4, _⟩ := own_form2 hown)
      | (go_at_call 94; (with_reducible refine (joinf_any L A4 L.length c4 _ rfl hr4 (by omega)).mono ?_); rintro e w5 ⟨v5, rfl, hown5, hb5⟩))
    go_returns
    exact ⟨_, rfl, own_base hown5 (by have := hb3.size; have := hb4.size; omega), hb3.trans ((hb4.mono hb3.size).trans (hb5.mono (Nat.le_trans hb3.size hb4.size)))⟩
  · rw [show colsF 2 lo hi n = roundF layA 1 lo hi n from rfl] at *
    have hw : ∀ W, Calls Tryz.prog 130 #[askV lo hi n] W fun e w' => ∃ v, e = .returned v ∧ w'.ownsRow W.heap.size 111 2 v (roundF layA 1 lo hi n).length (encR (roundF layA 1 lo hi n)) ∧ Below W.heap.size W w' := hag
    clear hin hcl hag hba
    generalize (roundF layA 1 lo hi n) = L at *
    go_enter Tryz.func63, Tryz.ntmps63
    go_wp2_with (first
      | (go_at_call 93; (with_reducible refine (hof1 _).mono ?_); rintro e w1 ⟨rfl, rfl⟩)
      | (go_at_call 93; (with_reducible refine (hof2 _).mono ?_); rintro e w2 ⟨rfl, rfl⟩)
      | (go_at_call 95; (with_reducible refine (fways_any _).mono ?_); rintro e w3 ⟨rfl, hb3⟩)
      | (go_at_call 130; (with_reducible refine (hw _).mono ?_); rintro e w4 ⟨v, rfl, hown, hb4⟩; obtain ⟨A4, c4, rfl, g41, g42, hA4, hr4, _⟩ := own_form2 hown)
      | (go_at_call 94; (with_reducible refine (joinf_any L A4 L.length c4 _ rfl hr4 (by omega)).mono ?_); rintro e w5 ⟨v5, rfl, hown5, hb5⟩))
    go_returns
    exact ⟨_, rfl, own_base hown5 (by have := hb3.size; have := hb4.size; omega), hb3.trans ((hb4.mono hb3.size).trans (hb5.mono (Nat.le_trans hb3.size hb4.size)))⟩
  · rw [show colsF 3 lo hi n = roundF layB 2 lo hi n from rfl] at *
    have hw : ∀ W, Calls Tryz.prog 131 #[askV lo hi n] W fun e w' => ∃ v, e = .returned v ∧ w'.ownsRow W.heap.size 111 2 v (roundF layB 2 lo hi n).length (encR (roundF layB 2 lo hi n)) ∧ Below W.heap.size W w' := hba
    clear hin hcl hag hba
    generalize (roundF layB 2 lo hi n) = L at *
    go_enter Tryz.func63, Tryz.ntmps63
    go_wp2_with (first
      | (go_at_call 93; (with_reducible refine (hof1 _).mono ?_); rintro e w1 ⟨rfl, rfl⟩)
      | (go_at_call 93; (with_reducible refine (hof2 _).mono ?_); rintro e w2 ⟨rfl, rfl⟩)
      | (go_at_call 95; (with_reducible refine (fways_any _).mono ?_); rintro e w3 ⟨rfl, hb3⟩)
      | (go_at_call 131; (with_reducible refine (hw _).mono ?_); rintro e w4 ⟨v, rfl, hown, hb4⟩; obtain ⟨A4, c4, rfl, g41, g42, hA4, hr4, _⟩ := own_form2 hown)
      | (go_at_call 94; (with_reducible refine (joinf_any L A4 L.length c4 _ rfl hr4 (by omega)).mono ?_); rintro e w5 ⟨v5, rfl, hown5, hb5⟩))
    go_returns
    exact ⟨_, rfl, own_base hown5 (by have := hb3.size; have := hb4.size; omega), hb3.trans ((hb4.mono hb3.size).trans (hb5.mono (Nat.le_trans hb3.size hb4.size)))⟩
end Go.Proofs.YtibmhabipghjlaaGreat
end
section
set_option linter.unusedVariables false
namespace Go.Proofs.YtibmhabipghjlaaGreat
open Go.RowKit
set_option maxHeartbeats 4000000 in
theorem columns_bad (m lo hi n : Int) (w : World) (hok : ¬ okC m lo hi n) :
    Calls Tryz.prog 63 #[.int .i64 m, .int .i64 lo, .int .i64 hi, .int .i64 n] w fun e w' => e = .returned (.slice none 0 0) ∧ w' = w := by
  unfold okC at hok
  have hof1 := fun W => off_any lo W
  have hof2 := fun W => off_any hi W
  cases ho1 : offB lo <;> cases ho2 : offB hi <;> rw [ho1] at hof1 <;> rw [ho2] at hof2
  all_goals
    rcases (show hi < lo ∨ lo ≤ hi by omega) with c1 | c1
    · clear hok
      go_enter Tryz.func63, Tryz.ntmps63
      go_wp2
      go_returns
      exact ⟨rfl, rfl⟩
    rcases (show m < 0 ∨ 0 ≤ m by omega) with c2 | c2
    · clear hok
      go_enter Tryz.func63, Tryz.ntmps63
      go_wp2
      go_returns
      exact ⟨rfl, rfl⟩
    rcases (show 3 < m ∨ m ≤ 3 by omega) with c3 | c3
    · clear hok
      go_enter Tryz.func63, Tryz.ntmps63
      go_wp2
      go_returns
      exact ⟨rfl, rfl⟩
    rcases (show n < 1 ∨ 1 ≤ n by omega) with c4 | c4
    · clear hok
      go_enter Tryz.func63, Tryz.ntmps63
      go_wp2
      go_returns
      exact ⟨rfl, rfl⟩
    rcases (show 2147483648 < n ∨ n ≤ 2147483648 by omega) with c5 | c5
    · clear hok
      go_enter Tryz.func63, Tryz.ntmps63
      go_wp2
      go_returns
      exact ⟨rfl, rfl⟩
    first
      | (exfalso; exact hok ⟨c1, ⟨c2, c3⟩, ⟨c4, c5⟩, ho1, ho2⟩)
      | (clear hok
         go_enter Tryz.func63, Tryz.ntmps63
         go_wp2_with (first
           | (go_at_call 93; (with_reducible refine (hof1 _).mono ?_); rintro e w1 ⟨rfl, rfl⟩)
           | (go_at_call 93; (with_reducible refine (hof2 _).mono ?_); rintro e w2 ⟨rfl, rfl⟩))
         go_returns
         exact ⟨rfl, rfl⟩)
theorem columns_any (m lo hi n : Int) (w : World) :
    Calls Tryz.prog 63 #[.int .i64 m, .int .i64 lo, .int .i64 hi, .int .i64 n] w fun e w' => ∃ v, e = .returned v ∧ w'.ownsRow w.heap.size 111 2 v (colsR m lo hi n).length (encR (colsR m lo hi n)) ∧ Below w.heap.size w w' := by
  unfold colsR
  by_cases hok : okC m lo hi n
  · rw [if_pos hok]
    exact columns_ok m lo hi n w hok
  · rw [if_neg hok]
    refine (columns_bad m lo hi n w hok).mono ?_
    rintro e w' ⟨rfl, rfl⟩
    exact ⟨_, rfl, by simpa [encR] using World.ownsRow_nil _ _ _ _, Below.refl _ _⟩
theorem colsR_len (m lo hi n : Int) : (colsR m lo hi n).length ≤ 3 := by
  unfold colsR
  split
  · rename_i h
    exact Nat.le_trans (joinF_len _) (colsF_len h)
  · simp
end Go.Proofs.YtibmhabipghjlaaGreat
end
section
set_option linter.unusedVariables false
namespace Go.Proofs.YtibmhabipghjlaaGreat
theorem memR_one (x y j : Int) : MemR [(x, y)] j ↔ x ≤ j ∧ j < y := by
  rw [memR_cons]
  constructor
  · rintro (h | h)
    · exact h
    · exact absurd h (memR_nil j)
  · exact .inl
theorem mem_roundL (lay : Int → Int → Int → Int → Rn) (f l a b n : Int) (N : Nat) (j : Int) :
    MemR (roundL lay f l a b n N) j ↔ ∃ t : Nat, t < N ∧ (lay n (f + t) (if t = 0 then a else 0) (if f + t = l then b else n - 1)).1 ≤ j ∧ j < (lay n (f + t) (if t = 0 then a else 0) (if f + t = l then b else n - 1)).2 := by
  unfold roundL MemR
  constructor
  · rintro ⟨r, hr, h⟩
    obtain ⟨t, ht, rfl⟩ := List.mem_map.1 hr
    exact ⟨t, by simpa using ht, h⟩
  · rintro ⟨t, ht, h⟩
    exact ⟨_, List.mem_map.2 ⟨t, by simpa using ht, rfl⟩, h⟩
/-- A column is a time round and a thing there. -/
theorem split_col {n i : Int} (hn : 1 ≤ n) : i = n * (i / n) + i % n ∧ 0 ≤ i % n ∧ i % n < n :=
  ⟨(Int.mul_ediv_add_emod i n).symm, Int.emod_nonneg i (by omega), Int.emod_lt_of_pos i (by omega)⟩
theorem col_of {n k r : Int} (hn : 1 ≤ n) (h0 : 0 ≤ r) (h1 : r < n) : (n * k + r) / n = k ∧ (n * k + r) % n = r := by
  have hn0 : n ≠ 0 := by omega
  constructor
  · rw [Int.add_comm, Int.add_mul_ediv_left _ _ hn0, Int.ediv_eq_zero_of_lt h0 h1]; omega
  · rw [Int.add_comm, Int.add_mul_emod_self_left, Int.emod_eq_of_lt h0 h1]
theorem col_le {n k k' r r' : Int} (hn : 1 ≤ n) (h0 : 0 ≤ r) (h1 : r < n) (h0' : 0 ≤ r') (h1' : r' < n) : n * k + r ≤ n * k' + r' ↔ k < k' ∨ (k = k' ∧ r ≤ r') := by
  constructor
  · intro h
    rcases Int.lt_trichotomy k k' with g | g | g
    · exact .inl g
    · subst g; exact .inr ⟨rfl, by omega⟩
    · exfalso
      have : n * (k' + 1) ≤ n * k := Int.mul_le_mul_of_nonneg_left (by omega) (by omega)
      rw [Int.mul_add] at this
      omega
  · rintro (g | ⟨g, g2⟩)
    · have : n * (k + 1) ≤ n * k' := Int.mul_le_mul_of_nonneg_left (by omega) (by omega)
      rw [Int.mul_add] at this
      omega
    · subst g; omega
/-- Times round from one column to another one, and things there. -/
theorem blocks_law {n lo hi : Int} (hn : 1 ≤ n) (hlh : lo ≤ hi) (P : Int → Int → Prop) :
    (∃ i, lo ≤ i ∧ i ≤ hi ∧ P (i / n) (i % n)) ↔ ∃ t : Nat, t < (hi / n - lo / n + 1).toNat ∧ ∃ r, (if t = 0 then lo % n else 0) ≤ r ∧ r ≤ (if lo / n + t = hi / n then hi % n else n - 1) ∧ P (lo / n + t) r := by
  obtain ⟨l1, l2, l3⟩ := split_col (n := n) (i := lo) hn
  obtain ⟨u1, u2, u3⟩ := split_col (n := n) (i := hi) hn
  constructor
  · rintro ⟨i, h1, h2, hP⟩
    obtain ⟨i1, i2, i3⟩ := split_col (n := n) (i := i) hn
    rw [l1, i1] at h1
    rw [u1, i1] at h2
    rw [col_le hn l2 l3 i2 i3] at h1
    rw [col_le hn i2 i3 u2 u3] at h2
    refine ⟨(i / n - lo / n).toNat, by omega, i % n, ?_, ?_, ?_⟩
    · split <;> omega
    · split <;> omega
    · rw [show lo / n + ((i / n - lo / n).toNat : Int) = i / n by omega]; exact hP
  · rintro ⟨t, ht, r, h1, h2, hP⟩
    have hr0 : 0 ≤ r := by split at h1 <;> omega
    have hr1 : r < n := by split at h2 <;> omega
    obtain ⟨e1, e2⟩ := col_of (k := lo / n + t) hn hr0 hr1
    refine ⟨n * (lo / n + t) + r, ?_, ?_, ?_⟩
    · have := (col_le (n := n) (k := lo / n) (k' := lo / n + t) hn l2 l3 hr0 hr1).2 (by split at h1 <;> omega)
      omega
    · have := (col_le (n := n) (k := lo / n + t) (k' := hi / n) hn hr0 hr1 u2 u3).2 (by split at h2 <;> omega)
      omega
    · rw [e1, e2]; exact hP
theorem mem_round {lay : Int → Int → Int → Int → Rn} {n lo hi t : Int} (hn : 1 ≤ n) (hlh : lo ≤ hi) (hc : ¬ t * n - 1 ≤ hi - lo) (f : Int → Int → Int)
    (hlay : ∀ k a b j, (lay n k a b).1 ≤ j ∧ j < (lay n k a b).2 ↔ ∃ r, a ≤ r ∧ r ≤ b ∧ f k r = j) (j : Int) :
    MemR (roundF lay t lo hi n) j ↔ ∃ i, lo ≤ i ∧ i ≤ hi ∧ f (i / n) (i % n) = j := by
  unfold roundF
  rw [if_neg hc, mem_roundL, blocks_law hn hlh (fun k r => f k r = j)]
  constructor
  · rintro ⟨t, ht, h⟩
    obtain ⟨r, h1, h2, h3⟩ := (hlay _ _ _ _).1 h
    exact ⟨t, ht, r, h1, h2, h3⟩
  · rintro ⟨t, ht, r, h1, h2, h3⟩
    exact ⟨t, ht, (hlay _ _ _ _).2 ⟨r, h1, h2, h3⟩⟩
/-- Where a column is, by modes. -/
def colAt (m n i : Int) : Option Int :=
  if m = 0 then (if 0 ≤ i ∧ i < n then some i else none) else if m = 1 then some (max 0 (min i (n - 1)))
  else if m = 2 then some (i % n) else some (if (i / n) % 2 = 0 then i % n else n - 1 - i % n)
theorem hit_again {n lo hi j : Int} (hn : 1 ≤ n) (hc : n - 1 ≤ hi - lo) (h0 : 0 ≤ j) (h1 : j < n) : ∃ i, lo ≤ i ∧ i ≤ hi ∧ i % n = j := by
  obtain ⟨l1, l2, l3⟩ := split_col (n := n) (i := j - lo) hn
  refine ⟨lo + (j - lo) % n, by omega, by omega, ?_⟩
  rw [Int.add_emod_emod, show lo + (j - lo) = j by omega, Int.emod_eq_of_lt h0 h1]
theorem cols_law {m lo hi n : Int} (hm : 0 ≤ m ∧ m ≤ 3) (hn : 1 ≤ n) (hlh : lo ≤ hi) (j : Int) : MemR (colsF m lo hi n) j ↔ ∃ i, lo ≤ i ∧ i ≤ hi ∧ colAt m n i = some j := by
  have hcase : m = 0 ∨ m = 1 ∨ m = 2 ∨ m = 3 := by omega
  rcases hcase with rfl | rfl | rfl | rfl
  · rw [show colsF 0 lo hi n = [(max lo 0, min hi (n - 1) + 1)] from rfl, memR_one]
    simp only [colAt, if_pos]
    constructor
    · intro h
      exact ⟨j, by omega, by omega, by rw [if_pos (by omega)]⟩
    · rintro ⟨i, h1, h2, h3⟩
      split at h3
      · injection h3 with h3; omega
      · cases h3
  · rw [show colsF 1 lo hi n = [(max 0 (min lo (n - 1)), max 0 (min hi (n - 1)) + 1)] from rfl, memR_one]
    simp only [colAt, if_neg (show ¬ (1 : Int) = 0 by omega), if_pos]
    constructor
    · intro h
      refine ⟨max lo (min hi j), by omega, by omega, ?_⟩
      congr 1
      omega
    · rintro ⟨i, h1, h2, h3⟩
      injection h3 with h3
      omega
  · rw [show colsF 2 lo hi n = roundF layA 1 lo hi n from rfl]
    simp only [colAt, if_neg (show ¬ (2 : Int) = 0 by omega), if_neg (show ¬ (2 : Int) = 1 by omega), if_pos]
    by_cases hc : 1 * n - 1 ≤ hi - lo
    · unfold roundF
      rw [if_pos hc, memR_one]
      constructor
      · intro h
        obtain ⟨i, h1, h2, h3⟩ := hit_again (lo := lo) (hi := hi) hn (by omega) h.1 h.2
        exact ⟨i, h1, h2, by rw [h3]⟩
      · rintro ⟨i, h1, h2, h3⟩
        injection h3 with h3
        have := split_col (n := n) (i := i) hn
        omega
    · rw [mem_round hn hlh hc (fun k r => r) (by
        intro k a b j
        simp only [layA]
        constructor
        · intro h; exact ⟨j, by omega, by omega, rfl⟩
        · rintro ⟨r, h1, h2, rfl⟩; omega)]
      constructor
      · rintro ⟨i, h1, h2, h3⟩; exact ⟨i, h1, h2, by rw [h3]⟩
      · rintro ⟨i, h1, h2, h3⟩; exact ⟨i, h1, h2, by injection h3⟩
  · rw [show colsF 3 lo hi n = roundF layB 2 lo hi n from rfl]
    simp only [colAt, if_neg (show ¬ (3 : Int) = 0 by omega), if_neg (show ¬ (3 : Int) = 1 by omega), if_neg (show ¬ (3 : Int) = 2 by omega)]
    by_cases hc : 2 * n - 1 ≤ hi - lo
    · unfold roundF
      rw [if_pos hc, memR_one]
      constructor
      · intro h
        obtain ⟨i, h1, h2, h3⟩ := hit_again (n := 2 * n) (lo := lo) (hi := hi) (by omega) (by omega) h.1 (by omega)
        obtain ⟨s1, s2, s3⟩ := split_col (n := 2 * n) (i := i) (by omega)
        have e : i = n * (2 * (i / (2 * n))) + j := by
          rw [h3] at s1
          rw [← Int.mul_assoc, Int.mul_comm n 2]; exact s1
        obtain ⟨e1, e2⟩ := col_of (n := n) (k := 2 * (i / (2 * n))) hn h.1 h.2
        rw [← e] at e1 e2
        exact ⟨i, h1, h2, by rw [e1, e2, if_pos (by omega)]⟩
      · rintro ⟨i, h1, h2, h3⟩
        injection h3 with h3
        have := split_col (n := n) (i := i) hn
        split at h3 <;> omega
    · rw [mem_round hn hlh hc (fun k r => if k % 2 = 0 then r else n - 1 - r) (by
        intro k a b j
        unfold layB
        by_cases hk : k % 2 = 0
        · simp only [if_pos hk]
          constructor
          · intro h; exact ⟨j, by omega, by omega, rfl⟩
          · rintro ⟨r, h1, h2, rfl⟩; omega
        · simp only [if_neg hk]
          constructor
          · intro h; exact ⟨n - 1 - j, by omega, by omega, by omega⟩
          · rintro ⟨r, h1, h2, rfl⟩; omega)]
      constructor
      · rintro ⟨i, h1, h2, h3⟩; exact ⟨i, h1, h2, by rw [h3]⟩
      · rintro ⟨i, h1, h2, h3⟩; exact ⟨i, h1, h2, by injection h3⟩
end Go.Proofs.YtibmhabipghjlaaGreat
end
section
set_option linter.unusedVariables false
namespace Go.Proofs.YtibmhabipghjlaaGreat
open Go.RowKit
theorem colsR_mem {m lo hi n : Int} (hok : okC m lo hi n) (j : Int) : MemR (colsR m lo hi n) j ↔ ∃ i, lo ≤ i ∧ i ≤ hi ∧ colAt m n i = some j := by
  unfold colsR
  rw [if_pos hok, (joinF_law _).2 j, cols_law hok.2.1 hok.2.2.1.1 hok.1]
theorem colsR_canon (m lo hi n : Int) : Canon (colsR m lo hi n) := by
  unfold colsR
  split
  · exact (joinF_law _).1
  · exact canon_nil
theorem alive2 : colsR 2 (-1) 1 5 = [(0, 2), (4, 5)] := by
  have hok : okC 2 (-1) 1 5 := by decide
  refine canon_ext (colsR_canon _ _ _ _) ⟨by simp, by simp⟩ fun j => ?_
  rw [colsR_mem hok, memR_cons, memR_one]
  constructor
  · rintro ⟨i, h1, h2, h3⟩
    have h3' : i % 5 = j := by simpa [colAt] using h3
    simp only
    omega
  · rintro (h | h)
    · exact ⟨j, by simp only at h; omega, by simp only at h; omega, by simp only at h; simp [colAt]; omega⟩
    · exact ⟨-1, by omega, by omega, by simp [colAt]; omega⟩
theorem alive3 : colsR 3 (-2) 0 5 = [(0, 2)] := by
  have hok : okC 3 (-2) 0 5 := by decide
  refine canon_ext (colsR_canon _ _ _ _) ⟨by simp, by simp⟩ fun j => ?_
  rw [colsR_mem hok, memR_one]
  constructor
  · rintro ⟨i, h1, h2, h3⟩
    have hi : i = -2 ∨ i = -1 ∨ i = 0 := by omega
    rcases hi with rfl | rfl | rfl <;> simp [colAt] at h3 <;> omega
  · intro h
    have hj : j = 0 ∨ j = 1 := by omega
    rcases hj with rfl | rfl
    · exact ⟨0, by omega, by omega, by simp [colAt]⟩
    · exact ⟨-2, by omega, by omega, by simp [colAt]⟩
theorem own_len {w : World} {base n : Nat} {v : Value} {xs : List Rn} (h : w.ownsRow base 111 2 v n (encR xs)) : xs.length = n := by
  have := h.1
  rw [encR_len] at this
  omega
end Go.Proofs.YtibmhabipghjlaaGreat
end
section
set_option linter.unusedVariables false
namespace Go.Proofs.YtibmhabipghjlaaGreat
open Go.RowKit
abbrev bxA4 (a b c d : Int) : Array Value := #[.int .i64 a, .int .i64 b, .int .i64 c, .int .i64 d]
theorem box_size39 : (Tryz.prog.info? 23).map (·.size) = some 4 := by kernel_rfl
set_option maxRecDepth 100000 in
set_option maxHeartbeats 4000000 in
theorem boxto_any (a b c d : Int) (k : Nat) (w : World) (hT : ∀ (u : Int) (w' : World), (u = a ∨ u = b ∨ u = c ∨ u = d) → Calls Tryz.prog 38 #[.int .i64 u, .int .i64 k] w' fun e w'' => e = .returned (.int .i64 (lvTo u k)) ∧ w' = w'') :
    Calls Tryz.prog 44 #[.agg (bxA4 a b c d), .int .i64 k] w fun e w' => e = .returned (.agg (bxA4 (lvTo a k) (lvTo b k) (lvTo c k) (lvTo d k))) ∧ Below w.heap.size w w' := by
  have hl := fun (u : Int) (h : u = a ∨ u = b ∨ u = c ∨ u = d) (w' : World) => (hT u w' h).mono (R' := fun e w'' => e = .returned (.int .i64 (lvTo u k)) ∧ Below w'.heap.size w' w'') fun e w'' ⟨q1, q2⟩ => ⟨q1, q2 ▸ Below.refl _ _⟩
  have h1 := fun w' => hl a (by simp) w'
  have h2 := fun w' => hl b (by simp) w'
  have h3 := fun w' => hl c (by simp) w'
  have h4 := fun w' => hl d (by simp) w'
  have hL := ((Lie.start w).alloc (bxA4 a b c d) 23).alloc (bxA4 0 0 0 0) 23
  simp only [World.size_alloc] at hL
  have k0 : Bk _ w.heap.size 23 (bxA4 a b c d) := hL.k 1 (by simp)
  have k1 : Bk _ (w.heap.size + 1) 23 (bxA4 0 0 0 0) := hL.k 0 (by simp)
  have hb0 := hL.bel
  have x0 := fun (n : Nat) (os : Array Obj) => cell_regrown (k0.cell4.1) n os
  have x1 := fun (n : Nat) (os : Array Obj) => cell_regrown (k0.cell4.2.1) n os
  have x2 := fun (n : Nat) (os : Array Obj) => cell_regrown (k0.cell4.2.2.1) n os
  have x3 := fun (n : Nat) (os : Array Obj) => cell_regrown (k0.cell4.2.2.2) n os
  generalize lvTo a k = a' at *
  generalize lvTo b k = b' at *
  generalize lvTo c k = c' at *
  generalize lvTo d k = d' at *
  clear hT hl hL k0
  go_enter Tryz.func44, Tryz.ntmps44
  go_upto_region 1 with fail
  generalize (w.alloc (.cells (bxA4 a b c d) 23)).alloc (.cells (bxA4 0 0 0 0) 23) = w1 at *
  refine wp_region_quiet_tail 17 (by kernel_rfl) (by kernel_rfl) ?_
  simp only [List.take_succ_cons, List.take_zero, List.drop_succ_cons, List.drop_zero]
  repeat (first
    | go_big_quiet_step ((first | with_reducible exact quiet_below (h1 _) | with_reducible exact quiet_below (h2 _) | with_reducible exact quiet_below (h3 _) | with_reducible exact quiet_below (h4 _)))
    | quiet_step ((first | with_reducible exact quiet_below (h1 _) | with_reducible exact quiet_below (h2 _) | with_reducible exact quiet_below (h3 _) | with_reducible exact quiet_below (h4 _))))
  refine wpQuiet_nil ?_
  intro _ hw'
  obtain ⟨⟨d9, os⟩, hw''⟩ := hw'
  subst hw''
  have hbx := below_regrown w1 d9 os
  have k11 := k1.nx hbx
  have hb1 := hb0.trans (hbx.mono hb0.size)
  clear x0 x1 x2 x3 k1 hb0 hbx h1 h2 h3 h4
  generalize Go.Sort.grow (redrawn w1 d9) os = w2 at *
  go_wp2_with (refine stB (ty := 23) (cells := bxA4 a' b' c' d') rfl _ _ rfl k11 rfl rfl box_size39 rfl (by simp [Value.oneCell']) ?_; intro w' hK' hg' _)
  refine bodyPost_ret (res_cell rfl hK' rfl Tryz.underlying23 rfl box_size39) rfl ?_
  exact ⟨rfl, below_of_gb hb1 hg' (by omega) hb1.size⟩
set_option maxHeartbeats 4000000 in
theorem jruns_any (j : Jb) (lo hi n : Int) (w : World) : Calls Tryz.prog 45 #[.agg j.cells, .int .i64 lo, .int .i64 hi, .int .i64 n] w fun e w' => ∃ v, e = .returned v ∧ w'.ownsRow w.heap.size 111 2 v (colsR j.mo (sreachR j.K lo hi).1 (sreachR j.K lo hi).2 n).length (encR (colsR j.mo (sreachR j.K lo hi).1 (sreachR j.K lo hi).2 n)) ∧ Below w.heap.size w w' := by
  have hL := (Lie.start w).alloc j.cells 28
  have k0 : Bk _ w.heap.size 28 j.cells := hL.k 0 (by simp)
  have hb0 := hL.bel
  obtain ⟨y0, y1, y2, y3, y4, y5, y6, y7, y8, y9, y10, y11, y12, y13, y14⟩ := k0.cellJ
  have hS := fun w' => sreach_any j.K lo hi w'
  obtain ⟨a, b, hab⟩ : ∃ a b, sreachR j.K lo hi = (a, b) := ⟨_, _, rfl⟩
  rw [hab] at hS ⊢
  simp only at hS ⊢
  have hC := fun w' => columns_any j.mo a b n w'
  generalize colsR j.mo a b n = R at *
  clear hab hL y0 y1 y2 y3 y6 y7 y8 y9 y10 y11 y12 y13 y14
  go_enter Tryz.func45, Tryz.ntmps45
  go_wp2_with (first
    | (go_at_call 62; (with_reducible refine (hS _).mono ?_); rintro e w1 ⟨rfl, hb1⟩; have k01 := k0.nx hb1; obtain ⟨_, _, _, _, _, y5', _⟩ := k01.cellJ)
    | (go_at_call 63; (with_reducible refine (hC _).mono ?_); rintro e w2 ⟨v, rfl, ho, hb2⟩))
  go_returns
  have hb01 := hb0.trans (hb1.mono hb0.size)
  exact ⟨v, rfl, own_base ho hb01.size, hb01.trans (hb2.mono hb01.size)⟩
end Go.Proofs.YtibmhabipghjlaaGreat
end
section
set_option linter.unusedVariables false
namespace Go.Proofs.YtibmhabipghjlaaGreat
open Go.RowKit Go.Sort
section
variable {P : Program} {ops : Array Oper} {md : Region.Mode} {C : World → Prop}
/-- Operation t waits for operation i, through f steps at most. -/
def reachB (md : Region.Mode) (ops : Array Oper) : Nat → Nat → Nat → Bool
  | 0, _, _ => false
  | f + 1, t, i => match ops[t]? with
    | none => false
    | some o => o.after.any fun e => Region.binds md e && (e.on == i || reachB md ops f e.on i)
def behindB (md : Region.Mode) (ops : Array Oper) (n f : Nat) : Bool := (List.range ops.size).all fun t => decide (t < n) || (List.range n).all fun i => reachB md ops f t i
theorem reach_listed {n : Nat} {ls : Array Bool} (inv : HeadInv md ops n ls) {i : Nat} (f : Nat) : ∀ t, reachB md ops f t i = true → (∀ o, ops[t]? = some o → ∀ e ∈ o.after, Region.binds md e = true → ls.getD e.on false = true) → ls.getD i false = true := by
  induction f with
  | zero => intro t h; cases h
  | succ f ih =>
    intro t h hd
    unfold reachB at h
    split at h
    · cases h
    · rename_i o ho
      obtain ⟨e, he, hb⟩ := Array.any_eq_true'.1 h
      simp only [Bool.and_eq_true, Bool.or_eq_true, beq_iff_eq] at hb
      have hl := hd o ho e he hb.1
      rcases hb.2 with h1 | h1
      · rw [← h1]; exact hl
      · exact ih e.on h1 (fun o2 ho2 e2 he2 hb2 => inv.closed e.on o2 ho2 hl e2 he2 hb2)
theorem behind_lt {n f : Nat} (hB : behindB md ops n f = true) {ls : Array Bool} (inv : HeadInv md ops n ls) {i : Nat} (hi : i < n) (hun : ls.getD i true = false) (j : Nat) (hj : j ∈ Region.ready md ops ls) : j < n := by
  rcases Nat.lt_or_ge j n with h | h
  · exact h
  · exfalso
    obtain ⟨hj1, oj, hoj, hall⟩ := mem_ready.1 hj
    have hjs : j < ops.size := (Array.getElem?_eq_some_iff.1 hoj).1
    have h1 := List.all_eq_true.1 hB j (List.mem_range.2 hjs)
    simp only [Bool.or_eq_true, decide_eq_true_eq] at h1
    rcases h1 with h1 | h1
    · omega
    · have h2 := List.all_eq_true.1 h1 i (List.mem_range.2 hi)
      have h3 := reach_listed inv f j h2 (fun o ho e he hb => by
        have : o = oj := Option.some.inj (ho.symm.trans hoj)
        subst this
        exact hall e he hb)
      rw [getD_both hun] at h3
      cases h3
/-- What has come up once the first operations have. -/
def upTo : Nat → Nat → Array Bool → Array Bool
  | 0, _, ls => ls
  | f + 1, k, ls => upTo f (k + 1) (ls.setIfInBounds k true)
def goB (md : Region.Mode) (ops : Array Oper) : Nat → Nat → Array Bool → Bool
  | 0, _, _ => true
  | f + 1, k, ls => (Region.ready md ops ls).contains k && Region.free md ops ls k && goB md ops f (k + 1) (ls.setIfInBounds k true)
def lateB (md : Region.Mode) (ops : Array Oper) (n f : Nat) : Bool :=
  Region.noSelect ops && decide (n ≤ ops.size) && behindB md ops n f && goB md ops n 0 (Array.replicate ops.size false) && (Region.ready md ops (upTo n 0 (Array.replicate ops.size false))).all (fun j => decide (n ≤ j))
theorem HeadQ.lexU {n f : Nat} {LS : Array Bool} {Lq : Act → Prop} (hsel : Region.noSelect ops = true) (hb : behindB md ops n f = true) (hd : ∀ j ∈ Region.ready md ops LS, n ≤ j) (l : List Oper) :
    ∀ (k : Nat) (ls : Array Bool) (a : Act), (∀ j, j < l.length → l[j]? = ops[k + j]?) → k + l.length = n → HeadInv md ops n ls → goB md ops l.length k ls = true → upTo l.length k ls = LS → wpQuiet P ops C Lq l a →
      HeadQ P md ops C n (fun ls' a' => ls' = LS ∧ Lq a') l.length ls a := by
  induction l with
  | nil => intro k ls a _ _ _ _ hu h; exact ⟨hu, h⟩
  | cons o l ih =>
    intro k ls a hl hk inv hB hu h
    have ho : ops[k]? = some o := by have := hl 0 (by simp); simpa using this.symm
    rw [List.length_cons] at hk hB hu
    simp only [goB, Bool.and_eq_true] at hB
    have hkn : k < n := by omega
    have hr : k ∈ Region.ready md ops ls := by simpa using hB.1.1
    obtain ⟨v, hy, hK⟩ := yieldsIn_of_qOp (K := wpQuiet P ops C Lq l) ho (by unfold qOp; simp only [ho]; exact h)
    exact HeadQ.first ⟨ho, hsel, hkn, fun ls' inv' hun j hj => behind_lt hb inv' hkn hun j hj, fun ls' a' hL => by rw [hL.1]; exact hd⟩ l.length ls a inv (Region.free_spec ho hB.1.2) hr hy
      (ih (k + 1) _ _ (fun j hj => by have := hl (j + 1) (by simp; omega); rw [show k + 1 + j = k + (j + 1) by omega, ← this]; rfl) (by omega) (inv.set hr hkn) hB.2 hu hK)
end
theorem wp_region_quiet_late {P : Program} {id : Nat} {Q : Exit → Act → World → Prop} {a : Act} {w : World} {l : List Oper} (n f : Nat) (hm : P.follows .mixedOrders = true) (hB : lateB .any l.toArray n f = true)
    (h : wpQuiet P l.toArray (fun w' => ∃ p : Regrown, w' = grow (redrawn w p.d) p.os) (fun a' => ∀ w', (∃ p : Regrown, w' = grow (redrawn w p.d) p.os) → wpAny P .any l.toArray Q (l.length - n) (upTo n 0 (Array.replicate l.length false)) a' w') (l.take n) a) : (Code.region id l.toArray true).wp P Q a w := by
  simp only [lateB, Bool.and_eq_true, decide_eq_true_eq] at hB
  obtain ⟨⟨⟨⟨hsel, hn⟩, hb⟩, hgo⟩, hd⟩ := hB
  have hn2 : n ≤ l.length := by simpa using hn
  have hsz : l.toArray.size = l.length := by simp
  rw [hsz] at hgo hd
  have e1 : (l.take n).length = n := by rw [List.length_take]; omega
  have hw : Cl w { w with drawn := w.drawn + 1 } := ⟨⟨w.drawn + 1, #[]⟩, by rw [grow_empty]; rfl⟩
  have inv : HeadInv .any l.toArray n (Array.replicate l.length false) :=
    ⟨by simp, fun j oj _ hl => (by rw [getD_replicate_false] at hl; cases hl), fun t _ ht => getD_in (by simpa using ht) (getD_replicate_false _ _)⟩
  have hd2 : ∀ j ∈ Region.ready .any l.toArray (upTo n 0 (Array.replicate l.length false)), n ≤ j := fun j hj => of_decide_eq_true (List.all_eq_true.1 hd j hj)
  have H := HeadQ.lexU (P := P) (md := .any) (f := f) (LS := upTo n 0 (Array.replicate l.length false)) hsel hb hd2 (l.take n) 0 _ a (fun j hj => by
    rw [e1] at hj
    simp [hj]) (by omega) inv (by rw [e1]; exact hgo) (by rw [e1]) h
  refine wp_region_any hm ?_
  have R := HeadQ.run (Q' := Q) (g := l.length - n) (fun ls a' w' hC hL => by rw [hL.1]; exact hL.2 w' hC) _ _ _ _ hw H
  rw [e1, show n + (l.length - n) = l.toArray.size by rw [hsz]; omega] at R
  exact R
section
variable {P : Program} {ops : Array Oper} {md : Region.Mode} {Q : Exit → Act → World → Prop}
/-- A result picked out of several may be picked ahead of what else comes. -/
theorem wpAny_ext {i : Nat} {oi : Oper} {fuel : Nat} {ls : Array Bool} {a : Act} {w : World} (x : Operand) (k : Nat) (vs : Array Value) (v : Value) (t : Tmp) (hi : ops[i]? = some oi) (hd : oi.dst = some t) (hg : oi.guard = none) (ho : oi.op = .extract x k) (hx : a.eval x = .tuple vs) (hv : vs[k]? = some v)
    (hs : Region.noSelect ops = true) (hf : Region.free md ops ls i = true) (hr : (Region.ready md ops ls).contains i = true) (hQ : ∀ c a w, Q (.panic c) (a.put (some t) v) w → Q (.panic c) a w)
    (h : wpAny P md ops Q fuel (ls.setIfInBounds i true) (a.put (some t) v) w) : wpAny P md ops Q (fuel + 1) ls a w := by
  rw [← hd] at hQ h
  refine wpAny_take hi hs hf hr hQ (.inl ⟨by unfold Region.wanted; rw [hg], fun w' => ?_⟩) h
  unfold execOp
  simp [ho, hx, Instr.extract, hv]
theorem wpAny_tail {fuel : Nat} {ls : Array Bool} {a : Act} {w : World} (k : Nat) (hk : k + fuel = ops.size) (hB : Region.seqB md ops fuel k ls = true) (h : wpList P ops Q (ops.toList.drop k) a w) : wpAny P md ops Q fuel ls a w := by
  have e : (ops.toList.drop k).length = fuel := by rw [List.length_drop, Array.length_toList]; omega
  have := wpAny_of_seq (P := P) (md := md) (Q' := Q) (ops.toList.drop k) k ls a w (fun j => by simp [List.getElem?_drop]) (by rw [e]; exact hB) h
  rwa [e] at this
end
end Go.Proofs.YtibmhabipghjlaaGreat
end
