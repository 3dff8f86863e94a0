/- Quotients of wide numbers, rounded down; as places. -/
import Derived.Test.YtlbiiljncacdoaaGreatQt1
set_option linter.unusedVariables false
namespace Go.Proofs.YtlbiiljncacdoaaGreat
open Go.RowKit
/-- A quotient, rounded down, and what is left. -/
def fq (a b : Int) : Int := if b < 0 then -a / -b else a / b
def fr (a b : Int) : Int := a - b * fq a b
theorem neg_div {A Y : Int} (hY : 0 < Y) : -A / Y = if A % Y = 0 then -(A / Y) else -(A / Y + 1) := by
  have e := Int.emod_add_mul_ediv A Y
  have e1 := Int.emod_nonneg A (by omega : Y ≠ 0)
  have e2 := Int.emod_lt_of_pos A hY
  split
  · rename_i h
    refine ((Int.ediv_emod_unique hY (r := 0)).2 ⟨?_, by omega, hY⟩).1
    rw [Int.mul_neg]; omega
  · rename_i h
    refine ((Int.ediv_emod_unique hY (r := Y - A % Y)).2 ⟨?_, by omega, by omega⟩).1
    rw [Int.mul_neg, Int.mul_add, Int.mul_one]; omega
/-- by how much the sizes' quotient is the floor. -/
theorem fq_facts {a b : Int} (hb : b ≠ 0) : 0 < ab b ∧ 0 ≤ ab a ∧
    (((!(decide (hi6 a < 0) == decide (b < 0))) = true ∧ 0 < ab a % ab b → fq a b = -(ab a / ab b + 1) ∧ fr a b = if b < 0 then -(ab b - ab a % ab b) else ab b - ab a % ab b) ∧
     ((!(decide (hi6 a < 0) == decide (b < 0))) = true ∧ ab a % ab b = 0 → fq a b = -(ab a / ab b) ∧ fr a b = if b < 0 then -(ab a % ab b) else ab a % ab b) ∧
     ((!(decide (hi6 a < 0) == decide (b < 0))) = false → fq a b = ab a / ab b ∧ fr a b = if b < 0 then -(ab a % ab b) else ab a % ab b)) := by
  have hY : 0 < ab b := by unfold ab; split <;> omega
  have hA : 0 ≤ ab a := by unfold ab; split <;> omega
  have hs := (wh a).s
  have e := Int.emod_add_mul_ediv (ab a) (ab b)
  have e1 := Int.emod_nonneg (ab a) (by omega : ab b ≠ 0)
  have hn := neg_div (A := ab a) hY
  have hq : fq a b = if (a < 0 ↔ b < 0) then ab a / ab b else -ab a / ab b := by
    unfold fq ab
    by_cases h1 : a < 0 <;> by_cases h2 : b < 0 <;> simp [h1, h2]
  have hr : fr a b = a - b * fq a b := rfl
  have hba : b = if b < 0 then -ab b else ab b := by unfold ab; split <;> omega
  have haa : a = if a < 0 then -ab a else ab a := by unfold ab; split <;> omega
  refine ⟨hY, hA, ?_, ?_, ?_⟩
  · rintro ⟨h1, h2⟩
    have h3 : ¬ (a < 0 ↔ b < 0) := by simpa [hs] using h1
    rw [if_neg h3, hn, if_neg (by omega)] at hq
    refine ⟨hq, ?_⟩
    rw [hr, hq]
    by_cases hb0 : b < 0
    · rw [if_pos hb0] at hba ⊢
      rw [if_neg (by omega)] at haa
      have k : b * -(ab a / ab b + 1) = ab b * (ab a / ab b) + ab b := by rw [hba, Int.neg_mul_neg, Int.mul_add, Int.mul_one, ← hba]
      rw [k]; omega
    · rw [if_neg hb0] at hba ⊢
      rw [if_pos (by omega)] at haa
      have k : b * -(ab a / ab b + 1) = -(ab b * (ab a / ab b) + ab b) := by rw [Int.mul_neg, Int.mul_add, Int.mul_one, ← hba]
      rw [k]; omega
  · rintro ⟨h1, h2⟩
    have h3 : ¬ (a < 0 ↔ b < 0) := by simpa [hs] using h1
    rw [if_neg h3, hn, if_pos h2] at hq
    refine ⟨hq, ?_⟩
    rw [hr, hq]
    by_cases hb0 : b < 0
    · rw [if_pos hb0] at hba ⊢
      rw [if_neg (by omega)] at haa
      have k : b * -(ab a / ab b) = ab b * (ab a / ab b) := by rw [hba, Int.neg_mul_neg, ← hba]
      rw [k]; omega
    · rw [if_neg hb0] at hba ⊢
      rw [if_pos (by omega)] at haa
      have k : b * -(ab a / ab b) = -(ab b * (ab a / ab b)) := by rw [Int.mul_neg, ← hba]
      rw [k]; omega
  · intro h1
    have h3 : a < 0 ↔ b < 0 := by simpa [hs] using h1
    rw [if_pos h3] at hq
    refine ⟨hq, ?_⟩
    rw [hr, hq]
    by_cases hb0 : b < 0
    · rw [if_pos hb0] at hba ⊢
      rw [if_pos (by omega)] at haa
      have k : b * (ab a / ab b) = -(ab b * (ab a / ab b)) := by rw [hba, Int.neg_mul, ← hba]
      rw [k]; omega
    · rw [if_neg hb0] at hba ⊢
      rw [if_neg (by omega)] at haa
      rw [← hba]; rw [← hba] at e; omega
theorem res_cell_tmp2 {P : Program} {fn : Func} {p q q' : Tmp} {ty : TypeId} (h : fn.results = #[.cell p ty, .tmp q, .tmp q']) {tmps : Array Value} {w : World} {g : Nat} {t : TypeId} {cs : Array Value} (hK : Bk w g t cs) {d : TypeDesc}
    (hp : tmps.getD p undef = .pointer (some ⟨g, 0, none⟩)) (hu : P.underlying ty = some d) (hd : (match d with | .struct _ | .array _ _ => true | _ => false) = true) (hi : (P.info? ty).map (·.size) = some cs.size) :
    (results fn tmps).run P w = .ok (.tuple #[.agg cs, tmps.getD q undef, tmps.getD q' undef]) w := by
  have hp' : tmps[p]?.getD undef = .pointer (some ⟨g, 0, none⟩) := by simpa using hp
  simp [results, h, hp', asAddr, run_loadVar_row w g t ty cs (0, 0) d hK hu hd hi]
theorem res_wd_tmp2 {fn : Func} {p q q' : Tmp} (h : fn.results = #[.cell p 261, .tmp q, .tmp q']) {tmps : Array Value} {w : World} {g : Nat} {z : Int} (hK : Bk w g 261 (wdA z))
    (hp : tmps.getD p undef = .pointer (some ⟨g, 0, none⟩)) : (results fn tmps).run Tryz.prog w = .ok (.tuple #[WV z, tmps.getD q undef, tmps.getD q' undef]) w :=
  res_cell_tmp2 h hK hp Tryz.underlying261 rfl wd_size
/-- room for a quotient by sizes -/
def Wq (z : Int) : Prop := -85070591730234615865843651857942052864 ≤ z ∧ z ≤ 85070591730234615865843651857942052864
theorem q_room {a b : Int} (ha : Wq a) (hb : b ≠ 0) : 0 ≤ ab a / ab b ∧ ab a / ab b ≤ 85070591730234615865843651857942052864 := by
  have hY : 0 < ab b := by unfold ab; split <;> omega
  have hA : 0 ≤ ab a := by unfold ab; split <;> omega
  have hA2 : ab a ≤ 85070591730234615865843651857942052864 := by unfold ab; unfold Wq at ha; split <;> omega
  have h0 := Int.ediv_nonneg hA (by omega : 0 ≤ ab b)
  have h1 := Int.ediv_le_self (ab b) hA
  omega
theorem r_room {a b : Int} (hb : b ≠ 0) (hb2 : J64 b) : 0 ≤ ab a % ab b ∧ ab a % ab b < ab b ∧ ab b ≤ 9223372036854775808 := by
  have hY : 0 < ab b := by unfold ab; split <;> omega
  have e1 := Int.emod_nonneg (ab a) (by omega : ab b ≠ 0)
  have e2 := Int.emod_lt_of_pos (ab a) hY
  refine ⟨e1, e2, ?_⟩
  unfold ab; unfold J64 at hb2; split <;> omega
set_option maxRecDepth 100000 in
set_option maxHeartbeats 8000000 in
theorem qwide_any (a b : Int) (w : World) (ha : Wq a) (hb : b ≠ 0) (hb2 : J64 b) :
    Calls Tryz.prog 248 #[WV a, .int .i64 b] w fun e w' => e = .returned (.tuple #[WV (fq a b), .int .i64 (fr a b), .bool true]) ∧ Below w.heap.size w w' := by
  have hwd : Wd a := by unfold Wq at ha; unfold Wd; omega
  obtain ⟨f1, f2, f3, f4, f5⟩ := fq_facts (a := a) hb
  obtain ⟨q1, q2⟩ := q_room ha hb
  obtain ⟨r1, r2, r3⟩ := r_room (a := a) hb hb2
  have hb0 : (b == 0) = false := beq_eq_false_iff_ne.2 hb
  have hSz := fun w' => size_wd a w' hwd
  have hDv := fun w' => qdiv_any (ab a) (ab b) w' f2 (by unfold ab; unfold Wd at hwd; split <;> omega) f1 (by omega)
  obtain ⟨ub, hub⟩ : ∃ ub, IntKind.u64.wrap b = ub := ⟨_, rfl⟩
  have hub2 : (b < 0 ∧ IntKind.u64.wrap (-ub) = ab b) ∨ (0 ≤ b ∧ ub = ab b) := by
    rw [uw] at hub
    unfold J64 at hb2
    by_cases h : b < 0
    · exact .inl ⟨h, by rw [uw, ← hub]; unfold ab; rw [if_pos h]; omega⟩
    · exact .inr ⟨by omega, by rw [← hub]; unfold ab; rw [if_neg h]; omega⟩
  have hL := ((Lie.start w).alloc (wdA a) 261).alloc #[.int .i64 0, .int .u64 0] 261
  simp only [World.size_alloc] at hL
  have ha6 : hi6 a < 0 ∨ 0 ≤ hi6 a := by omega
  rcases ha6 with h1 | h1
  · rcases hub2 with ⟨h2, hu⟩ | ⟨h2, hu⟩
    · skip
      have hng : (!(decide (hi6 a < 0) == decide (b < 0))) = false := by rw [decide_eq_true h1, decide_eq_true h2]; rfl
      obtain ⟨g1, g2⟩ := f5 hng
      rw [if_pos h2] at g2
      have hAw := fun w' => (qaway_any (ab a / ab b) false w' (by omega) (by unfold Wd; omega)).mono (R' := fun e w'' => e = .returned (.tuple #[WV (fq a b), .bool true]) ∧ Below w'.heap.size w' w'') fun e w'' ⟨k1, k2⟩ => ⟨by rw [k1, g1]; rfl, k2⟩
      obtain ⟨v, hv⟩ : ∃ v, -(ab a % ab b) = v := ⟨_, rfl⟩
      have e6 : wrap64 (IntKind.u64.wrap (-(ab a % ab b))) = v := by rw [uw, w64, ← hv]; omega
      rw [hv] at g2
      clear hv
      have G2 := Lib.hid g2
      clear f1 f2 f3 f4 f5 g1 g2 q1 q2 hng ha hwd hb2 r3 hb
      generalize ab a / ab b = q at *
      generalize hrr : ab a % ab b = r at *
      clear hrr
      generalize ab b = Y at *
      have db : decide (b < 0) = true := decide_eq_true h2
      have da : decide (hi6 a < 0) = true := decide_eq_true h1
      go_enter Tryz.func248, Tryz.ntmps248
      go_wp2_with (first
        | (go_at_call 266; (with_reducible refine (hSz _).mono ?_); rintro e w1 ⟨rfl, hb1⟩; have hL1 := hL.nx hb1; have k1 : Bk w1 w.heap.size 261 (wdA a) := hL1.k 1 (by simp); obtain ⟨c0, c1⟩ := k1.cell2)
        | (go_at_call 267; (with_reducible refine (hDv _).mono ?_); rintro e w2 ⟨rfl, hb2⟩; have hL2 := hL1.nx hb2; have k2 : Bk w2 w.heap.size 261 (wdA a) := hL2.k 1 (by simp); obtain ⟨d0, d1⟩ := k2.cell2)
        | (go_at_call 269; (with_reducible refine (hAw _).mono ?_); rintro e w3 ⟨rfl, hb3⟩; have hL3 := (hL2.nx hb3).alloc (wdA (fq a b)) 261; have k3 : Bk _ (w.heap.size + 1) 261 #[.int .i64 0, .int .u64 0] := hL3.k 1 (by simp))
        | (refine stWd rfl _ _ rfl k3 rfl rfl rfl ?_; intro w4 k4 hg4 hs4))
      refine bodyPost_ret (res_wd_tmp2 rfl k4 rfl) rfl ?_
      exact ⟨by rw [G2.out]; rfl, below_of_gb hL3.bel hg4 (by omega) hL3.sz⟩
    · rw [hu] at hub
      rcases Int.lt_or_eq_of_le r1 with hr | hr
      · skip
        have hng : (!(decide (hi6 a < 0) == decide (b < 0))) = true := by rw [decide_eq_true h1, decide_eq_false (by omega)]; rfl
        obtain ⟨g1, g2⟩ := f3 ⟨hng, hr⟩
        rw [if_neg (by omega)] at g2
        have hAw := fun w' => (qaway_any (ab a / ab b + 1) true w' (by omega) (by unfold Wd; omega)).mono (R' := fun e w'' => e = .returned (.tuple #[WV (fq a b), .bool true]) ∧ Below w'.heap.size w' w'') fun e w'' ⟨k1, k2⟩ => ⟨by rw [k1, g1]; rfl, k2⟩
        have e3 := fun w => run_add' (x := lo6 (ab a / ab b)) (y := 1) (c := 0) (s := lo6 (ab a / ab b + 1)) (d := (lo6 (ab a / ab b) + 1 + 0) / 18446744073709551616) (by unfold lo6; omega) (by omega) (by omega) (by omega) (by unfold lo6; omega) rfl w
        have e4 : IntKind.u64.wrap (hi6 (ab a / ab b) + (lo6 (ab a / ab b) + 1 + 0) / 18446744073709551616) = hi6 (ab a / ab b + 1) := by rw [uw]; unfold hi6 lo6; omega
        have e5 : IntKind.u64.wrap (ab b - ab a % ab b) = ab b - ab a % ab b := by rw [uw]; omega
        generalize (lo6 (ab a / ab b) + 1 + 0) / 18446744073709551616 = cc at *
        obtain ⟨v, hv⟩ : ∃ v, (ab b - ab a % ab b) = v := ⟨_, rfl⟩
        have e6 : wrap64 ((ab b - ab a % ab b)) = v := by rw [w64, ← hv]; omega
        rw [hv] at g2
        clear hv
        have G2 := Lib.hid g2
        clear f1 f2 f3 f4 f5 g1 g2 q1 q2 hng ha hwd hb2 r3 hb
        generalize hi6 (ab a / ab b + 1) = qh at *
        generalize lo6 (ab a / ab b + 1) = ql at *
        generalize hi6 (ab a / ab b) = q0h at *
        generalize lo6 (ab a / ab b) = q0l at *
        generalize hrr : ab a % ab b = r at *
        clear hrr
        generalize ab b = Y at *
        have db : decide (b < 0) = false := decide_eq_false (by omega)
        have da : decide (hi6 a < 0) = true := decide_eq_true h1
        go_enter Tryz.func248, Tryz.ntmps248
        go_wp2_with (first
          | (go_at_call 266; (with_reducible refine (hSz _).mono ?_); rintro e w1 ⟨rfl, hb1⟩; have hL1 := hL.nx hb1; have k1 : Bk w1 w.heap.size 261 (wdA a) := hL1.k 1 (by simp); obtain ⟨c0, c1⟩ := k1.cell2)
          | (go_at_call 267; (with_reducible refine (hDv _).mono ?_); rintro e w2 ⟨rfl, hb2⟩; have hL2 := hL1.nx hb2; have k2 : Bk w2 w.heap.size 261 (wdA a) := hL2.k 1 (by simp); obtain ⟨d0, d1⟩ := k2.cell2)
          | (go_at_call 269; (with_reducible refine (hAw _).mono ?_); rintro e w3 ⟨rfl, hb3⟩; have hL3 := (hL2.nx hb3).alloc (wdA (fq a b)) 261; have k3 : Bk _ (w.heap.size + 1) 261 #[.int .i64 0, .int .u64 0] := hL3.k 1 (by simp))
          | (refine stWd rfl _ _ rfl k3 rfl rfl rfl ?_; intro w4 k4 hg4 hs4))
        refine bodyPost_ret (res_wd_tmp2 rfl k4 rfl) rfl ?_
        exact ⟨by rw [G2.out]; rfl, below_of_gb hL3.bel hg4 (by omega) hL3.sz⟩
      · replace hr := hr.symm
        have hng : (!(decide (hi6 a < 0) == decide (b < 0))) = true := by rw [decide_eq_true h1, decide_eq_false (by omega)]; rfl
        obtain ⟨g1, g2⟩ := f4 ⟨hng, hr⟩
        rw [if_neg (by omega)] at g2
        have hAw := fun w' => (qaway_any (ab a / ab b) true w' (by omega) (by unfold Wd; omega)).mono (R' := fun e w'' => e = .returned (.tuple #[WV (fq a b), .bool true]) ∧ Below w'.heap.size w' w'') fun e w'' ⟨k1, k2⟩ => ⟨by rw [k1, g1]; rfl, k2⟩
        rw [hr] at g2 hDv
        have G2 := Lib.hid g2
        clear hr
        clear f1 f2 f3 f4 f5 g1 g2 q1 q2 hng ha hwd hb2 r3 hb
        generalize ab a / ab b = q at *
        generalize hrr : ab a % ab b = r at *
        clear hrr
        generalize ab b = Y at *
        have db : decide (b < 0) = false := decide_eq_false (by omega)
        have da : decide (hi6 a < 0) = true := decide_eq_true h1
        go_enter Tryz.func248, Tryz.ntmps248
        go_wp2_with (first
          | (go_at_call 266; (with_reducible refine (hSz _).mono ?_); rintro e w1 ⟨rfl, hb1⟩; have hL1 := hL.nx hb1; have k1 : Bk w1 w.heap.size 261 (wdA a) := hL1.k 1 (by simp); obtain ⟨c0, c1⟩ := k1.cell2)
          | (go_at_call 267; (with_reducible refine (hDv _).mono ?_); rintro e w2 ⟨rfl, hb2⟩; have hL2 := hL1.nx hb2; have k2 : Bk w2 w.heap.size 261 (wdA a) := hL2.k 1 (by simp); obtain ⟨d0, d1⟩ := k2.cell2)
          | (go_at_call 269; (with_reducible refine (hAw _).mono ?_); rintro e w3 ⟨rfl, hb3⟩; have hL3 := (hL2.nx hb3).alloc (wdA (fq a b)) 261; have k3 : Bk _ (w.heap.size + 1) 261 #[.int .i64 0, .int .u64 0] := hL3.k 1 (by simp))
          | (refine stWd rfl _ _ rfl k3 rfl rfl rfl ?_; intro w4 k4 hg4 hs4))
        refine bodyPost_ret (res_wd_tmp2 rfl k4 rfl) rfl ?_
        exact ⟨by rw [G2.out]; rfl, below_of_gb hL3.bel hg4 (by omega) hL3.sz⟩
  · rcases hub2 with ⟨h2, hu⟩ | ⟨h2, hu⟩
    · rcases Int.lt_or_eq_of_le r1 with hr | hr
      · skip
        have hng : (!(decide (hi6 a < 0) == decide (b < 0))) = true := by rw [decide_eq_false (by omega), decide_eq_true h2]; rfl
        obtain ⟨g1, g2⟩ := f3 ⟨hng, hr⟩
        rw [if_pos h2] at g2
        have hAw := fun w' => (qaway_any (ab a / ab b + 1) true w' (by omega) (by unfold Wd; omega)).mono (R' := fun e w'' => e = .returned (.tuple #[WV (fq a b), .bool true]) ∧ Below w'.heap.size w' w'') fun e w'' ⟨k1, k2⟩ => ⟨by rw [k1, g1]; rfl, k2⟩
        have e3 := fun w => run_add' (x := lo6 (ab a / ab b)) (y := 1) (c := 0) (s := lo6 (ab a / ab b + 1)) (d := (lo6 (ab a / ab b) + 1 + 0) / 18446744073709551616) (by unfold lo6; omega) (by omega) (by omega) (by omega) (by unfold lo6; omega) rfl w
        have e4 : IntKind.u64.wrap (hi6 (ab a / ab b) + (lo6 (ab a / ab b) + 1 + 0) / 18446744073709551616) = hi6 (ab a / ab b + 1) := by rw [uw]; unfold hi6 lo6; omega
        have e5 : IntKind.u64.wrap (ab b - ab a % ab b) = ab b - ab a % ab b := by rw [uw]; omega
        generalize (lo6 (ab a / ab b) + 1 + 0) / 18446744073709551616 = cc at *
        obtain ⟨v, hv⟩ : ∃ v, -(ab b - ab a % ab b) = v := ⟨_, rfl⟩
        have e6 : wrap64 (IntKind.u64.wrap (-(ab b - ab a % ab b))) = v := by rw [uw, w64, ← hv]; omega
        have e7 : wrap64 (IntKind.u64.wrap (ab a % ab b - ab b)) = v := by rw [uw, w64, ← hv]; omega
        rw [hv] at g2
        clear hv
        have G2 := Lib.hid g2
        clear f1 f2 f3 f4 f5 g1 g2 q1 q2 hng ha hwd hb2 r3 hb
        generalize hi6 (ab a / ab b + 1) = qh at *
        generalize lo6 (ab a / ab b + 1) = ql at *
        generalize hi6 (ab a / ab b) = q0h at *
        generalize lo6 (ab a / ab b) = q0l at *
        generalize hrr : ab a % ab b = r at *
        clear hrr
        generalize ab b = Y at *
        have db : decide (b < 0) = true := decide_eq_true h2
        have da : decide (hi6 a < 0) = false := decide_eq_false (by omega)
        go_enter Tryz.func248, Tryz.ntmps248
        go_wp2_with (first
          | (go_at_call 266; (with_reducible refine (hSz _).mono ?_); rintro e w1 ⟨rfl, hb1⟩; have hL1 := hL.nx hb1; have k1 : Bk w1 w.heap.size 261 (wdA a) := hL1.k 1 (by simp); obtain ⟨c0, c1⟩ := k1.cell2)
          | (go_at_call 267; (with_reducible refine (hDv _).mono ?_); rintro e w2 ⟨rfl, hb2⟩; have hL2 := hL1.nx hb2; have k2 : Bk w2 w.heap.size 261 (wdA a) := hL2.k 1 (by simp); obtain ⟨d0, d1⟩ := k2.cell2)
          | (go_at_call 269; (with_reducible refine (hAw _).mono ?_); rintro e w3 ⟨rfl, hb3⟩; have hL3 := (hL2.nx hb3).alloc (wdA (fq a b)) 261; have k3 : Bk _ (w.heap.size + 1) 261 #[.int .i64 0, .int .u64 0] := hL3.k 1 (by simp))
          | (refine stWd rfl _ _ rfl k3 rfl rfl rfl ?_; intro w4 k4 hg4 hs4))
        refine bodyPost_ret (res_wd_tmp2 rfl k4 rfl) rfl ?_
        exact ⟨by rw [G2.out]; rfl, below_of_gb hL3.bel hg4 (by omega) hL3.sz⟩
      · replace hr := hr.symm
        have hng : (!(decide (hi6 a < 0) == decide (b < 0))) = true := by rw [decide_eq_false (by omega), decide_eq_true h2]; rfl
        obtain ⟨g1, g2⟩ := f4 ⟨hng, hr⟩
        rw [if_pos h2] at g2
        have hAw := fun w' => (qaway_any (ab a / ab b) true w' (by omega) (by unfold Wd; omega)).mono (R' := fun e w'' => e = .returned (.tuple #[WV (fq a b), .bool true]) ∧ Below w'.heap.size w' w'') fun e w'' ⟨k1, k2⟩ => ⟨by rw [k1, g1]; rfl, k2⟩
        rw [hr] at g2 hDv
        have G2 := Lib.hid g2
        clear hr
        clear f1 f2 f3 f4 f5 g1 g2 q1 q2 hng ha hwd hb2 r3 hb
        generalize ab a / ab b = q at *
        generalize hrr : ab a % ab b = r at *
        clear hrr
        generalize ab b = Y at *
        have db : decide (b < 0) = true := decide_eq_true h2
        have da : decide (hi6 a < 0) = false := decide_eq_false (by omega)
        go_enter Tryz.func248, Tryz.ntmps248
        go_wp2_with (first
          | (go_at_call 266; (with_reducible refine (hSz _).mono ?_); rintro e w1 ⟨rfl, hb1⟩; have hL1 := hL.nx hb1; have k1 : Bk w1 w.heap.size 261 (wdA a) := hL1.k 1 (by simp); obtain ⟨c0, c1⟩ := k1.cell2)
          | (go_at_call 267; (with_reducible refine (hDv _).mono ?_); rintro e w2 ⟨rfl, hb2⟩; have hL2 := hL1.nx hb2; have k2 : Bk w2 w.heap.size 261 (wdA a) := hL2.k 1 (by simp); obtain ⟨d0, d1⟩ := k2.cell2)
          | (go_at_call 269; (with_reducible refine (hAw _).mono ?_); rintro e w3 ⟨rfl, hb3⟩; have hL3 := (hL2.nx hb3).alloc (wdA (fq a b)) 261; have k3 : Bk _ (w.heap.size + 1) 261 #[.int .i64 0, .int .u64 0] := hL3.k 1 (by simp))
          | (refine stWd rfl _ _ rfl k3 rfl rfl rfl ?_; intro w4 k4 hg4 hs4))
        refine bodyPost_ret (res_wd_tmp2 rfl k4 rfl) rfl ?_
        exact ⟨by rw [G2.out]; rfl, below_of_gb hL3.bel hg4 (by omega) hL3.sz⟩
    · rw [hu] at hub
      have hng : (!(decide (hi6 a < 0) == decide (b < 0))) = false := by rw [decide_eq_false (by omega), decide_eq_false (by omega)]; rfl
      obtain ⟨g1, g2⟩ := f5 hng
      rw [if_neg (by omega)] at g2
      have hAw := fun w' => (qaway_any (ab a / ab b) false w' (by omega) (by unfold Wd; omega)).mono (R' := fun e w'' => e = .returned (.tuple #[WV (fq a b), .bool true]) ∧ Below w'.heap.size w' w'') fun e w'' ⟨k1, k2⟩ => ⟨by rw [k1, g1]; rfl, k2⟩
      obtain ⟨v, hv⟩ : ∃ v, (ab a % ab b) = v := ⟨_, rfl⟩
      have e6 : wrap64 ((ab a % ab b)) = v := by rw [w64, ← hv]; omega
      rw [hv] at g2
      subst hv
      have G2 := Lib.hid g2
      clear f1 f2 f3 f4 f5 g1 g2 q1 q2 hng ha hwd hb2 r3 hb
      generalize ab a / ab b = q at *
      generalize hrr : ab a % ab b = r at *
      clear hrr
      generalize ab b = Y at *
      have db : decide (b < 0) = false := decide_eq_false (by omega)
      have da : decide (hi6 a < 0) = false := decide_eq_false (by omega)
      go_enter Tryz.func248, Tryz.ntmps248
      go_wp2_with (first
        | (go_at_call 266; (with_reducible refine (hSz _).mono ?_); rintro e w1 ⟨rfl, hb1⟩; have hL1 := hL.nx hb1; have k1 : Bk w1 w.heap.size 261 (wdA a) := hL1.k 1 (by simp); obtain ⟨c0, c1⟩ := k1.cell2)
        | (go_at_call 267; (with_reducible refine (hDv _).mono ?_); rintro e w2 ⟨rfl, hb2⟩; have hL2 := hL1.nx hb2; have k2 : Bk w2 w.heap.size 261 (wdA a) := hL2.k 1 (by simp); obtain ⟨d0, d1⟩ := k2.cell2)
        | (go_at_call 269; (with_reducible refine (hAw _).mono ?_); rintro e w3 ⟨rfl, hb3⟩; have hL3 := (hL2.nx hb3).alloc (wdA (fq a b)) 261; have k3 : Bk _ (w.heap.size + 1) 261 #[.int .i64 0, .int .u64 0] := hL3.k 1 (by simp))
        | (refine stWd rfl _ _ rfl k3 rfl rfl rfl ?_; intro w4 k4 hg4 hs4))
      refine bodyPost_ret (res_wd_tmp2 rfl k4 rfl) rfl ?_
      exact ⟨by rw [G2.out]; rfl, below_of_gb hL3.bel hg4 (by omega) hL3.sz⟩
end Go.Proofs.YtlbiiljncacdoaaGreat
