/- Several texts in one: Quotients of wide numbers, rounded down; as places. A quotient as a place. fix: what digits behind a point are, in parts. -/
import Derived.Test.YtgohbkkeppknoaaGreatDoorCmdParsesZz11
import Derived.Test.YtgohbkkeppknoaaGreatDoorCmdParsesZz8
section
set_option linter.unusedVariables false
namespace Go.Proofs.YtgohbkkeppknoaaGreatDoor
open Go.RowKit
/-- A quotient, rounded down, and what is left. -/
def fq (a b : Int) : Int := if b < 0 then -a / -b else a / b
def fr (a b : Int) : Int := a - b * fq a b
theorem neg_div {A Y : Int} (hY : 0 < Y) : -A / Y = if A % Y = 0 then -(A / Y) else -(A / Y + 1) := by
  have e := Int.emod_add_mul_ediv A Y
  have e1 := Int.emod_nonneg A (by omega : Y ≠ 0)
  have e2 := Int.emod_lt_of_pos A hY
  split
  · rename_i h
    refine ((Int.ediv_emod_unique hY (r := 0)).2 ⟨?_, by omega, hY⟩).1
    rw [Int.mul_neg]; omega
  · rename_i h
    refine ((Int.ediv_emod_unique hY (r := Y - A % Y)).2 ⟨?_, by omega, by omega⟩).1
    rw [Int.mul_neg, Int.mul_add, Int.mul_one]; omega
/-- by how much the sizes' quotient is the floor. -/
theorem fq_facts {a b : Int} (hb : b ≠ 0) : 0 < ab b ∧ 0 ≤ ab a ∧
    (((!(decide (hi6 a < 0) == decide (b < 0))) = true ∧ 0 < ab a % ab b → fq a b = -(ab a / ab b + 1) ∧ fr a b = if b < 0 then -(ab b - ab a % ab b) else ab b - ab a % ab b) ∧
     ((!(decide (hi6 a < 0) == decide (b < 0))) = true ∧ ab a % ab b = 0 → fq a b = -(ab a / ab b) ∧ fr a b = if b < 0 then -(ab a % ab b) else ab a % ab b) ∧
     ((!(decide (hi6 a < 0) == decide (b < 0))) = false → fq a b = ab a / ab b ∧ fr a b = if b < 0 then -(ab a % ab b) else ab a % ab b)) := by
  have hY : 0 < ab b := by unfold ab; split <;> omega
  have hA : 0 ≤ ab a := by unfold ab; split <;> omega
  have hs := (wh a).s
  have e := Int.emod_add_mul_ediv (ab a) (ab b)
  have e1 := Int.emod_nonneg (ab a) (by omega : ab b ≠ 0)
  have hn := neg_div (A := ab a) hY
  have hq : fq a b = if (a < 0 ↔ b < 0) then ab a / ab b else -ab a / ab b := by
    unfold fq ab
    by_cases h1 : a < 0 <;> by_cases h2 : b < 0 <;> simp [h1, h2]
  have hr : fr a b = a - b * fq a b := rfl
  have hba : b = if b < 0 then -ab b else ab b := by unfold ab; split <;> omega
  have haa : a = if a < 0 then -ab a else ab a := by unfold ab; split <;> omega
  refine ⟨hY, hA, ?_, ?_, ?_⟩
  · rintro ⟨h1, h2⟩
    have h3 : ¬ (a < 0 ↔ b < 0) := by simpa [hs] using h1
    rw [if_neg h3, hn, if_neg (by omega)] at hq
    refine ⟨hq, ?_⟩
    rw [hr, hq]
    by_cases hb0 : b < 0
    · rw [if_pos hb0] at hba ⊢
      rw [if_neg (by omega)] at haa
      have k : b * -(ab a / ab b + 1) = ab b * (ab a / ab b) + ab b := by rw [hba, Int.neg_mul_neg, Int.mul_add, Int.mul_one, ← hba]
      rw [k]; omega
    · rw [if_neg hb0] at hba ⊢
      rw [if_pos (by omega)] at haa
      have k : b * -(ab a / ab b + 1) = -(ab b * (ab a / ab b) + ab b) := by rw [Int.mul_neg, Int.mul_add, Int.mul_one, ← hba]
      rw [k]; omega
  · rintro ⟨h1, h2⟩
    have h3 : ¬ (a < 0 ↔ b < 0) := by simpa [hs] using h1
    rw [if_neg h3, hn, if_pos h2] at hq
    refine ⟨hq, ?_⟩
    rw [hr, hq]
    by_cases hb0 : b < 0
    · rw [if_pos hb0] at hba ⊢
      rw [if_neg (by omega)] at haa
      have k : b * -(ab a / ab b) = ab b * (ab a / ab b) := by rw [hba, Int.neg_mul_neg, ← hba]
      rw [k]; omega
    · rw [if_neg hb0] at hba ⊢
      rw [if_pos (by omega)] at haa
      have k : b * -(ab a / ab b) = -(ab b * (ab a / ab b)) := by rw [Int.mul_neg, ← hba]
      rw [k]; omega
  · intro h1
    have h3 : a < 0 ↔ b < 0 := by simpa [hs] using h1
    rw [if_pos h3] at hq
    refine ⟨hq, ?_⟩
    rw [hr, hq]
    by_cases hb0 : b < 0
    · rw [if_pos hb0] at hba ⊢
      rw [if_pos (by omega)] at haa
      have k : b * (ab a / ab b) = -(ab b * (ab a / ab b)) := by rw [hba, Int.neg_mul, ← hba]
      rw [k]; omega
    · rw [if_neg hb0] at hba ⊢
      rw [if_neg (by omega)] at haa
      rw [← hba]; rw [← hba] at e; omega
theorem res_cell_tmp2 {P : Program} {fn : Func} {p q q' : Tmp} {ty : TypeId} (h : fn.results = #[.cell p ty, .tmp q, .tmp q']) {tmps : Array Value} {w : World} {g : Nat} {t : TypeId} {cs : Array Value} (hK : Bk w g t cs) {d : TypeDesc}
    (hp : tmps.getD p undef = .pointer (some ⟨g, 0, none⟩)) (hu : P.underlying ty = some d) (hd : (match d with | .struct _ | .array _ _ => true | _ => false) = true) (hi : (P.info? ty).map (·.size) = some cs.size) :
    (results fn tmps).run P w = .ok (.tuple #[.agg cs, tmps.getD q undef, tmps.getD q' undef]) w := by
  have hp' : tmps[p]?.getD undef = .pointer (some ⟨g, 0, none⟩) := by simpa using hp
  simp [results, h, hp', asAddr, run_loadVar_row w g t ty cs (0, 0) d hK hu hd hi]
theorem res_wd_tmp2 {fn : Func} {p q q' : Tmp} (h : fn.results = #[.cell p 243, .tmp q, .tmp q']) {tmps : Array Value} {w : World} {g : Nat} {z : Int} (hK : Bk w g 243 (wdA z))
    (hp : tmps.getD p undef = .pointer (some ⟨g, 0, none⟩)) : (results fn tmps).run Tryz.prog w = .ok (.tuple #[WV z, tmps.getD q undef, tmps.getD q' undef]) w :=
  res_cell_tmp2 h hK hp Tryz.underlying243 rfl wd_size
/-- room for a quotient by sizes -/
def Wq (z : Int) : Prop := -85070591730234615865843651857942052864 ≤ z ∧ z ≤ 85070591730234615865843651857942052864
theorem q_room {a b : Int} (ha : Wq a) (hb : b ≠ 0) : 0 ≤ ab a / ab b ∧ ab a / ab b ≤ 85070591730234615865843651857942052864 := by
  have hY : 0 < ab b := by unfold ab; split <;> omega
  have hA : 0 ≤ ab a := by unfold ab; split <;> omega
  have hA2 : ab a ≤ 85070591730234615865843651857942052864 := by unfold ab; unfold Wq at ha; split <;> omega
  have h0 := Int.ediv_nonneg hA (by omega : 0 ≤ ab b)
  have h1 := Int.ediv_le_self (ab b) hA
  omega
theorem r_room {a b : Int} (hb : b ≠ 0) (hb2 : J64 b) : 0 ≤ ab a % ab b ∧ ab a % ab b < ab b ∧ ab b ≤ 9223372036854775808 := by
  have hY : 0 < ab b := by unfold ab; split <;> omega
  have e1 := Int.emod_nonneg (ab a) (by omega : ab b ≠ 0)
  have e2 := Int.emod_lt_of_pos (ab a) hY
  refine ⟨e1, e2, ?_⟩
  unfold ab; unfold J64 at hb2; split <;> omega
set_option maxRecDepth 100000 in
set_option maxHeartbeats 8000000 in
theorem qwide_any (a b : Int) (w : World) (ha : Wq a) (hb : b ≠ 0) (hb2 : J64 b) :
    Calls Tryz.prog 264 #[WV a, .int .i64 b] w fun e w' => e = .returned (.tuple #[WV (fq a b), .int .i64 (fr a b), .bool true]) ∧ Below w.heap.size w w' := by
  have hwd : Wd a := by unfold Wq at ha; unfold Wd; omega
  obtain ⟨f1, f2, f3, f4, f5⟩ := fq_facts (a := a) hb
  obtain ⟨q1, q2⟩ := q_room ha hb
  obtain ⟨r1, r2, r3⟩ := r_room (a := a) hb hb2
  have hb0 : (b == 0) = false := beq_eq_false_iff_ne.2 hb
  have hSz := fun w' => size_wd a w' hwd
  have hDv := fun w' => qdiv_any (ab a) (ab b) w' f2 (by unfold ab; unfold Wd at hwd; split <;> omega) f1 (by omega)
  obtain ⟨ub, hub⟩ : ∃ ub, IntKind.u64.wrap b = ub := ⟨_, rfl⟩
  have hub2 : (b < 0 ∧ IntKind.u64.wrap (-ub) = ab b) ∨ (0 ≤ b ∧ ub = ab b) := by
    rw [uw] at hub
    unfold J64 at hb2
    by_cases h : b < 0
    · exact .inl ⟨h, by rw [uw, ← hub]; unfold ab; rw [if_pos h]; omega⟩
    · exact .inr ⟨by omega, by rw [← hub]; unfold ab; rw [if_neg h]; omega⟩
  have hL := ((Lie.start w).alloc (wdA a) 243).alloc #[.int .i64 0, .int .u64 0] 243
  simp only [World.size_alloc] at hL
  have ha6 : hi6 a < 0 ∨ 0 ≤ hi6 a := by omega
  rcases ha6 with h1 | h1
  · rcases hub2 with ⟨h2, hu⟩ | ⟨h2, hu⟩
    · skip
      have hng : (!(decide (hi6 a < 0) == decide (b < 0))) = false := by rw [decide_eq_true h1, decide_eq_true h2]; rfl
      obtain ⟨g1, g2⟩ := f5 hng
      rw [if_pos h2] at g2
      have hAw := fun w' => (qaway_any (ab a / ab b) false w' (by omega) (by unfold Wd; omega)).mono (R' := fun e w'' => e = .returned (.tuple #[WV (fq a b), .bool true]) ∧ Below w'.heap.size w' w'') fun e w'' ⟨k1, k2⟩ => ⟨by rw [k1, g1]; rfl, k2⟩
      obtain ⟨v, hv⟩ : ∃ v, -(ab a % ab b) = v := ⟨_, rfl⟩
      have e6 : wrap64 (IntKind.u64.wrap (-(ab a % ab b))) = v := by rw [uw, w64, ← hv]; omega
      rw [hv] at g2
      clear hv
      have G2 := Lib.hid g2
      clear f1 f2 f3 f4 f5 g1 g2 q1 q2 hng ha hwd hb2 r3 hb
      generalize ab a / ab b = q at *
      generalize hrr : ab a % ab b = r at *
      clear hrr
      generalize ab b = Y at *
      have db : decide (b < 0) = true := decide_eq_true h2
      have da : decide (hi6 a < 0) = true := decide_eq_true h1
      go_enter Tryz.func264, Tryz.ntmps264
      go_wp2_with (first
        | (go_at_call 315; (with_reducible refine (hSz _).mono ?_); rintro e w1 ⟨rfl, hb1⟩; have hL1 := hL.nx hb1; have k1 : Bk w1 w.heap.size 243 (wdA a) := hL1.k 1 (by simp); obtain ⟨c0, c1⟩ := k1.cell2)
        | (go_at_call 316; (with_reducible refine (hDv _).mono ?_); rintro e w2 ⟨rfl, hb2⟩; have hL2 := hL1.nx hb2; have k2 : Bk w2 w.heap.size 243 (wdA a) := hL2.k 1 (by simp); obtain ⟨d0, d1⟩ := k2.cell2)
        | (go_at_call 317; (with_reducible refine (hAw _).mono ?_); rintro e w3 ⟨rfl, hb3⟩; have hL3 := (hL2.nx hb3).alloc (wdA (fq a b)) 243; have k3 : Bk _ (w.heap.size + 1) 243 #[.int .i64 0, .int .u64 0] := hL3.k 1 (by simp))
        | (refine stWd rfl _ _ rfl k3 rfl rfl rfl ?_; intro w4 k4 hg4 hs4))
      refine bodyPost_ret (res_wd_tmp2 rfl k4 rfl) rfl ?_
      exact ⟨by rw [G2.out]; rfl, below_of_gb hL3.bel hg4 (by omega) hL3.sz⟩
    · rw [hu] at hub
      rcases Int.lt_or_eq_of_le r1 with hr | hr
      · skip
        have hng : (!(decide (hi6 a < 0) == decide (b < 0))) = true := by rw [decide_eq_true h1, decide_eq_false (by omega)]; rfl
        obtain ⟨g1, g2⟩ := f3 ⟨hng, hr⟩
        rw [if_neg (by omega)] at g2
        have hAw := fun w' => (qaway_any (ab a / ab b + 1) true w' (by omega) (by unfold Wd; omega)).mono (R' := fun e w'' => e = .returned (.tuple #[WV (fq a b), .bool true]) ∧ Below w'.heap.size w' w'') fun e w'' ⟨k1, k2⟩ => ⟨by rw [k1, g1]; rfl, k2⟩
        have e3 := fun w => run_add' (x := lo6 (ab a / ab b)) (y := 1) (c := 0) (s := lo6 (ab a / ab b + 1)) (d := (lo6 (ab a / ab b) + 1 + 0) / 18446744073709551616) (by unfold lo6; omega) (by omega) (by omega) (by omega) (by unfold lo6; omega) rfl w
        have e4 : IntKind.u64.wrap (hi6 (ab a / ab b) + (lo6 (ab a / ab b) + 1 + 0) / 18446744073709551616) = hi6 (ab a / ab b + 1) := by rw [uw]; unfold hi6 lo6; omega
        have e5 : IntKind.u64.wrap (ab b - ab a % ab b) = ab b - ab a % ab b := by rw [uw]; omega
        generalize (lo6 (ab a / ab b) + 1 + 0) / 18446744073709551616 = cc at *
        obtain ⟨v, hv⟩ : ∃ v, (ab b - ab a % ab b) = v := ⟨_, rfl⟩
        have e6 : wrap64 ((ab b - ab a % ab b)) = v := by rw [w64, ← hv]; omega
        rw [hv] at g2
        clear hv
        have G2 := Lib.hid g2
        clear f1 f2 f3 f4 f5 g1 g2 q1 q2 hng ha hwd hb2 r3 hb
        generalize hi6 (ab a / ab b + 1) = qh at *
        generalize lo6 (ab a / ab b + 1) = ql at *
        generalize hi6 (ab a / ab b) = q0h at *
        generalize lo6 (ab a / ab b) = q0l at *
        generalize hrr : ab a % ab b = r at *
        clear hrr
        generalize ab b = Y at *
        have db : decide (b < 0) = false := decide_eq_false (by omega)
        have da : decide (hi6 a < 0) = true := decide_eq_true h1
        go_enter Tryz.func264, Tryz.ntmps264
        go_wp2_with (first
          | (go_at_call 315; (with_reducible refine (hSz _).mono ?_); rintro e w1 ⟨rfl, hb1⟩; have hL1 := hL.nx hb1; have k1 : Bk w1 w.heap.size 243 (wdA a) := hL1.k 1 (by simp); obtain ⟨c0, c1⟩ := k1.cell2)
          | (go_at_call 316; (with_reducible refine (hDv _).mono ?_); rintro e w2 ⟨rfl, hb2⟩; have hL2 := hL1.nx hb2; have k2 : Bk w2 w.heap.size 243 (wdA a) := hL2.k 1 (by simp); obtain ⟨d0, d1⟩ := k2.cell2)
          | (go_at_call 317; (with_reducible refine (hAw _).mono ?_); rintro e w3 ⟨rfl, hb3⟩; have hL3 := (hL2.nx hb3).alloc (wdA (fq a b)) 243; have k3 : Bk _ (w.heap.size + 1) 243 #[.int .i64 0, .int .u64 0] := hL3.k 1 (by simp))
          | (refine stWd rfl _ _ rfl k3 rfl rfl rfl ?_; intro w4 k4 hg4 hs4))
        refine bodyPost_ret (res_wd_tmp2 rfl k4 rfl) rfl ?_
        exact ⟨by rw [G2.out]; rfl, below_of_gb hL3.bel hg4 (by omega) hL3.sz⟩
      · replace hr := hr.symm
        have hng : (!(decide (hi6 a < 0) == decide (b < 0))) = true := by rw [decide_eq_true h1, decide_eq_false (by omega)]; rfl
        obtain ⟨g1, g2⟩ := f4 ⟨hng, hr⟩
        rw [if_neg (by omega)] at g2
        have hAw := fun w' => (qaway_any (ab a / ab b) true w' (by omega) (by unfold Wd; omega)).mono (R' := fun e w'' => e = .returned (.tuple #[WV (fq a b), .bool true]) ∧ Below w'.heap.size w' w'') fun e w'' ⟨k1, k2⟩ => ⟨by rw [k1, g1]; rfl, k2⟩
        rw [hr] at g2 hDv
        have G2 := Lib.hid g2
        clear hr
        clear f1 f2 f3 f4 f5 g1 g2 q1 q2 hng ha hwd hb2 r3 hb
        generalize ab a / ab b = q at *
        generalize hrr : ab a % ab b = r at *
        clear hrr
        generalize ab b = Y at *
        have db : decide (b < 0) = false := decide_eq_false (by omega)
        have da : decide (hi6 a < 0) = true := decide_eq_true h1
        go_enter Tryz.func264, Tryz.ntmps264
        go_wp2_with (first
          | (go_at_call 315; (with_reducible refine (hSz _).mono ?_); rintro e w1 ⟨rfl, hb1⟩; have hL1 := hL.nx hb1; have k1 : Bk w1 w.heap.size 243 (wdA a) := hL1.k 1 (by simp); obtain ⟨c0, c1⟩ := k1.cell2)
          | (go_at_call 316; (with_reducible refine (hDv _).mono ?_); rintro e w2 ⟨rfl, hb2⟩; have hL2 := hL1.nx hb2; have k2 : Bk w2 w.heap.size 243 (wdA a) := hL2.k 1 (by simp); obtain ⟨d0, d1⟩ := k2.cell2)
          | (go_at_call 317; (with_reducible refine (hAw _).mono ?_); rintro e w3 ⟨rfl, hb3⟩; have hL3 := (hL2.nx hb3).alloc (wdA (fq a b)) 243; have k3 : Bk _ (w.heap.size + 1) 243 #[.int .i64 0, .int .u64 0] := hL3.k 1 (by simp))
          | (refine stWd rfl _ _ rfl k3 rfl rfl rfl ?_; intro w4 k4 hg4 hs4))
        refine bodyPost_ret (res_wd_tmp2 rfl k4 rfl) rfl ?_
        exact ⟨by rw [G2.out]; rfl, below_of_gb hL3.bel hg4 (by omega) hL3.sz⟩
  · rcases hub2 with ⟨h2, hu⟩ | ⟨h2, hu⟩
    · rcases Int.lt_or_eq_of_le r1 with hr | hr
      · skip
        have hng : (!(decide (hi6 a < 0) == decide (b < 0))) = true := by rw [decide_eq_false (by omega), decide_eq_true h2]; rfl
        obtain ⟨g1, g2⟩ := f3 ⟨hng, hr⟩
        rw [if_pos h2] at g2
        have hAw := fun w' => (qaway_any (ab a / ab b + 1) true w' (by omega) (by unfold Wd; omega)).mono (R' := fun e w'' => e = .returned (.tuple #[WV (fq a b), .bool true]) ∧ Below w'.heap.size w' w'') fun e w'' ⟨k1, k2⟩ => ⟨by rw [k1, g1]; rfl, k2⟩
        have e3 := fun w => run_add' (x := lo6 (ab a / ab b)) (y := 1) (c := 0) (s := lo6 (ab a / ab b + 1)) (d := (lo6 (ab a / ab b) + 1 + 0) / 18446744073709551616) (by unfold lo6; omega) (by omega) (by omega) (by omega) (by unfold lo6; omega) rfl w
        have e4 : IntKind.u64.wrap (hi6 (ab a / ab b) + (lo6 (ab a / ab b) + 1 + 0) / 18446744073709551616) = hi6 (ab a / ab b + 1) := by rw [uw]; unfold hi6 lo6; omega
        have e5 : IntKind.u64.wrap (ab b - ab a % ab b) = ab b - ab a % ab b := by rw [uw]; omega
        generalize (lo6 (ab a / ab b) + 1 + 0) / 18446744073709551616 = cc at *
        obtain ⟨v, hv⟩ : ∃ v, -(ab b - ab a % ab b) = v := ⟨_, rfl⟩
        have e6 : wrap64 (IntKind.u64.wrap (-(ab b - ab a % ab b))) = v := by rw [uw, w64, ← hv]; omega
        have e7 : wrap64 (IntKind.u64.wrap (ab a % ab b - ab b)) = v := by rw [uw, w64, ← hv]; omega
        rw [hv] at g2
        clear hv
        have G2 := Lib.hid g2
        clear f1 f2 f3 f4 f5 g1 g2 q1 q2 hng ha hwd hb2 r3 hb
        generalize hi6 (ab a / ab b + 1) = qh at *
        generalize lo6 (ab a / ab b + 1) = ql at *
        generalize hi6 (ab a / ab b) = q0h at *
        generalize lo6 (ab a / ab b) = q0l at *
        generalize hrr : ab a % ab b = r at *
        clear hrr
        generalize ab b = Y at *
        have db : decide (b < 0) = true := decide_eq_true h2
        have da : decide (hi6 a < 0) = false := decide_eq_false (by omega)
        go_enter Tryz.func264, Tryz.ntmps264
        go_wp2_with (first
          | (go_at_call 315; (with_reducible refine (hSz _).mono ?_); rintro e w1 ⟨rfl, hb1⟩; have hL1 := hL.nx hb1; have k1 : Bk w1 w.heap.size 243 (wdA a) := hL1.k 1 (by simp); obtain ⟨c0, c1⟩ := k1.cell2)
          | (go_at_call 316; (with_reducible refine (hDv _).mono ?_); rintro e w2 ⟨rfl, hb2⟩; have hL2 := hL1.nx hb2; have k2 : Bk w2 w.heap.size 243 (wdA a) := hL2.k 1 (by simp); obtain ⟨d0, d1⟩ := k2.cell2)
          | (go_at_call 317; (with_reducible refine (hAw _).mono ?_); rintro e w3 ⟨rfl, hb3⟩; have hL3 := (hL2.nx hb3).alloc (wdA (fq a b)) 243; have k3 : Bk _ (w.heap.size + 1) 243 #[.int .i64 0, .int .u64 0] := hL3.k 1 (by simp))
          | (refine stWd rfl _ _ rfl k3 rfl rfl rfl ?_; intro w4 k4 hg4 hs4))
        refine bodyPost_ret (res_wd_tmp2 rfl k4 rfl) rfl ?_
        exact ⟨by rw [G2.out]; rfl, below_of_gb hL3.bel hg4 (by omega) hL3.sz⟩
      · replace hr := hr.symm
        have hng : (!(decide (hi6 a < 0) == decide (b < 0))) = true := by rw [decide_eq_false (by omega), decide_eq_true h2]; rfl
        obtain ⟨g1, g2⟩ := f4 ⟨hng, hr⟩
        rw [if_pos h2] at g2
        have hAw := fun w' => (qaway_any (ab a / ab b) true w' (by omega) (by unfold Wd; omega)).mono (R' := fun e w'' => e = .returned (.tuple #[WV (fq a b), .bool true]) ∧ Below w'.heap.size w' w'') fun e w'' ⟨k1, k2⟩ => ⟨by rw [k1, g1]; rfl, k2⟩
        rw [hr] at g2 hDv
        have G2 := Lib.hid g2
        clear hr
        clear f1 f2 f3 f4 f5 g1 g2 q1 q2 hng ha hwd hb2 r3 hb
        generalize ab a / ab b = q at *
        generalize hrr : ab a % ab b = r at *
        clear hrr
        generalize ab b = Y at *
        have db : decide (b < 0) = true := decide_eq_true h2
        have da : decide (hi6 a < 0) = false := decide_eq_false (by omega)
        go_enter Tryz.func264, Tryz.ntmps264
        go_wp2_with (first
          | (go_at_call 315; (with_reducible refine (hSz _).mono ?_); rintro e w1 ⟨rfl, hb1⟩; have hL1 := hL.nx hb1; have k1 : Bk w1 w.heap.size 243 (wdA a) := hL1.k 1 (by simp); obtain ⟨c0, c1⟩ := k1.cell2)
          | (go_at_call 316; (with_reducible refine (hDv _).mono ?_); rintro e w2 ⟨rfl, hb2⟩; have hL2 := hL1.nx hb2; have k2 : Bk w2 w.heap.size 243 (wdA a) := hL2.k 1 (by simp); obtain ⟨d0, d1⟩ := k2.cell2)
          | (go_at_call 317; (with_reducible refine (hAw _).mono ?_); rintro e w3 ⟨rfl, hb3⟩; have hL3 := (hL2.nx hb3).alloc (wdA (fq a b)) 243; have k3 : Bk _ (w.heap.size + 1) 243 #[.int .i64 0, .int .u64 0] := hL3.k 1 (by simp))
          | (refine stWd rfl _ _ rfl k3 rfl rfl rfl ?_; intro w4 k4 hg4 hs4))
        refine bodyPost_ret (res_wd_tmp2 rfl k4 rfl) rfl ?_
        exact ⟨by rw [G2.out]; rfl, below_of_gb hL3.bel hg4 (by omega) hL3.sz⟩
    · rw [hu] at hub
      have hng : (!(decide (hi6 a < 0) == decide (b < 0))) = false := by rw [decide_eq_false (by omega), decide_eq_false (by omega)]; rfl
      obtain ⟨g1, g2⟩ := f5 hng
      rw [if_neg (by omega)] at g2
      have hAw := fun w' => (qaway_any (ab a / ab b) false w' (by omega) (by unfold Wd; omega)).mono (R' := fun e w'' => e = .returned (.tuple #[WV (fq a b), .bool true]) ∧ Below w'.heap.size w' w'') fun e w'' ⟨k1, k2⟩ => ⟨by rw [k1, g1]; rfl, k2⟩
      obtain ⟨v, hv⟩ : ∃ v, (ab a % ab b) = v := ⟨_, rfl⟩
      have e6 : wrap64 ((ab a % ab b)) = v := by rw [w64, ← hv]; omega
      rw [hv] at g2
      subst hv
      have G2 := Lib.hid g2
      clear f1 f2 f3 f4 f5 g1 g2 q1 q2 hng ha hwd hb2 r3 hb
      generalize ab a / ab b = q at *
      generalize hrr : ab a % ab b = r at *
      clear hrr
      generalize ab b = Y at *
      have db : decide (b < 0) = false := decide_eq_false (by omega)
      have da : decide (hi6 a < 0) = false := decide_eq_false (by omega)
      go_enter Tryz.func264, Tryz.ntmps264
      go_wp2_with (first
        | (go_at_call 315; (with_reducible refine (hSz _).mono ?_); rintro e w1 ⟨rfl, hb1⟩; have hL1 := hL.nx hb1; have k1 : Bk w1 w.heap.size 243 (wdA a) := hL1.k 1 (by simp); obtain ⟨c0, c1⟩ := k1.cell2)
        | (go_at_call 316; (with_reducible refine (hDv _).mono ?_); rintro e w2 ⟨rfl, hb2⟩; have hL2 := hL1.nx hb2; have k2 : Bk w2 w.heap.size 243 (wdA a) := hL2.k 1 (by simp); obtain ⟨d0, d1⟩ := k2.cell2)
        | (go_at_call 317; (with_reducible refine (hAw _).mono ?_); rintro e w3 ⟨rfl, hb3⟩; have hL3 := (hL2.nx hb3).alloc (wdA (fq a b)) 243; have k3 : Bk _ (w.heap.size + 1) 243 #[.int .i64 0, .int .u64 0] := hL3.k 1 (by simp))
        | (refine stWd rfl _ _ rfl k3 rfl rfl rfl ?_; intro w4 k4 hg4 hs4))
      refine bodyPost_ret (res_wd_tmp2 rfl k4 rfl) rfl ?_
      exact ⟨by rw [G2.out]; rfl, below_of_gb hL3.bel hg4 (by omega) hL3.sz⟩
end Go.Proofs.YtgohbkkeppknoaaGreatDoor
end
section
set_option linter.unusedVariables false
namespace Go.Proofs.YtgohbkkeppknoaaGreatDoor
open Go.RowKit
theorem fq_wd {a b : Int} (ha : Wq a) (hb : b ≠ 0) : Wd (fq a b) := by
  obtain ⟨f1, f2, f3, f4, f5⟩ := fq_facts (a := a) hb
  obtain ⟨q1, q2⟩ := q_room ha hb
  have e1 := Int.emod_nonneg (ab a) (by omega : ab b ≠ 0)
  unfold Wd
  cases h : (!(decide (hi6 a < 0) == decide (b < 0)))
  · rw [(f5 h).1]; omega
  · rcases Int.lt_or_eq_of_le e1 with hr | hr
    · rw [(f3 ⟨h, hr⟩).1]; omega
    · rw [(f4 ⟨h, hr.symm⟩).1]; omega
/-- The place that a quotient is. -/
def plc (a b : Int) : Int := cutF (fq (a * 65536) b)
theorem qplace_0 (a : Int) (w : World) : Calls Tryz.prog 232 #[WV a, .int .i64 0] w fun e w' => e = .returned (.tuple #[.int .i64 0, .bool false]) ∧ Below w.heap.size w w' := by
  go_enter Tryz.func232, Tryz.ntmps232
  go_wp2_with fail
  go_returns
  exact ⟨rfl, by go_grown⟩
set_option maxRecDepth 100000 in
set_option maxHeartbeats 4000000 in
theorem qplace_any (a b : Int) (w : World) (ha : Wq (a * 65536)) (hb : b ≠ 0) (hb2 : J64 b) :
    Calls Tryz.prog 232 #[WV a, .int .i64 b] w fun e w' => e = .returned (.tuple #[.int .i64 (plc a b), .bool true]) ∧ Below w.heap.size w w' := by
  have hS := fun w' => shl16_any a w' (by unfold Wq at ha; unfold Wd; omega)
  have hW := fun w' => qwide_any (a * 65536) b w' ha hb hb2
  have hC := fun w' => qcut_any (fq (a * 65536) b) w' (fq_wd ha hb)
  have HP := Lib.hid (show plc a b = cutF (fq (a * 65536) b) from rfl)
  have hb0 : (b == 0) = false := beq_eq_false_iff_ne.2 hb
  have hL := (Lie.start w).alloc (wdA a) 243
  generalize fr (a * 65536) b = r at *
  generalize fq (a * 65536) b = q at *
  generalize a * 65536 = s at *
  clear ha hb hb2
  go_enter Tryz.func232, Tryz.ntmps232
  go_wp2_with (first
    | (go_at_call 294; (with_reducible refine (hS _).mono ?_); rintro e w1 ⟨rfl, hb1⟩; have hL1 := (hL.nx hb1).alloc (wdA s) 243)
    | (go_at_call 264; (with_reducible refine (hW _).mono ?_); rintro e w2 ⟨rfl, hb2⟩; have hL2 := (hL1.nx hb2).alloc (wdA q) 243)
    | (go_at_call 296; (with_reducible refine (hC _).mono ?_); rintro e w3 ⟨rfl, hb3⟩; have hL3 := hL2.nx hb3))
  go_returns
  exact ⟨by rw [HP.out]; rfl, hL3.bel⟩
end Go.Proofs.YtgohbkkeppknoaaGreatDoor
end
section
set_option linter.unusedVariables false
namespace Go.Proofs.YtgohbkkeppknoaaGreatDoor
open Go.RowKit
/-- Whether a text is digits behind a point, 16 at most. -/
def okT (l : List UInt8) : Bool := okN l && decide (l.length ≤ 16)
/-- What fix.parts answers. -/
def fpV (l : List UInt8) : Int := if okT l then partZ l else 0
theorem okN_all {l : List UInt8} (h : okN l = true) : ∀ b ∈ l, isD b = true := by
  unfold okN at h
  simp only [Bool.and_eq_true] at h
  exact List.all_eq_true.1 h.2
set_option maxRecDepth 100000 in
set_option maxHeartbeats 4000000 in
theorem fparts_any (s : ByteArray) (w : World) : Calls Tryz.prog 187 #[.string s] w fun e w' => e = .returned (.tuple #[.int .i64 (fpV (bl s)), .bool (okT (bl s))]) ∧ Below w.heap.size w w' := by
  have hN := fun w' => fnum_any s w'
  cases h1 : okN (bl s) with
  | false =>
    have HT : Hid (okT (bl s) = false) := by show _ = _; unfold okT; rw [h1]; rfl
    have HV : Hid (fpV (bl s) = 0) := by show _ = _; unfold fpV; rw [if_neg (by rw [HT.out]; simp)]
    rw [h1, fnV_no h1] at hN
    go_enter Tryz.func187, Tryz.ntmps187
    go_wp2_with (go_at_call 185; (with_reducible refine (hN _).mono ?_); rintro e w1 ⟨rfl, hb1⟩)
    go_returns
    exact ⟨by rw [HT.out, HV.out]; rfl, hb1⟩
  | true =>
    rw [h1, fnV_ok h1] at hN
    by_cases h16 : s.size > 16
    · have HT : Hid (okT (bl s) = false) := by show _ = _; unfold okT; rw [decide_eq_false (by rw [bl_len]; omega)]; simp
      have HV : Hid (fpV (bl s) = 0) := by show _ = _; unfold fpV; rw [if_neg (by rw [HT.out]; simp)]
      generalize numV 0 (bl s) = n at *
      go_enter Tryz.func187, Tryz.ntmps187
      go_wp2_with (go_at_call 185; (with_reducible refine (hN _).mono ?_); rintro e w1 ⟨rfl, hb1⟩)
      go_returns
      exact ⟨by rw [HT.out, HV.out]; rfl, hb1⟩
    · have h16' : s.size ≤ 16 := by omega
      have HT : Hid (okT (bl s) = true) := by show _ = _; unfold okT; rw [h1, decide_eq_true (by rw [bl_len]; omega)]; rfl
      have HA : Hid (∀ k (h : k < s.size), (s[k]'h).toNat < 128) := fun k h => by
        have := isD_iff.1 (okN_all h1 _ (show s[k]'h ∈ bl s by rw [← bl_get s k h]; exact List.getElem_mem _))
        omega
      have HV : Hid (fpV (bl s) = ((numV 0 (bl s) * 65536 / 10 ^ s.size : Nat) : Int)) := by
        show _ = _
        unfold fpV partZ
        rw [if_pos HT.out, bl_len]
      have hlt := numV_lt (bl s) (okN_all h1)
      rw [bl_len] at hlt
      have hP : 10 ^ s.size ≤ 10000000000000000 := Nat.le_trans (Nat.pow_le_pow_right (by decide) h16') (by decide)
      have hP1 : 1 ≤ 10 ^ s.size := Nat.one_le_pow _ _ (by decide)
      have HS : Hid (∀ k, k < s.size → 10 ^ (k + 1) = 10 ^ k * 10 ∧ 10 ^ k ≤ 1000000000000000) := fun k hk => ⟨Nat.pow_succ 10 k, Nat.le_trans (Nat.pow_le_pow_right (by decide) (show k ≤ 15 by omega)) (by decide)⟩
      generalize numV 0 (bl s) = n at *
      clear h1 h16
      go_enter Tryz.func187, Tryz.ntmps187
      go_wp2_with (go_at_call 185; (with_reducible refine (hN _).mono ?_); rintro e w1 ⟨rfl, hb1⟩)
      clear hN
      go_loopw [6] (fun v wr => ∃ k : Nat, k ≤ s.size ∧ v = .int .i64 (10 ^ k : Nat) ∧ wr = w1.iter s k) (fun _ wr => s.size - wr.iterPos w1.heap.size)
      case atStart => exact ⟨0, by omega, rfl, rfl⟩
      case round =>
        obtain ⟨k, hk, rfl, rfl⟩ := hrel
        by_cases hlk : k < s.size
        · have hnx := fun ty => run_next_ascii (P := Tryz.prog) w1 s k ty hlk (HA.out k hlk)
          obtain ⟨e1, e2⟩ := HS.out k hlk
          have E1 := Lib.hid e1
          clear e1 hlt hP hP1
          generalize (10 : Nat) ^ k = p at *
          go_wp2_with fail
          refine ⟨⟨k + 1, by omega, val_int ?_, rfl⟩, by simp only [World.iterPos_iter]; omega⟩
          rw [E1.out]
          omega
        · obtain rfl : k = s.size := by omega
          have hnx := fun ty => run_next_end (P := Tryz.prog) w1 s s.size ty (Nat.lt_irrefl _)
          generalize (10 : Nat) ^ s.size = p at *
          have hb2 : Below w.heap.size w (w1.iter s s.size) := hb1.trans ((bel_iter w1 s s.size).mono hb1.size)
          generalize w1.iter s s.size = w2 at *
          clear HS HA hk
          have hM := fun w' => wmul_any (n : Int) 65536 w' ⟨by omega, by omega⟩ ⟨by omega, by omega⟩
          have hQ := fun w' => qwide_any ((n : Int) * 65536) (p : Int) w' ⟨by omega, by omega⟩ (by omega) ⟨by omega, by omega⟩
          have hfq : fq ((n : Int) * 65536) p = ((n * 65536 / p : Nat) : Int) := by
            unfold fq
            rw [if_neg (by omega), Int.natCast_ediv, Int.natCast_mul]
            rfl
          rw [hfq] at hQ
          have hq : n * 65536 / p < 65536 := by
            rw [Nat.div_lt_iff_lt_mul (by omega), Nat.mul_comm 65536]
            exact Nat.mul_lt_mul_of_pos_right hlt (by decide)
          clear hfq
          generalize fr ((n : Int) * 65536) p = r at *
          generalize n * 65536 / p = q at *
          have hF := fun w' => fits64_yes (q : Int) w' ⟨by omega, by omega⟩
          have v1 : (n : Int) ≤ 9223372036854775807 := by omega
          go_wp2_with (first
            | (go_at_call 186; (with_reducible refine (hM _).mono ?_); rintro e w3 ⟨rfl, hb3⟩)
            | (go_at_call 264; (with_reducible refine (hQ _).mono ?_); rintro e w4 ⟨rfl, hb4⟩; have hb24 := hb2.trans ((hb3.trans (hb4.mono hb3.size)).mono hb2.size); have k4 := Bk.new w4 243 #[.int .i64 0, .int .u64 0]; have hb5 := hb24.alloc hb24.size (.cells #[.int .i64 0, .int .u64 0] 243))
            | (refine stWd rfl _ _ rfl k4 rfl rfl rfl ?_; intro w6 k6 hg6 hs6; have hb6 := below_of_gb hb5 hg6 hb24.size hb5.size)
            | (refine ldWd rfl _ rfl k6 rfl ?_)
            | (go_at_call 191; (with_reducible refine (hF _).mono ?_); rintro e w7 ⟨rfl, hb7⟩))
          go_returns
          exact ⟨by rw [HT.out, HV.out]; rfl, hb6.trans (hb7.mono hb6.size)⟩
end Go.Proofs.YtgohbkkeppknoaaGreatDoor
end
