/- affine: maps by which straight lines stay straight, and beside each other: their numbers. -/
import Derived.Test.YtlbiiljncacdoaaGreatHm7
set_option linter.unusedVariables false
namespace Go.Proofs.YtlbiiljncacdoaaGreat
open Go.RowKit
set_option maxHeartbeats 400000 in
theorem ain_any (a b : Int) (w : World) (hb0 : 0 ≤ b) (hb : b ≤ 9223372036854775807) : Calls Tryz.prog 218 #[.int .i64 a, .int .i64 b] w fun e w' => e = .returned (.bool (inH a b)) ∧ w = w' := by
  have hw : wrap64 (-b) = -b := IntWalk.wrap64_in _ ⟨by omega, by omega⟩
  by_cases h1 : -b ≤ a
  all_goals
    go_enter Tryz.func218, Tryz.ntmps218
    go_wp2
    go_ret
    exact ⟨ret_bool (by rw [inH_eq]; simp <;> omega), rfl⟩
set_option maxRecDepth 100000 in
theorem most6_ix (k : Nat) (hk : k < 6) (w : World) : (Instr.index 286 (.agg #[.int .i64 16777216, .int .i64 16777216, .int .i64 2147483648, .int .i64 16777216, .int .i64 16777216, .int .i64 2147483648]) (.int .i64 k)).run Tryz.prog w = .ok (.int .i64 (most k)) w := by
  have h9 : k = 0 ∨ k = 1 ∨ k = 2 ∨ k = 3 ∨ k = 4 ∨ k = 5 := by omega
  rcases h9 with rfl | rfl | rfl | rfl | rfl | rfl <;> rfl
def rg6 (l : List Int) : Bool := (List.range 6).all (fun i => inH (l.getD i 0) (most i))
theorem rg6_iff {l : List Int} : rg6 l = true ↔ ∀ i, i < 6 → inH (l.getD i 0) (most i) = true := by
  unfold rg6; rw [List.all_eq_true]; exact ⟨fun h i hi => h i (List.mem_range.2 hi), fun h i hi => h i (List.mem_range.1 hi)⟩
def dtA (l : List Int) : Int := cf l 0 * cf l 4 - cf l 1 * cf l 3
def afC (l : List Int) : Int := if l.length ≠ 6 then 12 else if rg6 l = true then (if dtA l = 0 then 40 else 0) else 11
/-- Numbers that may be. -/
structure AfOk (l : List Int) : Prop where
  len : l.length = 6
  rg : rg6 l = true
theorem AfOk.bd {l : List Int} (h : AfOk l) (i : Nat) (hi : i < 6) : -most i ≤ cf l i ∧ cf l i ≤ most i := inH_iff.1 (rg6_iff.1 h.rg i hi)
theorem AfOk.prod {l : List Int} (h : AfOk l) (i j : Nat) (hi : i < 6) (hj : j < 6) (k : Int) (hk : most i * most j ≤ k) : -k ≤ cf l i * cf l j ∧ cf l i * cf l j ≤ k := by
  have h1 := h.bd i hi
  have h2 := h.bd j hj
  have := mulbd h1.1 h1.2 h2.1 h2.2
  omega
theorem afC_zero {l : List Int} : afC l = 0 ↔ AfOk l ∧ dtA l ≠ 0 := by
  simp only [afC]
  constructor
  · intro h
    by_cases h1 : l.length = 6
    · by_cases h2 : rg6 l = true
      · by_cases h3 : dtA l = 0
        · simp [h1, h2, h3] at h
        · exact ⟨⟨h1, h2⟩, h3⟩
      · simp [h1, h2] at h
    · simp [h1] at h
  · rintro ⟨h, h3⟩
    simp [h.len, h.rg, h3]
theorem aget {l : List Int} {w : World} {B : Nat} {A : Option Addr} (hl : l.length = 6) (hr : Rd w B A (l.map (Value.int .i64))) : ∃ b o, A = some ⟨b, o, none⟩ ∧ b < B ∧ ∀ i, i < 6 → w.cell? ⟨b, o + i, none⟩ = some (.int .i64 (cf l i)) := by
  obtain ⟨b, o, rfl, hb, _⟩ := hr.get 0 (by simp [hl])
  refine ⟨b, o, rfl, hb, fun i hi => ?_⟩
  obtain ⟨b', o', e, _, hc⟩ := hr.get i (by simp [hl]; omega)
  injection e with e
  injection e with e1 e2
  subst e1 e2
  rw [hc]
  simp [cf, List.getD_eq_getElem?_getD, List.getElem?_eq_getElem (show i < l.length by omega)]
set_option maxRecDepth 100000 in
set_option maxHeartbeats 4000000 in
theorem adet_any (l : List Int) (A : Option Addr) (cp : Nat) (w : World) {B : Nat} (h : AfOk l) (hr : Rd w B A (l.map (Value.int .i64))) :
    Calls Tryz.prog 217 #[.slice A 6 cp] w fun e w' => e = .returned (.int .i64 (dtA l)) ∧ Below w.heap.size w w' := by
  obtain ⟨b, o, rfl, hb, hc⟩ := aget h.len hr
  have c0 : w.cell? ⟨b, o, none⟩ = some (.int .i64 (cf l 0)) := hc 0 (by decide)
  have c1 := hc 1 (by decide)
  have c3 := hc 3 (by decide)
  have c4 := hc 4 (by decide)
  have p1 := h.prod 0 4 (by decide) (by decide) 281474976710656 (by decide)
  have p2 := h.prod 1 3 (by decide) (by decide) 281474976710656 (by decide)
  have HE := Lib.hid (show dtA l = cf l 0 * cf l 4 - cf l 1 * cf l 3 from rfl)
  have hb0 := Below.refl w.heap.size w
  clear hc hr h
  obtain ⟨p10, p11⟩ := p1
  obtain ⟨p20, p21⟩ := p2
  generalize dtA l = D at *
  generalize cf l 0 = x0 at *
  generalize cf l 1 = x1 at *
  generalize cf l 3 = x3 at *
  generalize cf l 4 = x4 at *
  have e1 : IntKind.i64.wrap (x0 * x4) = x0 * x4 := IntWalk.i64_in _ ⟨by omega, by omega⟩
  have e2 : IntKind.i64.wrap (x1 * x3) = x1 * x3 := IntWalk.i64_in _ ⟨by omega, by omega⟩
  have e3 : IntKind.i64.wrap (x0 * x4 - x1 * x3) = x0 * x4 - x1 * x3 := IntWalk.i64_in _ ⟨by omega, by omega⟩
  clear p10 p11 p20 p21
  go_enter Tryz.func217, Tryz.ntmps217
  go_wp2_with fail
  go_quiet (fail)
  go_wp2_with fail
  go_ret
  exact ⟨ret_int HE.out.symm, below_drewN hb0 _⟩
end Go.Proofs.YtlbiiljncacdoaaGreat
