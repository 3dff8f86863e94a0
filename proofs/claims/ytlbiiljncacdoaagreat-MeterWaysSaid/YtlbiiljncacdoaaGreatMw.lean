/- meter: what is wrong with a way; and the reference's. -/
import Derived.Test.YtlbiiljncacdoaaGreatGr
import Derived.Test.YtlbiiljncacdoaaGreatPm
import Derived.Deep.Cut
import Derived.Deep.DeepCutAuto
set_option linter.unusedVariables false
namespace Go.Proofs.YtlbiiljncacdoaaGreat
open Go.RowKit
abbrev wyA (TW TH ca : Int) (A : Option Addr) (n cp : Nat) : Array Value := #[.int .i64 TW, .int .i64 TH, .int .i64 ca, .slice A n cp]
abbrev wyV (TW TH ca : Int) (A : Option Addr) (n cp : Nat) : Value := .agg (wyA TW TH ca A n cp)
def wyC (TW TH ca : Int) (l : List Int) (W H : Int) : Int :=
  if grC W H TW TH ≠ 0 then grC W H TW TH else if ca < 1 ∨ 65536 < ca then 10 else if 0 < l.length ∧ pmB l (grN W TW * grN H TH) = false then 10 else 0
theorem wy_cases (TW TH ca : Int) (l : List Int) (n : Nat) (hl : l.length = n) (W H : Int) : (grC W H TW TH ≠ 0 ∧ Hid (wyC TW TH ca l W H = grC W H TW TH)) ∨ (grC W H TW TH = 0 ∧ decide (ca < 1) = true ∧ Hid (wyC TW TH ca l W H = 10)) ∨ (grC W H TW TH = 0 ∧ decide (ca < 1) = false ∧ decide (65536 < ca) = true ∧ Hid (wyC TW TH ca l W H = 10))
    ∨ (grC W H TW TH = 0 ∧ decide (ca < 1) = false ∧ decide (65536 < ca) = false ∧ decide (0 < n) = false ∧ Hid (wyC TW TH ca l W H = 0)) ∨ (grC W H TW TH = 0 ∧ decide (ca < 1) = false ∧ decide (65536 < ca) = false ∧ decide (0 < n) = true ∧ pmB l (grN W TW * grN H TH) = false ∧ Hid (wyC TW TH ca l W H = 10))
    ∨ (grC W H TW TH = 0 ∧ decide (ca < 1) = false ∧ decide (65536 < ca) = false ∧ decide (0 < n) = true ∧ pmB l (grN W TW * grN H TH) = true ∧ Hid (wyC TW TH ca l W H = 0)) := by
  unfold wyC Hid
  by_cases h0 : grC W H TW TH = 0
  · right
    rw [if_neg (by simpa using h0)]
    by_cases h1 : ca < 1
    · exact .inl ⟨h0, decide_eq_true h1, by rw [if_pos (.inl h1)]⟩
    right
    by_cases h2 : 65536 < ca
    · exact .inl ⟨h0, decide_eq_false h1, decide_eq_true h2, by rw [if_pos (.inr h2)]⟩
    right
    rw [if_neg (by omega)]
    by_cases h3 : 0 < n
    · right
      cases h4 : pmB l (grN W TW * grN H TH)
      · exact .inl ⟨h0, decide_eq_false h1, decide_eq_false h2, decide_eq_true h3, rfl, by rw [if_pos ⟨by omega, rfl⟩]⟩
      · exact .inr ⟨h0, decide_eq_false h1, decide_eq_false h2, decide_eq_true h3, rfl, by rw [if_neg (by rintro ⟨_, h⟩; cases h)]⟩
    · exact .inl ⟨h0, decide_eq_false h1, decide_eq_false h2, decide_eq_false h3, by rw [if_neg (by omega)]⟩
  · exact .inl ⟨h0, by rw [if_pos h0]⟩
set_option maxRecDepth 100000 in
set_option maxHeartbeats 16000000 in
theorem mway_any (TW TH ca : Int) (l : List Int) (A : Option Addr) (n cp : Nat) (W H : Int) (w : World) (hl : l.length = n) (hn : n ≤ 100000) (hr : Rd w w.heap.size A (l.map (Value.int .i64))) :
    Calls Tryz.prog 68 #[wyV TW TH ca A n cp, .int .i64 W, .int .i64 H] w fun e w' => e = .returned (.int .i64 (wyC TW TH ca l W H)) ∧ Below w.heap.size w w' := by
  have hL := ((Lie.start w).alloc (wyA TW TH ca A n cp) 119).alloc (grA W H TW TH) 172
  simp only [World.size_alloc] at hL
  have k3 := hL.k 1 (by simp)
  have k7 := hL.k 0 (by simp)
  simp only [List.getElem_cons_zero, List.getElem_cons_succ] at k3 k7
  have hC := fun w' => gcheck_any W H TW TH w'
  have hcs := wy_cases TW TH ca l n hl W H
  have hI := fun w' (hb : Below w.heap.size w w') => pis_any l A n cp (grN W TW * grN H TH) w' hl hn ((hr.below hb).more hb.size)
  have hG := fun h0 w' => gcount_any W H TW TH w' h0
  clear hl hr
  rcases hcs with ⟨h0, HE⟩ | hcs
  · have hb1 : (grC W H TW TH != 0) = true := by simp [h0]
    clear hI hG
    generalize grC W H TW TH = C at *
    clear h0
    go_enter Tryz.func68, Tryz.ntmps68
    go_wp2_with (first
      | (refine ldB rfl _ _ rfl k7 rfl Tryz.underlying172 rfl gr_size ?_)
      | (go_at_call 122; (with_reducible refine (hC _).mono ?_); rintro e w3 ⟨rfl, hb3⟩))
    go_returns
    exact ⟨by rw [HE.out]; rfl, (hL.nx hb3).bel⟩
  · have h0 : grC W H TW TH = 0 := by
      rcases hcs with ⟨h, _⟩ | ⟨h, _⟩ | ⟨h, _⟩ | ⟨h, _⟩ | ⟨h, _⟩
      all_goals exact h
    replace hG := hG h0
    rw [h0] at hC
    have HCS := Lib.hid hcs
    clear hcs h0
    generalize grN W TW * grN H TH = N at *
    go_enter Tryz.func68, Tryz.ntmps68
    go_upto_region 5 with (first
      | (refine ldB rfl _ _ rfl k7 rfl Tryz.underlying172 rfl gr_size ?_)
      | (go_at_call 122; (with_reducible refine (hC _).mono ?_); rintro e w3 ⟨rfl, hb3⟩))
    have hL3 := hL.nx hb3
    have k33 := k3.nx hb3
    have k73 := k7.nx hb3
    clear hL k3 k7 hb3 hC
    have hI2 := fun (n : Nat) (os : Array Obj) => hI _ (hL3.bel.trans ((below_regrown w3 n os).mono hL3.sz))
    obtain ⟨d0, d1, d2, d3⟩ := k33.cell4
    have r2 := fun (n : Nat) (os : Array Obj) => cell_regrown d2 n os
    have r3 := fun (n : Nat) (os : Array Obj) => cell_regrown d3 n os
    obtain ⟨e0, e1, e2, e3⟩ := k73.cell4
    have s0 := fun (n : Nat) (os : Array Obj) => cell_regrown e0 n os
    have s1 := fun (n : Nat) (os : Array Obj) => cell_regrown e1 n os
    have s2 := fun (n : Nat) (os : Array Obj) => cell_regrown e2 n os
    have s3 := fun (n : Nat) (os : Array Obj) => cell_regrown e3 n os
    rcases HCS.out with ⟨_, h1, HE⟩ | ⟨_, h1, h2, HE⟩ | ⟨_, h1, h2, h3, HE⟩ | ⟨_, h1, h2, h3, h4, HE⟩ | ⟨_, h1, h2, h3, h4, HE⟩
    all_goals
      (try rw [h4] at hI2)
      clear HCS
      refine wp_region_quiet_below (by kernel_rfl) (by kernel_rfl) ?_
      repeat (first
        | go_big_quiet_step ((first | with_reducible exact quiet_below (hI2 _ _) | with_reducible exact quiet_below (hG _)))
        | quiet_step ((first | with_reducible exact quiet_below (hI2 _ _) | with_reducible exact quiet_below (hG _))))
      refine wpQuiet_nil ?_
      intro _ hw'
      obtain ⟨⟨dd, os⟩, hw''⟩ := hw'
      subst hw''
      have hbx := below_regrown w3 dd os
      generalize Go.Sort.grow (redrawn w3 dd) os = wx at *
      have hb := (hL3.nx hbx).bel
      clear r2 r3 s0 s1 s2 s3 hI2 hG hI d0 d1 d2 d3 e0 e1 e2 e3
      go_wp2_with fail
      go_returns
      exact ⟨by rw [HE.out]; rfl, hb⟩
end Go.Proofs.YtlbiiljncacdoaaGreat
