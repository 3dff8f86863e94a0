/- meter: what is wrong with a warp; what it costs. -/
import Derived.Test.YtlbiiljncacdoaaGreatMe2
import Derived.BigQuiet
import Derived.Deep.QuietTactic
set_option linter.unusedVariables false
namespace Go.Proofs.YtlbiiljncacdoaaGreat
open Go.RowKit
abbrev wrA (k : Int) (A : Option Addr) (sn cp : Nat) (W H kn n mo c0 c1 c2 c3 mi : Int) : Array Value := #[.int .i64 k, .slice A sn cp, .int .i64 W, .int .i64 H, .int .i64 kn, .int .i64 n, .int .i64 mo, .int .u8 c0, .int .u8 c1, .int .u8 c2, .int .u8 c3, .int .i64 mi]
section
variable {w : World} {g : Nat} {t : TypeId} {v0 v1 v2 v3 v4 v5 v6 v7 v8 v9 v10 v11 : Value}
theorem Bk.cell12 (h : Bk w g t #[v0, v1, v2, v3, v4, v5, v6, v7, v8, v9, v10, v11]) : w.cell? ⟨g, 0, none⟩ = some v0 ∧ w.cell? ⟨g, 1, none⟩ = some v1 ∧ w.cell? ⟨g, 2, none⟩ = some v2 ∧ w.cell? ⟨g, 3, none⟩ = some v3 ∧ w.cell? ⟨g, 4, none⟩ = some v4 ∧ w.cell? ⟨g, 5, none⟩ = some v5 ∧ w.cell? ⟨g, 6, none⟩ = some v6 ∧ w.cell? ⟨g, 7, none⟩ = some v7 ∧ w.cell? ⟨g, 8, none⟩ = some v8 ∧ w.cell? ⟨g, 9, none⟩ = some v9 ∧ w.cell? ⟨g, 10, none⟩ = some v10 ∧ w.cell? ⟨g, 11, none⟩ = some v11 :=
  ⟨by rw [h.cell]; rfl, by rw [h.cell]; rfl, by rw [h.cell]; rfl, by rw [h.cell]; rfl, by rw [h.cell]; rfl, by rw [h.cell]; rfl, by rw [h.cell]; rfl, by rw [h.cell]; rfl, by rw [h.cell]; rfl, by rw [h.cell]; rfl, by rw [h.cell]; rfl, by rw [h.cell]; rfl⟩
end
/-- what is wrong with a warp, the transform's code being xc. -/
def wrC (W H kn n mo mi xc : Int) : Int := if smC kn n mo ≠ 0 then smC kn n mo else if msC W H ≠ 0 then msC W H else if mi < 0 ∨ 15 < mi then 10 else xc
set_option maxRecDepth 100000 in
set_option maxHeartbeats 8000000 in
theorem mwarp_any (k : Int) (A : Option Addr) (sn cp : Nat) (W H kn n mo c0 c1 c2 c3 mi xc : Int) (w : World)
    (hX : ∀ w', Below w.heap.size w w' → Calls Tryz.prog 27 #[.agg #[.int .i64 k, .slice A sn cp], .int .i64 W, .int .i64 H] w' fun e w'' => e = .returned (.int .i64 xc) ∧ Below w'.heap.size w' w'') :
    Calls Tryz.prog 58 #[.agg (wrA k A sn cp W H kn n mo c0 c1 c2 c3 mi)] w fun e w' => e = .returned (.int .i64 (wrC W H kn n mo mi xc)) ∧ Below w.heap.size w w' := by
  have hL := (Lie.start w).alloc (wrA k A sn cp W H kn n mo c0 c1 c2 c3 mi) 107
  have hc : (smC kn n mo ≠ 0 ∧ Hid (wrC W H kn n mo mi xc = smC kn n mo)) ∨ (smC kn n mo = 0 ∧ msC W H ≠ 0 ∧ Hid (wrC W H kn n mo mi xc = msC W H)) ∨ (smC kn n mo = 0 ∧ msC W H = 0 ∧ mi < 0 ∧ Hid (wrC W H kn n mo mi xc = 10)) ∨ (smC kn n mo = 0 ∧ msC W H = 0 ∧ 0 ≤ mi ∧ 15 < mi ∧ Hid (wrC W H kn n mo mi xc = 10)) ∨ (smC kn n mo = 0 ∧ msC W H = 0 ∧ 0 ≤ mi ∧ mi ≤ 15 ∧ Hid (wrC W H kn n mo mi xc = xc)) := by
    unfold wrC Hid
    by_cases h1 : smC kn n mo = 0 <;> by_cases h2 : msC W H = 0 <;> by_cases h3 : mi < 0 <;> by_cases h4 : 15 < mi <;> simp [h1, h2, h3, h4] <;> omega
  have hS := fun w' => smchk_any kn n mo c0 c1 c2 c3 w'
  have hZ := fun w' => msize_any W H w'
  generalize smC kn n mo = s1 at *
  generalize msC W H = s2 at *
  go_enter Tryz.func58, Tryz.ntmps58
  go_wp2_with fail
  have hK : Bk (w.alloc (.cells (wrA k A sn cp W H kn n mo c0 c1 c2 c3 mi) 107)) w.heap.size 107 (wrA k A sn cp W H kn n mo c0 c1 c2 c3 mi) := hL.k 0 (by simp)
  obtain ⟨d0, d1, d2, d3, d4, d5, d6, d7, d8, d9, d10, d11⟩ := hK.cell12
  generalize hw1 : w.alloc (.cells (wrA k A sn cp W H kn n mo c0 c1 c2 c3 mi) 107) = w1 at *
  clear hw1
  have r2 := fun (n : Nat) (os : Array Obj) => cell_regrown d2 n os
  have r3 := fun (n : Nat) (os : Array Obj) => cell_regrown d3 n os
  have r4 := fun (n : Nat) (os : Array Obj) => cell_regrown d4 n os
  have r5 := fun (n : Nat) (os : Array Obj) => cell_regrown d5 n os
  have r6 := fun (n : Nat) (os : Array Obj) => cell_regrown d6 n os
  have r7 := fun (n : Nat) (os : Array Obj) => cell_regrown d7 n os
  have r8 := fun (n : Nat) (os : Array Obj) => cell_regrown d8 n os
  have r9 := fun (n : Nat) (os : Array Obj) => cell_regrown d9 n os
  have r10 := fun (n : Nat) (os : Array Obj) => cell_regrown d10 n os
  refine wp_region_quiet_below (by kernel_rfl) (by kernel_rfl) ?_
  repeat (first
    | go_big_quiet_step ((first | with_reducible exact quiet_below (hS _) | with_reducible exact quiet_eq (hZ _)))
    | quiet_step ((first | with_reducible exact quiet_below (hS _) | with_reducible exact quiet_eq (hZ _))))
  refine wpQuiet_nil ?_
  intro _ hw'
  obtain ⟨⟨d, os⟩, hw''⟩ := hw'
  subst hw''
  have hbx := below_regrown w1 d os
  generalize Go.Sort.grow (redrawn w1 d) os = wx at *
  have hLx := hL.nx hbx
  have hKx := hK.nx hbx
  clear r2 r3 r4 r5 r6 r7 r8 r9 r10 d0 d1 d2 d3 d4 d5 d6 d7 d8 d9 d10 d11 hS hZ hL hK hbx
  obtain ⟨d0, d1, d2, d3, d4, d5, d6, d7, d8, d9, d10, d11⟩ := hKx.cell12
  have hb := hLx.bel
  replace hX := hX wx hb
  have i0 : ∀ w' : World, (Instr.index 169 (.agg #[.int .i64 s1, .int .i64 s2]) (.int .i64 0)).run Tryz.prog w' = .ok (.int .i64 s1) w' := fun w' => by kernel_rfl
  have i1 : ∀ w' : World, (Instr.index 169 (.agg #[.int .i64 s1, .int .i64 s2]) (.int .i64 1)).run Tryz.prog w' = .ok (.int .i64 s2) w' := fun w' => by kernel_rfl
  clear hKx
  go_wp2_with fail
  go_loop [18] (fun i => (i = .int .i64 0) ∨ (i = .int .i64 1 ∧ Hid (s1 = 0)) ∨ (i = .int .i64 2 ∧ Hid (s1 = 0) ∧ Hid (s2 = 0))) (fun i => 3 - (intOf i).toNat)
  case atStart => exact .inl rfl
  case round =>
    rcases hrel with rfl | ⟨rfl, z1⟩ | ⟨rfl, z1, z2⟩
    · by_cases h1 : s1 = 0
      · subst h1
        clear hc
        go_wp2_with fail
        exact ⟨.inr (.inl ⟨rfl, by trivial⟩), by simp [intOf]⟩
      · have HE : Hid (wrC W H kn n mo mi xc = s1) := by
          rcases hc with ⟨_, h⟩ | ⟨h, _⟩ | ⟨h, _⟩ | ⟨h, _⟩ | ⟨h, _⟩
          · exact h
          all_goals exact absurd h h1
        clear hc
        have hb1 : (s1 != 0) = true := by simp [h1]
        clear h1
        go_wp2_with fail
        go_returns
        exact ⟨by rw [HE.out]; rfl, hb⟩
    · by_cases h1 : s2 = 0
      · subst h1
        clear hc
        go_wp2_with fail
        exact ⟨.inr (.inr ⟨rfl, z1, by trivial⟩), by simp [intOf]⟩
      · have HE : Hid (wrC W H kn n mo mi xc = s2) := by
          rcases hc with ⟨h, _⟩ | ⟨_, _, h⟩ | ⟨_, h, _⟩ | ⟨_, h, _⟩ | ⟨_, h, _⟩
          · exact absurd z1.out h
          · exact h
          all_goals exact absurd h h1
        clear hc
        have hb1 : (s2 != 0) = true := by simp [h1]
        clear h1
        go_wp2_with fail
        go_returns
        exact ⟨by rw [HE.out]; rfl, hb⟩
    · rcases hc with ⟨h, _⟩ | ⟨_, h, _⟩ | ⟨_, _, h1, HE⟩ | ⟨_, _, h1, h2, HE⟩ | ⟨_, _, h1, h2, HE⟩
      · exact absurd z1.out h
      · exact absurd z2.out h
      · go_wp2_with fail
        go_returns
        exact ⟨by rw [HE.out]; rfl, hb⟩
      · go_wp2_with fail
        go_returns
        exact ⟨by rw [HE.out]; rfl, hb⟩
      · go_wp2_with fail
        refine hX.mono ?_
        rintro e w2 ⟨rfl, hb2⟩
        go_wp2_with fail
        go_returns
        exact ⟨by rw [HE.out]; rfl, hb.trans (hb2.mono hb.size)⟩
end Go.Proofs.YtlbiiljncacdoaaGreat
