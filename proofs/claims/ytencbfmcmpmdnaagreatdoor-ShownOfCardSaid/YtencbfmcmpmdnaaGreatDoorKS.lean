/- Several texts in one: meter: what is taken of a meter. meter: what is wrong with a kernel, a border, a size. meter: what is wrong with a warp; what it costs. meter: what a warp costs. xform.Check of an affine one; meter: the chapter's example. -/
import Derived.Test.YtencbfmcmpmdnaaGreatDoorRowG
import Derived.BigRegion
import Derived.RegionTactic
import Derived.Test.YtencbfmcmpmdnaaGreatDoorQTail
import Derived.Test.YtencbfmcmpmdnaaGreatDoorLie
import Derived.BigQuiet
import Derived.Deep.QuietTactic
import Derived.Test.YtencbfmcmpmdnaaGreatDoorK9
import Derived.Test.YtencbfmcmpmdnaaGreatDoorK3
section
set_option linter.unusedVariables false
namespace Go.Proofs.YtencbfmcmpmdnaaGreatDoor
open Go.RowKit
abbrev meA (u f : Int) : Array Value := #[.int .i64 u, .int .i64 f]
end Go.Proofs.YtencbfmcmpmdnaaGreatDoor
end
section
set_option linter.unusedVariables false
namespace Go.Proofs.YtencbfmcmpmdnaaGreatDoor
open Go.RowKit
abbrev boA (mo c0 c1 c2 c3 : Int) : Array Value := #[.int .i64 mo, .int .u8 c0, .int .u8 c1, .int .u8 c2, .int .u8 c3]
abbrev boV (mo c0 c1 c2 c3 : Int) : Value := .agg (boA mo c0 c1 c2 c3)
theorem smis_any (k : Int) (w : World) : Calls Tryz.prog 29 #[.int .i64 k] w fun e w' => e = .returned (.bool (decide (0 ≤ k ∧ k ≤ 3))) ∧ w = w' := by
  by_cases h : 0 ≤ k
  all_goals
    go_enter Tryz.func29, Tryz.ntmps29
    go_wp2
    go_returns
    exact ⟨ret_bool (by simp <;> omega), rfl⟩
def boC (mo : Int) : Int := if mo < 0 ∨ 3 < mo then 10 else 0
set_option maxHeartbeats 1000000 in
theorem bochk_any (mo c0 c1 c2 c3 : Int) (w : World) : Calls Tryz.prog 30 #[boV mo c0 c1 c2 c3] w fun e w' => e = .returned (.int .i64 (boC mo)) ∧ Below w.heap.size w w' := by
  have hb := (Below.refl w.heap.size w).alloc (Nat.le_refl _) (.cells (boA mo c0 c1 c2 c3) 27)
  have hc : (mo < 0 ∧ Hid (boC mo = 10)) ∨ (0 ≤ mo ∧ 3 < mo ∧ Hid (boC mo = 10)) ∨ (0 ≤ mo ∧ mo ≤ 3 ∧ Hid (boC mo = 0)) := by unfold boC Hid; by_cases h1 : mo < 0 <;> by_cases h2 : 3 < mo <;> simp [h1, h2] <;> omega
  rcases hc with ⟨h1, HE⟩ | ⟨h1, h2, HE⟩ | ⟨h1, h2, HE⟩
  all_goals
    go_enter Tryz.func30, Tryz.ntmps30
    go_wp2_with fail
    go_returns
    exact ⟨by rw [HE.out]; rfl, hb⟩
def smC (k n mo : Int) : Int := if 0 ≤ k ∧ k ≤ 3 then (if k = 3 ∧ (n < 1 ∨ 8 < n) then 11 else boC mo) else 10
set_option maxRecDepth 100000 in
set_option maxHeartbeats 4000000 in
theorem smchk_any (k n mo c0 c1 c2 c3 : Int) (w : World) : Calls Tryz.prog 17 #[.int .i64 k, .int .i64 n, boV mo c0 c1 c2 c3] w fun e w' => e = .returned (.int .i64 (smC k n mo)) ∧ Below w.heap.size w w' := by
  have hb := (Below.refl w.heap.size w).alloc (Nat.le_refl _) (.cells (boA mo c0 c1 c2 c3) 27)
  have hB := fun w' => bochk_any mo c0 c1 c2 c3 w'
  by_cases h : 0 ≤ k ∧ k ≤ 3
  · have hd : decide (0 ≤ k ∧ k ≤ 3) = true := decide_eq_true h
    have hc : (k = 3 ∧ n < 1 ∧ Hid (smC k n mo = 11)) ∨ (k = 3 ∧ 1 ≤ n ∧ 8 < n ∧ Hid (smC k n mo = 11)) ∨ (k = 3 ∧ 1 ≤ n ∧ n ≤ 8 ∧ Hid (smC k n mo = boC mo)) ∨ (k < 3 ∧ Hid (smC k n mo = boC mo)) := by
      unfold smC Hid
      rw [if_pos h]
      by_cases h3 : k = 3
      · by_cases h1 : n < 1 <;> by_cases h2 : 8 < n <;> simp [h3, h1, h2] <;> omega
      · exact .inr (.inr (.inr ⟨by omega, by rw [if_neg (by omega)]⟩))
    have hsm : ∀ w', Calls Tryz.prog 29 #[.int .i64 k] w' fun e w'' => e = .returned (.bool true) ∧ w' = w'' := fun w' => by rw [← hd]; exact smis_any k w'
    clear hd h
    rcases hc with ⟨h0, h1, HE⟩ | ⟨h0, h1, h2, HE⟩ | ⟨h0, h1, h2, HE⟩ | ⟨h0, HE⟩
    · subst h0
      go_enter Tryz.func17, Tryz.ntmps17
      go_wp2_with (go_at_call 29; (with_reducible refine (hsm _).mono ?_); rintro e w' ⟨rfl, rfl⟩)
      go_returns
      exact ⟨by rw [HE.out]; rfl, hb⟩
    · subst h0
      go_enter Tryz.func17, Tryz.ntmps17
      go_wp2_with (go_at_call 29; (with_reducible refine (hsm _).mono ?_); rintro e w' ⟨rfl, rfl⟩)
      go_returns
      exact ⟨by rw [HE.out]; rfl, hb⟩
    · subst h0
      go_enter Tryz.func17, Tryz.ntmps17
      go_wp2_with (first
        | (go_at_call 29; (with_reducible refine (hsm _).mono ?_); rintro e w' ⟨rfl, rfl⟩)
        | (go_at_call 30; (with_reducible refine (hB _).mono ?_); rintro e w' ⟨rfl, hb2⟩))
      go_returns
      exact ⟨by rw [HE.out]; rfl, hb.trans (hb2.mono hb.size)⟩
    · go_enter Tryz.func17, Tryz.ntmps17
      go_wp2_with (first
        | (go_at_call 29; (with_reducible refine (hsm _).mono ?_); rintro e w' ⟨rfl, rfl⟩)
        | (go_at_call 30; (with_reducible refine (hB _).mono ?_); rintro e w' ⟨rfl, hb2⟩))
      go_returns
      exact ⟨by rw [HE.out]; rfl, hb.trans (hb2.mono hb.size)⟩
  · have hd : decide (0 ≤ k ∧ k ≤ 3) = false := decide_eq_false h
    have HE : Hid (smC k n mo = 10) := by unfold smC Hid; rw [if_neg h]
    have hsm : ∀ w', Calls Tryz.prog 29 #[.int .i64 k] w' fun e w'' => e = .returned (.bool false) ∧ w' = w'' := fun w' => by rw [← hd]; exact smis_any k w'
    clear hd h
    go_enter Tryz.func17, Tryz.ntmps17
    go_wp2_with (go_at_call 29; (with_reducible refine (hsm _).mono ?_); rintro e w' ⟨rfl, rfl⟩)
    go_returns
    exact ⟨by rw [HE.out]; rfl, hb⟩
/-- what is wrong with an image's size. -/
def msC (W H : Int) : Int := if 32768 < W ∨ 32768 < H then 30 else if W < 1 ∨ H < 1 then 12 else if 4194304 < W * H then 30 else 0
set_option maxHeartbeats 2000000 in
theorem msize_any (W H : Int) (w : World) : Calls Tryz.prog 18 #[.int .i64 W, .int .i64 H] w fun e w' => e = .returned (.int .i64 (msC W H)) ∧ w = w' := by
  have hc : (32768 < W ∧ Hid (msC W H = 30)) ∨ (W ≤ 32768 ∧ 32768 < H ∧ Hid (msC W H = 30)) ∨ (W ≤ 32768 ∧ H ≤ 32768 ∧ W < 1 ∧ Hid (msC W H = 12)) ∨ (W ≤ 32768 ∧ H ≤ 32768 ∧ 1 ≤ W ∧ H < 1 ∧ Hid (msC W H = 12)) ∨ (W ≤ 32768 ∧ H ≤ 32768 ∧ 1 ≤ W ∧ 1 ≤ H ∧ 4194304 < W * H ∧ Hid (msC W H = 30)) ∨ (W ≤ 32768 ∧ H ≤ 32768 ∧ 1 ≤ W ∧ 1 ≤ H ∧ W * H ≤ 4194304 ∧ Hid (msC W H = 0)) := by
    unfold msC Hid
    by_cases h1 : 32768 < W <;> by_cases h2 : 32768 < H <;> by_cases h3 : W < 1 <;> by_cases h4 : H < 1 <;> by_cases h5 : 4194304 < W * H <;> simp [h1, h2, h3, h4, h5] <;> omega
  rcases hc with ⟨h1, HE⟩ | ⟨h1, h2, HE⟩ | ⟨h1, h2, h3, HE⟩ | ⟨h1, h2, h3, h4, HE⟩ | ⟨h1, h2, h3, h4, h5, HE⟩ | ⟨h1, h2, h3, h4, h5, HE⟩
  · go_enter Tryz.func18, Tryz.ntmps18
    go_wp2
    go_returns
    exact ⟨by rw [HE.out]; rfl, rfl⟩
  · go_enter Tryz.func18, Tryz.ntmps18
    go_wp2
    go_returns
    exact ⟨by rw [HE.out]; rfl, rfl⟩
  · go_enter Tryz.func18, Tryz.ntmps18
    go_wp2
    go_returns
    exact ⟨by rw [HE.out]; rfl, rfl⟩
  · go_enter Tryz.func18, Tryz.ntmps18
    go_wp2
    go_returns
    exact ⟨by rw [HE.out]; rfl, rfl⟩
  all_goals
    have m0 : 0 ≤ W * H := Int.mul_nonneg (by omega) (by omega)
    have m1 : W * H ≤ 32768 * 32768 := Int.mul_le_mul h1 h2 (by omega) (by omega)
    have mw : wrap64 (W * H) = W * H := IntWalk.wrap64_in _ ⟨by omega, by omega⟩
    go_enter Tryz.func18, Tryz.ntmps18
    go_wp2
    go_returns
    exact ⟨by rw [HE.out]; rfl, rfl⟩
end Go.Proofs.YtencbfmcmpmdnaaGreatDoor
end
section
set_option linter.unusedVariables false
namespace Go.Proofs.YtencbfmcmpmdnaaGreatDoor
open Go.RowKit
abbrev wrA (k : Int) (A : Option Addr) (sn cp : Nat) (W H kn n mo c0 c1 c2 c3 mi : Int) : Array Value := #[.int .i64 k, .slice A sn cp, .int .i64 W, .int .i64 H, .int .i64 kn, .int .i64 n, .int .i64 mo, .int .u8 c0, .int .u8 c1, .int .u8 c2, .int .u8 c3, .int .i64 mi]
section
variable {w : World} {g : Nat} {t : TypeId} {v0 v1 v2 v3 v4 v5 v6 v7 v8 v9 v10 v11 : Value}
theorem Bk.cell12 (h : Bk w g t #[v0, v1, v2, v3, v4, v5, v6, v7, v8, v9, v10, v11]) : w.cell? ⟨g, 0, none⟩ = some v0 ∧ w.cell? ⟨g, 1, none⟩ = some v1 ∧ w.cell? ⟨g, 2, none⟩ = some v2 ∧ w.cell? ⟨g, 3, none⟩ = some v3 ∧ w.cell? ⟨g, 4, none⟩ = some v4 ∧ w.cell? ⟨g, 5, none⟩ = some v5 ∧ w.cell? ⟨g, 6, none⟩ = some v6 ∧ w.cell? ⟨g, 7, none⟩ = some v7 ∧ w.cell? ⟨g, 8, none⟩ = some v8 ∧ w.cell? ⟨g, 9, none⟩ = some v9 ∧ w.cell? ⟨g, 10, none⟩ = some v10 ∧ w.cell? ⟨g, 11, none⟩ = some v11 :=
  ⟨by rw [h.cell]; rfl, by rw [h.cell]; rfl, by rw [h.cell]; rfl, by rw [h.cell]; rfl, by rw [h.cell]; rfl, by rw [h.cell]; rfl, by rw [h.cell]; rfl, by rw [h.cell]; rfl, by rw [h.cell]; rfl, by rw [h.cell]; rfl, by rw [h.cell]; rfl, by rw [h.cell]; rfl⟩
end
/-- what is wrong with a warp, the transform's code being xc. -/
def wrC (W H kn n mo mi xc : Int) : Int := if smC kn n mo ≠ 0 then smC kn n mo else if msC W H ≠ 0 then msC W H else if mi < 0 ∨ 15 < mi then 10 else xc
set_option maxRecDepth 100000 in
set_option maxHeartbeats 8000000 in
theorem mwarp_any (k : Int) (A : Option Addr) (sn cp : Nat) (W H kn n mo c0 c1 c2 c3 mi xc : Int) (w : World)
    (hX : ∀ w', Below w.heap.size w w' → Calls Tryz.prog 19 #[.agg #[.int .i64 k, .slice A sn cp], .int .i64 W, .int .i64 H] w' fun e w'' => e = .returned (.int .i64 xc) ∧ Below w'.heap.size w' w'') :
    Calls Tryz.prog 9 #[.agg (wrA k A sn cp W H kn n mo c0 c1 c2 c3 mi)] w fun e w' => e = .returned (.int .i64 (wrC W H kn n mo mi xc)) ∧ Below w.heap.size w w' := by
  have hL := (Lie.start w).alloc (wrA k A sn cp W H kn n mo c0 c1 c2 c3 mi) 29
  have hc : (smC kn n mo ≠ 0 ∧ Hid (wrC W H kn n mo mi xc = smC kn n mo)) ∨ (smC kn n mo = 0 ∧ msC W H ≠ 0 ∧ Hid (wrC W H kn n mo mi xc = msC W H)) ∨ (smC kn n mo = 0 ∧ msC W H = 0 ∧ mi < 0 ∧ Hid (wrC W H kn n mo mi xc = 10)) ∨ (smC kn n mo = 0 ∧ msC W H = 0 ∧ 0 ≤ mi ∧ 15 < mi ∧ Hid (wrC W H kn n mo mi xc = 10)) ∨ (smC kn n mo = 0 ∧ msC W H = 0 ∧ 0 ≤ mi ∧ mi ≤ 15 ∧ Hid (wrC W H kn n mo mi xc = xc)) := by
    unfold wrC Hid
    by_cases h1 : smC kn n mo = 0 <;> by_cases h2 : msC W H = 0 <;> by_cases h3 : mi < 0 <;> by_cases h4 : 15 < mi <;> simp [h1, h2, h3, h4] <;> omega
  have hS := fun w' => smchk_any kn n mo c0 c1 c2 c3 w'
  have hZ := fun w' => msize_any W H w'
  generalize smC kn n mo = s1 at *
  generalize msC W H = s2 at *
  go_enter Tryz.func9, Tryz.ntmps9
  go_wp2_with fail
  have hK : Bk (w.alloc (.cells (wrA k A sn cp W H kn n mo c0 c1 c2 c3 mi) 29)) w.heap.size 29 (wrA k A sn cp W H kn n mo c0 c1 c2 c3 mi) := hL.k 0 (by simp)
  obtain ⟨d0, d1, d2, d3, d4, d5, d6, d7, d8, d9, d10, d11⟩ := hK.cell12
  generalize hw1 : w.alloc (.cells (wrA k A sn cp W H kn n mo c0 c1 c2 c3 mi) 29) = w1 at *
  clear hw1
  have r2 := fun (n : Nat) (os : Array Obj) => cell_regrown d2 n os
  have r3 := fun (n : Nat) (os : Array Obj) => cell_regrown d3 n os
  have r4 := fun (n : Nat) (os : Array Obj) => cell_regrown d4 n os
  have r5 := fun (n : Nat) (os : Array Obj) => cell_regrown d5 n os
  have r6 := fun (n : Nat) (os : Array Obj) => cell_regrown d6 n os
  have r7 := fun (n : Nat) (os : Array Obj) => cell_regrown d7 n os
  have r8 := fun (n : Nat) (os : Array Obj) => cell_regrown d8 n os
  have r9 := fun (n : Nat) (os : Array Obj) => cell_regrown d9 n os
  have r10 := fun (n : Nat) (os : Array Obj) => cell_regrown d10 n os
  refine wp_region_quiet_below (by kernel_rfl) (by kernel_rfl) ?_
  repeat (first
    | go_big_quiet_step ((first | with_reducible exact quiet_below (hS _) | with_reducible exact quiet_eq (hZ _)))
    | quiet_step ((first | with_reducible exact quiet_below (hS _) | with_reducible exact quiet_eq (hZ _))))
  refine wpQuiet_nil ?_
  intro _ hw'
  obtain ⟨⟨d, os⟩, hw''⟩ := hw'
  subst hw''
  have hbx := below_regrown w1 d os
  generalize Go.Sort.grow (redrawn w1 d) os = wx at *
  have hLx := hL.nx hbx
  have hKx := hK.nx hbx
  clear r2 r3 r4 r5 r6 r7 r8 r9 r10 d0 d1 d2 d3 d4 d5 d6 d7 d8 d9 d10 d11 hS hZ hL hK hbx
  obtain ⟨d0, d1, d2, d3, d4, d5, d6, d7, d8, d9, d10, d11⟩ := hKx.cell12
  have hb := hLx.bel
  replace hX := hX wx hb
  have i0 : ∀ w' : World, (Instr.index 52 (.agg #[.int .i64 s1, .int .i64 s2]) (.int .i64 0)).run Tryz.prog w' = .ok (.int .i64 s1) w' := fun w' => by kernel_rfl
  have i1 : ∀ w' : World, (Instr.index 52 (.agg #[.int .i64 s1, .int .i64 s2]) (.int .i64 1)).run Tryz.prog w' = .ok (.int .i64 s2) w' := fun w' => by kernel_rfl
  clear hKx
  go_wp2_with fail
  go_loop [18] (fun i => (i = .int .i64 0) ∨ (i = .int .i64 1 ∧ Hid (s1 = 0)) ∨ (i = .int .i64 2 ∧ Hid (s1 = 0) ∧ Hid (s2 = 0))) (fun i => 3 - (intOf i).toNat)
  case atStart => exact .inl rfl
  case round =>
    rcases hrel with rfl | ⟨rfl, z1⟩ | ⟨rfl, z1, z2⟩
    · by_cases h1 : s1 = 0
      · subst h1
        clear hc
        go_wp2_with fail
        exact ⟨.inr (.inl ⟨rfl, by trivial⟩), by simp [intOf]⟩
      · have HE : Hid (wrC W H kn n mo mi xc = s1) := by
          rcases hc with ⟨_, h⟩ | ⟨h, _⟩ | ⟨h, _⟩ | ⟨h, _⟩ | ⟨h, _⟩
          · exact h
          all_goals exact absurd h h1
        clear hc
        have hb1 : (s1 != 0) = true := by simp [h1]
        clear h1
        go_wp2_with fail
        go_returns
        exact ⟨by rw [HE.out]; rfl, hb⟩
    · by_cases h1 : s2 = 0
      · subst h1
        clear hc
        go_wp2_with fail
        exact ⟨.inr (.inr ⟨rfl, z1, by trivial⟩), by simp [intOf]⟩
      · have HE : Hid (wrC W H kn n mo mi xc = s2) := by
          rcases hc with ⟨h, _⟩ | ⟨_, _, h⟩ | ⟨_, h, _⟩ | ⟨_, h, _⟩ | ⟨_, h, _⟩
          · exact absurd z1.out h
          · exact h
          all_goals exact absurd h h1
        clear hc
        have hb1 : (s2 != 0) = true := by simp [h1]
        clear h1
        go_wp2_with fail
        go_returns
        exact ⟨by rw [HE.out]; rfl, hb⟩
    · rcases hc with ⟨h, _⟩ | ⟨_, h, _⟩ | ⟨_, _, h1, HE⟩ | ⟨_, _, h1, h2, HE⟩ | ⟨_, _, h1, h2, HE⟩
      · exact absurd z1.out h
      · exact absurd z2.out h
      · go_wp2_with fail
        go_returns
        exact ⟨by rw [HE.out]; rfl, hb⟩
      · go_wp2_with fail
        go_returns
        exact ⟨by rw [HE.out]; rfl, hb⟩
      · go_wp2_with fail
        refine hX.mono ?_
        rintro e w2 ⟨rfl, hb2⟩
        go_wp2_with fail
        go_returns
        exact ⟨by rw [HE.out]; rfl, hb.trans (hb2.mono hb.size)⟩
end Go.Proofs.YtencbfmcmpmdnaaGreatDoor
end
section
set_option linter.unusedVariables false
namespace Go.Proofs.YtencbfmcmpmdnaaGreatDoor
open Go.RowKit
def eaC (kn n : Int) : Int := if kn = 1 then 4 else if kn = 2 then 16 else if kn = 3 then 4 * n * n else 1
theorem wr_size : (Tryz.prog.info? 29).map (·.size) = some 12 := by kernel_rfl
theorem smC_zero {kn n mo : Int} : smC kn n mo = 0 ↔ ((0 ≤ kn ∧ kn ≤ 3) ∧ (kn = 3 → 1 ≤ n ∧ n ≤ 8) ∧ 0 ≤ mo ∧ mo ≤ 3) := by
  unfold smC boC
  split
  · split
    · constructor
      · intro h; omega
      · rintro ⟨_, h, _⟩; omega
    · split
      · constructor
        · intro h; omega
        · rintro ⟨_, _, h⟩; omega
      · constructor
        · intro _; exact ⟨by omega, by omega, by omega, by omega⟩
        · intro _; rfl
  · constructor
    · intro h; omega
    · rintro ⟨h, _⟩; omega
theorem msC_zero {W H : Int} : msC W H = 0 ↔ ((1 ≤ W ∧ W ≤ 32768) ∧ (1 ≤ H ∧ H ≤ 32768) ∧ W * H ≤ 4194304) := by
  unfold msC
  split
  · constructor
    · intro h; omega
    · rintro ⟨h, _⟩; omega
  · split
    · constructor
      · intro h; omega
      · rintro ⟨h, _⟩; omega
    · split
      · constructor
        · intro h; omega
        · rintro ⟨_, _, h⟩; omega
      · constructor
        · intro _; exact ⟨by omega, by omega, by omega⟩
        · intro _; rfl
theorem wrC_zero {W H kn n mo mi xc : Int} : wrC W H kn n mo mi xc = 0 ↔ (smC kn n mo = 0 ∧ msC W H = 0 ∧ (0 ≤ mi ∧ mi ≤ 15) ∧ xc = 0) := by
  unfold wrC
  split
  · rename_i h; constructor
    · intro h'; exact absurd h' h
    · rintro ⟨h', _⟩; exact absurd h' h
  · rename_i h; split
    · rename_i h2; constructor
      · intro h'; exact absurd h' h2
      · rintro ⟨_, h', _⟩; exact absurd h' h2
    · rename_i h2; split
      · constructor
        · intro h; omega
        · rintro ⟨_, _, h, _⟩; omega
      · constructor
        · intro h3; exact ⟨by omega, by omega, by omega, h3⟩
        · rintro ⟨_, _, _, h⟩; exact h
theorem ea_bd {kn n : Int} (hn : kn = 3 → 1 ≤ n ∧ n ≤ 8) : 1 ≤ eaC kn n ∧ eaC kn n ≤ 256 := by
  unfold eaC
  split
  · omega
  · split
    · omega
    · split
      · rename_i h
        obtain ⟨n1, n8⟩ := hn h
        have m1 : n * n ≤ 8 * 8 := Int.mul_le_mul n8 n8 (by omega) (by omega)
        have m0 : 1 * 1 ≤ n * n := Int.mul_le_mul n1 n1 (by omega) (by omega)
        rw [Int.mul_assoc]; omega
      · omega
end Go.Proofs.YtencbfmcmpmdnaaGreatDoor
end
section
set_option linter.unusedVariables false
namespace Go.Proofs.YtencbfmcmpmdnaaGreatDoor
open Go.RowKit
set_option maxRecDepth 100000 in
set_option maxHeartbeats 4000000 in
theorem xcheck_aff (l : List Int) (A : Option Addr) (n cp : Nat) (W H : Int) (w : World) (hl : l.length = n) (hr : Rd w w.heap.size A (l.map (Value.int .i64))) (hs : szH W H = true) :
    Calls Tryz.prog 19 #[xfV 1 A n cp, .int .i64 W, .int .i64 H] w fun e w' => e = .returned (.int .i64 (afC l)) ∧ Below w.heap.size w w' := by
  have hb := (Below.refl w.heap.size w).alloc (Nat.le_refl _) (.cells #[.int .i64 1, .slice A n cp] 24)
  have hN := xnew_aff l A n cp W H (w.alloc (.cells #[.int .i64 1, .slice A n cp] 24)) hl ((hr.alloc (Nat.le_refl _) _).more hb.size) hs
  clear hl hr hs
  generalize afC l = C at *
  go_enter Tryz.func19, Tryz.ntmps19
  go_wp2_with fail
  refine hN.mono ?_
  rintro e w1 ⟨p, rfl, _, _, hb1⟩
  go_wp2_with fail
  go_returns
  exact ⟨rfl, hb.trans (hb1.mono hb.size)⟩
theorem al44_wr : wrC 10 10 1 0 0 0 0 = 0 := by decide +kernel
theorem al44_ea : eaC 1 0 = 4 := by decide +kernel
theorem un_C5 : afC unL = 0 := by decide +kernel
theorem sz1010 : szH 10 10 = true := by decide +kernel
end Go.Proofs.YtencbfmcmpmdnaaGreatDoor
end
