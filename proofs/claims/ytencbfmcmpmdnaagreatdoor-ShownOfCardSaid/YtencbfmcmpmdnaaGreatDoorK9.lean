/- Several texts in one: xform: New, of an affine one. xform: New of none; At of an affine one; Whole. -/
import Derived.Test.YtencbfmcmpmdnaaGreatDoorK5
import Derived.Test.YtencbfmcmpmdnaaGreatDoorNP
import Derived.Laws.EntriesVeiled
section
set_option linter.unusedVariables false
namespace Go.Proofs.YtencbfmcmpmdnaaGreatDoor
open Go.RowKit
theorem kinds_blk (w : World) : Calls Tryz.prog 51 #[] w fun e w' => e = .returned (.slice (some ⟨w.heap.size, 0, none⟩) 7 7) ∧ Bk w' w.heap.size 96 kiA ∧ Below w.heap.size w w' :=
  (kinds_any w).mono fun e w' ⟨h1, h2⟩ => ⟨h1, by rw [← h2]; exact Bk.new w _ _, by rw [← h2]; exact (Below.refl _ _).alloc (Nat.le_refl _) _⟩
set_option maxRecDepth 100000 in
set_option maxHeartbeats 4000000 in
theorem xaff_any (l : List Int) (A : Option Addr) (n cp : Nat) (m : Value) (w : World) {B : Nat} (hl : l.length = n) (hr : Rd w B A (l.map (Value.int .i64))) (hB : B ≤ w.heap.size) :
    Calls Tryz.prog 76 #[m, .slice A n cp] w fun e w' => ∃ p, e = .returned (.tuple #[.func (.func 107) #[.pointer p] #[], .int .i64 (afC l)]) ∧ AfR l w w' p ∧ Below w.heap.size w w' := by
  have hA := anew_any l A n cp w hl hr hB
  clear hl hr
  go_enter Tryz.func76, Tryz.ntmps76
  go_wp2_with fail
  refine hA.mono ?_
  rintro e w1 ⟨p, rfl, hR, hb⟩
  go_wp2_with fail
  go_returns
  exact ⟨p, rfl, hR, hb⟩
/-- A map's cells. -/
abbrev xfA (k W H : Int) (F g : Nat) : Array Value := #[.int .i64 k, .int .i64 W, .int .i64 H, .func (.func F) #[.pointer (some ⟨g, 0, none⟩)] #[]]
set_option maxRecDepth 100000 in
set_option maxHeartbeats 8000000 in
theorem xnew_aff (l : List Int) (A : Option Addr) (n cp : Nat) (W H : Int) (w : World) (hl : l.length = n) (hr : Rd w w.heap.size A (l.map (Value.int .i64))) (hs : szH W H = true) :
    Calls Tryz.prog 31 #[xfV 1 A n cp, .int .i64 W, .int .i64 H] w fun e w' => ∃ p, e = .returned (.tuple #[.pointer p, .int .i64 (afC l)]) ∧ (afC l ≠ 0 → p = none) ∧ (afC l = 0 → ∃ q g, p = some ⟨q, 0, none⟩ ∧ w.heap.size ≤ q ∧ Bk w' q 92 (xfA 1 W H 107 g) ∧ w.heap.size ≤ g ∧ Bk w' g 187 (afA l)) ∧ Below w.heap.size w w' := by
  obtain ⟨⟨s0, s1⟩, s2, s3⟩ := szH_iff.1 hs
  have hL := ((Lie.start w).alloc #[.int .i64 1, .slice A n cp] 24).alloc #[.int .i64 1, .int .i64 W, .int .i64 H, .nilFunc] 92
  simp only [World.size_alloc] at hL
  have hd : decide (1 ≤ (1 : Int) ∧ (1 : Int) ≤ 6) = true := by decide
  clear hs
  go_enter Tryz.func31, Tryz.ntmps31
  go_wp2_with (first
    | (go_at_call 50; (with_reducible refine (xis_any _ _).mono ?_); rintro e w' ⟨rfl, rfl⟩; rw [hd]))
  generalize hw1 : (w.alloc (.cells #[.int .i64 1, .slice A n cp] 24)).alloc (.cells #[.int .i64 1, .int .i64 W, .int .i64 H, .nilFunc] 92) = w1 at *
  have kt : Bk w1 w.heap.size 24 #[.int .i64 1, .slice A n cp] := hL.k 1 (by simp)
  have hlt := kt.lt
  obtain ⟨c0, c1⟩ := kt.cell2
  have hsz := hL.sz
  have hAf := fun (m : Value) (w' : World) (hb : Below w1.heap.size w1 w') => xaff_any l A n cp m w' hl (hL.rd hr (Nat.le_refl _) |>.below' hb hsz) (Nat.le_trans hsz hb.size)
  clear hw1
  have c0d : w1.drew.cell? ⟨w.heap.size, 0, none⟩ = some (.int .i64 1) := c0
  go_region_with (first
      | (go_at_call 51; (with_reducible refine (kinds_blk _).mono ?_); rintro e wk ⟨rfl, hKk, hbk'⟩; have hbk : Below w1.heap.size w1 wk := Below.trans (by go_grown) (hbk'.mono (by first | exact Nat.le_refl _ | simp)); have kc := hKk.cell 5; simp at kc; have d0 := (hbk.cell (p := ⟨w.heap.size, 0, none⟩) hlt).trans c0; have d1 := (hbk.cell (p := ⟨w.heap.size, 1, none⟩) hlt).trans c1)
      | (go_at_call 76; (with_reducible refine (hAf _ _ (by exact hbk)).mono ?_); rintro e wa ⟨p, rfl, hR, hba'⟩; have hba : Below w1.heap.size w1 wa := hbk.trans (hba'.mono hbk.size)))
  all_goals
    have hLa := hL.nx hba
    have km : Bk wa (w.heap.size + 1) 92 #[.int .i64 1, .int .i64 W, .int .i64 H, .nilFunc] := hLa.k 0 (by simp)
    have hlt2 : w.heap.size + 1 < w1.heap.size := (hL.k 0 (by simp)).lt
    have hkz := hbk.size
    have hbw := hLa.bel
    have hR1 := hR.1
    have hR2 := hR.2
    clear hL hLa hAf kt c0 c1 hl hr hd hba' hKk kc hR
    by_cases h1 : afC l = 0
    · obtain ⟨g, rfl, hg, hKg⟩ := hR2 h1
      obtain ⟨d0, d1, d2, d3⟩ := km.cell4
      have f3 := km.frozen 3
      have kM := km.set 3 (.func (.func 107) #[.pointer (some ⟨g, 0, none⟩)] #[])
      simp only [List.setIfInBounds_toArray, List.set_cons_zero, List.set_cons_succ] at kM
      have hg2 : w1.heap.size ≤ g := by first | exact Nat.le_trans hkz hg | (simp at hg; omega)
      have kG := hKg.far (p := ⟨w.heap.size + 1, 3, none⟩) (by simp; omega) (.func (.func 107) #[.pointer (some ⟨g, 0, none⟩)] #[])
      have hbf := hbw.setCell (p := ⟨w.heap.size + 1, 3, none⟩) (by simp) (.func (.func 107) #[.pointer (some ⟨g, 0, none⟩)] #[])
      rw [h1]
      have HZ := Lib.hid h1
      clear hR1 hR2 h1 hg hkz hKg km
      go_wp2_with fail
      go_returns
      exact ⟨_, by rw [HZ.out]; rfl, fun h => absurd HZ.out h, fun _ => ⟨_, g, rfl, Nat.le_succ _, kM, by omega, kG⟩, hbf⟩
    · obtain ⟨c, hc⟩ : ∃ c, afC l = c := ⟨_, rfl⟩
      rw [hc] at h1 ⊢
      have hb : (c != 0) = true := by simp [h1]
      have hne := Lib.hid h1
      have HC := Lib.hid hc
      clear hR1 hR2 h1 km hc
      go_wp2_with fail
      go_returns
      exact ⟨none, by rw [HC.out]; rfl, fun _ => rfl, fun h => absurd (HC.out.symm.trans h) hne.out, hbw⟩
end Go.Proofs.YtencbfmcmpmdnaaGreatDoor
end
section
set_option linter.unusedVariables false
namespace Go.Proofs.YtencbfmcmpmdnaaGreatDoor
open Go.RowKit
set_option maxRecDepth 100000 in
set_option maxHeartbeats 4000000 in
theorem xnew_kind (k : Int) (A : Option Addr) (n cp : Nat) (W H : Int) (w : World) (hk : ¬ (1 ≤ k ∧ k ≤ 6)) :
    Calls Tryz.prog 31 #[xfV k A n cp, .int .i64 W, .int .i64 H] w fun e w' => e = .returned (.tuple #[.pointer none, .int .i64 10]) ∧ Below w.heap.size w w' := by
  have hd : decide (1 ≤ k ∧ k ≤ 6) = false := decide_eq_false hk
  have hb := (Below.refl w.heap.size w).alloc (Nat.le_refl _) (.cells #[.int .i64 k, .slice A n cp] 24)
  clear hk
  go_enter Tryz.func31, Tryz.ntmps31
  go_wp2_with (first
    | (go_at_call 50; (with_reducible refine (xis_any _ _).mono ?_); rintro e w' ⟨rfl, rfl⟩; rw [hd]))
  go_returns
  exact ⟨rfl, hb⟩
set_option maxRecDepth 100000 in
set_option maxHeartbeats 4000000 in
theorem xnew_size (k : Int) (A : Option Addr) (n cp : Nat) (W H : Int) (w : World) (hk : 1 ≤ k ∧ k ≤ 6) (hs : szH W H = false) :
    Calls Tryz.prog 31 #[xfV k A n cp, .int .i64 W, .int .i64 H] w fun e w' => e = .returned (.tuple #[.pointer none, .int .i64 30]) ∧ Below w.heap.size w w' := by
  have hd : decide (1 ≤ k ∧ k ≤ 6) = true := decide_eq_true hk
  have hb := (Below.refl w.heap.size w).alloc (Nat.le_refl _) (.cells #[.int .i64 k, .slice A n cp] 24)
  rcases sz_cases W H with ⟨h, _⟩ | ⟨_, hc⟩
  · rw [hs] at h; cases h
  clear hk hs
  rcases hc with h0 | ⟨h0, h1⟩ | ⟨h0, h1, h2⟩ | ⟨h0, h1, h2, h3⟩
  all_goals
    go_enter Tryz.func31, Tryz.ntmps31
    go_wp2_with (first
      | (go_at_call 50; (with_reducible refine (xis_any _ _).mono ?_); rintro e w' ⟨rfl, rfl⟩; rw [hd]))
    go_returns
    exact ⟨rfl, hb⟩
def unL : List Int := [65536, 0, 0, 0, 65536, 0]
end Go.Proofs.YtencbfmcmpmdnaaGreatDoor
end
