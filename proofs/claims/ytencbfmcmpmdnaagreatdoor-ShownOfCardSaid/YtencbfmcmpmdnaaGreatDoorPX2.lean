/- xform: New and At of the kind homog, by its package's own. (Printed by wip/tools/genpx.py.) -/
import Derived.Test.YtencbfmcmpmdnaaGreatDoorPX
set_option linter.unusedVariables false
namespace Go.Proofs.YtencbfmcmpmdnaaGreatDoor
open Go.RowKit
set_option maxRecDepth 100000 in
set_option maxHeartbeats 4000000 in
theorem xm_homog (A : Option Addr) (n cp : Nat) (W H C : Int) (F G E : Int → Int → Int → Int) (q : Nat) (w : World) (hK : Bk w q 92 #[.int .i64 2, .int .i64 W, .int .i64 H, .nilFunc])
    (hN : ∀ w', Below w.heap.size w w' → Calls Tryz.prog 108 #[.slice A n cp, .int .i64 W, .int .i64 H] w' fun e w'' => ∃ p, e = .returned (.tuple #[.pointer p, .int .i64 C]) ∧ PkR 109 C F G E w' w'' p ∧ Below w'.heap.size w' w'') :
    Calls Tryz.prog 77 #[.pointer (some ⟨q, 0, none⟩), .slice A n cp] w fun e w' => ∃ p, e = .returned (.tuple #[.func (.func 109) #[.pointer p] #[], .int .i64 C]) ∧ PkR 109 C F G E w w' p ∧ Below w.heap.size w w' := by
  have hR := Below.refl w.heap.size w
  obtain ⟨c0, c1, c2, c3⟩ := hK.cell4
  have hN' := hN w.drew hR.drew
  have hN0 := hN w hR
  clear c0 c3 hK hN
  go_enter Tryz.func77, Tryz.ntmps77
  go_wp2_with fail
  go_region_with ((go_at_call 108; (with_reducible refine hN'.mono ?_); rintro e w1 ⟨p, rfl, hP, hb'⟩))
  all_goals
    have hb : Below w.heap.size w w1 := hR.drew.trans (hb'.mono (Nat.le_refl _))
    go_wp2_with fail
    go_returns
    exact ⟨p, rfl, hP, hb⟩
set_option maxRecDepth 100000 in
set_option maxHeartbeats 8000000 in
theorem newMp_homog (A : Option Addr) (n cp : Nat) (W H C : Int) (F G E : Int → Int → Int → Int) (w0 : World) (hs : szH W H = true)
    (hN : ∀ w', Below w0.heap.size w0 w' → Calls Tryz.prog 108 #[.slice A n cp, .int .i64 W, .int .i64 H] w' fun e w'' => ∃ p, e = .returned (.tuple #[.pointer p, .int .i64 C]) ∧ PkR 109 C F G E w' w'' p ∧ Below w'.heap.size w' w'') :
    NewMp 2 A n cp W H w0 C F G E := by
  intro w hb0
  obtain ⟨⟨s0, s1⟩, s2, s3⟩ := szH_iff.1 hs
  have hL := ((Lie.start w).alloc #[.int .i64 2, .slice A n cp] 24).alloc #[.int .i64 2, .int .i64 W, .int .i64 H, .nilFunc] 92
  simp only [World.size_alloc] at hL
  have hd : decide (1 ≤ (2 : Int) ∧ (2 : Int) ≤ 6) = true := by decide
  clear hs
  go_enter Tryz.func31, Tryz.ntmps31
  go_wp2_with (first
    | (go_at_call 50; (with_reducible refine (xis_any _ _).mono ?_); rintro e w' ⟨rfl, rfl⟩; rw [hd]))
  generalize hw1 : (w.alloc (.cells #[.int .i64 2, .slice A n cp] 24)).alloc (.cells #[.int .i64 2, .int .i64 W, .int .i64 H, .nilFunc] 92) = w1 at *
  have kt : Bk w1 w.heap.size 24 #[.int .i64 2, .slice A n cp] := hL.k 1 (by simp)
  have km1 : Bk w1 (w.heap.size + 1) 92 #[.int .i64 2, .int .i64 W, .int .i64 H, .nilFunc] := hL.k 0 (by simp)
  have hlt := kt.lt
  obtain ⟨c0, c1⟩ := kt.cell2
  have hsz := hL.sz
  have hAf := fun (w' : World) (hb : Below w1.heap.size w1 w') => xm_homog A n cp W H C F G E (w.heap.size + 1) w' (km1.nx hb) (fun w'' hb'' => hN w'' (((hb0.trans (hL.bel.mono hb0.size)).trans (hb.mono (Nat.le_trans hb0.size hsz))).trans (hb''.mono (Nat.le_trans (Nat.le_trans hb0.size hsz) hb.size))))
  clear hw1 hN
  have c0d : w1.drew.cell? ⟨w.heap.size, 0, none⟩ = some (.int .i64 2) := c0
  go_region_with (first
      | (go_at_call 51; (with_reducible refine (kinds_blk _).mono ?_); rintro e wk ⟨rfl, hKk, hbk'⟩; have hbk : Below w1.heap.size w1 wk := Below.trans (by go_grown) (hbk'.mono (by first | exact Nat.le_refl _ | simp)); have kc := hKk.cell 8; simp at kc; have d0 := (hbk.cell (p := ⟨w.heap.size, 0, none⟩) hlt).trans c0; have d1 := (hbk.cell (p := ⟨w.heap.size, 1, none⟩) hlt).trans c1)
      | (go_at_call 77; (with_reducible refine (hAf _ (by exact hbk)).mono ?_); rintro e wa ⟨p, rfl, hR, hba'⟩; have hba : Below w1.heap.size w1 wa := hbk.trans (hba'.mono hbk.size)))
  all_goals
    have hLa := hL.nx hba
    have km : Bk wa (w.heap.size + 1) 92 #[.int .i64 2, .int .i64 W, .int .i64 H, .nilFunc] := hLa.k 0 (by simp)
    have hlt2 : w.heap.size + 1 < w1.heap.size := km1.lt
    have hkz := hbk.size
    have hbw := hLa.bel
    have hwaz := hba'.size
    clear hL hLa hAf kt km1 c0 c1 hd hba' hKk kc
    by_cases h1 : C = 0
    · obtain ⟨g, rfl, hg, hAt⟩ := hR h1
      obtain ⟨d0, d1, d2, d3⟩ := km.cell4
      have f3 := km.frozen 3
      have kM := km.set 3 (.func (.func 109) #[.pointer (some ⟨g, 0, none⟩)] #[])
      simp only [List.setIfInBounds_toArray, List.set_cons_zero, List.set_cons_succ] at kM
      have hbf := hbw.setCell (p := ⟨w.heap.size + 1, 3, none⟩) (by simp) (.func (.func 109) #[.pointer (some ⟨g, 0, none⟩)] #[])
      have hMp : MapFn w.heap.size (wa.setCell ⟨w.heap.size + 1, 3, none⟩ (.func (.func 109) #[.pointer (some ⟨g, 0, none⟩)] #[])).heap.size (wa.setCell ⟨w.heap.size + 1, 3, none⟩ (.func (.func 109) #[.pointer (some ⟨g, 0, none⟩)] #[])) (some ⟨w.heap.size + 1, 0, none⟩) F G E := by
        trivial
      subst h1
      clear hR hg hkz km hAt
      go_wp2_with fail
      go_returns
      first
        | exact ⟨_, rfl, ⟨hMp, _, rfl, Nat.le_succ _, _, kM⟩, hbf⟩
        | exact ⟨_, rfl, fun h => absurd rfl h, fun _ => ⟨hMp, _, rfl, Nat.le_succ _, _, kM⟩, hbf⟩
    · have hb : (C != 0) = true := by simp [h1]
      have hne := Lib.hid h1
      clear hR h1 km
      go_wp2_with fail
      go_returns
      exact ⟨none, rfl, fun _ => rfl, fun h => absurd h hne.out, hbw⟩
end Go.Proofs.YtencbfmcmpmdnaaGreatDoor
