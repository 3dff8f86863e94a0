/- Several texts in one: What xform.New answers of each kind. Codes and answers of any kind of map. What xform.New answers of any kind, and its map. -/
import Derived.Test.YtencbfmcmpmdnaaGreatDoorPX2
import Derived.Test.YtencbfmcmpmdnaaGreatDoorPX3
import Derived.Test.YtencbfmcmpmdnaaGreatDoorPX4
import Derived.Test.YtencbfmcmpmdnaaGreatDoorPX5
import Derived.Test.YtencbfmcmpmdnaaGreatDoorPX6
import Derived.Test.YtencbfmcmpmdnaaGreatDoorKE
import Derived.Test.YtencbfmcmpmdnaaGreatDoorK8
import Derived.Test.YtencbfmcmpmdnaaGreatDoorK5
import Derived.Test.YtencbfmcmpmdnaaGreatDoorK9
section
set_option linter.unusedVariables false
namespace Go.Proofs.YtencbfmcmpmdnaaGreatDoor
open Go.RowKit
theorem pk_hom (l : List Int) (A : Option Addr) (n cp : Nat) (W H : Int) (w : World) (hl : l.length = n) (hcp : n ≤ cp) (hr : Rd w w.heap.size A (l.map (Value.int .i64))) :
    ∀ w', Below w.heap.size w w' → Calls Tryz.prog 108 #[.slice A n cp, .int .i64 W, .int .i64 H] w' fun e w'' => ∃ p, e = .returned (.tuple #[.pointer p, .int .i64 (newC l W H)]) ∧ PkR 109 (newC l W H) (atX (adK (cf l) 9)) (atY (adK (cf l) 9)) (atE (adK (cf l) 9)) w' w'' p ∧ Below w'.heap.size w' w'' := by
  intro w' hb
  refine (new_any l A n cp W H w' hl ((hr.below hb).more hb.size) (Nat.le_refl _) hcp).mono ?_
  rintro e w'' ⟨p, rfl, hR, hb2⟩
  refine ⟨p, rfl, fun hz => ?_, hb2⟩
  obtain ⟨g, rfl, hg, hG⟩ := hR.2 hz
  refine ⟨g, rfl, hg, fun w3 hs3 hk x y d => ?_⟩
  exact hat_any _ g x y d w3 (hG.same (hk g hg hG.lt)) (adOk (newC_zero.1 hz).ok)
def lnF (l : List Int) (px py d : Int) : Int := if leIs l px py d = true then leU l px py d else 0
def lnG (l : List Int) (px py d : Int) : Int := if leIs l px py d = true then leV l px py d else 0
def lnE (l : List Int) (px py d : Int) : Int := if leIs l px py d = true then 0 else 11
theorem leAns_eq (l : List Int) (px py d : Int) : leAns l px py d = .tuple #[.int .i64 (lnF l px py d), .int .i64 (lnG l px py d), .int .i64 (lnE l px py d)] := by
  unfold leAns lnF lnG lnE
  by_cases h : leIs l px py d = true
  · simp [h]
  · simp [h]
theorem pk_lens (l : List Int) (A : Option Addr) (n cp : Nat) (W H : Int) (w : World) (hl : l.length = n) (hcp : n ≤ cp) (hr : Rd w w.heap.size A (l.map (Value.int .i64))) :
    ∀ w', Below w.heap.size w w' → Calls Tryz.prog 110 #[.slice A n cp, .int .i64 W, .int .i64 H] w' fun e w'' => ∃ p, e = .returned (.tuple #[.pointer p, .int .i64 (leC l W H)]) ∧ PkR 111 (leC l W H) (lnF l) (lnG l) (lnE l) w' w'' p ∧ Below w'.heap.size w' w'' := by
  intro w' hb
  refine (lnew_any l A n cp W H w' hl hcp ((hr.below hb).more hb.size) (Nat.le_refl _)).mono ?_
  rintro e w'' ⟨p, rfl, hR, hb2⟩
  refine ⟨p, rfl, fun hz => ?_, hb2⟩
  obtain ⟨g, rfl, hg, hG⟩ := hR.2 hz
  refine ⟨g, rfl, hg, fun w3 hs3 hk x y d => ?_⟩
  have h := leC_zero.1 hz
  have := lat_any l g x y d w3 (hG.same (hk g hg hG.lt)) (rgL_bd h.rg) h.len
  rwa [leAns_eq] at this
theorem pk_mesh (l : List Int) (A : Option Addr) (n cp : Nat) (W H : Int) (w : World) (hl : l.length = n) (hcp : n ≤ cp) (hcm : cp ≤ maxLen) (hr : Rd w w.heap.size A (l.map (Value.int .i64))) :
    ∀ w', Below w.heap.size w w' → Calls Tryz.prog 112 #[.slice A n cp, .int .i64 W, .int .i64 H] w' fun e w'' => ∃ p, e = .returned (.tuple #[.pointer p, .int .i64 (meC l W H)]) ∧ PkR 113 (meC l W H) (meU l) (meVv l) meE w' w'' p ∧ Below w'.heap.size w' w'' := by
  intro w' hb
  have hr' : Rd w' w'.heap.size A (l.map (Value.int .i64)) := (hr.below hb).more hb.size
  have hn : n ≤ 9223372036854775807 := by simp [maxLen] at hcm; omega
  by_cases hz : meC l W H = 0
  · refine (mnew_ok l A n cp W H w' hl hcp hcm (by obtain ⟨q1, q2, _⟩ := ln_K (meC_F hz) (meC_zero.1 hz).2.2.1; omega) hr' (Nat.le_refl _) hz).mono ?_
    rintro e w'' ⟨g, b, o, c, rfl, hg, hbb, hM, hb2⟩
    refine ⟨some ⟨g, 0, none⟩, by rw [hz], fun _ => ⟨g, rfl, hg, fun w3 hs3 hk x y d => ?_⟩, hb2⟩
    exact me_at l g b o c x y d w3 (meC_F hz) (hM.same (hk g hg hM.map.lt) (hk b hbb hM.lt) hs3)
  · refine (mnew_err l A n cp W H w' hl hcp hn hr' (Nat.le_refl _) hz).mono ?_
    rintro e w'' ⟨rfl, hb2⟩
    exact ⟨none, rfl, fun h => absurd h hz, hb2⟩
def shF (l : List Int) (px py d : Int) : Int := if rightH px py d = true then shU l px py d else 0
def shG (l : List Int) (px py d : Int) : Int := if rightH px py d = true then shV l px py d else 0
theorem shAns_eq (l : List Int) (px py d : Int) : shAns l px py d = .tuple #[.int .i64 (shF l px py d), .int .i64 (shG l px py d), .int .i64 (afE px py d)] := by
  unfold shAns shF shG afE
  by_cases h : rightH px py d = true
  · simp [h]
  · simp [h]
theorem pk_shear (l : List Int) (A : Option Addr) (n cp : Nat) (w : World) (hl : l.length = n) (hr : Rd w w.heap.size A (l.map (Value.int .i64))) :
    ∀ w', Below w.heap.size w w' → Calls Tryz.prog 114 #[.slice A n cp] w' fun e w'' => ∃ p, e = .returned (.tuple #[.pointer p, .int .i64 (shC l)]) ∧ PkR 115 (shC l) (shF l) (shG l) afE w' w'' p ∧ Below w'.heap.size w' w'' := by
  intro w' hb
  refine (snew_any l A n cp w' hl ((hr.below hb).more hb.size) (Nat.le_refl _)).mono ?_
  rintro e w'' ⟨p, rfl, hR, hb2⟩
  refine ⟨p, rfl, fun hz => ?_, hb2⟩
  obtain ⟨g, rfl, hg, hG⟩ := hR.2 hz
  refine ⟨g, rfl, hg, fun w3 hs3 hk x y d => ?_⟩
  have := sat_any l g x y d w3 (hG.same (hk g hg hG.lt)) (shC_zero.1 hz).2
  rwa [shAns_eq] at this
def tuF (l : List Int) (px py d : Int) : Int := if rightH px py d = true then 65536 * tuPx l px py d / d else 0
def tuG (l : List Int) (px py d : Int) : Int := if rightH px py d = true then 65536 * tuPy l px py d / d else 0
theorem tuAns_eq (l : List Int) (px py d : Int) : tuAns l px py d = .tuple #[.int .i64 (tuF l px py d), .int .i64 (tuG l px py d), .int .i64 (afE px py d)] := by
  unfold tuAns tuF tuG afE
  by_cases h : rightH px py d = true
  · simp [h]
  · simp [h]
theorem pk_turn (l : List Int) (A : Option Addr) (n cp : Nat) (w : World) (hl : l.length = n) (hr : Rd w w.heap.size A (l.map (Value.int .i64))) :
    ∀ w', Below w.heap.size w w' → Calls Tryz.prog 116 #[.slice A n cp] w' fun e w'' => ∃ p, e = .returned (.tuple #[.pointer p, .int .i64 (tuC l)]) ∧ PkR 117 (tuC l) (tuF l) (tuG l) afE w' w'' p ∧ Below w'.heap.size w' w'' := by
  intro w' hb
  refine (tnew_any l A n cp w' hl ((hr.below hb).more hb.size) (Nat.le_refl _)).mono ?_
  rintro e w'' ⟨p, rfl, hR, hb2⟩
  refine ⟨p, rfl, fun hz => ?_, hb2⟩
  obtain ⟨g, rfl, hg, hG⟩ := hR.2 hz
  refine ⟨g, rfl, hg, fun w3 hs3 hk x y d => ?_⟩
  have := tat_any l g x y d w3 (hG.same (hk g hg hG.lt)) (tuC_zero.1 hz)
  rwa [tuAns_eq] at this
end Go.Proofs.YtencbfmcmpmdnaaGreatDoor
end
section
set_option linter.unusedVariables false
namespace Go.Proofs.YtencbfmcmpmdnaaGreatDoor
open Go.RowKit
/-- the code of a kind's numbers. -/
def xkC (k : Int) (l : List Int) (W H : Int) : Int := if k = 1 then afC l else if k = 2 then newC l W H else if k = 3 then leC l W H else if k = 4 then meC l W H else if k = 5 then shC l else tuC l
def xC (k : Int) (l : List Int) (W H : Int) : Int := if ¬ (1 ≤ k ∧ k ≤ 6) then 10 else if szH W H = false then 30 else xkC k l W H
def xF (k : Int) (l : List Int) : Int → Int → Int → Int := if k = 1 then afX l else if k = 2 then atX (adK (cf l) 9) else if k = 3 then lnF l else if k = 4 then meU l else if k = 5 then shF l else tuF l
def xG (k : Int) (l : List Int) : Int → Int → Int → Int := if k = 1 then afY l else if k = 2 then atY (adK (cf l) 9) else if k = 3 then lnG l else if k = 4 then meVv l else if k = 5 then shG l else tuG l
def xE (k : Int) (l : List Int) : Int → Int → Int → Int := if k = 1 then afE else if k = 2 then atE (adK (cf l) 9) else if k = 3 then lnE l else if k = 4 then meE else afE
end Go.Proofs.YtencbfmcmpmdnaaGreatDoor
end
section
set_option linter.unusedVariables false
namespace Go.Proofs.YtencbfmcmpmdnaaGreatDoor
open Go.RowKit
theorem newMp_any (k : Int) (l : List Int) (A : Option Addr) (n cp : Nat) (W H : Int) (w : World) (hl : l.length = n) (hcp : n ≤ cp) (hcm : cp ≤ maxLen) (hr : Rd w w.heap.size A (l.map (Value.int .i64))) :
    NewMp k A n cp W H w (xC k l W H) (xF k l) (xG k l) (xE k l) := by
  by_cases hk : 1 ≤ k ∧ k ≤ 6
  · cases hs : szH W H
    · have hC : xC k l W H = 30 := by unfold xC; rw [if_neg (by simpa using hk), if_pos hs]
      intro w' hb
      refine (xnew_size k A n cp W H w' hk hs).mono ?_
      rintro e w'' ⟨rfl, hb2⟩
      exact ⟨none, by rw [hC], fun _ => rfl, fun h => absurd (hC.symm.trans h) (by decide), hb2⟩
    · have hC : xC k l W H = xkC k l W H := by unfold xC; rw [if_neg (by simpa using hk), if_neg (by rw [hs]; simp)]
      rw [hC]
      rcases (show k = 1 ∨ k = 2 ∨ k = 3 ∨ k = 4 ∨ k = 5 ∨ k = 6 by omega) with rfl | rfl | rfl | rfl | rfl | rfl
      · exact newMp_aff l A n cp W H w hl hr hs
      · exact newMp_homog A n cp W H _ _ _ _ w hs (pk_hom l A n cp W H w hl hcp hr)
      · exact newMp_lens A n cp W H _ _ _ _ w hs (pk_lens l A n cp W H w hl hcp hr)
      · exact newMp_mesh A n cp W H _ _ _ _ w hs (pk_mesh l A n cp W H w hl hcp hcm hr)
      · exact newMp_shear A n cp W H _ _ _ _ w hs (pk_shear l A n cp w hl hr)
      · exact newMp_turn A n cp W H _ _ _ _ w hs (pk_turn l A n cp w hl hr)
  · have hC : xC k l W H = 10 := by unfold xC; rw [if_pos hk]
    intro w' hb
    refine (xnew_kind k A n cp W H w' hk).mono ?_
    rintro e w'' ⟨rfl, hb2⟩
    exact ⟨none, by rw [hC], fun _ => rfl, fun h => absurd (hC.symm.trans h) (by decide), hb2⟩
theorem newIs_any (k : Int) (l : List Int) (A : Option Addr) (n cp : Nat) (W H : Int) (w : World) (hl : l.length = n) (hcp : n ≤ cp) (hcm : cp ≤ maxLen) (hr : Rd w w.heap.size A (l.map (Value.int .i64))) :
    NewIs k A n cp W H w (xC k l W H) (xF k l) (xG k l) (xE k l) := (newMp_any k l A n cp W H w hl hcp hcm hr).is
end Go.Proofs.YtencbfmcmpmdnaaGreatDoor
end
