/- xform: the kind of a name. -/
import Derived.Test.YtlbiiljncacdoaaGreatX8
import Derived.Test.YtlbiiljncacdoaaGreatLie
set_option linter.unusedVariables false
namespace Go.Proofs.YtlbiiljncacdoaaGreat
open Go.RowKit
def eqS (x s : ByteArray) : Bool := x.toList == s.toList
set_option maxRecDepth 100000 in
theorem xn1_any (x s : ByteArray) (f : FuncId) (n : Int) (b : Nat) (w : World) (hb : b < w.heap.size) (hc : w.cell? ⟨b, 0, none⟩ = some (.string s)) :
    Calls Tryz.prog 72 #[.agg #[.string x, .int .i64 n, .func (.func f) #[] #[]], .pointer (some ⟨b, 0, none⟩)] w fun e w' => e = .returned (.bool (eqS x s)) ∧ Below w.heap.size w w' := by
  have hq0 := neq_func (.func f) #[] #[]
  go_enter Tryz.func72, Tryz.ntmps72
  go_wp2
  go_returns
  exact ⟨ret_bool rfl, by go_grown⟩
set_option maxRecDepth 100000 in
theorem xn0_any (x s : ByteArray) (n : Int) (b : Nat) (w : World) (hb : b < w.heap.size) (hc : w.cell? ⟨b, 0, none⟩ = some (.string s)) :
    Calls Tryz.prog 72 #[.agg #[.string x, .int .i64 n, .nilFunc], .pointer (some ⟨b, 0, none⟩)] w fun e w' => e = .returned (.bool false) ∧ Below w.heap.size w w' := by
  have hq0 := neq_func0
  go_enter Tryz.func72, Tryz.ntmps72
  go_wp2
  go_returns
  exact ⟨ret_bool rfl, by go_grown⟩
def idxK (s : ByteArray) : Int := if eqS sAffine s = true then 1 else if eqS sHomog s = true then 2 else if eqS sLens s = true then 3 else if eqS sMesh s = true then 4 else if eqS sShear s = true then 5 else if eqS sTurn s = true then 6 else -1
def nmK (k : Nat) : ByteArray := match k with | 1 => sAffine | 2 => sHomog | 3 => sLens | 4 => sMesh | 5 => sShear | 6 => sTurn | _ => ⟨#[]⟩
set_option maxRecDepth 100000 in
set_option maxHeartbeats 8000000 in
theorem xindex_any (s : ByteArray) (b g : Nat) (w : World) (hb : b < w.heap.size) (hc : w.cell? ⟨b, 0, none⟩ = some (.string s)) (hK : Bk w g 127 kiA) :
    Calls Tryz.prog 70 #[.slice (some ⟨g, 0, none⟩) 7 7, .func (.func 72) #[] #[.pointer (some ⟨b, 0, none⟩)]] w fun e w' => e = .returned (.int .i64 (idxK s)) ∧ Below w.heap.size w w' := by
  go_enter Tryz.func70, Tryz.ntmps70
  go_wp2_with fail
  go_loopw [8] (fun v wr => ∃ k : Nat, k ≤ 7 ∧ v = .int .i64 k ∧ Below w.heap.size w wr ∧ Hid (∀ i, 1 ≤ i → i < k → eqS (nmK i) s = false)) (fun v _ => 7 - (intOf v).toNat)
  case atStart => exact ⟨0, by omega, rfl, Below.refl _ _, by intro i h1 hi; omega⟩
  case round =>
    obtain ⟨k, hk, rfl, hbr, hall⟩ := hrel
    by_cases hlt : k < 7
    · have h4 : k = 0 ∨ k = 1 ∨ k = 2 ∨ k = 3 ∨ k = 4 ∨ k = 5 ∨ k = 6 := by omega
      have hKr := hK.nx hbr
      have hcr := (hbr.cell (p := ⟨b, 0, none⟩) hb).trans hc
      have hbr2 : b < wr.heap.size := Nat.lt_of_lt_of_le hb hbr.size
      have hcl := hKr.cell
      have c0 := hcl 0
      have c1 := hcl 1
      have c2 := hcl 2
      have c3 := hcl 3
      have c4 := hcl 4
      have c5 := hcl 5
      have c6 := hcl 6
      have c7 := hcl 7
      have c8 := hcl 8
      have c9 := hcl 9
      have c10 := hcl 10
      have c11 := hcl 11
      have c12 := hcl 12
      have c13 := hcl 13
      have c14 := hcl 14
      have c15 := hcl 15
      have c16 := hcl 16
      have c17 := hcl 17
      have c18 := hcl 18
      have c19 := hcl 19
      have c20 := hcl 20
      simp at c0 c1 c2 c3 c4 c5 c6 c7 c8 c9 c10 c11 c12 c13 c14 c15 c16 c17 c18 c19 c20
      clear hcl hc hK hKr
      rcases h4 with rfl | rfl | rfl | rfl | rfl | rfl | rfl
      · go_wp2_with (refine (xn0_any _ s _ b _ (by exact hbr2) (by exact hcr)).mono ?_; rintro e w1 ⟨rfl, hb1⟩)
        refine ⟨⟨1, by omega, rfl, hbr.trans (hb1.mono hbr.size), ?_⟩, by simp [intOf]⟩
        intro i h1 hi
        omega
      · cases he : eqS sAffine s
        · go_wp2_with (refine (xn1_any sAffine s _ _ b _ (by exact hbr2) (by exact hcr)).mono ?_; rintro e w1 ⟨rfl, hb1⟩; rw [he])
          refine ⟨⟨2, by omega, rfl, hbr.trans (hb1.mono hbr.size), ?_⟩, by simp [intOf]⟩
          intro i h1 hi
          by_cases hi2 : i = 1
          · subst hi2; exact he
          · exact hall.out i h1 (by omega)
        · have HR : Hid (idxK s = 1) := by show _ = _; unfold idxK; rw [if_pos he]
          go_wp2_with (refine (xn1_any sAffine s _ _ b _ (by exact hbr2) (by exact hcr)).mono ?_; rintro e w1 ⟨rfl, hb1⟩; rw [he])
          go_returns
          exact ⟨by rw [HR.out]; rfl, hbr.trans (hb1.mono hbr.size)⟩
      · cases he : eqS sHomog s
        · go_wp2_with (refine (xn1_any sHomog s _ _ b _ (by exact hbr2) (by exact hcr)).mono ?_; rintro e w1 ⟨rfl, hb1⟩; rw [he])
          refine ⟨⟨3, by omega, rfl, hbr.trans (hb1.mono hbr.size), ?_⟩, by simp [intOf]⟩
          intro i h1 hi
          by_cases hi2 : i = 2
          · subst hi2; exact he
          · exact hall.out i h1 (by omega)
        · have HR : Hid (idxK s = 2) := by show _ = _; unfold idxK; rw [if_neg (by have := hall.out 1 (by omega) (by omega); rw [show nmK 1 = sAffine from rfl] at this; rw [this]; simp)]; rw [if_pos he]
          go_wp2_with (refine (xn1_any sHomog s _ _ b _ (by exact hbr2) (by exact hcr)).mono ?_; rintro e w1 ⟨rfl, hb1⟩; rw [he])
          go_returns
          exact ⟨by rw [HR.out]; rfl, hbr.trans (hb1.mono hbr.size)⟩
      · cases he : eqS sLens s
        · go_wp2_with (refine (xn1_any sLens s _ _ b _ (by exact hbr2) (by exact hcr)).mono ?_; rintro e w1 ⟨rfl, hb1⟩; rw [he])
          refine ⟨⟨4, by omega, rfl, hbr.trans (hb1.mono hbr.size), ?_⟩, by simp [intOf]⟩
          intro i h1 hi
          by_cases hi2 : i = 3
          · subst hi2; exact he
          · exact hall.out i h1 (by omega)
        · have HR : Hid (idxK s = 3) := by show _ = _; unfold idxK; rw [if_neg (by have := hall.out 1 (by omega) (by omega); rw [show nmK 1 = sAffine from rfl] at this; rw [this]; simp)]; rw [if_neg (by have := hall.out 2 (by omega) (by omega); rw [show nmK 2 = sHomog from rfl] at this; rw [this]; simp)]; rw [if_pos he]
          go_wp2_with (refine (xn1_any sLens s _ _ b _ (by exact hbr2) (by exact hcr)).mono ?_; rintro e w1 ⟨rfl, hb1⟩; rw [he])
          go_returns
          exact ⟨by rw [HR.out]; rfl, hbr.trans (hb1.mono hbr.size)⟩
      · cases he : eqS sMesh s
        · go_wp2_with (refine (xn1_any sMesh s _ _ b _ (by exact hbr2) (by exact hcr)).mono ?_; rintro e w1 ⟨rfl, hb1⟩; rw [he])
          refine ⟨⟨5, by omega, rfl, hbr.trans (hb1.mono hbr.size), ?_⟩, by simp [intOf]⟩
          intro i h1 hi
          by_cases hi2 : i = 4
          · subst hi2; exact he
          · exact hall.out i h1 (by omega)
        · have HR : Hid (idxK s = 4) := by show _ = _; unfold idxK; rw [if_neg (by have := hall.out 1 (by omega) (by omega); rw [show nmK 1 = sAffine from rfl] at this; rw [this]; simp)]; rw [if_neg (by have := hall.out 2 (by omega) (by omega); rw [show nmK 2 = sHomog from rfl] at this; rw [this]; simp)]; rw [if_neg (by have := hall.out 3 (by omega) (by omega); rw [show nmK 3 = sLens from rfl] at this; rw [this]; simp)]; rw [if_pos he]
          go_wp2_with (refine (xn1_any sMesh s _ _ b _ (by exact hbr2) (by exact hcr)).mono ?_; rintro e w1 ⟨rfl, hb1⟩; rw [he])
          go_returns
          exact ⟨by rw [HR.out]; rfl, hbr.trans (hb1.mono hbr.size)⟩
      · cases he : eqS sShear s
        · go_wp2_with (refine (xn1_any sShear s _ _ b _ (by exact hbr2) (by exact hcr)).mono ?_; rintro e w1 ⟨rfl, hb1⟩; rw [he])
          refine ⟨⟨6, by omega, rfl, hbr.trans (hb1.mono hbr.size), ?_⟩, by simp [intOf]⟩
          intro i h1 hi
          by_cases hi2 : i = 5
          · subst hi2; exact he
          · exact hall.out i h1 (by omega)
        · have HR : Hid (idxK s = 5) := by show _ = _; unfold idxK; rw [if_neg (by have := hall.out 1 (by omega) (by omega); rw [show nmK 1 = sAffine from rfl] at this; rw [this]; simp)]; rw [if_neg (by have := hall.out 2 (by omega) (by omega); rw [show nmK 2 = sHomog from rfl] at this; rw [this]; simp)]; rw [if_neg (by have := hall.out 3 (by omega) (by omega); rw [show nmK 3 = sLens from rfl] at this; rw [this]; simp)]; rw [if_neg (by have := hall.out 4 (by omega) (by omega); rw [show nmK 4 = sMesh from rfl] at this; rw [this]; simp)]; rw [if_pos he]
          go_wp2_with (refine (xn1_any sShear s _ _ b _ (by exact hbr2) (by exact hcr)).mono ?_; rintro e w1 ⟨rfl, hb1⟩; rw [he])
          go_returns
          exact ⟨by rw [HR.out]; rfl, hbr.trans (hb1.mono hbr.size)⟩
      · cases he : eqS sTurn s
        · go_wp2_with (refine (xn1_any sTurn s _ _ b _ (by exact hbr2) (by exact hcr)).mono ?_; rintro e w1 ⟨rfl, hb1⟩; rw [he])
          refine ⟨⟨7, by omega, rfl, hbr.trans (hb1.mono hbr.size), ?_⟩, by simp [intOf]⟩
          intro i h1 hi
          by_cases hi2 : i = 6
          · subst hi2; exact he
          · exact hall.out i h1 (by omega)
        · have HR : Hid (idxK s = 6) := by show _ = _; unfold idxK; rw [if_neg (by have := hall.out 1 (by omega) (by omega); rw [show nmK 1 = sAffine from rfl] at this; rw [this]; simp)]; rw [if_neg (by have := hall.out 2 (by omega) (by omega); rw [show nmK 2 = sHomog from rfl] at this; rw [this]; simp)]; rw [if_neg (by have := hall.out 3 (by omega) (by omega); rw [show nmK 3 = sLens from rfl] at this; rw [this]; simp)]; rw [if_neg (by have := hall.out 4 (by omega) (by omega); rw [show nmK 4 = sMesh from rfl] at this; rw [this]; simp)]; rw [if_neg (by have := hall.out 5 (by omega) (by omega); rw [show nmK 5 = sShear from rfl] at this; rw [this]; simp)]; rw [if_pos he]
          go_wp2_with (refine (xn1_any sTurn s _ _ b _ (by exact hbr2) (by exact hcr)).mono ?_; rintro e w1 ⟨rfl, hb1⟩; rw [he])
          go_returns
          exact ⟨by rw [HR.out]; rfl, hbr.trans (hb1.mono hbr.size)⟩
    · obtain rfl : k = 7 := by omega
      have HR : Hid (idxK s = -1) := by show _ = _; unfold idxK; rw [if_neg (by have := hall.out 1 (by omega) (by omega); rw [show nmK 1 = sAffine from rfl] at this; rw [this]; simp)]; rw [if_neg (by have := hall.out 2 (by omega) (by omega); rw [show nmK 2 = sHomog from rfl] at this; rw [this]; simp)]; rw [if_neg (by have := hall.out 3 (by omega) (by omega); rw [show nmK 3 = sLens from rfl] at this; rw [this]; simp)]; rw [if_neg (by have := hall.out 4 (by omega) (by omega); rw [show nmK 4 = sMesh from rfl] at this; rw [this]; simp)]; rw [if_neg (by have := hall.out 5 (by omega) (by omega); rw [show nmK 5 = sShear from rfl] at this; rw [this]; simp)]; rw [if_neg (by have := hall.out 6 (by omega) (by omega); rw [show nmK 6 = sTurn from rfl] at this; rw [this]; simp)]
      go_wp2_with fail
      go_returns
      exact ⟨by rw [HR.out]; rfl, hbr⟩
theorem idxK_bd (s : ByteArray) : -1 ≤ idxK s ∧ idxK s ≤ 6 := by
  unfold idxK
  repeat' split
  all_goals omega
set_option maxRecDepth 100000 in
set_option maxHeartbeats 4000000 in
theorem xnamed_any (s : ByteArray) (w : World) : Calls Tryz.prog 15 #[.string s] w fun e w' => e = .returned (.tuple #[.int .i64 (max (idxK s) 0), .bool (decide (0 ≤ idxK s))]) ∧ Below w.heap.size w w' := by
  have hbd := idxK_bd s
  have hL := ((Lie.start w).alloc #[.string s] 9).alloc kiA 127
  simp only [World.size_alloc] at hL
  have hX := fun w' hb hc hK => xindex_any s w.heap.size (w.heap.size + 1) w' hb hc hK
  go_enter Tryz.func15, Tryz.ntmps15
  go_wp2_with fail
  refine (kinds_any _).mono ?_
  rintro e w1 ⟨rfl, hw1⟩
  rw [hw1] at hL
  clear hw1
  have k0 := hL.k 1 (by simp)
  have hS : w1.cell? ⟨w.heap.size, 0, none⟩ = some (.string s) := k0.cell1
  have hlt : w.heap.size < w1.heap.size := k0.lt
  have hK : Bk w1 (w.heap.size + 1) 127 kiA := hL.k 0 (by simp)
  clear k0
  go_wp2_with (go_at_call 70; (with_reducible refine (hX _ (by exact hlt) (by exact hS) (by exact hK)).mono ?_); rintro e w3 ⟨rfl, hb3⟩)
  all_goals
    go_returns
    exact ⟨ret_v2 (val_int (by show _ = max (idxK s) 0; first | (simp; omega) | omega)) rfl, (hL.nx hb3).bel⟩
/-- The law's own search. -/
def wK (s : ByteArray) : Nat → Int × Bool
  | 0 => (0, false)
  | k + 1 => if (s.toList == (xnm ((k : Int) + 1)).toList) = true then ((k : Int) + 1, true) else wK s k
theorem eq_sym (x s : ByteArray) : (s.toList == x.toList) = eqS x s := by
  unfold eqS
  rw [Bool.eq_iff_iff]; simp only [beq_iff_eq]; exact eq_comm
theorem eqS_ne {x y s : ByteArray} (h : eqS x s = true) (hne : (x.toList == y.toList) = false) : eqS y s = false := by
  unfold eqS at *
  cases hy : (y.toList == s.toList)
  · rfl
  · rw [beq_iff_eq] at h hy
    rw [h, ← hy] at hne
    simp at hne
theorem wK_eq (s : ByteArray) : wK s 6 = (max (idxK s) 0, decide (0 ≤ idxK s)) := by
  show (if (s.toList == (xnm ((5 : Nat) + 1 : Int)).toList) = true then (((5 : Nat) : Int) + 1, true) else if (s.toList == (xnm ((4 : Nat) + 1 : Int)).toList) = true then (((4 : Nat) : Int) + 1, true) else if (s.toList == (xnm ((3 : Nat) + 1 : Int)).toList) = true then (((3 : Nat) : Int) + 1, true) else if (s.toList == (xnm ((2 : Nat) + 1 : Int)).toList) = true then (((2 : Nat) : Int) + 1, true) else if (s.toList == (xnm ((1 : Nat) + 1 : Int)).toList) = true then (((1 : Nat) : Int) + 1, true) else if (s.toList == (xnm ((0 : Nat) + 1 : Int)).toList) = true then (((0 : Nat) : Int) + 1, true) else ((0 : Int), false)) = _
  rw [show xnm ((5 : Nat) + 1 : Int) = sTurn from rfl, show xnm ((4 : Nat) + 1 : Int) = sShear from rfl, show xnm ((3 : Nat) + 1 : Int) = sMesh from rfl, show xnm ((2 : Nat) + 1 : Int) = sLens from rfl, show xnm ((1 : Nat) + 1 : Int) = sHomog from rfl, show xnm ((0 : Nat) + 1 : Int) = sAffine from rfl]
  rw [eq_sym, eq_sym, eq_sym, eq_sym, eq_sym, eq_sym]
  unfold idxK
  cases h0 : eqS sAffine s
  · cases h1 : eqS sHomog s
    · cases h2 : eqS sLens s
      · cases h3 : eqS sMesh s
        · cases h4 : eqS sShear s
          · cases h5 : eqS sTurn s
            · simp <;> rfl
            · simp <;> rfl
          · rw [eqS_ne h4 (y := sTurn) (by decide +kernel)]; simp <;> rfl
        · rw [eqS_ne h3 (y := sTurn) (by decide +kernel), eqS_ne h3 (y := sShear) (by decide +kernel)]; simp <;> rfl
      · rw [eqS_ne h2 (y := sTurn) (by decide +kernel), eqS_ne h2 (y := sShear) (by decide +kernel), eqS_ne h2 (y := sMesh) (by decide +kernel)]; simp <;> rfl
    · rw [eqS_ne h1 (y := sTurn) (by decide +kernel), eqS_ne h1 (y := sShear) (by decide +kernel), eqS_ne h1 (y := sMesh) (by decide +kernel), eqS_ne h1 (y := sLens) (by decide +kernel)]; simp <;> rfl
  · rw [eqS_ne h0 (y := sTurn) (by decide +kernel), eqS_ne h0 (y := sShear) (by decide +kernel), eqS_ne h0 (y := sMesh) (by decide +kernel), eqS_ne h0 (y := sLens) (by decide +kernel), eqS_ne h0 (y := sHomog) (by decide +kernel)]; simp <;> rfl
set_option maxHeartbeats 1000000 in
theorem alive24 (w : World) : Calls Tryz.prog 22 #[] w fun e w' => e = .returned (.bool true) ∧ Below w.heap.size w w' := by
  have hn := fun w' : World => (xname_any 3 w').mono (R' := fun e w'' => e = .returned (.string sLens) ∧ Below w'.heap.size w' w'') (fun e w'' ⟨h1, h2⟩ => ⟨h1, h2⟩)
  have he : (sLens.toList == [108, 101, 110, 115]) = true := by decide +kernel
  go_enter Tryz.func22, Tryz.ntmps22
  go_wp2_with (refine (hn _).mono ?_; rintro e w1 ⟨rfl, hb1⟩)
  go_returns
  exact ⟨rfl, hb1⟩
end Go.Proofs.YtlbiiljncacdoaaGreat
