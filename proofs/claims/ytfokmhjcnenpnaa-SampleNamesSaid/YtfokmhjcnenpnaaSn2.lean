/- The kernel of a name. -/
import Derived.Test.YtfokmhjcnenpnaaSn1
import Derived.Test.YtfokmhjcnenpnaaLie
set_option linter.unusedVariables false
namespace Go.Proofs.Ytfokmhjcnenpnaa
open Go.RowKit
def eqS (x s : ByteArray) : Bool := x.toList == s.toList
theorem named1_any (x s : ByteArray) (f h : Value) (b : Nat) (w : World) (hb : b < w.heap.size) (hc : w.cell? ⟨b, 0, none⟩ = some (.string s)) :
    Calls Try.prog 24 #[.agg #[.string x, f, h], .pointer (some ⟨b, 0, none⟩)] w fun e w' => e = .returned (.bool (eqS x s)) ∧ Below w.heap.size w w' := by
  go_enter Try.func24, Try.ntmps24
  go_wp2
  go_returns
  exact ⟨ret_bool rfl, by go_grown⟩
def nmS (k : Nat) : ByteArray := match k with | 0 => sNear | 1 => sLinear | 2 => sCubic | _ => sSuper
def idxR (s : ByteArray) : Int := if eqS sNear s = true then 0 else if eqS sLinear s = true then 1 else if eqS sCubic s = true then 2 else if eqS sSuper s = true then 3 else -1
set_option maxRecDepth 100000 in
set_option maxHeartbeats 4000000 in
theorem index_any (s : ByteArray) (g b : Nat) (w : World) (hb : b < w.heap.size) (hc : w.cell? ⟨b, 0, none⟩ = some (.string s)) (hK : Bk w g 63 kerA) :
    Calls Try.prog 23 #[.slice (some ⟨g, 0, none⟩) 4 4, .func (.func 24) #[] #[.pointer (some ⟨b, 0, none⟩)]] w fun e w' => e = .returned (.int .i64 (idxR s)) ∧ Below w.heap.size w w' := by
  go_enter Try.func23, Try.ntmps23
  go_wp2_with fail
  go_loopw [8] (fun v wr => ∃ k : Nat, k ≤ 4 ∧ v = .int .i64 k ∧ Below w.heap.size w wr ∧ Hid (∀ i, i < k → eqS (nmS i) s = false)) (fun v _ => 4 - (intOf v).toNat)
  case atStart => exact ⟨0, by omega, rfl, Below.refl _ _, by intro i hi; omega⟩
  case round =>
    obtain ⟨k, hk, rfl, hbr, hall⟩ := hrel
    by_cases hlt : k < 4
    · have h4 : k = 0 ∨ k = 1 ∨ k = 2 ∨ k = 3 := by omega
      have hKr := hK.nx hbr
      have hcr := (hbr.cell (p := ⟨b, 0, none⟩) hb).trans hc
      have hbr2 : b < wr.heap.size := Nat.lt_of_lt_of_le hb hbr.size
      have hcl := hKr.cell
      have c0 := hcl 0
      have c1 := hcl 1
      have c2 := hcl 2
      have c3 := hcl 3
      have c4 := hcl 4
      have c5 := hcl 5
      have c6 := hcl 6
      have c7 := hcl 7
      have c8 := hcl 8
      have c9 := hcl 9
      have c10 := hcl 10
      have c11 := hcl 11
      simp at c0 c1 c2 c3 c4 c5 c6 c7 c8 c9 c10 c11
      clear hcl
      rcases h4 with rfl | rfl | rfl | rfl
      · cases he : eqS sNear s
        · go_wp2_with (refine (named1_any sNear s _ _ b _ (by exact hbr2) (by exact hcr)).mono ?_; rintro e w1 ⟨rfl, hb1⟩; rw [he])
          refine ⟨⟨1, by omega, rfl, hbr.trans (hb1.mono hbr.size), ?_⟩, by simp [intOf]⟩
          intro i hi
          by_cases hi2 : i = 0
          · subst hi2; exact he
          · exact hall.out i (by omega)
        · have HR : Hid (idxR s = 0) := by show _ = _; unfold idxR; rw [if_pos he]
          go_wp2_with (refine (named1_any sNear s _ _ b _ (by exact hbr2) (by exact hcr)).mono ?_; rintro e w1 ⟨rfl, hb1⟩; rw [he])
          go_returns
          exact ⟨by rw [HR.out]; rfl, hbr.trans (hb1.mono hbr.size)⟩
      · cases he : eqS sLinear s
        · go_wp2_with (refine (named1_any sLinear s _ _ b _ (by exact hbr2) (by exact hcr)).mono ?_; rintro e w1 ⟨rfl, hb1⟩; rw [he])
          refine ⟨⟨2, by omega, rfl, hbr.trans (hb1.mono hbr.size), ?_⟩, by simp [intOf]⟩
          intro i hi
          by_cases hi2 : i = 1
          · subst hi2; exact he
          · exact hall.out i (by omega)
        · have HR : Hid (idxR s = 1) := by show _ = _; unfold idxR; rw [if_neg (by have := hall.out 0 (by omega); rw [show nmS 0 = sNear from rfl] at this; rw [this]; simp)]; rw [if_pos he]
          go_wp2_with (refine (named1_any sLinear s _ _ b _ (by exact hbr2) (by exact hcr)).mono ?_; rintro e w1 ⟨rfl, hb1⟩; rw [he])
          go_returns
          exact ⟨by rw [HR.out]; rfl, hbr.trans (hb1.mono hbr.size)⟩
      · cases he : eqS sCubic s
        · go_wp2_with (refine (named1_any sCubic s _ _ b _ (by exact hbr2) (by exact hcr)).mono ?_; rintro e w1 ⟨rfl, hb1⟩; rw [he])
          refine ⟨⟨3, by omega, rfl, hbr.trans (hb1.mono hbr.size), ?_⟩, by simp [intOf]⟩
          intro i hi
          by_cases hi2 : i = 2
          · subst hi2; exact he
          · exact hall.out i (by omega)
        · have HR : Hid (idxR s = 2) := by show _ = _; unfold idxR; rw [if_neg (by have := hall.out 0 (by omega); rw [show nmS 0 = sNear from rfl] at this; rw [this]; simp)]; rw [if_neg (by have := hall.out 1 (by omega); rw [show nmS 1 = sLinear from rfl] at this; rw [this]; simp)]; rw [if_pos he]
          go_wp2_with (refine (named1_any sCubic s _ _ b _ (by exact hbr2) (by exact hcr)).mono ?_; rintro e w1 ⟨rfl, hb1⟩; rw [he])
          go_returns
          exact ⟨by rw [HR.out]; rfl, hbr.trans (hb1.mono hbr.size)⟩
      · cases he : eqS sSuper s
        · go_wp2_with (refine (named1_any sSuper s _ _ b _ (by exact hbr2) (by exact hcr)).mono ?_; rintro e w1 ⟨rfl, hb1⟩; rw [he])
          refine ⟨⟨4, by omega, rfl, hbr.trans (hb1.mono hbr.size), ?_⟩, by simp [intOf]⟩
          intro i hi
          by_cases hi2 : i = 3
          · subst hi2; exact he
          · exact hall.out i (by omega)
        · have HR : Hid (idxR s = 3) := by show _ = _; unfold idxR; rw [if_neg (by have := hall.out 0 (by omega); rw [show nmS 0 = sNear from rfl] at this; rw [this]; simp)]; rw [if_neg (by have := hall.out 1 (by omega); rw [show nmS 1 = sLinear from rfl] at this; rw [this]; simp)]; rw [if_neg (by have := hall.out 2 (by omega); rw [show nmS 2 = sCubic from rfl] at this; rw [this]; simp)]; rw [if_pos he]
          go_wp2_with (refine (named1_any sSuper s _ _ b _ (by exact hbr2) (by exact hcr)).mono ?_; rintro e w1 ⟨rfl, hb1⟩; rw [he])
          go_returns
          exact ⟨by rw [HR.out]; rfl, hbr.trans (hb1.mono hbr.size)⟩
    · obtain rfl : k = 4 := by omega
      have HR : Hid (idxR s = -1) := by show _ = _; unfold idxR; rw [if_neg (by have := hall.out 0 (by omega); rw [show nmS 0 = sNear from rfl] at this; rw [this]; simp)]; rw [if_neg (by have := hall.out 1 (by omega); rw [show nmS 1 = sLinear from rfl] at this; rw [this]; simp)]; rw [if_neg (by have := hall.out 2 (by omega); rw [show nmS 2 = sCubic from rfl] at this; rw [this]; simp)]; rw [if_neg (by have := hall.out 3 (by omega); rw [show nmS 3 = sSuper from rfl] at this; rw [this]; simp)]
      go_wp2_with fail
      go_returns
      exact ⟨by rw [HR.out]; rfl, hbr⟩
theorem idxR_bd (s : ByteArray) : -1 ≤ idxR s ∧ idxR s ≤ 3 := by unfold idxR; repeat' split
                                                                 all_goals omega
set_option maxRecDepth 100000 in
set_option maxHeartbeats 4000000 in
theorem named_any (s : ByteArray) (w : World) : Calls Try.prog 5 #[.string s] w fun e w' => e = .returned (.tuple #[.int .i64 (max (idxR s) 0), .bool (decide (0 ≤ idxR s))]) ∧ Below w.heap.size w w' := by
  have hbd := idxR_bd s
  have hbz := (Below.refl w.heap.size w).alloc (Nat.le_refl _) (.cells #[.string s] 9)
  have hS := Bk.new w 9 #[.string s]
  go_enter Try.func5, Try.ntmps5
  go_wp2_with fail
  refine (kernels_any _).mono ?_
  rintro e w1 ⟨rfl, hb1⟩
  replace hbz := hbz.trans (hb1.mono hbz.size)
  replace hS := hS.nx hb1
  clear hb1
  have hK0 := Bk.new w1 63 #[.string ⟨#[]⟩, .nilFunc, .nilFunc, .string ⟨#[]⟩, .nilFunc, .nilFunc, .string ⟨#[]⟩, .nilFunc, .nilFunc, .string ⟨#[]⟩, .nilFunc, .nilFunc]
  have hS0 := hS.alloc (.cells #[.string ⟨#[]⟩, .nilFunc, .nilFunc, .string ⟨#[]⟩, .nilFunc, .nilFunc, .string ⟨#[]⟩, .nilFunc, .nilFunc, .string ⟨#[]⟩, .nilFunc, .nilFunc] 63)
  have hbz0 := hbz.alloc hbz.size (.cells #[.string ⟨#[]⟩, .nilFunc, .nilFunc, .string ⟨#[]⟩, .nilFunc, .nilFunc, .string ⟨#[]⟩, .nilFunc, .nilFunc, .string ⟨#[]⟩, .nilFunc, .nilFunc] 63)
  have hlt := hS.lt
  go_wp2_with (first
    | (refine stB (ty := 63) (cells := kerA) rfl _ _ rfl hK0 rfl rfl ker_size rfl (by simp [Value.oneCell']) ?_; intro w2 hK2 hg2 hs2; have hS2 := hS0.grown hg2 (by intro e; injection e with e; omega); have hbz2 := below_of_gb hbz0 hg2 hbz.size hbz0.size)
    | (go_at_call 23; (with_reducible refine (index_any s _ _ _ (by exact hS2.lt) (by exact hS2.cell1) (by exact hK2)).mono ?_); rintro e w3 ⟨rfl, hb3⟩))
  all_goals
    go_returns
    exact ⟨ret_v2 (val_int (by show _ = max (idxR s) 0; first | (simp; omega) | omega)) rfl, hbz2.trans (hb3.mono hbz2.size)⟩
end Go.Proofs.Ytfokmhjcnenpnaa
