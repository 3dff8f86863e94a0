/- turn: quarters of a turn, and mirrors: what is wrong, and what it is. -/
import Derived.Test.YtlbiiljncacdoaaGreatX4
set_option linter.unusedVariables false
namespace Go.Proofs.YtlbiiljncacdoaaGreat
open Go.RowKit
def tuC (l : List Int) : Int := if l.length ≠ 3 then 12 else if cf l 0 < 0 ∨ 7 < cf l 0 then 10 else if cf l 1 < 1 ∨ 32768 < cf l 1 ∨ cf l 2 < 1 ∨ 32768 < cf l 2 then 30 else 0
structure TuOk (l : List Int) : Prop where
  len : l.length = 3
  q : 0 ≤ cf l 0 ∧ cf l 0 ≤ 7
  w : 1 ≤ cf l 1 ∧ cf l 1 ≤ 32768
  h : 1 ≤ cf l 2 ∧ cf l 2 ≤ 32768
theorem tuC_zero {l : List Int} : tuC l = 0 ↔ TuOk l := by
  unfold tuC
  constructor
  · intro h
    by_cases h1 : l.length = 3
    · rw [if_neg (by omega)] at h
      split at h
      · omega
      · split at h
        · omega
        · exact ⟨h1, by omega, by omega, by omega⟩
    · rw [if_pos h1] at h; omega
  · rintro ⟨h1, h2, h3, h4⟩
    rw [if_neg (by omega), if_neg (by omega), if_neg (by omega)]
theorem tu_cases (a b c : Int) : (a < 0) ∨ (0 ≤ a ∧ 7 < a) ∨ (0 ≤ a ∧ a ≤ 7 ∧ b < 1) ∨ (0 ≤ a ∧ a ≤ 7 ∧ 1 ≤ b ∧ 32768 < b) ∨ (0 ≤ a ∧ a ≤ 7 ∧ 1 ≤ b ∧ b ≤ 32768 ∧ c < 1) ∨ (0 ≤ a ∧ a ≤ 7 ∧ 1 ≤ b ∧ b ≤ 32768 ∧ 1 ≤ c ∧ 32768 < c) ∨ (0 ≤ a ∧ a ≤ 7 ∧ 1 ≤ b ∧ b ≤ 32768 ∧ 1 ≤ c ∧ c ≤ 32768) := by omega
set_option maxRecDepth 100000 in
set_option maxHeartbeats 8000000 in
theorem tcheck_any (l : List Int) (A : Option Addr) (n cp : Nat) (w : World) {B : Nat} (hl : l.length = n) (hr : Rd w B A (l.map (Value.int .i64))) :
    (Calls Tryz.prog 238 #[.slice A n cp] w fun e w' => e = .returned (.int .i64 (tuC l)) ∧ w = w') ∧ Calls Tryz.prog 80 #[.slice A n cp] w fun e w' => e = .returned (.int .i64 (tuC l)) ∧ w = w' := by
  by_cases hn : n = 3
  · subst hn
    obtain ⟨b, o, rfl, hb, c0, hc⟩ := lget hl (by decide) hr
    have c1 := hc 1 (by decide)
    have c2 := hc 2 (by decide)
    have HR : Hid (tuC l = if cf l 0 < 0 ∨ 7 < cf l 0 then 10 else if cf l 1 < 1 ∨ 32768 < cf l 1 ∨ cf l 2 < 1 ∨ 32768 < cf l 2 then 30 else 0) := by
      show _ = _; unfold tuC; rw [if_neg (by omega)]
    clear hc hl hr
    generalize cf l 0 = x0 at *
    generalize cf l 1 = x1 at *
    generalize cf l 2 = x2 at *
    constructor
    · rcases tu_cases x0 x1 x2 with h0 | ⟨h0, h1⟩ | ⟨h0, h1, h2⟩ | ⟨h0, h1, h2, h3⟩ | ⟨h0, h1, h2, h3, h4⟩ | ⟨h0, h1, h2, h3, h4, h5⟩ | ⟨h0, h1, h2, h3, h4, h5⟩
      all_goals
        go_enter Tryz.func238, Tryz.ntmps238
        go_wp2_with fail
        go_ret
        exact ⟨ret_int (by rw [HR.out]; first | rw [if_pos (by omega)] | rw [if_neg (by omega), if_pos (by omega)] | rw [if_neg (by omega), if_neg (by omega)]), rfl⟩
    · rcases tu_cases x0 x1 x2 with h0 | ⟨h0, h1⟩ | ⟨h0, h1, h2⟩ | ⟨h0, h1, h2, h3⟩ | ⟨h0, h1, h2, h3, h4⟩ | ⟨h0, h1, h2, h3, h4, h5⟩ | ⟨h0, h1, h2, h3, h4, h5⟩
      all_goals
        go_enter Tryz.func80, Tryz.ntmps80
        go_wp2_with fail
        go_ret
        exact ⟨ret_int (by rw [HR.out]; first | rw [if_pos (by omega)] | rw [if_neg (by omega), if_pos (by omega)] | rw [if_neg (by omega), if_neg (by omega)]), rfl⟩
  · have HR : Hid (tuC l = 12) := by show _ = _; unfold tuC; rw [if_pos (by omega)]
    have hnb : ((n : Int) != 3) = true := by rw [bne_iff_ne]; omega
    clear hl hn
    constructor
    · go_enter Tryz.func238, Tryz.ntmps238
      go_wp2_with fail
      all_goals first
        | (go_ret; exact ⟨ret_int HR.out.symm, rfl⟩)
        | (exfalso; omega)
    · go_enter Tryz.func80, Tryz.ntmps80
      go_wp2_with fail
      all_goals first
        | (go_ret; exact ⟨ret_int HR.out.symm, rfl⟩)
        | (exfalso; omega)
def tuA (l : List Int) : Array Value := #[.int .i64 (cf l 0), .int .i64 (cf l 1), .int .i64 (cf l 2)]
def TuR (l : List Int) (w w' : World) (p : Option Addr) : Prop :=
  (tuC l ≠ 0 → p = none) ∧ (tuC l = 0 → ∃ g, p = some ⟨g, 0, none⟩ ∧ w.heap.size ≤ g ∧ Bk w' g 281 (tuA l))
set_option maxRecDepth 100000 in
set_option maxHeartbeats 8000000 in
theorem tnew_any (l : List Int) (A : Option Addr) (n cp : Nat) (w : World) {B : Nat} (hl : l.length = n) (hr : Rd w B A (l.map (Value.int .i64))) (hB : B ≤ w.heap.size) :
    Calls Tryz.prog 186 #[.slice A n cp] w fun e w' => ∃ p, e = .returned (.tuple #[.pointer p, .int .i64 (tuC l)]) ∧ TuR l w w' p ∧ Below w.heap.size w w' := by
  have hC := (tcheck_any l A n cp w hl hr).1
  have hb0 := Below.refl w.heap.size w
  by_cases h1 : tuC l = 0
  · have hlen := (tuC_zero.1 h1).len
    obtain rfl : n = 3 := by rw [← hl]; exact hlen
    rw [h1] at hC
    simp only [TuR, h1]
    obtain ⟨b, o, rfl, hb, c0, hc⟩ := lget hl (by decide) hr
    have c1 := hc 1 (by decide)
    have c2 := hc 2 (by decide)
    unfold tuA
    clear hc hl hr h1 hlen
    generalize cf l 0 = x0 at *
    generalize cf l 1 = x1 at *
    generalize cf l 2 = x2 at *
    go_enter Tryz.func186, Tryz.ntmps186
    go_wp2_with (go_at_call 238; (with_reducible refine hC.mono ?_); rintro e wa ⟨rfl, rfl⟩)
    go_still_tail 10, (by kernel_rfl)
    change wpList _ _ _ _ _ w.drew
    have hb1 : Below w.heap.size w w.drew := below_drewN hb0 1
    have hK := Bk.new w.drew 281 #[.int .i64 x0, .int .i64 x1, .int .i64 x2]
    have hb2 := hb1.alloc hb1.size (.cells #[.int .i64 x0, .int .i64 x1, .int .i64 x2] 281)
    clear c0 c1 c2
    go_wp2_with fail
    go_returns
    exact ⟨_, rfl, ⟨fun h => absurd rfl h, fun _ => ⟨_, rfl, Nat.le_refl _, hK⟩⟩, hb2⟩
  · have hb : (tuC l != 0) = true := by simp [h1]
    have hne := Lib.hid h1
    simp only [TuR]
    clear h1 hl hr
    generalize tuC l = c at *
    go_enter Tryz.func186, Tryz.ntmps186
    go_wp2_with (go_at_call 238; (with_reducible refine hC.mono ?_); rintro e wa ⟨rfl, rfl⟩)
    go_returns
    exact ⟨none, rfl, ⟨fun _ => rfl, fun h => absurd h hne.out⟩, hb0⟩
/-- Where a place comes from, by a turn, in its own parts. -/
def tu0 (q W H x y : Int) : Int := if q % 4 = 1 then y else if q % 4 = 2 then W - x else if q % 4 = 3 then W - y else x
def tuV (q W H x y : Int) : Int := if q % 4 = 1 then H - x else if q % 4 = 2 then H - y else if q % 4 = 3 then x else y
def tuU (q W H x y : Int) : Int := if 3 < q then W - tu0 q W H x y else tu0 q W H x y
abbrev quA : Array Value := #[.func (.func 276) #[] #[], .func (.func 277) #[] #[], .func (.func 278) #[] #[], .func (.func 279) #[] #[]]
theorem qu_size : (Tryz.prog.info? 312).map (·.size) = some 4 := by kernel_rfl
theorem quarters_any (w : World) : Calls Tryz.prog 263 #[] w fun e w' => e = .returned (.agg quA) ∧ Below w.heap.size w w' := by
  have hbz := (Below.refl w.heap.size w).alloc (Nat.le_refl _) (.cells #[.nilFunc, .nilFunc, .nilFunc, .nilFunc] 312)
  have hK := Bk.new w 312 #[.nilFunc, .nilFunc, .nilFunc, .nilFunc]
  go_enter Tryz.func263, Tryz.ntmps263
  go_wp2_with (refine stB (ty := 312) (cells := quA) rfl _ _ rfl hK rfl rfl qu_size rfl (by simp [Value.oneCell']) ?_; intro w' hK' hg' _)
  refine bodyPost_ret (res_cell rfl hK' rfl Tryz.underlying312 rfl qu_size) rfl ?_
  exact ⟨rfl, below_of_gb hbz hg' (Nat.le_refl _) hbz.size⟩
end Go.Proofs.YtlbiiljncacdoaaGreat
