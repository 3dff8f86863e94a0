/- Matrices: the adjugate. -/
import Derived.Test.YtlbiiljncacdoaaGreatMt2
import Derived.Deep.MidRow
set_option linter.unusedVariables false
namespace Go.Proofs.YtlbiiljncacdoaaGreat
open Go.RowKit
abbrev wAd (f : Nat → Int) : Array Value := #[.int .i64 (hi6 (f 0)), .int .u64 (lo6 (f 0)), .int .i64 (hi6 (f 1)), .int .u64 (lo6 (f 1)), .int .i64 (hi6 (f 2)), .int .u64 (lo6 (f 2)), .int .i64 (hi6 (f 3)), .int .u64 (lo6 (f 3)), .int .i64 (hi6 (f 4)), .int .u64 (lo6 (f 4)), .int .i64 (hi6 (f 5)), .int .u64 (lo6 (f 5)), .int .i64 (hi6 (f 6)), .int .u64 (lo6 (f 6)), .int .i64 (hi6 (f 7)), .int .u64 (lo6 (f 7)), .int .i64 (hi6 (f 8)), .int .u64 (lo6 (f 8))]
/-- The adjugate's numbers, the first k of them; noughts behind. -/
def adK (m : Nat → Int) (k : Nat) (j : Nat) : Int := if j < k then cof m ((j % 3 : Nat) : Int) ((j / 3 : Nat) : Int) else 0
theorem adK_step (m : Nat → Int) (k : Nat) (hk : k < 9) : ((wAd (adK m k)).setIfInBounds (k * 2) (.int .i64 (hi6 (cof m ((k % 3 : Nat) : Int) ((k / 3 : Nat) : Int))))).setIfInBounds (k * 2 + 1) (.int .u64 (lo6 (cof m ((k % 3 : Nat) : Int) ((k / 3 : Nat) : Int)))) = wAd (adK m (k + 1)) := by
  have h9 : k = 0 ∨ k = 1 ∨ k = 2 ∨ k = 3 ∨ k = 4 ∨ k = 5 ∨ k = 6 ∨ k = 7 ∨ k = 8 := by omega
  rcases h9 with rfl | rfl | rfl | rfl | rfl | rfl | rfl | rfl | rfl <;> rfl
abbrev adZ : Array Value := #[.int .i64 0, .int .u64 0, .int .i64 0, .int .u64 0, .int .i64 0, .int .u64 0, .int .i64 0, .int .u64 0, .int .i64 0, .int .u64 0, .int .i64 0, .int .u64 0, .int .i64 0, .int .u64 0, .int .i64 0, .int .u64 0, .int .i64 0, .int .u64 0]
theorem adZ_eq (m : Nat → Int) : adZ = wAd (adK m 0) := by rfl
theorem ad_info : (Tryz.prog.info? 300).map (·.size) = some 18 := by kernel_rfl
theorem st_two {P : Program} {ops : Array Oper} {rest : List Oper} {o : Oper} {a : Act} {w : World} {Q : Exit → Act → World → Prop} (hgd : o.guard = none) (ty : TypeId) (x y : Operand) (ho : o.op = .store ty x y)
    {g : Nat} {t : TypeId} {old : Array Value} (hK : Bk w g t old) (i : Nat) (hi2 : i + 2 ≤ old.size) (u v : Value) (hx : a.eval x = .pointer (some ⟨g, i, none⟩)) (hy : a.eval y = .agg #[u, v])
    (hi : (P.info? ty).map (·.size) = some 2) (h1 : u.oneCell' = true) (h2 : v.oneCell' = true)
    (h : ∀ w', Bk w' g t ((old.setIfInBounds i u).setIfInBounds (i + 1) v) → w.grownBy w' (some g) → w'.heap.size = w.heap.size → wpList P ops Q rest (a.put o.dst undef) w') : wpList P ops Q (o :: rest) a w := by
  refine wpList_store_mid hgd ty x y ho g i #[u, v] hx hy (fun j hj => ⟨?_, hK.frozen _⟩) hi (by simp [h1, h2]) ?_
  · rw [hK.cell]
    have hj2 : j < 2 := hj
    rw [Array.getElem?_eq_getElem (show i + j < old.size by omega)]
    simp
  · exact h _ ((hK.set i u).set (i + 1) v) (gb_setCell (g := g) (p := ⟨g, i + 1, none⟩) (gb_setCell (g := g) (p := ⟨g, i, none⟩) (World.grownBy.refl w _) (.inl rfl) u) (.inl rfl) v) (by simp [World.setCells, World.setCell])
theorem set_two (w : World) (g o : Nat) (a b : Value) : w.setCells g o [a, b] = (w.setCell ⟨g, o, none⟩ a).setCell ⟨g, o + 1, none⟩ b := by
  simp [World.setCells]
set_option maxRecDepth 100000 in
set_option maxHeartbeats 8000000 in
theorem madj_any (m : Nat → Int) (w : World) (hm : ∀ i, i < 9 → M31 (m i)) :
    Calls Tryz.prog 254 #[.agg (mA m)] w fun e w' => e = .returned (.tuple #[.agg (wAd (adK m 9)), .int .i64 0]) ∧ Below w.heap.size w w' := by
  have HM := Lib.hid hm
  have hR := fun w' => mright_any m w' hm
  have hL := ((Lie.start w).alloc (mA m) 296).alloc adZ 300
  simp only [World.size_alloc] at hL
  clear hm
  go_enter Tryz.func254, Tryz.ntmps254
  go_wp2_with fail
  refine (hR _).mono ?_
  rintro e w1 ⟨rfl, hb1⟩
  replace hL := (hL.nx hb1).alloc adZ 300
  have hz1 : w.heap.size + 1 < w1.heap.size := by have := hb1.size; simp at this; omega
  clear hb1
  have k0 : Bk _ w.heap.size 296 (mA m) := hL.k 2 (by simp)
  obtain ⟨c0, c1, c2, c3, c4, c5, c6, c7, c8⟩ := k0.cell9
  go_wp2_with fail
  clear c0 c1 c2 c3 c4 c5 c6 c7 c8 k0
  rw [adZ_eq m] at hL
  go_loopw [6, 13] (fun _ kv wr => ∃ k : Nat, k ≤ 9 ∧ kv = .int .i64 k ∧ Lie w [(w1.heap.size, 300, wAd (adK m k)), (w.heap.size + 1, 300, adZ), (w.heap.size, 296, mA m)] wr) (fun _ kv _ => 9 - (intOf kv).toNat)
  case atStart => exact ⟨0, by omega, rfl, hL⟩
  case round =>
    clear hL
    obtain ⟨k, hk, rfl, hL⟩ := hrel
    by_cases hlt : k < 9
    · have hcof := fun w' => cof_any m ((k : Int) % 3) ((k : Int) / 3) w' HM.out (by omega) (by omega) (by omega) (by omega)
      have hk0 : (0 : Int) ≤ k := by omega
      have hst := adK_step m k hlt
      have ec1 : (((k % 3 : Nat)) : Int) = (k : Int) % 3 := by omega
      have ec2 : (((k / 3 : Nat)) : Int) = (k : Int) / 3 := by omega
      rw [ec1, ec2] at hst
      have HST := Lib.hid hst
      clear ec1 ec2 hst
      go_wp2_with (first
        | (go_at_call 275; (with_reducible refine (hcof _).mono ?_); rintro e w2 ⟨rfl, hb2⟩; have hL2 := hL.nx hb2; have k4 : Bk w2 w1.heap.size 300 (wAd (adK m k)) := hL2.k 0 (by simp))
        | (refine st_two rfl _ _ _ rfl k4 (k * 2) (by simp; omega) (.int .i64 (hi6 (cof m ((k : Int) % 3) ((k : Int) / 3)))) (.int .u64 (lo6 (cof m ((k : Int) % 3) ((k : Int) / 3)))) rfl rfl wd_size rfl rfl ?_; intro w6 k46 hg6 hs6))
      have hL6 := hL2.set hg6 k46 (by omega) (by intro x hx; simp at hx; rcases hx with rfl | rfl <;> simp <;> omega)
      rw [HST.out] at hL6
      exact ⟨⟨k + 1, by omega, by go_num, hL6⟩, by simp [intOf]; omega⟩
    · obtain rfl : k = 9 := by omega
      have k4 : Bk wr w1.heap.size 300 (wAd (adK m 9)) := hL.k 0 (by simp)
      have k1 : Bk wr (w.heap.size + 1) 300 adZ := hL.k 1 (by simp)
      go_wp2_with (first
        | (refine wpList_load_row rfl _ _ rfl _ rfl _ _ (0, 0) _ k4 Tryz.underlying300 rfl ad_info ?_)
        | (refine stB rfl 300 _ _ rfl k1 (wAd (adK m 9)) rfl rfl ad_info rfl (by simp [Value.oneCell']) ?_; intro w6 k16 hg6 hs6))
      refine bodyPost_ret (res_cell_tmp rfl k16 rfl Tryz.underlying300 rfl ad_info) rfl ?_
      exact ⟨rfl, below_of_gb hL.bel hg6 (by omega) hL.sz⟩
end Go.Proofs.YtlbiiljncacdoaaGreat
