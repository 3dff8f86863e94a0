/- The reference's numbers of any length: quotients of short numbers. -/
import Derived.Test.YtjdboclibinjoaaBigQ
set_option linter.unusedVariables false
namespace Go.Proofs.Ytjdboclibinjoaa
open Go.RowKit
theorem len_one : ([1] : List Int).length = 1 := rfl
theorem norm_one : Norm [1] := ⟨fun d hd => by simp at hd; subst hd; omega, fun d hd => by simp at hd; subst hd; omega⟩
set_option maxRecDepth 100000 in
set_option maxHeartbeats 2000000 in
theorem short_any (va vb : Value) (x y : Int) (w : World) {lo lo' : Nat} (ha : BigN lo w va x) (hb : BigN lo' w vb y) (hy : y ≠ 0) (hsa : (x.natAbs : Int) ≤ 18446744073709551615) (hsb : (y.natAbs : Int) ≤ 18446744073709551615) :
    Calls Try.prog 146 #[va, vb] w fun e w' => ∃ v, e = .returned v ∧ BigN w.heap.size w' v (flo x y) ∧ Below w.heap.size w w' := by
  obtain ⟨s, A, n, c, rfl, hs⟩ := ha.form
  obtain ⟨s', A', n', c', rfl, hs'⟩ := hb.form
  have HS := Lib.hid hs
  have HS' := Lib.hid hs'
  clear hs hs'
  have hq := Int.mul_ediv_add_emod (x.natAbs : Int) (y.natAbs : Int)
  have hr0 := Int.emod_nonneg (x.natAbs : Int) (show (y.natAbs : Int) ≠ 0 by omega)
  have hr1 := Int.emod_lt_of_pos (x.natAbs : Int) (show 0 < (y.natAbs : Int) by omega)
  have hq0 := Int.ediv_nonneg (show (0:Int) ≤ x.natAbs by omega) (show (0:Int) ≤ y.natAbs by omega)
  have hq1 := Int.ediv_le_self (a := (x.natAbs : Int)) (y.natAbs : Int) (by omega)
  rw [Int.mul_comm] at hq
  have HQ := Lib.hid hq
  have HY := Lib.hid hy
  clear hq hy
  have hy1 : (1:Int) ≤ y.natAbs := by have := HY.out; omega
  have hx0 : (0:Int) ≤ x.natAbs := by omega
  generalize hX : (x.natAbs : Int) = X at *
  generalize hY : (y.natAbs : Int) = Y at *
  have HX := Lib.hid hX
  have HYY := Lib.hid hY
  clear hX hY
  have hb0 : Below w.heap.size w (((w.alloc (Obj.cells #[Value.bool s, Value.slice A n c] 150)).alloc (Obj.cells #[Value.bool s', Value.slice A' n' c'] 150)).alloc (Obj.cells #[Value.bool false, Value.slice none 0 0] 150)) := by go_grown
  have ha1 := ha.nx hb0
  have hb1 := hb.nx hb0
  have hz0 : w.heap.size + 1 + 1 + 1 = (((w.alloc (Obj.cells #[Value.bool s, Value.slice A n c] 150)).alloc (Obj.cells #[Value.bool s', Value.slice A' n' c'] 150)).alloc (Obj.cells #[Value.bool false, Value.slice none 0 0] 150)).heap.size := by simp
  have hK0 := ((Bk.new w 150 #[.bool s, .slice A n c]).alloc (.cells #[Value.bool s', Value.slice A' n' c'] 150)).alloc (.cells #[Value.bool false, Value.slice none 0 0] 150)
  have hK1 := (Bk.new (w.alloc (.cells #[.bool s, .slice A n c] 150)) 150 #[Value.bool s', Value.slice A' n' c']).alloc (.cells #[Value.bool false, Value.slice none 0 0] 150)
  have hK2 := Bk.new ((w.alloc (.cells #[.bool s, .slice A n c] 150)).alloc (.cells #[Value.bool s', Value.slice A' n' c'] 150)) 150 #[Value.bool false, Value.slice none 0 0]
  simp only [World.size_alloc] at hK1 hK2
  go_enter Try.func146, Try.ntmps146
  have HZ0 := Lib.hid hz0
  clear hz0
  go_wp2_with fail
  refine (unsigned_any _ x _ ha1 (by rw [HX.out]; omega)).mono ?_
  rintro e w1 ⟨rfl, hbx⟩
  rw [HX.out]
  have hb2 := hb1.nx hbx
  have hK0' := hK0.nx hbx
  have hK1' := hK1.nx hbx
  have hK2' := hK2.nx hbx
  obtain ⟨q10, q11⟩ := hK1'.cell2
  go_wp2_with fail
  refine (unsigned_any _ y _ hb2 (by rw [HYY.out]; omega)).mono ?_
  rintro e w2 ⟨rfl, hby⟩
  rw [HYY.out]
  have hb01 := hb0.trans (hbx.mono (by rw [← HZ0.out]; omega))
  have hK0'' := hK0'.nx hby
  have hK1'' := hK1'.nx hby
  have hK2'' := hK2'.nx hby
  go_wp2_with fail
  refine (uns_any (X / Y) _ hq0 (by omega)).mono ?_
  rintro e w3 ⟨v3, rfl, ⟨A3, c3, l3, rfl, g2, g3, g4, g5, g6, g7⟩, hb3⟩
  have hL0 := hK0''.nx hb3
  have hL1 := hK1''.nx hb3
  have hL2 := hK2''.nx hb3
  obtain ⟨q00, q01⟩ := hL0.cell2
  obtain ⟨q10, q11⟩ := hL1.cell2
  have hl2 := hL2.lt
  have hz1 := hbx.size
  have hz2 := hby.size
  have hz3 := hb3.size
  have hbW : Below w.heap.size w w3 := (hb01.trans (hby.mono (by rw [← HZ0.out] at hz1; omega))).trans (hb3.mono (by rw [← HZ0.out] at hz1; omega))
  have g7' : vd l3 = X / Y := by rw [g7]; omega
  have G7 := Lib.hid g7'
  rw [← HZ0.out] at hz1
  clear g7 g7' hK0' hK0'' hK1' hK1'' hK2' hK2'' hb2 hb1 ha1 hb0 hbx hby hb01
  have hneg : decide (X / Y < 0) = false := by simp; omega
  rw [hneg]
  clear hneg
  have hnz := norm_zero g6
  rw [G7.out] at hnz
  have HNZ := Lib.hid hnz
  clear hnz
  by_cases hss : s = s'
  · have HF : Hid (flo x y = X / Y) := by show _ = _; rw [← HX.out, ← HYY.out]; exact flo_same HY.out (by rw [← HS.out, ← HS'.out, hss])
    subst hss
    go_wp2_with (first
      | (go_at_call 144; (with_reducible refine (made_big _ _ _ _ _).mono ?_); rintro e w5 ⟨rfl, hb5⟩; have hK5 := hL2.nx hb5)
      | (refine stBig rfl _ _ rfl hK5 rfl rfl rfl ?_; intro w6 hK6 hg6 hs6))
    refine bodyPost_ret (res_big rfl hK6 rfl) rfl ?_
    have hz5 := hb5.size
    have hneg : decide (flo x y < 0) = false := by rw [HF.out]; simp; omega
    refine ⟨_, rfl, ⟨A3, c3, l3, by rw [hneg] <;> simp, g2, g3, g4, ?_, g6, by rw [G7.out, HF.out]; omega⟩, below_of_gb (hbW.trans (hb5.mono (by omega))) hg6 (by omega) (by omega)⟩
    exact ((g5.below hb5 (Nat.le_refl _)).grown hg6 (fun g e => .inl (by injection e with e; omega))).less (by omega)
  · have hsb : (s == s') = false := by simpa using hss
    have hsx : decide (x < 0) ≠ decide (y < 0) := by rw [← HS.out, ← HS'.out]; exact hss
    have hfl := flo_diff HY.out hsx (q := X / Y) (r := X % Y) (by rw [HX.out, HYY.out]; exact HQ.out.symm) hr0 (by rw [HYY.out]; exact hr1)
    have HF := Lib.hid hfl
    clear hfl hsx hss
    by_cases hrz : X % Y = 0
    · have HRZ := Lib.hid hrz
      have hrb : (X % Y == 0) = true := by simpa using hrz
      clear hrz
      go_wp2_with (first
        | (go_at_call 144; (with_reducible refine (made_big _ _ _ _ _).mono ?_); rintro e w5 ⟨rfl, hb5⟩; have hK5 := hL2.nx hb5)
        | (refine stBig rfl _ _ rfl hK5 rfl rfl rfl ?_; intro w6 hK6 hg6 hs6))
      refine bodyPost_ret (res_big rfl hK6 rfl) rfl ?_
      have hz5 := hb5.size
      have hf := HF.out
      rw [if_pos HRZ.out] at hf
      have hneg : decide (0 < l3.length) = decide (flo x y < 0) := by
        rw [hf]
        by_cases hm : l3 = []
        · have := HNZ.out.1 hm; rw [hm]; simp; omega
        · have h1 := List.length_pos_iff.2 hm
          have h2 : X / Y ≠ 0 := fun e => hm (HNZ.out.2 e)
          simp [h1] <;> omega
      refine ⟨_, rfl, ⟨A3, c3, l3, by rw [← hneg] <;> simp, g2, g3, g4, ?_, g6, by rw [G7.out, hf]; omega⟩, below_of_gb (hbW.trans (hb5.mono (by omega))) hg6 (by omega) (by omega)⟩
      exact ((g5.below hb5 (Nat.le_refl _)).grown hg6 (fun g e => .inl (by injection e with e; omega))).less (by omega)
    · have HRZ := Lib.hid hrz
      have hrb : (X % Y == 0) = false := by simpa using hrz
      clear hrz
      have hlen3 : l3.length ≤ 5 := norm_len g6 (by rw [G7.out]; have := Bp5
                                                    omega)
      have ok3 := g6.1
      have ok1 := norm_one.1
      have hr3 : RdI (w3.alloc (.cells #[.int .i64 1] 3)) (w3.alloc (.cells #[.int .i64 1] 3)).heap.size A3 l3 := (g5.rd.alloc (Nat.le_refl _) _).more (by simp)
      have hr4 : RdI (w3.alloc (.cells #[.int .i64 1] 3)) (w3.alloc (.cells #[.int .i64 1] 3)).heap.size (some ⟨w3.heap.size, 0, none⟩) [1] := fun k hk => by
        simp at hk
        subst hk
        exact ⟨w3.heap.size, 0, rfl, by simp, by simp⟩
      go_wp2_with (first
        | (go_at_call 150; (with_reducible refine (sum_any l3 [1] _ _ _ 1 _ _ _ rfl len_one (by omega) (by omega) ok3 ok1 hr3 hr4).mono ?_); rintro e w4 ⟨v4, rfl, ⟨A5, c5, l5, rfl, k2, k3, k4, k5, k6, k7⟩, hb4⟩; have hK4 := (hL2.alloc (.cells #[.int .i64 1] 3)).nx hb4)
        | (go_at_call 144; (with_reducible refine (made_big _ _ _ _ _).mono ?_); rintro e w5 ⟨rfl, hb5⟩; have hK5 := hK4.nx hb5)
        | (refine stBig rfl _ _ rfl hK5 rfl rfl rfl ?_; intro w6 hK6 hg6 hs6))
      refine bodyPost_ret (res_big rfl hK6 rfl) rfl ?_
      have hz4 := hb4.size
      simp only [World.size_alloc] at hz4
      have hz5 := hb5.size
      have hf := HF.out
      rw [if_neg HRZ.out] at hf
      have hv5 : vd l5 = X / Y + 1 := by rw [k7, G7.out]; simp [vd]
      have hpos : 0 < l5.length := by
        rcases Nat.eq_zero_or_pos l5.length with e | e
        · have := (norm_zero k6).1 (List.eq_nil_of_length_eq_zero e); omega
        · exact e
      have hneg : decide (flo x y < 0) = true := by rw [hf]; simp; omega
      refine ⟨_, rfl, ⟨A5, c5, l5, by rw [hneg] <;> simp [hpos], k2, k3, k4, ?_, k6, by rw [hv5, hf]; omega⟩, below_of_gb (((hbW.alloc (by omega) _).trans (hb4.mono (by simp; omega))).trans (hb5.mono (by omega))) hg6 (by omega) (by omega)⟩
      exact ((k5.below hb5 (Nat.le_refl _)).grown hg6 (fun g e => .inl (by injection e with e; simp; omega))).less (by simp; omega)
end Go.Proofs.Ytjdboclibinjoaa
