/- The reference's numbers beyond a row: what is left, once and twice. -/
import Derived.Test.YthgcfahacoonaaaGreatK6
import Derived.Deep.RegionHeld3
import Derived.Deep.DeepCutAuto
import Derived.RegionTactic
set_option linter.unusedVariables false
namespace Go.Proofs.YthgcfahacoonaaaGreat
open Go.RowKit
theorem flo_mul {i n : Int} (h0 : -9223372036854775808 ≤ i) (h1 : i ≤ 9223372036854775807) (hn : 1 ≤ n) (hn2 : n ≤ 4294967296) :
    flo i n = i / n ∧ i - flo i n * n = i % n ∧ -9223372041149743104 ≤ flo i n * n ∧ flo i n * n ≤ 9223372036854775807 ∧ 0 ≤ i % n ∧ i % n < n ∧ -9223372041149743104 ≤ flo i n ∧ flo i n ≤ 9223372036854775807 := by
  have e := flo_pos i (show 0 < n by omega)
  have h2 := Int.mul_ediv_add_emod i n
  have h3 := Int.emod_nonneg i (show n ≠ 0 by omega)
  have h4 := Int.emod_lt_of_pos i (show 0 < n by omega)
  have h5 : flo i n * n = i - i % n := by rw [e, Int.mul_comm]; omega
  refine ⟨e, by omega, by omega, by omega, h3, h4, ?_, ?_⟩
  · rw [e]
    rcases Int.le_total 0 i with hi | hi
    · have := Int.ediv_nonneg hi (show 0 ≤ n by omega); omega
    · have h6 : 0 ≤ (i / n) * (1 - n) ∨ 0 < i / n := by
        rcases Int.le_total (i / n) 0 with h | h
        · left; exact Int.mul_nonneg_of_nonpos_of_nonpos h (by omega)
        · rcases Int.lt_or_le 0 (i / n) with h' | h'
          · right; exact h'
          · left; have : i / n = 0 := by omega
            rw [this]; simp
      rcases h6 with h6 | h6
      · rw [Int.mul_sub, Int.mul_one] at h6; rw [e] at h5; omega
      · omega
  · rw [e]
    rcases Int.le_total 0 i with hi | hi
    · have := Int.ediv_le_self (b := n) (a := i) hi; omega
    · have : i / n ≤ 0 := by
        rcases Int.lt_or_le 0 (i / n) with h | h
        · have := Int.mul_pos (show 0 < n by omega) h; omega
        · exact h
      omega
theorem keepDx {w w' : World} {B b p q : Nat} {u v : Value} (h1 : w.cell? ⟨b, p, none⟩ = some u) (h2 : w.cell? ⟨b, q, none⟩ = some v) (hb : b < B) (h : Below B w w') :
    w'.cell? ⟨b, p, none⟩ = some u ∧ w'.cell? ⟨b, q, none⟩ = some v ∧ Below B w w' :=
  ⟨(h.cell (by exact hb)).trans h1, (h.cell (by exact hb)).trans h2, h⟩
theorem keep22 {w w' : World} {B b b' : Nat} {u v u' v' : Value} (h1 : w.cell? ⟨b, 0, none⟩ = some u) (h2 : w.cell? ⟨b, 1, none⟩ = some v) (h3 : w.cell? ⟨b', 0, none⟩ = some u') (h4 : w.cell? ⟨b', 1, none⟩ = some v') (hb : b < B) (hb' : b' < B) (h : Below B w w') :
    (w'.cell? ⟨b, 0, none⟩ = some u ∧ w'.cell? ⟨b, 1, none⟩ = some v) ∧ (w'.cell? ⟨b', 0, none⟩ = some u' ∧ w'.cell? ⟨b', 1, none⟩ = some v') ∧ Below B w w' :=
  ⟨⟨(h.cell (by exact hb)).trans h1, (h.cell (by exact hb)).trans h2⟩, ⟨(h.cell (by exact hb')).trans h3, (h.cell (by exact hb')).trans h4⟩, h⟩
theorem keep22' {w w' W : World} {B B' b b' : Nat} {u v u' v' : Value} (h1 : w.cell? ⟨b, 0, none⟩ = some u) (h2 : w.cell? ⟨b, 1, none⟩ = some v) (h3 : w.cell? ⟨b', 0, none⟩ = some u') (h4 : w.cell? ⟨b', 1, none⟩ = some v') (hb : b < B) (hb' : b' < B) (h : Below B w w') (h' : Below B' W w') :
    (w'.cell? ⟨b, 0, none⟩ = some u ∧ w'.cell? ⟨b, 1, none⟩ = some v) ∧ (w'.cell? ⟨b', 0, none⟩ = some u' ∧ w'.cell? ⟨b', 1, none⟩ = some v') ∧ Below B' W w' :=
  ⟨⟨(h.cell (by exact hb)).trans h1, (h.cell (by exact hb)).trans h2⟩, ⟨(h.cell (by exact hb')).trans h3, (h.cell (by exact hb')).trans h4⟩, h'⟩
theorem keep22s {w' W : World} {b b' : Nat} {u v u' v' : Value} (h : (w'.cell? ⟨b, 0, none⟩ = some u ∧ w'.cell? ⟨b, 1, none⟩ = some v) ∧ (w'.cell? ⟨b', 0, none⟩ = some u' ∧ w'.cell? ⟨b', 1, none⟩ = some v') ∧ Below W.heap.size W w') (hb : b ≠ W.heap.size) (hb' : b' ≠ W.heap.size) (x y : Value) :
    ((((w'.setCell ⟨W.heap.size, 0, none⟩ x).setCell ⟨W.heap.size, 1, none⟩ y)).cell? ⟨b, 0, none⟩ = some u ∧ (((w'.setCell ⟨W.heap.size, 0, none⟩ x).setCell ⟨W.heap.size, 1, none⟩ y)).cell? ⟨b, 1, none⟩ = some v) ∧ ((((w'.setCell ⟨W.heap.size, 0, none⟩ x).setCell ⟨W.heap.size, 1, none⟩ y)).cell? ⟨b', 0, none⟩ = some u' ∧ (((w'.setCell ⟨W.heap.size, 0, none⟩ x).setCell ⟨W.heap.size, 1, none⟩ y)).cell? ⟨b', 1, none⟩ = some v') ∧ Below W.heap.size W ((w'.setCell ⟨W.heap.size, 0, none⟩ x).setCell ⟨W.heap.size, 1, none⟩ y) := by
  obtain ⟨⟨a1, a2⟩, ⟨a3, a4⟩, a5⟩ := h
  have e : ∀ (q : Addr), q.block ≠ W.heap.size → (((w'.setCell ⟨W.heap.size, 0, none⟩ x).setCell ⟨W.heap.size, 1, none⟩ y)).cell? q = w'.cell? q := fun q hq => by
    show ((w'.setCell ⟨W.heap.size, 0, none⟩ x).setCell ⟨W.heap.size, 1, none⟩ y).cell? q = _
    rw [World.cell?_setCell_other _ _ _ _ (fun e => hq (by rw [← e])), World.cell?_setCell_other _ _ _ _ (fun e => hq (by rw [← e]))]
  refine ⟨⟨(e _ hb).trans a1, (e _ hb).trans a2⟩, ⟨(e _ hb').trans a3, (e _ hb').trans a4⟩, ?_⟩
  exact ((a5.setCell (p := ⟨W.heap.size, 0, none⟩) (Nat.le_refl _) x).setCell (p := ⟨W.heap.size, 1, none⟩) (Nat.le_refl _) y)
theorem bp38 {n : Int} (hn : 1 ≤ n) (hn2 : n ≤ 4294967296) : (n.natAbs : Int) < Bp 38 := by
  have h1 := Bp_mono (show 4 ≤ 38 by omega)
  have h2 := Bp4
  omega
set_option maxRecDepth 100000 in
set_option maxHeartbeats 2000000 in
theorem left_any (i n : Int) (w : World) (h0 : -9223372036854775808 ≤ i) (h1 : i ≤ 9223372036854775807) (hn : 1 ≤ n) (hn2 : n ≤ 4294967296) :
    Calls Tryz.prog 199 #[.int .i64 i, .int .i64 n] w fun e w' => e = .returned (.int .i64 (i % n)) ∧ Below w.heap.size w w' := by
  obtain ⟨e1, e2, e3, e4, e5, e6, e7, e8⟩ := flo_mul h0 h1 hn hn2
  have hn3 := bp38 hn hn2
  have sn : Sm n := sm_of (by omega) (by omega)
  have si : Sm i := sm_of (by omega) (by omega)
  have sf : Sm (flo i n) := sm_of (by omega) (by omega)
  have sp : Sm (flo i n * n) := sm_of (by omega) (by omega)
  have hr1 : -9223372036854775808 ≤ i - flo i n * n := by omega
  have hr2 : i - flo i n * n ≤ 9223372036854775807 := by omega
  have HE := Lib.hid e2
  have hn0 : n ≠ 0 := by omega
  clear e1 e2 e3 e4 e5 e6 e7 e8
  go_enter Tryz.func199, Tryz.ntmps199
  go_wp2_with fail
  refine (of_any i _ h0 h1).mono ?_
  rintro e w1 ⟨v1, rfl, hN1, hb1⟩
  obtain ⟨s1, A1, n1, c1, rfl⟩ := hN1.shape
  go_wp2_with fail
  refine (of_any n _ (by omega) (by omega)).mono ?_
  rintro e w2 ⟨v2, rfl, hN2, hb2⟩
  obtain ⟨s2, A2, n2, c2, rfl⟩ := hN2.shape
  have hK1 := ((Bk.new w1 126 #[.bool s1, .slice A1 n1 c1]).nx hb2).alloc (.cells #[.bool s2, .slice A2 n2 c2] 126)
  have hK2 := Bk.new w2 126 #[.bool s2, .slice A2 n2 c2]
  have hN1a := ((hN1.alloc (.cells #[.bool s1, .slice A1 n1 c1] 126)).nx hb2).alloc (.cells #[.bool s2, .slice A2 n2 c2] 126)
  have hN2a := hN2.alloc (.cells #[.bool s2, .slice A2 n2 c2] 126)
  have hz1 := hb1.size
  have hz2 := hb2.size
  simp only [World.size_alloc] at hz2
  have hbz := ((hb1.alloc hz1 (.cells #[.bool s1, .slice A1 n1 c1] 126)).trans (hb2.mono (by simp; omega))).alloc (by omega) (.cells #[.bool s2, .slice A2 n2 c2] 126)
  go_upto_region 3 with fail
  clear hN1 hb1 hN2 hb2
  generalize w2.alloc (.cells #[.bool s2, .slice A2 n2 c2] 126) = w3 at *
  obtain ⟨c10, c11⟩ := hK1.cell2
  obtain ⟨c20, c21⟩ := hK2.cell2
  have hl1 := hK1.lt
  have hl2 := hK2.lt
  go_region_held3 (fun w' => (w'.cell? ⟨w1.heap.size, 0, none⟩ = some (.bool s1) ∧ w'.cell? ⟨w1.heap.size, 1, none⟩ = some (.slice A1 n1 c1)) ∧ (w'.cell? ⟨w2.heap.size, 0, none⟩ = some (.bool s2) ∧ w'.cell? ⟨w2.heap.size, 1, none⟩ = some (.slice A2 n2 c2)) ∧ Below w3.heap.size w3 w')
    (first
      | exact keep22 c10 c11 c20 c21 hl1 hl2 hBs
      | exact keep22 c10 c11 c20 c21 hl1 hl2 hBp
      | exact keep22 c10 c11 c20 c21 hl1 hl2 hBm
      | exact keep22 c10 c11 c20 c21 hl1 hl2 hBf
      | (refine keep22 c10 c11 c20 c21 hl1 hl2 ?_; go_grown))
    (first
      | (go_at_call 142; (with_reducible refine (floor_any _ _ i n _ hN1a.drew hN2a.drew hn0 si hn3).mono ?_); rintro e wf ⟨vf, rfl, hNf, hbf⟩; obtain ⟨qf, Af, nf, cf, rfl⟩ := hNf.shape; have hzf := hbf.size; have hBf : Below w3.heap.size w3 wf := Below.trans (by go_grown) hbf)
      | (go_at_call 112; (with_reducible refine (mul_any _ _ (flo i n) n _ hNf (hN2a.nx hBf) sf sn).mono ?_); rintro e wm ⟨vm, rfl, hNm, hbm⟩; obtain ⟨qm, Am, nm, cm, rfl⟩ := hNm.shape; have hzm := hbm.size; have hBm : Below w3.heap.size w3 wm := Below.trans hBf (hbm.mono hBf.size))
      | (go_at_call 135; (with_reducible refine (sub_any _ _ i (flo i n * n) _ (hN1a.nx hBm) hNm si sp).mono ?_); rintro e wp ⟨vp, rfl, hNp, hbp⟩; obtain ⟨qp, Ap, np, cp, rfl⟩ := hNp.shape; have hzp := hbp.size; have hBp : Below w3.heap.size w3 wp := Below.trans hBm (hbp.mono hBm.size))
      | (go_at_call 161; (with_reducible refine (small_any _ (i - flo i n * n) _ hNp hr1 hr2).mono ?_); rintro e ws ⟨rfl, hbs⟩; have hBs : Below w3.heap.size w3 ws := Below.trans hBp (hbs.mono hBp.size)))
  all_goals
    go_wp2_with fail
    go_returns
    exact ⟨ret_int HE.out, hbz.trans (hBs.mono (by have := hbz.size; omega))⟩
set_option maxRecDepth 100000 in
set_option maxHeartbeats 2000000 in
theorem twice_any (i n : Int) (w : World) (h0 : -9223372036854775808 ≤ i) (h1 : i ≤ 9223372036854775807) (hn : 1 ≤ n) (hn2 : n ≤ 2147483648) :
    Calls Tryz.prog 200 #[.int .i64 i, .int .i64 n] w fun e w' => ∃ v, e = .returned v ∧ BigN w.heap.size w' v (i % (2 * n)) ∧ Below w.heap.size w w' := by
  obtain ⟨e1, e2, e3, e4, e5, e6, e7, e8⟩ := flo_mul (n := 2 * n) h0 h1 (by omega) (by omega)
  have hn3 := bp38 (n := 2 * n) (by omega) (by omega)
  have sn1 : Sm n := sm_of (by omega) (by omega)
  have sn : Sm (2 * n) := sm_of (by omega) (by omega)
  have si : Sm i := sm_of (by omega) (by omega)
  have sf : Sm (flo i (2 * n)) := sm_of (by omega) (by omega)
  have sp : Sm (flo i (2 * n) * (2 * n)) := sm_of (by omega) (by omega)
  have HE := Lib.hid e2
  have hn0 : 2 * n ≠ 0 := by omega
  clear e1 e2 e3 e4 e5 e6 e7 e8
  have hK4 := Bk.new w 126 #[.bool false, .slice none 0 0]
  have hbz0 : Below w.heap.size w (w.alloc (.cells #[.bool false, .slice none 0 0] 126)) := by go_grown
  go_enter Tryz.func200, Tryz.ntmps200
  go_wp2_with fail
  refine (of_any i _ h0 h1).mono ?_
  rintro e w1 ⟨v1, rfl, hN1, hb1⟩
  obtain ⟨s1, A1, n1, c1, rfl⟩ := hN1.shape
  have hz1 := hb1.size
  have hbz1 := hbz0.trans (hb1.mono (by simp))
  have hK41 := hK4.nx hb1
  go_wp2_with fail
  refine (of_any n _ (by omega) (by omega)).mono ?_
  rintro e w2 ⟨v2, rfl, hN2, hb2⟩
  obtain ⟨s2, A2, n2, c2, rfl⟩ := hN2.shape
  have hz2 := hb2.size
  simp only [World.size_alloc] at hz1 hz2
  go_wp2_with fail
  refine (of_any n _ (by omega) (by omega)).mono ?_
  rintro e w3 ⟨v3, rfl, hN3, hb3⟩
  obtain ⟨s3, A3, n3, c3, rfl⟩ := hN3.shape
  have hz3 := hb3.size
  go_wp2_with fail
  refine (add_any _ _ n n _ (hN2.nx hb3) hN3 sn1 sn1).mono ?_
  rintro e w4 ⟨v4, rfl, hN4, hb4⟩
  obtain ⟨s4, A4, n4, c4, rfl⟩ := hN4.shape
  have hz4 := hb4.size
  rw [show n + n = 2 * n by omega] at hN4
  have hb24 := (hb3.mono hz2).trans (hb4.mono (Nat.le_trans hz2 hz3))
  have hb14 : Below (w1.heap.size + 1) (w1.alloc (.cells #[.bool s1, .slice A1 n1 c1] 126)) w4 := by
    simp only [World.size_alloc] at hb2
    exact hb2.trans hb24
  have hK5 := ((Bk.new w1 126 #[.bool s1, .slice A1 n1 c1]).below hb14 (by omega)).alloc (.cells #[.bool s4, .slice A4 n4 c4] 126)
  have hK6 := Bk.new w4 126 #[.bool s4, .slice A4 n4 c4]
  have hK42 := ((hK41.alloc (.cells #[.bool s1, .slice A1 n1 c1] 126)).below hb14 (by omega)).alloc (.cells #[.bool s4, .slice A4 n4 c4] 126)
  have hN1a := ((hN1.alloc (.cells #[.bool s1, .slice A1 n1 c1] 126)).keep hb14 (by simp)).alloc (.cells #[.bool s4, .slice A4 n4 c4] 126)
  have hN4a := hN4.alloc (.cells #[.bool s4, .slice A4 n4 c4] 126)
  have hbz := ((hbz1.alloc (by omega) (.cells #[.bool s1, .slice A1 n1 c1] 126)).trans (hb14.mono (by omega))).alloc (by omega) (.cells #[.bool s4, .slice A4 n4 c4] 126)
  go_upto_region 3 with fail
  clear hN1 hb1 hN2 hb2 hN3 hb3 hN4 hb4 hb24 hb14 hK4 hK41 hbz0 hbz1
  generalize w4.alloc (.cells #[.bool s4, .slice A4 n4 c4] 126) = w5 at *
  obtain ⟨c10, c11⟩ := hK5.cell2
  obtain ⟨c20, c21⟩ := hK6.cell2
  have hl1 := hK5.lt
  have hl2 := hK6.lt
  have hl4 := hK42.lt
  have hne1 : w1.heap.size ≠ w.heap.size := by omega
  have hne2 : w4.heap.size ≠ w.heap.size := by omega
  go_region_held3 (fun w' => (w'.cell? ⟨w1.heap.size, 0, none⟩ = some (.bool s1) ∧ w'.cell? ⟨w1.heap.size, 1, none⟩ = some (.slice A1 n1 c1)) ∧ (w'.cell? ⟨w4.heap.size, 0, none⟩ = some (.bool s4) ∧ w'.cell? ⟨w4.heap.size, 1, none⟩ = some (.slice A4 n4 c4)) ∧ Below (w.heap.size) w w')
    (first
      | exact keep22' c10 c11 c20 c21 hl1 hl2 hBp (hbz.trans (hBp.mono (by omega)))
      | exact keep22' c10 c11 c20 c21 hl1 hl2 hBm (hbz.trans (hBm.mono (by omega)))
      | exact keep22' c10 c11 c20 c21 hl1 hl2 hBf (hbz.trans (hBf.mono (by omega)))
      | exact keep22' c10 c11 c20 c21 hl1 hl2 ((Below.refl _ w5).drew) (hbz.drew)
      | exact keep22s (keep22' c10 c11 c20 c21 hl1 hl2 hBp (hbz.trans (hBp.mono (by omega)))) hne1 hne2 _ _)
    (first
      | (go_at_call 142; (with_reducible refine (floor_any _ _ i (2 * n) _ hN1a.drew hN4a.drew hn0 si hn3).mono ?_); rintro e wf ⟨vf, rfl, hNf, hbf⟩; obtain ⟨qf, Af, nf, cf, rfl⟩ := hNf.shape; have hzf := hbf.size; have hBf : Below w5.heap.size w5 wf := Below.trans (by go_grown) hbf)
      | (go_at_call 112; (with_reducible refine (mul_any _ _ (flo i (2 * n)) (2 * n) _ hNf (hN4a.nx hBf) sf sn).mono ?_); rintro e wm ⟨vm, rfl, hNm, hbm⟩; obtain ⟨qm, Am, nm, cm, rfl⟩ := hNm.shape; have hzm := hbm.size; have hBm : Below w5.heap.size w5 wm := Below.trans hBf (hbm.mono hBf.size))
      | (go_at_call 135; (with_reducible refine (sub_any _ _ i (flo i (2 * n) * (2 * n)) _ (hN1a.nx hBm) hNm si sp).mono ?_); rintro e wp ⟨vp, rfl, hNp, hbp⟩; obtain ⟨qp, Ap, np, cp, rfl⟩ := hNp.shape; have hzp := hbp.size; have hBp : Below w5.heap.size w5 wp := Below.trans hBm (hbp.mono hBm.size); have hK4p := hK42.below hBp hl4; obtain ⟨k0, k1⟩ := hK4p.cell2; have f0 := hK4p.frozen 0; have f1 := hK4p.frozen 1))
  all_goals
    go_wp2_with fail
    rename_i hHeld
    have hz5 : w.heap.size < wm.heap.size := by have := hBm.size; omega
    refine bodyPost_ret (res_big rfl (hK4p.set2 _ _) rfl) rfl ?_
    refine ⟨_, rfl, ?_, hHeld.2.2⟩
    rw [← HE.out]
    exact (hNp.grown (gb2 wp _ _ _) (.inl (by omega))).less (by omega)
/-- Where a place beyond a row stands, by the border's mode. -/
def idx (m i n : Int) : Int × Bool :=
  if m < 0 ∨ 3 < m ∨ n < 1 then (0, false) else if 0 ≤ i ∧ i < n then (i, true) else if m = 0 then (0, false) else if m = 1 then (if i < 0 then 0 else n - 1, true)
  else if m = 2 then (i % n, true) else if i % (2 * n) < n then (i % (2 * n), true) else (n - 1 - (i % (2 * n) - n), true)
theorem idx_bd {m i n : Int} (h : (idx m i n).2 = true) : 0 ≤ (idx m i n).1 ∧ (idx m i n).1 < n := by
  unfold idx at *
  split at h
  · cases h
  · rename_i h1
    rw [if_neg h1]
    split at h
    · rename_i h2
      rw [if_pos h2]; exact h2
    · rename_i h2
      rw [if_neg h2]
      split at h
      · cases h
      · rename_i h3
        have a1 := Int.emod_nonneg i (show n ≠ 0 by omega)
        have a2 := Int.emod_lt_of_pos i (show 0 < n by omega)
        have a3 := Int.emod_nonneg i (show 2 * n ≠ 0 by omega)
        have a4 := Int.emod_lt_of_pos i (show 0 < 2 * n by omega)
        rw [if_neg h3]
        repeat' split
        all_goals (dsimp only; omega)
abbrev ixV (p : Int × Bool) : Value := .tuple #[.int .i64 p.1, .bool p.2]
set_option maxRecDepth 100000 in
set_option maxHeartbeats 4000000 in
theorem rindex_any (m i n : Int) (w : World) (h0 : -9223372036854775808 ≤ i) (h1 : i ≤ 9223372036854775807) (hn2 : n ≤ 2147483648) :
    Calls Tryz.prog 153 #[.int .i64 m, .int .i64 i, .int .i64 n] w fun e w' => e = .returned (ixV (idx m i n)) ∧ Below w.heap.size w w' := by
  by_cases c1 : m < 0 ∨ 3 < m ∨ n < 1
  · have HX := Lib.hid (show idx m i n = (0, false) by unfold idx; rw [if_pos c1])
    rcases c1 with c | c | c
    all_goals
      go_enter Tryz.func153, Tryz.ntmps153
      go_wp2
      all_goals
        go_returns
        exact ⟨by rw [HX.out]; rfl, by go_grown⟩
  · obtain ⟨hm0, hm3, hn1⟩ : 0 ≤ m ∧ m ≤ 3 ∧ 1 ≤ n := by omega
    by_cases c2 : 0 ≤ i ∧ i < n
    · have HX := Lib.hid (show idx m i n = (i, true) by unfold idx; rw [if_neg c1, if_pos c2])
      obtain ⟨c3, c4⟩ := c2
      clear c1
      go_enter Tryz.func153, Tryz.ntmps153
      go_wp2
      go_returns
      exact ⟨by rw [HX.out]; rfl, by go_grown⟩
    · have hcases : m = 0 ∨ m = 1 ∨ m = 2 ∨ m = 3 := by omega
      rcases hcases with rfl | rfl | rfl | rfl
      · have HX := Lib.hid (show idx 0 i n = (0, false) by unfold idx; rw [if_neg c1, if_neg c2, if_pos rfl])
        clear c1
        rcases (show i < 0 ∨ n ≤ i by omega) with c | c
        all_goals
          go_enter Tryz.func153, Tryz.ntmps153
          go_wp2
          all_goals
            go_returns
            exact ⟨by rw [HX.out]; rfl, by go_grown⟩
      · rcases (show i < 0 ∨ n ≤ i by omega) with c | c
        · have HX := Lib.hid (show idx 1 i n = (0, true) by unfold idx; rw [if_neg c1, if_neg c2, if_neg (by omega), if_pos rfl, if_pos c])
          clear c1 c2
          go_enter Tryz.func153, Tryz.ntmps153
          go_wp2
          all_goals
            go_returns
            exact ⟨by rw [HX.out]; rfl, by go_grown⟩
        · have HX := Lib.hid (show idx 1 i n = (n - 1, true) by unfold idx; rw [if_neg c1, if_neg c2, if_neg (by omega), if_pos rfl, if_neg (by omega)])
          clear c1 c2
          go_enter Tryz.func153, Tryz.ntmps153
          go_wp2
          all_goals
            go_returns
            exact ⟨by rw [HX.out]; rfl, by go_grown⟩
      · have HX := Lib.hid (show idx 2 i n = (i % n, true) by unfold idx; rw [if_neg c1, if_neg c2, if_neg (by omega), if_neg (by omega), if_pos rfl])
        rcases (show i < 0 ∨ n ≤ i by omega) with c | c
        all_goals
          clear c1 c2
          go_enter Tryz.func153, Tryz.ntmps153
          go_wp2_with (go_at_call 199; (with_reducible refine (left_any _ _ _ h0 h1 hn1 (by omega)).mono ?_); rintro e w1 ⟨rfl, hb1⟩)
          all_goals
            go_returns
            exact ⟨by rw [HX.out]; rfl, hb1⟩
      · have a3 := Int.emod_nonneg i (show 2 * n ≠ 0 by omega)
        have a4 := Int.emod_lt_of_pos i (show 0 < 2 * n by omega)
        have HX := Lib.hid (show idx 3 i n = if i % (2 * n) < n then (i % (2 * n), true) else (n - 1 - (i % (2 * n) - n), true) by unfold idx; rw [if_neg c1, if_neg c2, if_neg (by omega), if_neg (by omega), if_neg (by omega)])
        generalize hT : i % (2 * n) = T at *
        have HT := Lib.hid hT
        clear hT
        have sT : Sm T := sm_of (by omega) (by omega)
        have sn : Sm n := sm_of (by omega) (by omega)
        rcases (show i < 0 ∨ n ≤ i by omega) with c | c
        all_goals
          clear c1 c2
          go_enter Tryz.func153, Tryz.ntmps153
          go_wp2_with fail
          refine (twice_any i n _ h0 h1 hn1 (by omega)).mono ?_
          rintro e w1 ⟨v1, rfl, hN1, hb1⟩
          rw [HT.out] at hN1
          obtain ⟨s1, A1, n1, c1, rfl⟩ := hN1.shape
          have hz1 := hb1.size
          have hK := Bk.new w1 126 #[.bool s1, .slice A1 n1 c1]
          have hNa := hN1.alloc (.cells #[.bool s1, .slice A1 n1 c1] 126)
          have hba := hb1.alloc hz1 (.cells #[.bool s1, .slice A1 n1 c1] 126)
          go_upto_region 14 with fail
          clear hN1 hb1
          generalize w1.alloc (.cells #[.bool s1, .slice A1 n1 c1] 126) = w2 at *
          generalize w1.heap.size = g at *
          obtain ⟨d0, d1⟩ := hK.cell2
          have hl := hK.lt
          have hcN : cmpI T n < 0 ↔ T < n := by unfold cmpI; split <;> (try split) <;> omega
          have hzz := hba.size
          go_region_held3 (fun w' => w'.cell? ⟨g, 0, none⟩ = some (.bool s1) ∧ w'.cell? ⟨g, 1, none⟩ = some (.slice A1 n1 c1) ∧ Below w2.heap.size w2 w')
            (first
              | exact keepDx d0 d1 hl hBb
              | exact keepDx d0 d1 hl hBa
              | (refine keepDx d0 d1 hl ?_; go_grown))
            (first
              | (go_at_call 111; (with_reducible refine (of_any n _ (by omega) (by omega)).mono ?_); rintro e wa ⟨va, rfl, hNa', hba'⟩; obtain ⟨qa, Aa, na, ca, rfl⟩ := hNa'.shape; have hBa : Below w2.heap.size w2 wa := Below.trans (by go_grown) hba')
              | (go_at_call 130; (with_reducible refine (cmp_any _ _ T n _ (hNa.nx hBa) hNa' sT sn).mono ?_); rintro e wb ⟨rfl, hbb'⟩; have hBb : Below w2.heap.size w2 wb := Below.trans hBa (hbb'.mono hBa.size)))
          all_goals
            rename_i hHeld
            clear hHeld
            have hKb := hK.below hBb hl
            have hNb := hNa.nx hBb
            have hzb := hBb.size
            have hbz := hba.trans (hBb.mono hzz)
            obtain ⟨k0, k1⟩ := hKb.cell2
            have hlb := hKb.lt
            by_cases hT : T < n
            · have hc : decide (cmpI T n < 0) = true := decide_eq_true (hcN.2 hT)
              go_wp2_with (first
                | (refine ldBig rfl _ rfl hKb rfl ?_)
                | (go_at_call 161; (with_reducible refine (small_any _ T _ hNb (by omega) (by omega)).mono ?_); rintro e ws ⟨rfl, hbs⟩))
              go_returns
              exact ⟨by rw [HX.out, if_pos hT]; rfl, hbz.trans (hbs.mono (by omega))⟩
            · have hc : decide (cmpI T n < 0) = false := decide_eq_false (fun h => hT (hcN.1 h))
              have wn : wrap64 (n - 1) = n - 1 := IntWalk.wrap64_in _ ⟨by omega, by omega⟩
              have wn2 : IntKind.i64.wrap (n - 1) = n - 1 := IntWalk.i64_in _ (by omega)
              have wr : wrap64 (n - 1 - (T - n)) = n - 1 - (T - n) := IntWalk.wrap64_in _ ⟨by omega, by omega⟩
              have wr2 : IntKind.i64.wrap (n - 1 - (T - n)) = n - 1 - (T - n) := IntWalk.i64_in _ (by omega)
              go_upto_region 16 with fail
              go_region_held3 (fun w' => w'.cell? ⟨g, 0, none⟩ = some (.bool s1) ∧ w'.cell? ⟨g, 1, none⟩ = some (.slice A1 n1 c1) ∧ Below wb.heap.size wb w')
                (first
                  | exact keepDx k0 k1 hlb hBe
                  | exact keepDx k0 k1 hlb hBd
                  | exact keepDx k0 k1 hlb hBc
                  | (refine keepDx k0 k1 hlb ?_; go_grown))
                (first
                  | (go_at_call 111; (with_reducible refine (of_any n _ (by omega) (by omega)).mono ?_); rintro e wc ⟨vc, rfl, hNc, hbc⟩; obtain ⟨qc, Ac, nc, cc, rfl⟩ := hNc.shape; have hBc : Below wb.heap.size wb wc := Below.trans (by go_grown) hbc)
                  | (go_at_call 135; (with_reducible refine (sub_any _ _ T n _ (hNb.nx hBc) hNc sT sn).mono ?_); rintro e wd ⟨vd', rfl, hNd, hbd⟩; obtain ⟨qd, Ad, nd, cd, rfl⟩ := hNd.shape; have hBd : Below wb.heap.size wb wd := Below.trans hBc (hbd.mono hBc.size))
                  | (go_at_call 161; (with_reducible refine (small_any _ (T - n) _ hNd (by omega) (by omega)).mono ?_); rintro e we ⟨rfl, hbe⟩; have hBe : Below wb.heap.size wb we := Below.trans hBd (hbe.mono hBd.size)))
              all_goals
                go_wp2_with fail
                go_returns
                exact ⟨by rw [HX.out, if_neg (show ¬ T < n by omega)]; first | rfl | (rw [wr]; rfl) | (rw [wr2]; rfl), hbz.trans (hBe.mono (by omega))⟩
end Go.Proofs.YthgcfahacoonaaaGreat
