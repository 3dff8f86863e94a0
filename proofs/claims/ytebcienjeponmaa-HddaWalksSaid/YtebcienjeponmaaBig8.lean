/- The reference's places: cut to 46 bits. -/
import Derived.Test.YtebcienjeponmaaBig7
set_option linter.unusedVariables false
namespace Go.Proofs.Ytebcienjeponmaa
open Go.RowKit
def lim : Int := 70368744177664
def cutZ (z : Int) : Int := if lim < z then lim else if z < -lim then -lim else z
theorem cmp_pos (x y : Int) : (0 < cmpI x y) ↔ y < x := by unfold cmpI; split <;> (try split) <;> omega
theorem cmp_neg (x y : Int) : (cmpI x y < 0) ↔ x < y := by unfold cmpI; split <;> (try split) <;> omega
theorem cmp_zero (x y : Int) : (cmpI x y = 0) ↔ x = y := by unfold cmpI; split <;> (try split) <;> omega
theorem pow46 (w : World) : Calls Try.prog 79 #[.int .i64 46] w fun e w' => ∃ v, e = .returned v ∧ BigN w.heap.size w' v lim ∧ Below w.heap.size w w' :=
  pow_any1 46 w (by omega)
theorem pow16 (w : World) : Calls Try.prog 79 #[.int .i64 16] w fun e w' => ∃ v, e = .returned v ∧ BigN w.heap.size w' v 65536 ∧ Below w.heap.size w w' :=
  pow_any1 16 w (by omega)
theorem sm_small {z : Int} (h : -1000000000000000000000000 ≤ z) (h' : z ≤ 1000000000000000000000000) : Sm z := sm_of (by omega) (by omega)
set_option maxRecDepth 100000 in
set_option maxHeartbeats 1000000 in
theorem cut_any (va : Value) (z : Int) (w : World) {lo : Nat} (ha : BigN lo w va z) (hs : Sm z) :
    Calls Try.prog 77 #[va] w fun e w' => e = .returned (.int .i64 (cutZ z)) ∧ Below w.heap.size w w' := by
  obtain ⟨s, A, n, c, rfl⟩ := ha.shape
  have hlim : Hid (lim = 70368744177664) := rfl
  have hb0 : Below w.heap.size w (w.alloc (.cells #[.bool s, .slice A n c] 42)) := by go_grown
  go_enter Try.func77, Try.ntmps77
  go_wp2_with fail
  refine (pow46 _).mono ?_
  rintro e w1 ⟨v1, rfl, hN1, hb1⟩
  obtain ⟨s1, A1, n1, c1, rfl⟩ := hN1.shape
  have hK0 : Bk (w1.alloc (.cells #[.bool s1, .slice A1 n1 c1] 42)) w.heap.size 42 #[.bool s, .slice A n c] := ((Bk.new w _ _).nx hb1).alloc _
  have hK1 : Bk (w1.alloc (.cells #[.bool s1, .slice A1 n1 c1] 42)) w1.heap.size 42 #[.bool s1, .slice A1 n1 c1] := Bk.new w1 _ _
  have hz1 := hb1.size
  simp only [World.size_alloc] at hz1
  have hb2 : Below w.heap.size w (w1.alloc (.cells #[.bool s1, .slice A1 n1 c1] 42)) := (hb0.trans (hb1.mono (by simp))).alloc (by omega) _
  have hN2 := (hN1.alloc (.cells #[.bool s1, .slice A1 n1 c1] 42)).any
  have ha2 := ha.nx hb2
  have hl2 := hK1.lt
  have hsl : Sm lim := sm_small (by simp [lim]) (by simp [lim])
  have hsl' : Sm (-lim) := sm_small (by simp [lim]) (by simp [lim])
  clear hN1 hb1 hb0
  go_wp2_with (first
    | (refine ldBig rfl _ rfl hK0 rfl ?_)
    | (refine ldBig rfl _ rfl hK1 rfl ?_)
    | (go_at_call 63; (with_reducible refine (cmp_any _ _ z lim _ ha2 hN2 hs hsl).mono ?_); rintro e w3 ⟨rfl, hb3⟩; have hK0' := hK0.nx hb3; have hK1' := hK1.nx hb3; have ha3 := ha2.nx hb3; have hN3 := hN2.nx hb3; have hz3 := hb3.size; have hb4 := hb2.trans (hb3.mono (by omega)))
    | (refine ldBig rfl _ rfl hK1' rfl ?_)
    | (go_at_call 17; (with_reducible refine (small_any _ lim _ hN3 (by simp [lim]) (by simp [lim])).mono ?_); rintro e w4 ⟨rfl, hb5⟩; have hz4 := hb5.size))
  · rename_i hc
    have hc1 := (cmp_pos z lim).1 hc
    go_returns
    exact ⟨ret_int (by unfold cutZ; rw [if_pos hc1]), hb4.trans (hb5.mono (by omega))⟩
  · rename_i hc
    have hc1 : ¬ lim < z := fun h => by have := (cmp_pos z lim).2 h; omega
    have ha5 := ha3.drew
    have hN5 := hN3.drew
    have hK0d := hK0'.drew
    have hK1d := hK1'.drew
    have hb4d := hb4.drew
    obtain ⟨d00, d01⟩ := hK0d.cell2
    obtain ⟨d10, d11⟩ := hK1d.cell2
    have hl3 := hK1d.lt
    clear hK0 hK1 ha2 hN2 hb2 ha3 hN3
    go_region_held3 (fun w' => w'.cell? ⟨w.heap.size, 0, none⟩ = some (.bool s) ∧ w'.cell? ⟨w.heap.size, 1, none⟩ = some (.slice A n c) ∧ w'.cell? ⟨w1.heap.size, 0, none⟩ = some (.bool s1) ∧ w'.cell? ⟨w1.heap.size, 1, none⟩ = some (.slice A1 n1 c1))
      (first | exact ⟨d00, d01, d10, d11⟩ | exact ⟨e00, e01, e10, e11⟩ | exact ⟨f00, f01, f10, f11⟩ | (refine ⟨?_, ?_, ?_, ?_⟩ <;> go_simp))
      (first
      | (go_at_call 38; (with_reducible refine (neg_any _ lim _ hN5 hsl).mono ?_); rintro e wa ⟨va, rfl, hNa, hba⟩; obtain ⟨sa, Aa, na, ca, rfl⟩ := hNa.shape; obtain ⟨e00, e01⟩ := (hK0d.nx hba).cell2; obtain ⟨e10, e11⟩ := (hK1d.nx hba).cell2)
      | (go_at_call 63; (with_reducible refine (cmp_any _ _ z (-lim) _ (ha5.nx hba) hNa hs hsl').mono ?_); rintro e wb ⟨rfl, hbb⟩; obtain ⟨f00, f01⟩ := ((hK0d.nx hba).nx hbb).cell2; obtain ⟨f10, f11⟩ := ((hK1d.nx hba).nx hbb).cell2; have hK0b := (hK0d.nx hba).nx hbb; have hK1b := (hK1d.nx hba).nx hbb; have hNb := (hN5.nx hba).nx hbb; have hab := (ha5.nx hba).nx hbb; have hza := hba.size; have hzb := hbb.size))
    have hb6 := (hb4d.trans (hba.mono (by omega))).trans (hbb.mono (by omega))
    have hsz : -lim ≤ z → -9223372036854775808 ≤ z ∧ z ≤ 9223372036854775807 := fun h => by have : lim = 70368744177664 := rfl; omega
    have HSZ := Lib.hid hsz
    clear hsz
    go_wp2_with (first
      | (refine ldBig rfl _ rfl hK1b rfl ?_)
      | (refine ldBig rfl _ rfl hK0b rfl ?_)
      | (go_at_call 17; (with_reducible refine (small_any _ lim _ hNb (by simp [lim]) (by simp [lim])).mono ?_); rintro e wd ⟨rfl, hbd⟩)
      | (go_at_call 17; rename_i hcc; have hcd : -lim ≤ z := by { rcases Int.lt_or_le z (-lim) with h | h; { have := (cmp_neg z (-lim)).2 h; omega }; exact h }; obtain ⟨hz8, hz9⟩ := HSZ.out hcd; (with_reducible refine (small_any _ z _ hab hz8 hz9).mono ?_); rintro e wd ⟨rfl, hbd⟩))
    · rename_i hcc
      have hcd := (cmp_neg z (-lim)).1 hcc
      go_returns
      exact ⟨ret_int (by unfold cutZ; rw [if_neg (by omega), if_pos hcd]; simp [lim, wrap64]), hb6.trans (hbd.mono (by omega))⟩
    · have hce : ¬ z < -lim := by omega
      go_returns
      exact ⟨ret_int (by unfold cutZ; rw [if_neg (by omega), if_neg (by omega)]), hb6.trans (hbd.mono (by omega))⟩
theorem sm_shift {x : Int} (h : (x.natAbs : Int) < Bp 38) : Sm (x * 65536) := by
  show ((x * 65536).natAbs : Int) < Bp 40
  have h1 := Bp39s
  have h2 := Bp38s
  omega
theorem sm_38 {x : Int} (h : (x.natAbs : Int) < Bp 38) : Sm x := by
  have := Bp_mono (show 38 ≤ 40 by omega)
  show (x.natAbs : Int) < Bp 40
  omega
set_option maxRecDepth 100000 in
set_option maxHeartbeats 1000000 in
theorem place_any (va vb : Value) (x y : Int) (w : World) {lo lo' : Nat} (ha : BigN lo w va x) (hb : BigN lo' w vb y) (hy : y ≠ 0) (hsx : (x.natAbs : Int) < Bp 38) (hsy : (y.natAbs : Int) < Bp 38) :
    Calls Try.prog 45 #[va, vb] w fun e w' => e = .returned (.int .i64 (cutZ (flo (x * 65536) y))) ∧ Below w.heap.size w w' := by
  obtain ⟨s, A, n, c, rfl⟩ := ha.shape
  obtain ⟨s', A', n', c', rfl⟩ := hb.shape
  have hs1 := sm_shift hsx
  have hs0 := sm_38 hsx
  have hs2 : Sm (flo (x * 65536) y) := by
    have h1 := flo_zero (x := x * 65536) hy
    have h2 : ((x * 65536).natAbs : Int) < Bp 40 := hs1
    show ((flo (x * 65536) y).natAbs : Int) < Bp 40
    omega
  have hs3 : Sm 65536 := sm_small (by omega) (by omega)
  have HSY := Lib.hid hsy
  have HSX := Lib.hid hsx
  have HY := Lib.hid hy
  clear hsx hsy hy
  have hK0 : Bk ((w.alloc (.cells #[.bool s, .slice A n c] 42)).alloc (.cells #[.bool s', .slice A' n' c'] 42)).drew w.heap.size 42 #[.bool s, .slice A n c] := ((Bk.new w _ _).alloc _).drew
  have hK1 : Bk ((w.alloc (.cells #[.bool s, .slice A n c] 42)).alloc (.cells #[.bool s', .slice A' n' c'] 42)).drew (w.heap.size + 1) 42 #[.bool s', .slice A' n' c'] := by
    have := (Bk.new (w.alloc (.cells #[.bool s, .slice A n c] 42)) 42 #[.bool s', .slice A' n' c']).drew
    simpa using this
  have hb0 : Below w.heap.size w ((w.alloc (.cells #[.bool s, .slice A n c] 42)).alloc (.cells #[.bool s', .slice A' n' c'] 42)).drew := by go_grown
  have ha0 := ha.nx hb0
  have hbb0 := hb.nx hb0
  have hl := hK1.lt
  obtain ⟨d00, d01⟩ := hK0.cell2
  obtain ⟨d10, d11⟩ := hK1.cell2
  go_enter Try.func45, Try.ntmps45
  go_wp2_with fail
  go_region_held3 (fun w' => w'.cell? ⟨w.heap.size, 0, none⟩ = some (.bool s) ∧ w'.cell? ⟨w.heap.size, 1, none⟩ = some (.slice A n c) ∧ w'.cell? ⟨w.heap.size + 1, 0, none⟩ = some (.bool s') ∧ w'.cell? ⟨w.heap.size + 1, 1, none⟩ = some (.slice A' n' c'))
    (first | exact ⟨d00, d01, d10, d11⟩ | exact ⟨e00, e01, e10, e11⟩ | exact ⟨f00, f01, f10, f11⟩ | exact ⟨g00, g01, g10, g11⟩ | exact ⟨h00, h01, h10, h11⟩ | (refine ⟨?_, ?_, ?_, ?_⟩ <;> go_simp))
    (first
    | (go_at_call 79; (with_reducible refine (pow16 _).mono ?_); rintro e wa ⟨va, rfl, hNa, hba⟩; obtain ⟨sa, Aa, na, ca, rfl⟩ := hNa.shape; have hKa0 := hK0.nx hba; have hKa1 := hK1.nx hba; have haa := ha0.nx hba; have hab := hbb0.nx hba; obtain ⟨e00, e01⟩ := hKa0.cell2; obtain ⟨e10, e11⟩ := hKa1.cell2)
    | (go_at_call 41; (with_reducible refine (mul_any _ _ _ _ _ haa hNa hs0 hs3).mono ?_); rintro e wm ⟨vm, rfl, hNm, hbm⟩; obtain ⟨sm, Am, nm, cm, rfl⟩ := hNm.shape; have hKm0 := hKa0.nx hbm; have hKm1 := hKa1.nx hbm; have hmb := hab.nx hbm; obtain ⟨f00, f01⟩ := hKm0.cell2; obtain ⟨f10, f11⟩ := hKm1.cell2)
    | (go_at_call 78; (with_reducible refine (floor_any _ _ _ _ _ hNm hmb HY.out hs1 HSY.out).mono ?_); rintro e wf ⟨vf, rfl, hNf, hbf⟩; obtain ⟨sf, Af, nf, cf, rfl⟩ := hNf.shape; have hKf0 := hKm0.nx hbf; have hKf1 := hKm1.nx hbf; obtain ⟨g00, g01⟩ := hKf0.cell2; obtain ⟨g10, g11⟩ := hKf1.cell2)
    | (go_at_call 77; (with_reducible refine (cut_any _ _ _ hNf hs2).mono ?_); rintro e wc ⟨rfl, hbc⟩; have hKc0 := hKf0.nx hbc; have hKc1 := hKf1.nx hbc; obtain ⟨h00, h01⟩ := hKc0.cell2; obtain ⟨h10, h11⟩ := hKc1.cell2))
  have z1 := hba.size
  have z2 := hbm.size
  have z3 := hbf.size
  have hbz := (((hb0.trans (hba.mono (by omega))).trans (hbm.mono (by omega))).trans (hbf.mono (by omega))).trans (hbc.mono (by omega))
  go_wp2_with fail
  go_returns
  exact ⟨ret_int rfl, hbz⟩
end Go.Proofs.Ytebcienjeponmaa
