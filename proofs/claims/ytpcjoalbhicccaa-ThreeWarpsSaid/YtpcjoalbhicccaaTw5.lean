/- The law ThreeWarps: the walk. -/
import Derived.Test.YtpcjoalbhicccaaTw4
import Derived.Test.YtpcjoalbhicccaaTh27
import Derived.Test.YtpcjoalbhicccaaOpenI
set_option linter.unusedVariables false
namespace Go.Proofs.Ytpcjoalbhicccaa
open Go.RowKit
set_option maxHeartbeats 1000000 in
theorem few3_any (W H C : Int) (A : Option Addr) (n cp : Nat) (z : Int) (w : World) :
    Calls Try.prog 6 #[.agg #[.int .i64 W, .int .i64 H, .int .i64 C, .slice A n cp], .int .i64 z] w fun e w' => e = .returned (.bool (decide ((n : Int) ≤ z))) ∧ Below w.heap.size w w' := by
  go_enter Try.func6, Try.ntmps6
  go_wp2
  go_returns
  exact ⟨rfl, by go_grown⟩
abbrev slW (A2 : Option Addr) (n2 c2 : Nat) (wd ht m a b c d : Int) : Array Value := #[.slice A2 n2 c2, .int .i64 wd, .int .i64 ht, .int .i64 m, .int .u8 a, .int .u8 b, .int .u8 c, .int .u8 d]
theorem keepU {w w' : World} {B g g' g5 : Nat} {x y z u v0 v1 v2 v3 v4 v5 v6 v7 r0 r1 r2 r3 : Value}
    (C : (w.cell? ⟨g, 0, none⟩ = some x ∧ w.cell? ⟨g, 1, none⟩ = some y ∧ w.cell? ⟨g, 2, none⟩ = some z ∧ w.cell? ⟨g, 3, none⟩ = some u) ∧
      (w.cell? ⟨g', 0, none⟩ = some v0 ∧ w.cell? ⟨g', 1, none⟩ = some v1 ∧ w.cell? ⟨g', 2, none⟩ = some v2 ∧ w.cell? ⟨g', 3, none⟩ = some v3 ∧ w.cell? ⟨g', 4, none⟩ = some v4 ∧ w.cell? ⟨g', 5, none⟩ = some v5 ∧ w.cell? ⟨g', 6, none⟩ = some v6 ∧ w.cell? ⟨g', 7, none⟩ = some v7) ∧
      (w.cell? ⟨g5, 0, none⟩ = some r0 ∧ w.cell? ⟨g5, 1, none⟩ = some r1 ∧ w.cell? ⟨g5, 2, none⟩ = some r2 ∧ w.cell? ⟨g5, 3, none⟩ = some r3)) (hg : g < B) (hg' : g' < B) (h5 : g5 < B) (h : Below B w w') :
    (w'.cell? ⟨g, 0, none⟩ = some x ∧ w'.cell? ⟨g, 1, none⟩ = some y ∧ w'.cell? ⟨g, 2, none⟩ = some z ∧ w'.cell? ⟨g, 3, none⟩ = some u) ∧
      (w'.cell? ⟨g', 0, none⟩ = some v0 ∧ w'.cell? ⟨g', 1, none⟩ = some v1 ∧ w'.cell? ⟨g', 2, none⟩ = some v2 ∧ w'.cell? ⟨g', 3, none⟩ = some v3 ∧ w'.cell? ⟨g', 4, none⟩ = some v4 ∧ w'.cell? ⟨g', 5, none⟩ = some v5 ∧ w'.cell? ⟨g', 6, none⟩ = some v6 ∧ w'.cell? ⟨g', 7, none⟩ = some v7) ∧
      (w'.cell? ⟨g5, 0, none⟩ = some r0 ∧ w'.cell? ⟨g5, 1, none⟩ = some r1 ∧ w'.cell? ⟨g5, 2, none⟩ = some r2 ∧ w'.cell? ⟨g5, 3, none⟩ = some r3) ∧ Below B w w' := by
  obtain ⟨⟨a0, a1, a2, a3⟩, ⟨b0, b1, b2, b3, b4, b5, b6, b7⟩, c0, c1, c2, c3⟩ := C
  exact ⟨⟨(h.cell (by exact hg)).trans a0, (h.cell (by exact hg)).trans a1, (h.cell (by exact hg)).trans a2, (h.cell (by exact hg)).trans a3⟩,
    ⟨(h.cell (by exact hg')).trans b0, (h.cell (by exact hg')).trans b1, (h.cell (by exact hg')).trans b2, (h.cell (by exact hg')).trans b3, (h.cell (by exact hg')).trans b4, (h.cell (by exact hg')).trans b5, (h.cell (by exact hg')).trans b6, (h.cell (by exact hg')).trans b7⟩,
    ⟨(h.cell (by exact h5)).trans c0, (h.cell (by exact h5)).trans c1, (h.cell (by exact h5)).trans c2, (h.cell (by exact h5)).trans c3⟩, h⟩
set_option maxRecDepth 100000 in
set_option maxHeartbeats 16000000 in
theorem walkThreeWarps (W H C : Int) (A : Option Addr) (n cp : Nat) (P : List Int) (l : List Int) (A2 : Option Addr) (n2 c2 : Nat) (wd ht m a b c d : Int) (w : World) (hP : P.length = n) (hr : Rd w w.heap.size A (P.map (Value.int .u8))) (hcp : n ≤ cp) (hl : l.length = n2) (hr2 : Rd w w.heap.size A2 (l.map (Value.int .i64))) :
    Calls Try.prog 5 #[.agg #[.int .i64 W, .int .i64 H, .int .i64 C, .slice A n cp], .agg (slW A2 n2 c2 wd ht m a b c d)] w fun e w' => e = .returned (.bool true) ∧ Below w.heap.size w w' := by
  have hL := ((Lie.start w).alloc #[.int .i64 W, .int .i64 H, .int .i64 C, .slice A n cp] 24).alloc (slW A2 n2 c2 wd ht m a b c d) 44
  simp only [World.size_alloc] at hL
  have hc4 : n2 = 4 → C4 w w.heap.size A2 (l.getD 0 0) (l.getD 1 0) (l.getD 2 0) (l.getD 3 0) := fun e => Rd.c4 (by omega) hr2
  generalize l.getD 0 0 = p at *
  generalize l.getD 1 0 = q at *
  generalize l.getD 2 0 = r at *
  generalize l.getD 3 0 = s at *
  clear hl hr2
  have HC4 := Lib.hid hc4
  have HPP := Lib.hid hP
  clear hc4 hP
  obtain ⟨i0, i1, i2, i3⟩ := (hL.k 1 (by simp)).cell4
  obtain ⟨e0, e1, e2, e3, e4, e5, e6, e7⟩ := (hL.k 0 (by simp)).cell8
  simp only [List.getElem_cons_zero, List.getElem_cons_succ] at i0 i1 i2 i3 e0 e1 e2 e3 e4 e5 e6 e7
  go_enter Try.func5, Try.ntmps5
  go_wp2_with fail
  refine (few3_any W H C A n cp 3000 _).mono ?_
  rintro e w1 ⟨rfl, hb1⟩
  replace hL := hL.nx hb1
  clear hb1 i0 i1 i2 i3 e0 e1 e2 e3 e4 e5 e6 e7
  obtain ⟨i0, i1, i2, i3⟩ := (hL.k 1 (by simp)).cell4
  obtain ⟨e0, e1, e2, e3, e4, e5, e6, e7⟩ := (hL.k 0 (by simp)).cell8
  simp only [List.getElem_cons_zero, List.getElem_cons_succ] at i0 i1 i2 i3 e0 e1 e2 e3 e4 e5 e6 e7
  by_cases hfew : (n : Int) ≤ 3000
  case neg =>
    have hd : decide ((n : Int) ≤ 3000) = false := decide_eq_false hfew
    go_wp2_with fail
    go_returns
    exact ⟨rfl, hL.bel⟩
  have hd : decide ((n : Int) ≤ 3000) = true := decide_eq_true hfew
  by_cases h60 : 60 < n2
  · go_wp2_with fail
    go_returns
    exact ⟨rfl, hL.bel⟩
  by_cases hg1 : 60 < wd ∧ wd ≤ 32768
  · obtain ⟨hg1, hg1'⟩ := hg1
    go_wp2_with fail
    go_returns
    exact ⟨rfl, hL.bel⟩
  by_cases hg2 : 60 < ht ∧ ht ≤ 32768
  · obtain ⟨hg2, hg2'⟩ := hg2
    have hq : wd ≤ 60 ∨ (60 < wd ∧ 32768 < wd) := by omega
    clear hg1
    rcases hq with hq | ⟨hq, hq2⟩
    all_goals
      go_wp2_with fail
      go_returns
      exact ⟨rfl, hL.bel⟩
  have hq1 : wd ≤ 60 ∨ (60 < wd ∧ 32768 < wd) := by omega
  have hq2 : ht ≤ 60 ∨ (60 < ht ∧ 32768 < ht) := by omega
  clear hg1 hg2
  have hAl := fun w' => alive_any w'
  by_cases hz : thrC W H C n n2 p q r s wd ht m = 0
  case neg =>
    have hWb := fun (w' : World) (hb : Below w.heap.size w w') => warp_bad W H C A A2 n cp n2 c2 m a b c d p q r s wd ht w' (fun e => (HC4.out e).below hb (Nat.le_refl _)) hb.size hz
    have hRc := fun (w' : World) (hb : Below w.heap.size w w') => rthr_any W H C A A2 n cp n2 c2 m a b c d p q r s wd ht w' (fun e => (HC4.out e).below hb (Nat.le_refl _)) hb.size
    have hPc := fun (w' : World) (hb : Below w.heap.size w w') => thr_any W H C A A2 n cp n2 c2 m a b c d p q r s wd ht w' (fun e => (HC4.out e).below hb (Nat.le_refl _)) hb.size
    have hSm := fun (w' : World) => same_yes 0 0 0 none none 0 0 0 [] w' Rd.nil Rd.nil rfl (by simp) (by omega)
    have hne : (thrC W H C n n2 p q r s wd ht m != 0) = true := by simpa using hz
    clear hz
    generalize thrC W H C n n2 p q r s wd ht m = tc at *
    rcases hq1 with hq1 | ⟨hq1, hq1'⟩ <;> rcases hq2 with hq2 | ⟨hq2, hq2'⟩
    all_goals
      go_wp2_with fail
      refine (hWb _ hL.bel).mono ?_
      rintro e w2 ⟨rfl, hb2⟩
      replace hL := (hL.nx hb2).alloc #[.int .i64 0, .int .i64 0, .int .i64 0, .slice none 0 0] 24
      clear hb2 i0 i1 i2 i3 e0 e1 e2 e3 e4 e5 e6 e7 hWb
      obtain ⟨i0, i1, i2, i3⟩ := (hL.k 2 (by simp)).cell4
      obtain ⟨e0, e1, e2, e3, e4, e5, e6, e7⟩ := (hL.k 1 (by simp)).cell8
      simp only [List.getElem_cons_zero, List.getElem_cons_succ] at i0 i1 i2 i3 e0 e1 e2 e3 e4 e5 e6 e7
      go_wp2_with fail
      refine (hRc _ hL.bel).mono ?_
      rintro e w3 ⟨rfl, hb3⟩
      replace hL := hL.nx hb3
      clear hb3 i0 i1 i2 i3 e0 e1 e2 e3 e4 e5 e6 e7 hRc
      obtain ⟨i0, i1, i2, i3⟩ := (hL.k 2 (by simp)).cell4
      obtain ⟨e0, e1, e2, e3, e4, e5, e6, e7⟩ := (hL.k 1 (by simp)).cell8
      simp only [List.getElem_cons_zero, List.getElem_cons_succ] at i0 i1 i2 i3 e0 e1 e2 e3 e4 e5 e6 e7
      have hbl := hL.bel
      go_wp2_with (first
        | (go_at_call 20; (with_reducible refine (hPc _ (by exact hbl)).mono ?_); rintro e w4 ⟨rfl, hb4⟩; have hL4 := hL.nx hb4; obtain ⟨f0, f1, f2, f3⟩ := (hL4.k 0 (by simp)).cell4; simp only [List.getElem_cons_zero] at f0 f1 f2 f3)
        | (go_at_call 12; (with_reducible refine (hSm _).mono ?_); rintro e w5 ⟨rfl, hb5⟩)
        | (go_at_call 13; (with_reducible refine (hAl _).mono ?_); rintro e w6 ⟨rfl, hb6⟩))
      go_returns
      exact ⟨rfl, ((hL4.nx hb5).nx hb6).bel⟩
  obtain ⟨z0, z1, z2, _, _, _⟩ := thrC_zero hz
  obtain ⟨h4, kp, kq, kr, ks⟩ := slC_zero z1
  obtain ⟨_, f2, f3, f4, f5, _⟩ := fitsC_ok z2
  obtain ⟨g1, _⟩ := check_parts z0
  obtain ⟨hcc, _⟩ := fitsC_ok g1
  obtain ⟨Cn, rfl⟩ : ∃ Cn : Nat, C = Cn := ⟨C.toNat, by omega⟩
  obtain ⟨wn, rfl⟩ : ∃ wn : Nat, wd = wn := ⟨wd.toNat, by omega⟩
  obtain ⟨hn, rfl⟩ : ∃ hn : Nat, ht = hn := ⟨ht.toNat, by omega⟩
  have hw60 : wn ≤ 60 := by omega
  have hh60 : hn ≤ 60 := by omega
  have hw1 : 1 ≤ wn := by omega
  have hh1 : 1 ≤ hn := by omega
  subst h4
  have HC := Lib.hid (HC4.out rfl)
  have hT : wn * hn * Cn ≤ 14400 := by
    have := Nat.mul_le_mul hw60 hh60
    have := Nat.mul_le_mul this (show Cn ≤ 4 by omega)
    omega
  have hWb := fun (w' : World) (hb : Below w.heap.size w w') => warp_right W H Cn A A2 n cp c2 P m a b c d p q r s wn hn w' (HC.out.below hb (Nat.le_refl _)) hb.size hz HPP.out (hr.below hb) hcp
  have hRw := fun (w' : World) (hb : Below w.heap.size w w') => rwarp_any W H Cn A A2 n cp c2 P m a b c d p q r s wn hn w' (HC.out.below hb (Nat.le_refl _)) hb.size z0 HPP.out (hr.below hb) hcp kp kq kr ks ⟨hw1, hw60⟩ ⟨hh1, hh60⟩
  have hRc := fun (w' : World) (hb : Below w.heap.size w w') => rthr_any W H Cn A A2 n cp 4 c2 m a b c d p q r s wn hn w' (fun _ => HC.out.below hb (Nat.le_refl _)) hb.size
  have hPc := fun (w' : World) (hb : Below w.heap.size w w') => thr_any W H Cn A A2 n cp 4 c2 m a b c d p q r s wn hn w' (fun _ => HC.out.below hb (Nat.le_refl _)) hb.size
  rw [hz] at hRc hPc
  generalize rwB P W H Cn m a b c d p q r s wn (wn * hn) = xs at *
  obtain ⟨T, hTd⟩ : ∃ T, T = wn * hn * Cn := ⟨_, rfl⟩
  rw [← hTd] at hWb hRw hT
  clear hTd hz z0 z1 z2 kp kq kr ks f2 f3 f4 f5 g1 hcc hq1 hq2 HC4
  have hw60' : (wn : Int) ≤ 60 := by omega
  have hh60' : (hn : Int) ≤ 60 := by omega
  go_wp2_with fail
  refine (hWb _ hL.bel).mono ?_
  rintro e w2 ⟨v, rfl, hown, hb2⟩
  obtain ⟨A5, c5, rfl, _, _, hr5, hl5⟩ := own_form hown
  rw [Nat.mul_one] at hl5
  have HL5 := Lib.hid hl5
  have hsz1 : w.heap.size + 1 < w1.heap.size := (hL.k 0 (by simp)).lt
  have hlt2 := hb2.size
  replace hL := (hL.nx hb2).alloc #[.int .i64 wn, .int .i64 hn, .int .i64 Cn, .slice A5 T c5] 24
  replace hr5 := (hr5.alloc (Nat.le_refl _) (.cells #[.int .i64 wn, .int .i64 hn, .int .i64 Cn, .slice A5 T c5] 24)).more (show w2.heap.size ≤ (w2.alloc (.cells #[.int .i64 wn, .int .i64 hn, .int .i64 Cn, .slice A5 T c5] 24)).heap.size by simp)
  clear hb2 i0 i1 i2 i3 e0 e1 e2 e3 e4 e5 e6 e7 hWb hown hl5
  obtain ⟨i0, i1, i2, i3⟩ := (hL.k 2 (by simp)).cell4
  obtain ⟨e0, e1, e2, e3, e4, e5, e6, e7⟩ := (hL.k 1 (by simp)).cell8
  simp only [List.getElem_cons_zero, List.getElem_cons_succ] at i0 i1 i2 i3 e0 e1 e2 e3 e4 e5 e6 e7
  go_wp2_with fail
  refine (hRc _ hL.bel).mono ?_
  rintro e w3 ⟨rfl, hb3⟩
  replace hL := hL.nx hb3
  replace hr5 := (hr5.below hb3).more hb3.size
  clear hb3 i0 i1 i2 i3 e0 e1 e2 e3 e4 e5 e6 e7 hRc
  obtain ⟨i0, i1, i2, i3⟩ := (hL.k 2 (by simp)).cell4
  obtain ⟨e0, e1, e2, e3, e4, e5, e6, e7⟩ := (hL.k 1 (by simp)).cell8
  simp only [List.getElem_cons_zero, List.getElem_cons_succ] at i0 i1 i2 i3 e0 e1 e2 e3 e4 e5 e6 e7
  have hbl := hL.bel
  go_upto_region 9 with (first
    | (go_at_call 20; (with_reducible refine (hPc _ (by exact hbl)).mono ?_); rintro e w4 ⟨rfl, hb4⟩))
  replace hL := hL.nx hb4
  replace hr5 := (hr5.below hb4).more hb4.size
  clear hb4 i0 i1 i2 i3 e0 e1 e2 e3 e4 e5 e6 e7 hPc hbl
  obtain ⟨i0, i1, i2, i3⟩ := (hL.k 2 (by simp)).cell4
  obtain ⟨e0, e1, e2, e3, e4, e5, e6, e7⟩ := (hL.k 1 (by simp)).cell8
  obtain ⟨f0, f1, f2, f3⟩ := (hL.k 0 (by simp)).cell4
  have hl1 := (hL.k 2 (by simp)).lt
  have hl2 := (hL.k 1 (by simp)).lt
  have hl3 := (hL.k 0 (by simp)).lt
  simp only [List.getElem_cons_zero, List.getElem_cons_succ] at i0 i1 i2 i3 e0 e1 e2 e3 e4 e5 e6 e7 f0 f1 f2 f3 hl1 hl2 hl3
  have hbz := hL.bel
  have hSm := fun (w' : World) (A9 : Option Addr) (c9 : Nat) (h1 : Rd w' w'.heap.size A5 (xs.map (Value.int .u8))) (h2 : Rd w' w'.heap.size A9 (xs.map (Value.int .u8))) => same_yes wn hn Cn A5 A9 T c5 c9 (xs.map (Value.int .u8)) w' h1 h2 HL5.out (by intro v hv; obtain ⟨z, _, rfl⟩ := List.mem_map.1 hv; exact ⟨_, rfl⟩) (by omega)
  clear hL
  have hK := And.intro (And.intro i0 (And.intro i1 (And.intro i2 i3))) (And.intro (And.intro e0 (And.intro e1 (And.intro e2 (And.intro e3 (And.intro e4 (And.intro e5 (And.intro e6 e7))))))) (And.intro f0 (And.intro f1 (And.intro f2 f3))))
  go_region_held3 (fun w' => (w'.cell? ⟨w.heap.size, 0, none⟩ = some (.int .i64 W) ∧ w'.cell? ⟨w.heap.size, 1, none⟩ = some (.int .i64 H) ∧ w'.cell? ⟨w.heap.size, 2, none⟩ = some (.int .i64 Cn) ∧ w'.cell? ⟨w.heap.size, 3, none⟩ = some (.slice A n cp)) ∧ (w'.cell? ⟨w.heap.size + 1, 0, none⟩ = some (.slice A2 4 c2) ∧ w'.cell? ⟨w.heap.size + 1, 1, none⟩ = some (.int .i64 wn) ∧ w'.cell? ⟨w.heap.size + 1, 2, none⟩ = some (.int .i64 hn) ∧ w'.cell? ⟨w.heap.size + 1, 3, none⟩ = some (.int .i64 m) ∧ w'.cell? ⟨w.heap.size + 1, 4, none⟩ = some (.int .u8 a) ∧ w'.cell? ⟨w.heap.size + 1, 5, none⟩ = some (.int .u8 b) ∧ w'.cell? ⟨w.heap.size + 1, 6, none⟩ = some (.int .u8 c) ∧ w'.cell? ⟨w.heap.size + 1, 7, none⟩ = some (.int .u8 d)) ∧ (w'.cell? ⟨w2.heap.size, 0, none⟩ = some (.int .i64 wn) ∧ w'.cell? ⟨w2.heap.size, 1, none⟩ = some (.int .i64 hn) ∧ w'.cell? ⟨w2.heap.size, 2, none⟩ = some (.int .i64 Cn) ∧ w'.cell? ⟨w2.heap.size, 3, none⟩ = some (.slice A5 T c5)) ∧ Below w4.heap.size w4 w')
    (first
      | with_reducible exact keepU hK hl1 hl2 hl3 hbs
      | with_reducible exact keepU hK hl1 hl2 hl3 hbm
      | with_reducible exact keepU hK hl1 hl2 hl3 hbn
      | (refine keepU hK hl1 hl2 hl3 ?_; go_grown))
    (first
      | (go_at_call 21; (with_reducible refine (hRw _ (hbz.trans (Below.mono (by go_grown) hbz.size))).mono ?_); rintro e ws ⟨vs, rfl, howns, hbs'⟩; obtain ⟨A9, c9, rfl, _, _, hr9, _⟩ := own_form howns; have hbs : Below w4.heap.size w4 ws := Below.trans (by go_grown) (hbs'.mono (by first | exact Nat.le_refl _ | (simp; done))))
      | (go_at_call 12; (with_reducible refine (hSm _ A9 c9 ((hr5.below hbs).more hbs.size) hr9).mono ?_); rintro e wm ⟨rfl, hbm'⟩; have hbm : Below w4.heap.size w4 wm := Below.trans hbs (hbm'.mono hbs.size))
      | (go_at_call 13; (with_reducible refine (hAl _).mono ?_); rintro e wn' ⟨rfl, hbn'⟩; have hbn : Below w4.heap.size w4 wn' := Below.trans hbm (hbn'.mono hbm.size)))
  all_goals
    rename_i hHeld
    have hbx := hHeld.2.2.2
    clear hHeld
    go_wp2_with fail
    go_returns
    exact ⟨rfl, hbz.trans (hbx.mono hbz.size)⟩
theorem lawThreeWarps (cs0 cs1 : Array Value) (w : World) (h0 : Rv Try.prog w 24 cs0.toList) (h1 : Rv Try.prog w 44 cs1.toList) :
    Calls Try.prog 5 #[.agg cs0, .agg cs1] w fun e w' => e = .returned (.bool true) ∧ Below w.heap.size w w' := by
  obtain ⟨W, H, C, P, A, n, cp, e0, hP, hcp, _, _, hr, _, _, _⟩ := open_img h0
  obtain ⟨l, A2, n2, c2, wd, ht, m, a, b, c, d, rfl, hl, _, _, hr2⟩ := open_slants h1
  obtain ⟨l0⟩ := cs0
  simp only at e0
  subst e0
  exact walkThreeWarps W H C A n cp P l A2 n2 c2 wd ht m a b c d w hP hr hcp hl hr2
end Go.Proofs.Ytpcjoalbhicccaa
