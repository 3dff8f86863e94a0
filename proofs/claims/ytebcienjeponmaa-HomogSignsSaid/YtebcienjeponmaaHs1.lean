/- The law HomogSigns. -/
import Derived.Test.YtebcienjeponmaaHa1
import Derived.Test.YtebcienjeponmaaHs0
set_option linter.unusedVariables false
namespace Go.Proofs.Ytebcienjeponmaa
open Go.RowKit
set_option maxRecDepth 100000 in
set_option maxHeartbeats 8000000 in
theorem walkHomogSigns (l : List Int) (A : Option Addr) (n cp : Nat) (W H x y d : Int) (w : World) (hl : l.length = n) (hcp : n ≤ cp) (hr : Rd w w.heap.size A (l.map (Value.int .i64)))
    (bx : -9223372036854775808 ≤ x ∧ x ≤ 9223372036854775807) (by' : -9223372036854775808 ≤ y ∧ y ≤ 9223372036854775807) (bd : -9223372036854775808 ≤ d ∧ d ≤ 9223372036854775807) :
    Calls Try.prog 5 #[.slice A n cp, .agg #[.int .i64 W, .int .i64 H], .agg #[.int .i64 x, .int .i64 y, .int .i64 d]] w fun e w' => e = .returned (.bool true) ∧ Below w.heap.size w w' := by
  have hL0 : Lie w [(w.heap.size, 23, #[.int .i64 W, .int .i64 H])] _ := (Lie.start w).alloc _ _
  have hL := hL0.alloc #[.int .i64 x, .int .i64 y, .int .i64 d] 25
  simp only [World.size_alloc] at hL
  clear hL0
  have hN := new_any l A n cp W H _ hl (hL.rd hr (Nat.le_refl _)) hL.sz hcp
  obtain ⟨p0, p1, p2⟩ := (hL.k 0 (by simp)).cell3
  obtain ⟨s0, s1⟩ := (hL.k 1 (by simp)).cell2
  simp only [List.getElem_cons_zero, List.getElem_cons_succ] at p0 p1 p2 s0 s1
  have hAl := fun w' => alive19 w'
  by_cases hz : newC l W H = 0
  · have hok := newC_zero.1 hz
    rw [hz] at hN
    simp only [NwR, hz] at hN
    have hU := fun (x y d : Int) (g : Nat) (w' : World) (hk : Bk w' g 74 (mA (adK (cf l) 9))) => under_any (adK (cf l) 9) g x y d w' hk (adOk hok.ok)
    have hAt := fun (g : Nat) (w' : World) (hk : Bk w' g 74 (mA (adK (cf l) 9))) => hat_any (adK (cf l) 9) g x y d w' hk (adOk hok.ok)
    have hpl := Lib.hid (signs_plain hok.sz.1 hok.sz.2 hok.sg)
    obtain ⟨⟨bW0, bW1⟩, bH0, bH1⟩ := hok.sz
    clear hz hok
    have hR := fun w' => rright_h x y d w'
    go_enter Try.func5, Try.ntmps5
    go_wp2_with fail
    refine hN.mono ?_
    rintro e w2 ⟨p, rfl, ⟨_, hRr⟩, hb2⟩
    obtain ⟨g, rfl, hg, hK⟩ := hRr (by trivial)
    clear hRr hN
    replace hL := hL.nx hb2
    clear p0 p1 p2 s0 s1
    obtain ⟨p0, p1, p2⟩ := (hL.k 0 (by simp)).cell3
    obtain ⟨s0, s1⟩ := (hL.k 1 (by simp)).cell2
    simp only [List.getElem_cons_zero, List.getElem_cons_succ] at p0 p1 p2 s0 s1
    have hbl := hL.bel
    cases hp : rightH x y d
    · rw [hp] at hR
      clear hp
      go_wp2_with fail
      go_quiet (fail)
      clear hbl
      go_wp2_with (first
        | (go_at_call 18; (with_reducible refine (hR _).mono ?_); rintro e w3 ⟨rfl, rfl⟩)
        | (go_at_call 14; (with_reducible refine (hAl _).mono ?_); rintro e w4 ⟨rfl, hb4⟩))
      go_returns
      exact ⟨rfl, ((hL.drewN nq).nx hb4).bel⟩
    · rw [hp] at hR
      obtain ⟨⟨x0, x1⟩, ⟨y0, y1⟩, d0, d1⟩ := rightH_iff.1 hp
      have m1 := mulbd (a := 2 * W - 1) (b := d) (A := 65535) (B := 16) (by omega) (by omega) (by omega) (by omega)
      have m2 := mulbd (a := 2 * H - 1) (b := d) (A := 65535) (B := 16) (by omega) (by omega) (by omega) (by omega)
      obtain ⟨E, hE⟩ : ∃ E, E = (2 * W - 1) * d := ⟨_, rfl⟩
      obtain ⟨F, hF⟩ : ∃ F, F = (2 * H - 1) * d := ⟨_, rfl⟩
      have HE := Lib.hid hE
      have HF := Lib.hid hF
      have HP := Lib.hid hp
      rw [← hE] at m1
      rw [← hF] at m2
      have e1 : IntKind.i64.wrap ((2 * W - 1) * d) = E := by rw [← hE]; exact IntWalk.i64_in _ ⟨by omega, by omega⟩
      have e2 : IntKind.i64.wrap ((2 * H - 1) * d) = F := by rw [← hF]; exact IntWalk.i64_in _ ⟨by omega, by omega⟩
      clear hE hF hp
      by_cases c1 : 2 * x < -d
      case pos =>
        go_wp2_with fail
        go_quiet (fail)
        go_wp2_with (first
          | (go_at_call 18; (with_reducible refine (hR _).mono ?_); rintro e w3 ⟨rfl, rfl⟩)
          | (go_at_call 14; (with_reducible refine (hAl _).mono ?_); rintro e w4 ⟨rfl, hb4⟩))
        go_returns
        exact ⟨rfl, ((hL.drewN nq).nx hb4).bel⟩
      by_cases c2 : 2 * x > E
      case pos =>
        go_wp2_with fail
        go_quiet (fail)
        go_wp2_with (first
          | (go_at_call 18; (with_reducible refine (hR _).mono ?_); rintro e w3 ⟨rfl, rfl⟩)
          | (go_at_call 14; (with_reducible refine (hAl _).mono ?_); rintro e w4 ⟨rfl, hb4⟩))
        go_returns
        exact ⟨rfl, ((hL.drewN nq).nx hb4).bel⟩
      by_cases c3 : 2 * y < -d
      case pos =>
        go_wp2_with fail
        go_quiet (fail)
        go_wp2_with (first
          | (go_at_call 18; (with_reducible refine (hR _).mono ?_); rintro e w3 ⟨rfl, rfl⟩)
          | (go_at_call 14; (with_reducible refine (hAl _).mono ?_); rintro e w4 ⟨rfl, hb4⟩))
        go_returns
        exact ⟨rfl, ((hL.drewN nq).nx hb4).bel⟩
      by_cases c4 : 2 * y > F
      case pos =>
        go_wp2_with fail
        go_quiet (fail)
        go_wp2_with (first
          | (go_at_call 18; (with_reducible refine (hR _).mono ?_); rintro e w3 ⟨rfl, rfl⟩)
          | (go_at_call 14; (with_reducible refine (hAl _).mono ?_); rintro e w4 ⟨rfl, hb4⟩))
        go_returns
        exact ⟨rfl, ((hL.drewN nq).nx hb4).bel⟩
      have hZ : rightH 0 0 1 = true := by decide
      have hsg : Hid (atE (adK (cf l) 9) x y d = 0 ∧ ((0 < undR (adK (cf l) 9) x y d ∧ 0 < undR (adK (cf l) 9) 0 0 1) ∨ (undR (adK (cf l) 9) x y d < 0 ∧ undR (adK (cf l) 9) 0 0 1 < 0))) := by
        have hE := HE.out
        have hF := HF.out
        rcases hpl.out with h | h
        · have h1 := h x y d HP.out (by omega) (by omega) (by omega) (by omega)
          have h2 := h 0 0 1 hZ (by omega) (by omega) (by omega) (by omega)
          refine ⟨?_, Or.inl ⟨h1, h2⟩⟩
          unfold atE
          rw [if_pos HP.out, if_pos (by omega)]
        · have h1 := h x y d HP.out (by omega) (by omega) (by omega) (by omega)
          have h2 := h 0 0 1 hZ (by omega) (by omega) (by omega) (by omega)
          refine ⟨?_, Or.inr ⟨h1, h2⟩⟩
          unfold atE
          rw [if_pos HP.out, if_pos (by omega)]
      have hU1 := hU x y d g
      have hU2 := hU 0 0 1 g
      have hA1 := hAt g
      rw [hsg.out.1] at hA1
      obtain ⟨_, hsg⟩ := hsg.out
      clear hZ hU hAt hpl
      generalize atX (adK (cf l) 9) x y d = X at *
      generalize atY (adK (cf l) 9) x y d = Y at *
      generalize undR (adK (cf l) 9) x y d = u at *
      generalize undR (adK (cf l) 9) 0 0 1 = v at *
      rcases hsg with ⟨h1, h2⟩ | ⟨h1, h2⟩
      all_goals
        go_wp2_with fail
        go_quiet (fail)
        go_wp2_with (first
          | (go_at_call 18; (with_reducible refine (hR _).mono ?_); rintro e w3 ⟨rfl, rfl⟩))
        refine (hA1 _ (hK.drewN nq)).mono ?_
        rintro e w4 ⟨rfl, hb4⟩
        replace hL := (hL.drewN nq).nx hb4
        replace hK := (hK.drewN nq).nx hb4
        clear p0 p1 p2 s0 s1
        obtain ⟨p0, p1, p2⟩ := (hL.k 0 (by simp)).cell3
        simp only [List.getElem_cons_zero, List.getElem_cons_succ] at p0 p1 p2
        go_wp2_with fail
        refine (hU1 _ hK).mono ?_
        rintro e w5 ⟨rfl, hb5⟩
        replace hL := hL.nx hb5
        replace hK := hK.nx hb5
        clear p0 p1 p2
        go_wp2_with fail
        refine (hU2 _ hK).mono ?_
        rintro e w6 ⟨rfl, hb6⟩
        replace hL := hL.nx hb6
        go_wp2_with (first
          | (go_at_call 14; (with_reducible refine (hAl _).mono ?_); rintro e w7 ⟨rfl, hb7⟩))
        go_returns
        exact ⟨ret_bool (bne_iff_ne.2 (by omega)), (hL.nx hb7).bel⟩
  · have hb : (newC l W H != 0) = true := by simp [hz]
    have hne := Lib.hid hz
    simp only [NwR] at hN
    clear hz
    generalize newC l W H = nc at *
    go_enter Try.func5, Try.ntmps5
    go_wp2_with fail
    refine hN.mono ?_
    rintro e w2 ⟨p, rfl, ⟨hRl, _⟩, hb2⟩
    obtain rfl := hRl hne.out
    clear hRl hN
    replace hL := hL.nx hb2
    go_wp2_with (first
      | (go_at_call 14; (with_reducible refine (hAl _).mono ?_); rintro e w4 ⟨rfl, hb4⟩))
    go_returns
    exact ⟨rfl, (hL.nx hb4).bel⟩
theorem lawHomogSigns (A : Option Addr) (n cp : Nat) (cs1 cs2 : Array Value) (w : World) (h0 : Rv Try.prog w 22 [.slice A n cp]) (h1 : Rv Try.prog w 23 cs1.toList) (h2 : Rv Try.prog w 25 cs2.toList) :
    Calls Try.prog 5 #[.slice A n cp, .agg cs1, .agg cs2] w fun e w' => e = .returned (.bool true) ∧ Below w.heap.size w w' := by
  obtain ⟨l, hl, hn, _, _, hr⟩ := open_nums h0
  obtain ⟨W, H, rfl, _, _⟩ := open_size h1
  obtain ⟨x, y, d, e2, bx, by', bd⟩ := open_place h2
  obtain ⟨l2⟩ := cs2
  simp only at e2
  subst e2
  exact walkHomogSigns l A n cp W H x y d w hl hn hr bx by' bd
end Go.Proofs.Ytebcienjeponmaa
