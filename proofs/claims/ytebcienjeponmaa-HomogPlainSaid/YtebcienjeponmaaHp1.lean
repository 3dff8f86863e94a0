/- The law HomogPlain. -/
import Derived.Test.YtebcienjeponmaaHa1
import Derived.Test.YtebcienjeponmaaOf1
import Derived.Test.YtebcienjeponmaaAf3
set_option linter.unusedVariables false
namespace Go.Proofs.Ytebcienjeponmaa
open Go.RowKit
set_option maxRecDepth 100000 in
set_option maxHeartbeats 8000000 in
theorem walkHomogPlain (l : List Int) (A : Option Addr) (n cp : Nat) (W H x y d : Int) (w : World) (hl : l.length = n) (hcp : n ≤ cp) (hr : Rd w w.heap.size A (l.map (Value.int .i64)))
    (bx : -9223372036854775808 ≤ x ∧ x ≤ 9223372036854775807) (by' : -9223372036854775808 ≤ y ∧ y ≤ 9223372036854775807) (bd : -9223372036854775808 ≤ d ∧ d ≤ 9223372036854775807) :
    Calls Try.prog 6 #[.slice A n cp, .agg #[.int .i64 W, .int .i64 H], .agg #[.int .i64 x, .int .i64 y, .int .i64 d]] w fun e w' => e = .returned (.bool true) ∧ Below w.heap.size w w' := by
  have hL0 : Lie w [(w.heap.size, 23, #[.int .i64 W, .int .i64 H])] _ := (Lie.start w).alloc _ _
  have hL := hL0.alloc #[.int .i64 x, .int .i64 y, .int .i64 d] 25
  simp only [World.size_alloc] at hL
  clear hL0
  have hAl := fun w' => alive19 w'
  by_cases h60 : 60 < n
  · clear hl
    go_enter Try.func6, Try.ntmps6
    go_wp2_with fail
    go_returns
    exact ⟨rfl, hL.bel⟩
  by_cases h6 : n = 6
  case neg =>
    have hO := fun w' => of_else A n cp w' h6
    have hnb : ((n : Int) != 6) = true := by rw [bne_iff_ne]; omega
    clear hl h6
    go_enter Try.func6, Try.ntmps6
    go_wp2_with (first
      | (go_at_call 22; (with_reducible refine (hO _).mono ?_); rintro e w3 ⟨rfl, rfl⟩)
      | (go_at_call 14; (with_reducible refine (hAl _).mono ?_); rintro e w4 ⟨rfl, hb4⟩))
    go_returns
    exact ⟨rfl, (hL.nx hb4).bel⟩
  subst h6
  have hO := of_six l A cp _ hl (hL.rd hr (Nat.le_refl _)) hL.sz
  have HLn := Lib.hid hl
  have e6 := afC_six hl
  have e9 := nine_new hl W H
  obtain ⟨b, o, rfl, hb, hcl⟩ := aget hl hr
  have hAo := fun (h : dtA l ≠ 0) => nine_at hl h x y d
  have hN9 := nine_len hl
  have g0 := nine_lo hl 0 (by decide)
  have g5 := nine_lo hl 5 (by decide)
  have g6 := nine_6 hl
  have g7 := nine_7 hl
  have g8 := nine_8 hl
  have E6 := Lib.hid e6
  have E9 := Lib.hid e9
  have HAo := Lib.hid hAo
  have HN9 := Lib.hid hN9
  have G0 := Lib.hid g0
  have G5 := Lib.hid g5
  have G6 := Lib.hid g6
  have G7 := Lib.hid g7
  have G8 := Lib.hid g8
  clear hl e6 e9 hAo hN9 g0 g5 g6 g7 g8 h60
  go_enter Try.func6, Try.ntmps6
  go_wp2_with fail
  refine hO.mono ?_
  rintro e w2 ⟨v, rfl, hown, hb2⟩
  clear hO
  replace hL := hL.nx hb2
  obtain ⟨A9, c9, rfl, hc9, hm9, hr9, _⟩ := own_form hown
  clear hown
  obtain ⟨b9, o9, rfl, hb9, hcl9⟩ := mget HN9.out hr9
  have d0 : w2.cell? ⟨b, o, none⟩ = some (.int .i64 (cf l 0)) := (hL.bel.cell (p := ⟨b, o, none⟩) hb).trans (hcl 0 (by decide))
  have d5 : w2.cell? ⟨b, o + 5, none⟩ = some (.int .i64 (cf l 5)) := (hL.bel.cell (p := ⟨b, o + 5, none⟩) hb).trans (hcl 5 (by decide))
  have k0 : w2.cell? ⟨b9, o9, none⟩ = some (.int .i64 (cf l 0)) := by
    have := hcl9 0 (by decide); rw [show cf (nine l) 0 = cf l 0 from G0.out] at this; exact this
  have k5 : w2.cell? ⟨b9, o9 + 5, none⟩ = some (.int .i64 (cf l 5)) := by
    have := hcl9 5 (by decide); rw [show cf (nine l) 5 = cf l 5 from G5.out] at this; exact this
  have k6 : w2.cell? ⟨b9, o9 + 6, none⟩ = some (.int .i64 0) := by
    have := hcl9 6 (by decide); rw [show cf (nine l) 6 = 0 from G6.out] at this; exact this
  have k7 : w2.cell? ⟨b9, o9 + 7, none⟩ = some (.int .i64 0) := by
    have := hcl9 7 (by decide); rw [show cf (nine l) 7 = 0 from G7.out] at this; exact this
  have k8 : w2.cell? ⟨b9, o9 + 8, none⟩ = some (.int .i64 65536) := by
    have := hcl9 8 (by decide); rw [show cf (nine l) 8 = 65536 from G8.out] at this; exact this
  clear hcl9 G0 G5 G6 G7 G8
  generalize cf l 0 = z0 at *
  generalize cf l 5 = z5 at *
  go_upto_region 6 with fail
  go_quiet (fail)
  replace hL := hL.drewN nq
  replace hr9 : Rd (w2.drewN nq) (w2.drewN nq).heap.size (some ⟨b9, o9, none⟩) ((nine l).map (Value.int .i64)) := hr9.drewN nq
  clear hb2 d0 d5 k0 k5 k6 k7 k8 hcl hb9 hb
  have hbz : w.heap.size ≤ w2.heap.size := by have := hL.sz; exact this
  generalize w2.drewN nq = w3 at *
  have hAN := anew_any l _ 6 cp w3 HLn.out (hL.rd hr (Nat.le_refl _)) hL.sz
  clear hr
  by_cases h1 : afC l = 0
  · obtain ⟨hok, hdt⟩ := afC_zero.1 h1
    rw [h1] at hAN
    simp only [AfR, h1] at hAN
    have hrg : rg6 l = true := hok.rg
    by_cases hsz : szH W H = true
    · have hz : newC (nine l) W H = 0 := by rw [E9.out, hrg, hsz]; simp [hdt]
      have hH := fun (w' : World) (hb : Below w3.heap.size w3 w') => new_any (nine l) _ 9 c9 W H w' HN9.out (hr9.below' hb (Nat.le_refl _)) hb.size hc9
      rw [hz] at hH
      simp only [NwR, hz] at hH
      have hok9 := (newC_zero.1 hz).ok
      have hAa := fun (g : Nat) (w' : World) (hk : Bk w' g 89 (afA l)) => aat_any l g x y d w' hk hok hdt
      have hAh := fun (g : Nat) (w' : World) (hk : Bk w' g 74 (mA (adK (cf (nine l)) 9))) => hat_any (adK (cf (nine l)) 9) g x y d w' hk (adOk hok9)
      obtain ⟨q1, q2, q3⟩ := HAo.out hdt
      rw [q1, q2, q3] at hAh
      clear q1 q2 q3 h1 hok hdt hrg hsz hz hok9 E6 E9 HAo
      generalize afX l x y d = X at *
      generalize afY l x y d = Y at *
      generalize afE x y d = E at *
      have hLe := hL
      obtain ⟨p0, p1, p2⟩ := (hLe.k 0 (by simp)).cell3
      simp only [List.getElem_cons_zero, List.getElem_cons_succ] at p0 p1 p2
      clear hLe p0 p1 p2
      go_wp2_with fail
      refine hAN.mono ?_
      rintro e w4 ⟨p, rfl, ⟨_, hRr⟩, hb4⟩
      obtain ⟨g, rfl, hg, hK⟩ := hRr (by trivial)
      clear hRr hAN
      replace hL := hL.nx hb4
      obtain ⟨s0, s1⟩ := (hL.k 1 (by simp)).cell2
      simp only [List.getElem_cons_zero, List.getElem_cons_succ] at s0 s1
      go_wp2_with fail
      refine (hH _ hb4).mono ?_
      rintro e w5 ⟨p, rfl, ⟨_, hRr⟩, hb5⟩
      obtain ⟨g2, rfl, hg2, hK2⟩ := hRr (by trivial)
      clear hRr hH s0 s1
      replace hL := hL.nx hb5
      replace hK := hK.nx hb5
      obtain ⟨p0, p1, p2⟩ := (hL.k 0 (by simp)).cell3
      simp only [List.getElem_cons_zero, List.getElem_cons_succ] at p0 p1 p2
      go_wp2_with fail
      refine (hAa _ _ hK).mono ?_
      rintro e w6 ⟨rfl, hb6⟩
      clear p0 p1 p2
      replace hL := hL.nx hb6
      replace hK2 := hK2.nx hb6
      obtain ⟨p0, p1, p2⟩ := (hL.k 0 (by simp)).cell3
      simp only [List.getElem_cons_zero, List.getElem_cons_succ] at p0 p1 p2
      go_wp2_with fail
      refine (hAh _ _ hK2).mono ?_
      rintro e w7 ⟨rfl, hb7⟩
      clear p0 p1 p2
      replace hL := hL.nx hb7
      go_wp2_with (first
        | (go_at_call 14; (with_reducible refine (hAl _).mono ?_); rintro e w8 ⟨rfl, hb8⟩))
      go_returns
      exact ⟨rfl, (hL.nx hb8).bel⟩
    · have hz : newC (nine l) W H = 30 := by rw [E9.out, hrg]; simp [hsz]
      have hH := fun (w' : World) (hb : Below w3.heap.size w3 w') => new_any (nine l) _ 9 c9 W H w' HN9.out (hr9.below' hb (Nat.le_refl _)) hb.size hc9
      rw [hz] at hH
      clear h1 hok hdt hrg hsz hz E6 E9 HAo
      simp only [NwR] at hH
      go_wp2_with fail
      refine hAN.mono ?_
      rintro e w4 ⟨p, rfl, _, hb4⟩
      clear hAN
      replace hL := hL.nx hb4
      obtain ⟨s0, s1⟩ := (hL.k 1 (by simp)).cell2
      simp only [List.getElem_cons_zero, List.getElem_cons_succ] at s0 s1
      go_wp2_with fail
      refine (hH _ hb4).mono ?_
      rintro e w5 ⟨p', rfl, _, hb5⟩
      clear hH s0 s1
      replace hL := hL.nx hb5
      go_wp2_with (first
        | (go_at_call 14; (with_reducible refine (hAl _).mono ?_); rintro e w8 ⟨rfl, hb8⟩))
      go_returns
      exact ⟨rfl, (hL.nx hb8).bel⟩
  · have hbC : (afC l = 11 ∧ newC (nine l) W H = 11) ∨ (afC l = 40 ∧ newC (nine l) W H = 30) ∨ (afC l = 40 ∧ newC (nine l) W H = 40) := by
      have a := E6.out
      have b := E9.out
      cases hg : rg6 l
      · left; rw [hg] at a b; simpa using ⟨a, b⟩
      · right
        rw [hg] at a b
        by_cases hd : dtA l = 0
        · cases hs : szH W H
          · left; rw [hs] at b; simp [hd] at a b; exact ⟨a, b⟩
          · right; rw [hs] at b; simp [hd] at a b; exact ⟨a, b⟩
        · exfalso; apply h1; rw [a]; simp [hd]
    have hH := fun (w' : World) (hb : Below w3.heap.size w3 w') => new_any (nine l) _ 9 c9 W H w' HN9.out (hr9.below' hb (Nat.le_refl _)) hb.size hc9
    simp only [NwR] at hH
    simp only [AfR] at hAN
    clear h1 E6 E9 HAo
    generalize afC l = ca at *
    generalize newC (nine l) W H = ch at *
    rcases hbC with ⟨rfl, rfl⟩ | ⟨rfl, rfl⟩ | ⟨rfl, rfl⟩
    all_goals
      go_wp2_with fail
      refine hAN.mono ?_
      rintro e w4 ⟨p, rfl, _, hb4⟩
      clear hAN
      replace hL := hL.nx hb4
      obtain ⟨s0, s1⟩ := (hL.k 1 (by simp)).cell2
      simp only [List.getElem_cons_zero, List.getElem_cons_succ] at s0 s1
      go_wp2_with fail
      refine (hH _ hb4).mono ?_
      rintro e w5 ⟨p', rfl, _, hb5⟩
      clear hH s0 s1
      replace hL := hL.nx hb5
      go_wp2_with (first
        | (go_at_call 14; (with_reducible refine (hAl _).mono ?_); rintro e w8 ⟨rfl, hb8⟩))
      go_returns
      exact ⟨rfl, (hL.nx hb8).bel⟩
theorem lawHomogPlain (A : Option Addr) (n cp : Nat) (cs1 cs2 : Array Value) (w : World) (h0 : Rv Try.prog w 22 [.slice A n cp]) (h1 : Rv Try.prog w 23 cs1.toList) (h2 : Rv Try.prog w 25 cs2.toList) :
    Calls Try.prog 6 #[.slice A n cp, .agg cs1, .agg cs2] w fun e w' => e = .returned (.bool true) ∧ Below w.heap.size w w' := by
  obtain ⟨l, hl, hn, _, _, hr⟩ := open_nums h0
  obtain ⟨W, H, rfl, _, _⟩ := open_size h1
  obtain ⟨x, y, d, e2, bx, by', bd⟩ := open_place h2
  obtain ⟨l2⟩ := cs2
  simp only at e2
  subst e2
  exact walkHomogPlain l A n cp W H x y d w hl hn hr bx by' bd
end Go.Proofs.Ytebcienjeponmaa
