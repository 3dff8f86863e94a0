/- The law XformIn: the walk. -/
import Derived.Test.YtlbiiljncacdoaaGreatXI
import Derived.Test.YtlbiiljncacdoaaGreatOX
import Derived.Test.YtlbiiljncacdoaaGreatKG
import Derived.Test.YtlbiiljncacdoaaGreatK3
set_option linter.unusedVariables false
namespace Go.Proofs.YtlbiiljncacdoaaGreat
open Go.RowKit
theorem xf_sizeN : (Tryz.prog.info? 31).map (·.size) = some 2 := by kernel_rfl
set_option maxRecDepth 100000 in
set_option maxHeartbeats 16000000 in
theorem walkXformIn (k : Int) (l : List Int) (A : Option Addr) (n cp : Nat) (W H x y d : Int) (w : World) (hl : l.length = n) (hcp : n ≤ cp) (hcm : cp ≤ maxLen) (hr : Rd w w.heap.size A (l.map (Value.int .i64))) :
    Calls Tryz.prog 5 #[xfV k A n cp, .agg #[.int .i64 W, .int .i64 H], .agg #[.int .i64 x, .int .i64 y, .int .i64 d]] w fun e w' => e = .returned (.bool true) ∧ Below w.heap.size w w' := by
  have hL := (((Lie.start w).alloc #[.int .i64 k, .slice A n cp] 31).alloc #[.int .i64 W, .int .i64 H] 22).alloc #[.int .i64 x, .int .i64 y, .int .i64 d] 24
  simp only [World.size_alloc] at hL
  by_cases h9 : 9000 < n
  · clear hl hcp hcm hr
    go_enter Tryz.func5, Tryz.ntmps5
    go_wp2_with fail
    go_returns
    exact ⟨rfl, hL.bel⟩
  have hMp := newMp_any k l A n cp W H w hl hcp hcm hr
  have hPl := fun hc hr x0 x1 y0 y1 => in_plain (k := k) (l := l) (W := W) (H := H) (x := x) (y := y) (d := d) hc hr x0 x1 y0 y1
  have hsz := fun hc => (xC_zero (k := k) (l := l) (W := W) (H := H) hc).2.1
  clear hl hcp hcm hr
  generalize xC k l W H = C at *
  generalize xF k l = F at *
  generalize xG k l = G at *
  generalize xE k l = E at *
  go_enter Tryz.func5, Tryz.ntmps5
  go_upto_region 3 with fail
  have hNn := hMp _ hL.bel
  generalize hw0 : (((w.alloc (.cells #[.int .i64 k, .slice A n cp] 31)).alloc (.cells #[.int .i64 W, .int .i64 H] 22)).alloc (.cells #[.int .i64 x, .int .i64 y, .int .i64 d] 24)) = w0 at *
  clear hw0 hMp
  have kx0 := hL.k 2 (by simp)
  have hks := (hL.k 1 (by simp)).cell2
  simp only [List.getElem_cons_zero, List.getElem_cons_succ] at kx0 hks
  obtain ⟨s0, s1⟩ := hks
  go_upto_region 4 with (first
    | (refine ldB rfl _ _ rfl kx0 rfl Tryz.underlying31 rfl xf_sizeN ?_)
    | (go_at_call 21; (with_reducible refine hNn.mono ?_); rintro e w1 ⟨p, rfl, hp0, hp1, hb1⟩))
  have hL1 := hL.nx hb1
  clear hNn s0 s1 kx0
  have hks : w1.cell? ⟨w.heap.size + 1, 0, none⟩ = some (.int .i64 W) ∧ w1.cell? ⟨w.heap.size + 1, 1, none⟩ = some (.int .i64 H) := (hL1.k 1 (by simp)).cell2
  obtain ⟨s0, s1⟩ := hks
  have hkp : w1.cell? ⟨w.heap.size + 2, 0, none⟩ = some (.int .i64 x) ∧ w1.cell? ⟨w.heap.size + 2, 1, none⟩ = some (.int .i64 y) ∧ w1.cell? ⟨w.heap.size + 2, 2, none⟩ = some (.int .i64 d) := (hL1.k 0 (by simp)).cell3
  obtain ⟨p0, p1, p2⟩ := hkp
  go_quiet (fail)
  by_cases hz : C = 0
  · subst hz
    obtain ⟨hM, q, rfl, hq, v, hK⟩ := hp1 rfl
    obtain ⟨hW, hH⟩ := szH_iff.1 (hsz rfl)
    replace hPl := hPl rfl
    have hM1 := hM (w1.drewN nq) (Nat.le_refl _) (fun _ _ _ => rfl) x y d
    clear hp0 hp1 hsz hK hL
    cases hp : rightH x y d
    · go_wp2_with (first
        | (go_at_call 23; (with_reducible refine (rright_h _ _ _ _).mono ?_); rintro e w' ⟨rfl, rfl⟩; rw [hp])
        | (go_at_call 22; (with_reducible refine (alive24 _).mono ?_); rintro e wz ⟨rfl, hbz⟩))
      go_returns
      exact ⟨rfl, ((hL1.drewN _).nx hbz).bel⟩
    · obtain ⟨i0, i1, d0, d1⟩ := rightH_iff.1 hp
      replace hPl := hPl hp
      have m1 := mulbd (a := 2 * W - 1) (b := d) (A := 65536) (B := 16) (by omega) (by omega) (by omega) d1
      have m2 := mulbd (a := 2 * H - 1) (b := d) (A := 65536) (B := 16) (by omega) (by omega) (by omega) d1
      obtain ⟨z1, hz1⟩ : ∃ z, (2 * W - 1) * d = z := ⟨_, rfl⟩
      obtain ⟨z2, hz2⟩ : ∃ z, (2 * H - 1) * d = z := ⟨_, rfl⟩
      have e1 : wrap64 ((2 * W - 1) * d) = z1 := by rw [IntWalk.wrap64_in _ ⟨by omega, by omega⟩]; exact hz1
      have e2 : wrap64 ((2 * H - 1) * d) = z2 := by rw [IntWalk.wrap64_in _ ⟨by omega, by omega⟩]; exact hz2
      rw [hz1, hz2] at hPl
      clear hz1 hz2 m1 m2
      rcases (show 2 * x < -d ∨ (-d ≤ 2 * x ∧ z1 < 2 * x) ∨ (-d ≤ 2 * x ∧ 2 * x ≤ z1 ∧ 2 * y < -d) ∨ (-d ≤ 2 * x ∧ 2 * x ≤ z1 ∧ -d ≤ 2 * y ∧ z2 < 2 * y) ∨ (-d ≤ 2 * x ∧ 2 * x ≤ z1 ∧ -d ≤ 2 * y ∧ 2 * y ≤ z2) by omega) with c0 | ⟨c0, c1⟩ | ⟨c0, c1, c2⟩ | ⟨c0, c1, c2, c3⟩ | ⟨c0, c1, c2, c3⟩
      iterate 4
        · clear hM1 hPl hM
          go_wp2_with (first
            | (go_at_call 23; (with_reducible refine (rright_h _ _ _ _).mono ?_); rintro e w' ⟨rfl, rfl⟩; rw [hp])
            | (go_at_call 22; (with_reducible refine (alive24 _).mono ?_); rintro e wz ⟨rfl, hbz⟩))
          go_returns
          exact ⟨rfl, ((hL1.drewN _).nx hbz).bel⟩
      obtain ⟨hE0, hF0, hG0⟩ := hPl c0 c1 c2 c3
      rw [hE0] at hM1
      clear hPl hM
      have r1 := fun w' => rin_any (F x y d) 70368744177664 w' (by decide) (by decide)
      have r2 := fun w' => rin_any (G x y d) 70368744177664 w' (by decide) (by decide)
      rw [inH_iff.2 hF0] at r1
      rw [inH_iff.2 hG0] at r2
      clear hE0 hF0 hG0
      generalize F x y d = u at *
      generalize G x y d = v' at *
      go_wp2_with (first
        | (go_at_call 23; (with_reducible refine (rright_h _ _ _ _).mono ?_); rintro e w' ⟨rfl, rfl⟩; rw [hp])
        | (go_at_call 24; (with_reducible refine hM1.mono ?_); rintro e w2 ⟨rfl, hb2⟩; have hL2 := (hL1.drewN nq).nx hb2)
        | (go_at_call 31; (with_reducible refine (r1 _).mono ?_); rintro e w' ⟨rfl, rfl⟩)
        | (go_at_call 31; (with_reducible refine (r2 _).mono ?_); rintro e w' ⟨rfl, rfl⟩)
        | (go_at_call 22; (with_reducible refine (alive24 _).mono ?_); rintro e wz ⟨rfl, hbz⟩))
      go_returns
      exact ⟨rfl, (hL2.nx hbz).bel⟩
  · have hbz : (C != 0) = true := by simp [hz]
    clear hp0 hp1 hsz hPl
    go_wp2_with (first
      | (go_at_call 22; (with_reducible refine (alive24 _).mono ?_); rintro e wz ⟨rfl, hbz⟩))
    go_returns
    exact ⟨rfl, ((hL1.drewN _).nx hbz).bel⟩
theorem lawXformIn (cs0 cs1 cs2 : Array Value) (w : World) (h0 : Rv Tryz.prog w 31 cs0.toList) (h1 : Rv Tryz.prog w 22 cs1.toList) (h2 : Rv Tryz.prog w 24 cs2.toList) :
    Calls Tryz.prog 5 #[.agg cs0, .agg cs1, .agg cs2] w fun e w' => e = .returned (.bool true) ∧ Below w.heap.size w w' := by
  obtain ⟨k, A, n, cp, l, e0, _, hl, hn, hcm, hok, hr⟩ := open_xform h0
  obtain rfl : cs0 = #[.int .i64 k, .slice A n cp] := by cases cs0; simp at e0; simp [e0]
  obtain ⟨W, H, rfl, hW, hH⟩ := open_size h1
  obtain ⟨x, y, d, e2, _, _, _⟩ := open_place h2
  obtain rfl : cs2 = #[.int .i64 x, .int .i64 y, .int .i64 d] := by cases cs2; simp at e2; simp [e2]
  exact walkXformIn k l A n cp W H x y d w hl hn hcm hr
end Go.Proofs.YtlbiiljncacdoaaGreat
