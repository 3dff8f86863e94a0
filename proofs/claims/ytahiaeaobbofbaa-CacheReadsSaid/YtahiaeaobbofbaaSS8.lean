/- The reference's code of images; places; few; alive. -/
import Derived.Test.YtahiaeaobbofbaaSS5
set_option linter.unusedVariables false
namespace Go.Proofs.Ytahiaeaobbofbaa
open Go.RowKit
set_option maxRecDepth 100000 in
set_option maxHeartbeats 8000000 in
theorem rimages_any (ims : List Im) (A : Option Addr) (n c lo : Nat) (w : World) (hn : ims.length = n) (hA : ImsAt w lo A ims) (hb : n ≤ 100000) :
    Calls Try.prog 18 #[.slice A n c] w fun e w' => e = .returned (.int .i64 (imagesC ims)) ∧ Below w.heap.size w w' := by
  rcases Nat.eq_zero_or_pos n with h0 | h0
  · subst h0
    obtain rfl : ims = [] := List.eq_nil_of_length_eq_zero hn
    go_enter Try.func18, Try.ntmps18
    go_wp2_with fail
    go_returns
    exact ⟨rfl, Below.refl _ _⟩
  · have hne : ims ≠ [] := by intro e; rw [e] at hn; simp at hn; omega
    have hI := imagesC_eq hne
    have hC0 : (im0 ims).C = ims[0].C := by
      cases ims with
      | nil => exact absurd rfl hne
      | cons a r => rfl
    obtain ⟨b, o, A0, c0, rfl, _, hbw, _, _, hz2, _⟩ := hA.get 0 (show 0 < ims.length by omega)
    rw [← hC0, show o + 0 * 4 + 2 = o + 2 by omega] at hz2
    clear hC0
    generalize hCC : (im0 ims).C = C0 at *
    have HI := Lib.hid hI
    clear hI hCC hne
    have hnb : ((n : Int) == 0) = false := by simp; omega
    have hn0 : (0 : Int) < (n : Int) := by omega
    go_enter Try.func18, Try.ntmps18
    go_wp2_with fail
    go_loopw [3] (fun i wr => ∃ k : Nat, k ≤ n ∧ i = .int .i64 k ∧ Below w.heap.size w wr ∧ imsC C0 ims = imsC C0 (ims.drop k)) (fun i _ => n - (intOf i).toNat)
    case atStart => exact ⟨0, by omega, rfl, Below.refl _ _, by simp⟩
    case round =>
      obtain ⟨k, hk, rfl, hbel, hdr⟩ := hrel
      have HD := Lib.hid hdr
      clear hdr hnb
      by_cases hlt : k < n
      · have hk2 : k < ims.length := by omega
        have HS := Lib.hid (imsC_step (C0 := C0) hk2)
        obtain ⟨b', o', Ai, ci, e', _, hbw', q0, q1, q2, q3, hci, hri⟩ := (hA.nx hbel (Nat.le_refl _)).get k hk2
        injection e' with e'; injection e' with e1 e2
        subst e1; subst e2
        have hz2' := (hbel.cell (p := ⟨b, o + 2, none⟩) hbw).trans hz2
        generalize ims[k] = m at *
        have hbw2 := hbel.size
        have hIC := fun w => ircheck_any m.W m.H m.C Ai m.px.length ci w
        generalize checkC m.W m.H m.C m.px.length = ck at *
        by_cases hck : ck = 0
        · have hcb : (ck != 0) = false := by simpa using hck
          have HCK := Lib.hid hck
          clear hck
          go_upto_region 9 with (go_at_call 26; (with_reducible refine (hIC _).mono ?_); rintro e w2 ⟨rfl, hb2⟩)
          have q2' := (hb2.cell (p := ⟨b, o + k * 4 + 2, none⟩) hbw').trans q2
          have hz3 := (hb2.cell (p := ⟨b, o + 2, none⟩) hbw').trans hz2'
          have hb3 := hbel.trans (hb2.mono hbw2)
          clear hIC q0 q1 q2 q3 hz2'
          by_cases hcc : m.C = C0
          · have hcd : (m.C != C0) = false := by simpa using hcc
            have HCC := Lib.hid hcc
            clear hcc
            go_quiet ((fail))
            go_wp2_with fail
            have hok : imsC C0 ims = imsC C0 (ims.drop (k + 1)) := by rw [HD.out, HS.out, if_neg (by rw [HCK.out]; simp), if_neg (by rw [HCC.out]; simp)]
            exact ⟨⟨k + 1, by omega, by go_num, below_drewN hb3 _, hok⟩, by simp [intOf]; omega⟩
          · have hcd : (m.C != C0) = true := by simpa using hcc
            go_quiet ((fail))
            go_wp2_with fail
            go_returns
            have hz0 : imagesC ims = 10 := by rw [HI.out, HD.out, HS.out, if_neg (by rw [HCK.out]; simp), if_pos hcc]
            exact ⟨by rw [hz0]; rfl, below_drewN hb3 _⟩
        · have hcb : (ck != 0) = true := by simpa using hck
          have HCK := Lib.hid hck
          clear hck
          go_wp2_with (go_at_call 26; (with_reducible refine (hIC _).mono ?_); rintro e w2 ⟨rfl, hb2⟩)
          go_returns
          have hz0 : imagesC ims = ck := by rw [HI.out, HD.out, HS.out, if_pos HCK.out]
          exact ⟨by rw [hz0]; rfl, hbel.trans (hb2.mono hbw2)⟩
      · obtain rfl : k = n := by omega
        have hz := HD.out
        rw [List.drop_of_length_le (by omega)] at hz
        have hz0 : imagesC ims = 0 := by rw [HI.out, hz]; rfl
        have HZ := Lib.hid hz0
        clear hz hz0
        go_wp2_with fail
        go_returns
        exact ⟨by rw [HZ.out]; rfl, hbel⟩
set_option maxRecDepth 100000 in
set_option maxHeartbeats 4000000 in
theorem rplace_in (m : Im) (A : Option Addr) (cp : Nat) (x y : Int) (w : World) (h : checkC m.W m.H m.C m.px.length = 0) (hx : 0 ≤ x ∧ x < m.W) (hy : 0 ≤ y ∧ y < m.H) :
    Calls Try.prog 10 #[.agg #[.int .i64 m.W, .int .i64 m.H, .int .i64 m.C, .slice A m.px.length cp], .int .i64 x, .int .i64 y, .int .i64 0] w fun e w' => e = .returned (.int .i64 ((y * m.W + x) * m.C)) ∧ Below w.heap.size w w' := by
  obtain ⟨W, H, C, px⟩ := m
  simp only at *
  obtain ⟨hf, hl⟩ := ck_parts h
  obtain ⟨hc, hw1, hw2, hh1, hh2, hp⟩ := fitsC_ok hf
  obtain ⟨⟨a1, a2⟩, ⟨a3, a4⟩, ⟨a5, a6⟩, a7⟩ := at_bd (C := C) (by omega) ⟨hw1, hw2⟩ ⟨hh1, hh2⟩ hx hy
  have v1 : wrap64 (y * W) = y * W := IntWalk.wrap64_in _ ⟨by omega, by omega⟩
  have v2 : wrap64 (y * W + x) = y * W + x := IntWalk.wrap64_in _ ⟨by omega, by omega⟩
  have v3 : wrap64 ((y * W + x) * C) = (y * W + x) * C := IntWalk.wrap64_in _ ⟨by omega, by omega⟩
  have hC1 : 0 < C := by omega
  have HH := Lib.hid h
  obtain ⟨hx1, hx2⟩ := hx
  obtain ⟨hy1, hy2⟩ := hy
  clear h a1 a2 a3 a4 a5 a6 a7 hp hc hf hl
  generalize px.length = n at *
  have hC : ∀ w, Calls Try.prog 26 #[.agg #[.int .i64 W, .int .i64 H, .int .i64 C, .slice A n cp]] w fun e w' => e = .returned (.int .i64 0) ∧ Below w.heap.size w w' := fun w => rcheck_ok _ _ _ _ _ _ _ HH.out
  go_enter Try.func10, Try.ntmps10
  go_wp2_with (go_at_call 26; (with_reducible refine (hC _).mono ?_); rintro e w1 ⟨rfl, hb⟩; have hb1 := ((Below.refl w.heap.size w).alloc (Nat.le_refl _) (.cells #[.int .i64 W, .int .i64 H, .int .i64 C, .slice A n cp] 41)).trans (hb.mono (by simp)); obtain ⟨d0, d1, d2, d3⟩ := ((Bk.new w 41 #[.int .i64 W, .int .i64 H, .int .i64 C, .slice A n cp]).nx hb).cell4)
  go_returns
  exact ⟨ret_int (by first | rfl | exact v3 | simp [v3]), hb1⟩
set_option maxRecDepth 100000 in
set_option maxHeartbeats 4000000 in
theorem rplace_out (m : Im) (A : Option Addr) (cp : Nat) (x y : Int) (w : World) (h : checkC m.W m.H m.C m.px.length = 0) (ho : x < 0 ∨ m.W ≤ x ∨ y < 0 ∨ m.H ≤ y) :
    Calls Try.prog 10 #[.agg #[.int .i64 m.W, .int .i64 m.H, .int .i64 m.C, .slice A m.px.length cp], .int .i64 x, .int .i64 y, .int .i64 0] w fun e w' => e = .returned (.int .i64 (-1)) ∧ Below w.heap.size w w' := by
  obtain ⟨W, H, C, px⟩ := m
  simp only at *
  have HH := Lib.hid h
  clear h
  generalize px.length = n at *
  have hC : ∀ w, Calls Try.prog 26 #[.agg #[.int .i64 W, .int .i64 H, .int .i64 C, .slice A n cp]] w fun e w' => e = .returned (.int .i64 0) ∧ Below w.heap.size w w' := fun w => rcheck_ok _ _ _ _ _ _ _ HH.out
  rcases (show x < 0 ∨ (0 ≤ x ∧ W ≤ x) ∨ (0 ≤ x ∧ x < W ∧ y < 0) ∨ (0 ≤ x ∧ x < W ∧ 0 ≤ y ∧ H ≤ y) by omega) with h1 | ⟨h1, h2⟩ | ⟨h1, h2, h3⟩ | ⟨h1, h2, h3, h4⟩
  all_goals
    clear ho
    go_enter Try.func10, Try.ntmps10
    go_wp2_with (go_at_call 26; (with_reducible refine (hC _).mono ?_); rintro e w1 ⟨rfl, hb⟩; have hb1 := ((Below.refl w.heap.size w).alloc (Nat.le_refl _) (.cells #[.int .i64 W, .int .i64 H, .int .i64 C, .slice A n cp] 41)).trans (hb.mono (by simp)); obtain ⟨d0, d1, d2, d3⟩ := ((Bk.new w 41 #[.int .i64 W, .int .i64 H, .int .i64 C, .slice A n cp]).nx hb).cell4)
    go_returns
    exact ⟨rfl, hb1⟩
end Go.Proofs.Ytahiaeaobbofbaa
