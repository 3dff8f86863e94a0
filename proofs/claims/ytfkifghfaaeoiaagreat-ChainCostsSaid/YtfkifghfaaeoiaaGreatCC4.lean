/- ChainCosts: the walk, and the row's reading. -/
import Derived.Test.YtfkifghfaaeoiaaGreatCC2
import Derived.Test.YtfkifghfaaeoiaaGreatCC3
set_option linter.unusedVariables false
namespace Go.Proofs.YtfkifghfaaeoiaaGreat
open Go.RowKit
set_option maxRecDepth 100000 in
set_option maxHeartbeats 16000000 in
theorem walkChainCosts (ws : List Wp) (A : Option Addr) (n c : Nat) (w : World) (hn : ws.length = n) (hA : WpsAt w w.heap.size A ws) (hok : ∀ m ∈ ws, WpOk m) :
    Calls Tryz.prog 3 #[.slice A n c] w fun e w' => e = .returned (.bool true) ∧ Below w.heap.size w w' := by
  by_cases h20 : 20 < n
  · have hb := Below.refl w.heap.size w
    have hd : (20 : Int) < n := by omega
    go_enter Tryz.func3, Tryz.ntmps3
    go_wp2_with fail
    go_returns
    exact ⟨rfl, hb⟩
  have hd : ¬ (20 : Int) < n := by omega
  have hCo := ccost_any ws A n c w hn hA (by omega)
  have hd0 : wpsR 0 0 ws = wpsR 0 0 (ws.drop 0) := by simp
  obtain ⟨C0, N0, E0, hr⟩ : ∃ C0 N0 E0, wpsR 0 0 ws = (C0, N0, E0) := ⟨_, _, _, rfl⟩
  rw [hr] at hCo hd0
  change Calls _ _ _ _ fun e w' => e = .returned (.tuple #[.int .i64 C0, .int .i64 N0, .int .i64 E0]) ∧ _ at hCo
  clear hr
  have HD0 := Lib.hid hd0
  clear hd0
  have hAl := fun w' => alive48 w'
  go_enter Tryz.func3, Tryz.ntmps3
  go_wp2_with (go_at_call 4; (with_reducible refine hCo.mono ?_); rintro e w1 ⟨rfl, hb1⟩)
  clear hCo
  go_loopw [6, 7] (fun sv iv wr => ∃ (k : Nat) (s : Int), k ≤ n ∧ iv = .int .i64 k ∧ sv = .int .i64 s ∧ (0 ≤ s ∧ s ≤ k * 1073741824) ∧ Below w.heap.size w wr ∧ (C0, N0, E0) = wpsR s k (ws.drop k)) (fun _ iv _ => n - (intOf iv).toNat)
  case atStart => exact ⟨0, 0, by omega, rfl, rfl, ⟨by omega, by omega⟩, hb1, HD0.out⟩
  case round =>
    clear HD0 hb1
    obtain ⟨k, s, hk, rfl, rfl, ⟨hs0, hs1⟩, hbel, hdr⟩ := hrel
    have HD := Lib.hid hdr
    clear hdr
    by_cases hlt : k < n
    · have hk2 : k < ws.length := by omega
      have HS := Lib.hid (wpsR_step (s := s) hk2)
      have hKb := wpK_bd (m := ws[k])
      have hokm := hok ws[k] (List.getElem_mem hk2)
      have hA' := hA.below hbel
      obtain ⟨b, o, Ai, ci, rfl, hbw, hcell, hci, hcm, hri⟩ := hA'.get k hk2
      have hbw2 := hbel.size
      generalize ws[k] = m at *
      have h0 := hcell 0 (by omega)
      have h1 := hcell 1 (by omega)
      have h2 := hcell 2 (by omega)
      have h3 := hcell 3 (by omega)
      have h4 := hcell 4 (by omega)
      have h5 := hcell 5 (by omega)
      have h6 := hcell 6 (by omega)
      have h7 := hcell 7 (by omega)
      have h8 := hcell 8 (by omega)
      have h9 := hcell 9 (by omega)
      have h10 := hcell 10 (by omega)
      have h11 := hcell 11 (by omega)
      simp at h0 h1 h2 h3 h4 h5 h6 h7 h8 h9 h10 h11
      have hbw3 : b < wr.heap.size := by omega
      have hq : ∀ w', Below wr.heap.size wr w' → (w'.cell? ⟨b, o + k * 12, none⟩ = wr.cell? ⟨b, o + k * 12, none⟩ ∧ (∀ j, w'.cell? ⟨b, o + k * 12 + j, none⟩ = wr.cell? ⟨b, o + k * 12 + j, none⟩)) := fun w' hb' => ⟨hb'.cell hbw3, fun j => hb'.cell hbw3⟩
      by_cases h9k : 9000 < m.l.length
      · have h9i : (9000 : Int) < (m.l.length : Int) := by omega
        clear hcell hq hri hKb HD HS
        go_wp2_with fail
        go_returns
        exact ⟨rfl, hbel⟩
      have h9i : ¬ (9000 : Int) < (m.l.length : Int) := by omega
      have hRw := fun (w' : World) (hb' : Below wr.heap.size wr w') => rwarp_any m.k Ai m.l.length ci m.W m.H m.kn m.n m.mo m.c0 m.c1 m.c2 m.c3 m.mi (xC m.k m.l m.W m.H) w'
        (fun w'' hb'' => rcheck24 m.k m.l Ai m.l.length ci m.W m.H w'' rfl (by omega) ((hri.below (hb'.mono hbw2)).below (hb''.mono (Nat.le_trans hbw2 hb'.size))) (Nat.le_trans hbw2 (Nat.le_trans hb'.size hb''.size)) hokm)
      change ∀ w', Below wr.heap.size wr w' → Calls _ _ _ w' fun e w'' => e = .returned (.int .i64 (wpC m)) ∧ _ at hRw
      by_cases hz : wpC m = 0
      · have hkb := hKb hz
        have hRk := fun (w' : World) => (show Calls Tryz.prog 7 #[.agg (wrA m.k Ai m.l.length ci m.W m.H m.kn m.n m.mo m.c0 m.c1 m.c2 m.c3 m.mi)] w' fun e w'' => e = .returned (.int .i64 (wpK m)) ∧ Below w'.heap.size w' w'' from by
          obtain ⟨z1, z2, z3, z4⟩ := wrC_zero.1 hz
          obtain ⟨y0, y2, y3⟩ := smC_zero.1 z1
          obtain ⟨x0, x2, x4⟩ := msC_zero.1 z2
          exact rcost_any m.k Ai m.l.length ci m.W m.H m.kn m.n m.mo m.c0 m.c1 m.c2 m.c3 m.mi w' y0 y2 x0 x2 x4)
        rw [hz] at hRw
        have v1 : wrap64 (s + wpK m) = s + wpK m := IntWalk.wrap64_in _ ⟨by omega, by omega⟩
        have HE := Lib.hid (HD.out.trans (HS.out.trans (if_neg (fun h => h hz))))
        clear hz hKb HD HS hcell hri
        generalize wpK m = z at *
        go_wp2_with (first
          | (go_at_call 5; (with_reducible refine (hRw _ (Below.refl _ _)).mono ?_); rintro e w2 ⟨rfl, hb2⟩; obtain ⟨q0, qj⟩ := hq _ hb2; have t0 := q0.trans h0; have t1 := (qj 1).trans h1; have t2 := (qj 2).trans h2; have t3 := (qj 3).trans h3; have t4 := (qj 4).trans h4; have t5 := (qj 5).trans h5; have t6 := (qj 6).trans h6; have t7 := (qj 7).trans h7; have t8 := (qj 8).trans h8; have t9 := (qj 9).trans h9; have t10 := (qj 10).trans h10; have t11 := (qj 11).trans h11)
          | (go_at_call 7; (with_reducible refine (hRk _).mono ?_); rintro e w3 ⟨rfl, hb3⟩))
        exact ⟨⟨k + 1, s + z, by omega, by go_num, rfl, ⟨by omega, by omega⟩, (hbel.trans (hb2.mono hbw2)).trans (hb3.mono (Nat.le_trans hbw2 hb2.size)), HE.out⟩, by simp [intOf]; omega⟩
      · have HE := HD.out.trans (HS.out.trans (if_pos hz))
        have hzb : (wpC m != 0) = true := by simpa using hz
        injection HE with e1 e2
        injection e2 with e2 e3
        subst e1 e2
        rw [← e3] at hRw hzb
        clear hz hKb HD HS hcell hri e3 hq
        go_wp2_with (first
          | (go_at_call 5; (with_reducible refine (hRw _ (Below.refl _ _)).mono ?_); rintro e w2 ⟨rfl, hb2⟩)
          | (go_at_call 6; (with_reducible refine (hAl _).mono ?_); rintro e w3 ⟨rfl, hb3⟩))
        go_returns
        exact ⟨rfl, (hbel.trans (hb2.mono hbw2)).trans (hb3.mono (Nat.le_trans hbw2 hb2.size))⟩
    · obtain rfl : k = n := by omega
      have HE := HD.out
      rw [List.drop_of_length_le (by omega)] at HE
      injection HE with e1 e2
      injection e2 with e2 e3
      subst e1 e2 e3
      clear HD
      go_wp2_with (go_at_call 6; (with_reducible refine (hAl _).mono ?_); rintro e w3 ⟨rfl, hb3⟩)
      go_returns
      exact ⟨rfl, hbel.trans (hb3.mono hbel.size)⟩
theorem lawChainCosts (A : Option Addr) (n c : Nat) (w : World) (h0 : Rv Tryz.prog w 22 [.slice A n c]) :
    Calls Tryz.prog 3 #[.slice A n c] w fun e w' => e = .returned (.bool true) ∧ Below w.heap.size w w' := by
  obtain ⟨hnc, hcm, ws, hn, hA, hok⟩ := open_warps h0
  exact walkChainCosts ws A n c w hn hA hok
end Go.Proofs.YtfkifghfaaeoiaaGreat
