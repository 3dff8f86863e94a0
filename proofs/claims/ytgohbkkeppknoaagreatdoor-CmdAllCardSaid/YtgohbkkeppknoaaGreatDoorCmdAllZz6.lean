/- Several texts in one: CmdAll: the law walked. -/
import Derived.Test.YtgohbkkeppknoaaGreatDoorCmdAllZz5
section
set_option linter.unusedVariables false
namespace Go.Proofs.YtgohbkkeppknoaaGreatDoor
open Go.RowKit
theorem cmds_len {t : TypeId} {w : World} {B : Nat} {A : Option Addr} {m c : Nat} {D : List CmdR} (h : CmdsAt t w B (.slice A m c) D) : D.length = m := by
  obtain ⟨xs, h1, _⟩ := h
  rcases h1.2 with ⟨h2, h3⟩ | ⟨g, cap, cur, hv, _, _, hn, _⟩
  · injection h2 with _ h2 h4; omega
  · injection hv with _ h2 h4; omega
theorem CmdsAt.at {t : TypeId} {w : World} {B : Nat} {A : Option Addr} {m c : Nat} {D : List CmdR} (h : CmdsAt t w B (.slice A m c) D) (k : Nat) (hk : k < D.length) : ∃ b o L A1 c1, A = some ⟨b, o, none⟩ ∧ D[k].L = some L ∧ w.cell? ⟨b, o + k * 3, none⟩ = some (.int .i64 D[k].op) ∧ w.cell? ⟨b, o + k * 3 + 1, none⟩ = some (.int .i64 D[k].k) ∧ w.cell? ⟨b, o + k * 3 + 2, none⟩ = some (.slice A1 L.length c1) ∧ RowI w B A1 L := by
  have hDm := cmds_len h
  obtain ⟨xs, h1, h2, h3⟩ := h
  obtain ⟨L, A1, c1, a0, a1, a2, a3, a4⟩ := h3 k hk
  rw [hDm] at h1
  have hr := Rd.of_own h1
  obtain ⟨b, o, hA, _, e0⟩ := hr (3 * k) (by omega)
  obtain ⟨b', o', hA', _, e1⟩ := hr (3 * k + 1) (by omega)
  obtain ⟨b2, o2, hA2, _, e2⟩ := hr (3 * k + 2) (by omega)
  rw [hA] at hA' hA2
  injection hA' with hA'
  injection hA' with e3 e4
  injection hA2 with hA2
  injection hA2 with e5 e6
  subst e3 e4 e5 e6
  rw [List.getElem?_eq_getElem (by omega)] at a1 a2 a3
  exact ⟨b, o, L, A1, c1, hA, a0, by rw [Nat.mul_comm k 3, e0]; exact a1, by rw [Nat.mul_comm k 3, Nat.add_assoc, e1]; exact a2, by rw [Nat.mul_comm k 3, Nat.add_assoc, e2]; exact a3, a4⟩
theorem allL_len (S : List UInt8) : (allL S).length ≤ 4096 := by
  have h := (linL_bd S).1
  unfold allL
  split
  · simp
  split
  · simp
  · unfold cmdL; rw [List.length_map]; exact h
theorem allL_sub (S : List UInt8) (x : CmdR) (hx : x ∈ allL S) : x ∈ cmdL S := by
  unfold allL at hx
  split at hx
  · cases hx
  split at hx
  · cases hx
  · exact hx
theorem allL_nums (S : List UInt8) (k : Nat) (h : k < (allL S).length) (L : List Int) (hL : (allL S)[k].L = some L) : L.length ≤ 1000000 := by
  have hm : (allL S)[k] ∈ cmdL S := allL_sub S _ (List.getElem_mem h)
  unfold cmdL at hm
  obtain ⟨l, hl, he⟩ := List.mem_map.1 hm
  rw [← he] at hL
  have h1 := prs_len _ hL
  have h2 := ((linL_bd S).2 l hl).1
  rw [wdB_len] at h1
  omega
set_option maxRecDepth 100000 in
set_option maxHeartbeats 16000000 in
theorem walkCmdAll (S : ByteArray) (hS : S.size ≤ 9223372036854775807) (w : World) (hl : LaidT w) : Calls Tryz.prog 4 #[.string S] w fun e w' => e = .returned (.bool true) ∧ Below w.heap.size w w' := by
  by_cases h1 : 10000 < S.size ∧ S.size ≤ 65536
  · have g1 : (S.size : Int) > 10000 := by omega
    have g2 : (S.size : Int) ≤ 65536 := by omega
    clear h1
    go_enter Tryz.func4, Tryz.ntmps4
    go_wp2_with fail
    go_returns
    exact ⟨rfl, Below.refl _ _⟩
  have hcs : ¬ (S.size : Int) > 10000 ∨ ((S.size : Int) > 10000 ∧ ¬ (S.size : Int) ≤ 65536) := by omega
  have hP := call_any S hS w hl
  have hQ := fun (w' : World) (hb : Below w.heap.size w w') => rall_any S hS w'
  have hAl := fun (w' : World) (hb : Below w.heap.size w w') => alive50 w' (hl.nx hb)
  have hnm := allL_nums (bl S)
  have hln := allL_len (bl S)
  have hP2 : Calls Tryz.prog 13 #[.string S] w fun e w' => ∃ A c, e = .returned (.tuple #[.slice A (allL (bl S)).length c, .int .i64 (allI (bl S)), .int .i64 (allE (bl S))]) ∧ CmdsAt 26 w' w.heap.size (.slice A (allL (bl S)).length c) (allL (bl S)) ∧ Below w.heap.size w w' :=
    hP.mono fun e w' h => by obtain ⟨⟨A, m, c, rfl, h1, h2⟩, h3⟩ := h; exact ⟨A, c, h1, h2, h3⟩
  have hQ2 : ∀ w', Below w.heap.size w w' → Calls Tryz.prog 14 #[.string S] w' fun e w2 => ∃ A c, e = .returned (.tuple #[.slice A (allL (bl S)).length c, .int .i64 (allI (bl S)), .int .i64 (allE (bl S))]) ∧ CmdsAt 30 w2 w'.heap.size (.slice A (allL (bl S)).length c) (allL (bl S)) ∧ Below w'.heap.size w' w2 := fun w' hb =>
    (hQ w' hb).mono fun e w2 h => by obtain ⟨⟨A, m, c, rfl, h1, h2⟩, h3⟩ := h; exact ⟨A, c, h1, h2, h3⟩
  clear hP hQ h1
  generalize allI (bl S) = ai at *
  generalize allE (bl S) = ae at *
  obtain ⟨D, hD⟩ : ∃ D, allL (bl S) = D := ⟨_, rfl⟩
  have HNM : Hid (∀ (k : Nat) (h : k < D.length) (L : List Int), D[k].L = some L → L.length ≤ 1000000) := by subst hD; exact hnm
  simp only [hD] at hP2 hQ2 hln
  clear hnm hD
  rcases hcs with g1 | ⟨g1, g2⟩
  all_goals
    go_enter Tryz.func4, Tryz.ntmps4
    go_wp2_with (first
      | (go_at_call 13; (with_reducible refine hP2.mono ?_); rintro e w1 ⟨A1, c1, rfl, hC1, hb1⟩)
      | (go_at_call 14; (with_reducible refine (hQ2 w1 hb1).mono ?_); rintro e w2 ⟨A2, c2, rfl, hC2, hb2⟩))
    have hb12 := hb1.trans (hb2.mono hb1.size)
    have hC12 := hC1.nx hb2
    have hz1 := hb1.size
    clear hP2 hQ2 hC1
    go_loopw [9] (fun iv wr => ∃ k : Nat, k ≤ D.length ∧ iv = .int .i64 k ∧ CmdsAt 26 wr w.heap.size (.slice A1 D.length c1) D ∧ CmdsAt 30 wr w1.heap.size (.slice A2 D.length c2) D ∧ Below w.heap.size w wr) (fun iv _ => D.length - (intOf iv).toNat)
    case atStart => exact ⟨0, by omega, rfl, hC12, hC2, hb12⟩
    case round =>
      clear hC12 hC2 hb12
      obtain ⟨k, hk, rfl, hCa, hCb, hbr⟩ := hrel
      obtain ⟨wq, rfl⟩ : ∃ wq : World, wq = wr := ⟨_, rfl⟩
      by_cases hlt : k < D.length
      · have hlt' : (k : Int) < (D.length : Int) := by omega
        obtain ⟨b, o, L, B1, q1, rfl, hL, a0, a1, a2, hR1⟩ := hCa.at k hlt
        obtain ⟨b', o', L', B2, q2, rfl, hL', e0, e1, e2, hR2⟩ := hCb.at k hlt
        rw [hL] at hL'
        injection hL' with hL'
        subst hL'
        have hnl := HNM.out k hlt L hL
        have hgr := fun (d : Nat) (os : Array Obj) => below_regrown wq d os
        obtain ⟨ln, hl2⟩ : ∃ ln, L.length = ln := ⟨_, rfl⟩
        simp only [hl2] at a2 e2 hnl
        generalize D[k].op = op at *
        generalize D[k].k = kk at *
        have hSm := fun (d : Nat) (os : Array Obj) => same50_any op kk L B1 B2 ln q1 q2 (Go.Sort.grow (redrawn wq d) os) (B := (Go.Sort.grow (redrawn wq d) os).heap.size) (B' := (Go.Sort.grow (redrawn wq d) os).heap.size) hl2 (hR1.nx (hgr d os)).rd (hR2.nx (hgr d os)).rd (Nat.le_refl _) (Nat.le_refl _) hnl
        have hOw := fun (d : Nat) (os : Array Obj) => own50_any op kk B1 ln q1 (Go.Sort.grow (redrawn wq d) os)
        have u0 := fun (d : Nat) (os : Array Obj) => cell_regrown a0 d os
        have u1 := fun (d : Nat) (os : Array Obj) => cell_regrown a1 d os
        have u2 := fun (d : Nat) (os : Array Obj) => cell_regrown a2 d os
        have v0 := fun (d : Nat) (os : Array Obj) => cell_regrown e0 d os
        have v1 := fun (d : Nat) (os : Array Obj) => cell_regrown e1 d os
        have v2 := fun (d : Nat) (os : Array Obj) => cell_regrown e2 d os
        clear a0 a1 a2 e0 e1 e2 hR1 hR2 hl2 hL hnl
        go_upto_region 10 with fail
        refine wp_region_quiet_below (by kernel_rfl) (by kernel_rfl) ?_
        repeat (first
          | go_big_quiet_step (first | with_reducible exact quiet_below (hSm _ _) | with_reducible exact quiet_below (hOw _ _))
          | quiet_step (first | with_reducible exact quiet_below (hSm _ _) | with_reducible exact quiet_below (hOw _ _)))
        refine wpQuiet_nil ?_
        intro _ hw'
        obtain ⟨⟨d9, os⟩, hw''⟩ := hw'
        subst hw''
        have hbx := below_regrown wq d9 os
        have hX1 := hCa.nx hbx
        have hX2 := hCb.nx hbx
        have hbw := hbr.trans (hbx.mono hbr.size)
        clear u0 u1 u2 v0 v1 v2 hSm hOw hgr hCa hCb
        generalize Go.Sort.grow (redrawn wq d9) os = wx at *
        go_wp2_with fail
        exact ⟨⟨k + 1, by omega, by go_num, hX1, hX2, hbw⟩, by simp [intOf]; omega⟩
      · obtain rfl : k = D.length := by omega
        have hA := hAl wq hbr
        go_wp2_with (go_at_call 12; (with_reducible refine hA.mono ?_); rintro e w5 ⟨rfl, hb5⟩)
        go_returns
        exact ⟨rfl, hbr.trans (hb5.mono hbr.size)⟩
/-- The law, of any argument as the row reads it. -/
theorem lawCmdAll (S : ByteArray) (w : World) (hS : S.size ≤ maxLen) (hL : laidMetH Tryz.prog Rows.cmdAllRow.laid w) :
    Calls Tryz.prog 4 #[.string S] w fun e w' => e = .returned (.bool true) ∧ Below w.heap.size w w' :=
  walkCmdAll S (by simp [maxLen] at hS; omega) w (laidT_of hL)
end Go.Proofs.YtgohbkkeppknoaaGreatDoor
end
