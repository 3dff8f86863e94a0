/- AgesSteps: walked. -/
import Derived.Test.YtiefhmbffmphdaaAG30
import Derived.Deep.RegionHeld3
set_option linter.unusedVariables false
namespace Go.Proofs.Ytiefhmbffmphdaa
open Go.RowKit
/-- Where a round stands behind what it does. -/
def Mid40 (W : World) (k : Nat) (q : Nat) (dd kk : Int) (p : Value) (wx : World) : Prop :=
  ∃ (j : Nat) (m : List Int), j ≤ k + 1 ∧ m.length ≤ k + 1 ∧ Rng m ∧ St W W.heap.size (W.heap.size + 1) j m j m p m [(q, 32, #[.int .i64 dd, .int .i64 kk])] wx
set_option maxRecDepth 100000 in
set_option maxHeartbeats 16000000 in
theorem steps_any (A0 : Option Addr) (n0 c0 : Nat) (W : World) (hA : Rv Try.prog W 22 [.slice A0 n0 c0]) :
    Calls Try.prog 3 #[.slice A0 n0 c0] W fun e w' => e = .returned (.bool true) ∧ Below W.heap.size W w' := by
  obtain ⟨hnc, hcm, l, hl, hr, hwf⟩ := open_steps hA
  unfold maxLen at hcm
  clear hA
  by_cases hbig : n0 > 200
  · have hd : decide (200 < (n0 : Int)) = true := by simp; omega
    go_enter Try.func3, Try.ntmps3
    go_wp2_with fail
    go_returns
    exact ⟨rfl, Below.refl _ _⟩
  · have h0 := st_new W
    have hn3 : n0 ≤ 200 := by omega
    have hd : decide (200 < (n0 : Int)) = false := by simp; omega
    clear hbig
    go_enter Try.func3, Try.ntmps3
    go_wp2_with (go_at_call 5; (with_reducible refine (agnew_any _).mono ?_); rintro e w1 ⟨rfl, rfl⟩)
    go_loopw [6, 31] (fun v i wr => ∃ (k j : Nat) (m : List Int), k ≤ n0 ∧ i = .int .i64 k ∧ St W W.heap.size (W.heap.size + 1) j m j m v m [] wr ∧ Rng m ∧ m.length ≤ k ∧ j ≤ k) (fun _ i _ => n0 - (intOf i).toNat)
    case atStart => exact ⟨0, 0, [], by omega, rfl, h0, (fun k hk => by cases hk), by simp, by omega⟩
    case round =>
      obtain ⟨k, j, m, hk, rfl, h, hR, hml, hjk⟩ := hrel
      clear h0 hd
      by_cases hlt : k < n0
      · have hk2 : k < l.length := by omega
        obtain ⟨b, o, rfl, hbb, hc0, hc1⟩ := rd_step (hr.below h.bel) k hk2
        obtain ⟨_, hx⟩ := hwf l[k] (List.getElem_mem hk2)
        generalize l[k] = r at *
        obtain ⟨dd, kk⟩ := r
        simp only at hc0 hc1 hx
        have hbx := h.box #[.int .i64 dd, .int .i64 kk] 32
        have hqW : W.heap.size ≤ wr.heap.size := h.bel.size
        go_upto_region 12 with fail
        clear h hc0 hc1 hbb
        generalize hq : wr.heap.size = q at *
        generalize wr.alloc (.cells #[.int .i64 dd, .int .i64 kk] 32) = w3 at *
        have HQ := Lib.hid hq
        clear hq
        obtain ⟨d0, d1⟩ := hbx.kk.cell2
        have hnk := fun w => atouch_nil kk w
        go_upto_block 2 with fail
        go_cut [6] (fun p wx => Mid40 W k q dd kk p wx)
        case first =>
          as_aux_lemma =>
            rcases (show dd = 0 ∨ dd ≠ 0 by omega) with e0 | e0
            · have hd0 : (dd == 0) = true := by simp [e0]
              have hT1 := hbx.touch1 hx (by omega)
              clear e0
              go_upto_region 24 with (go_at_call 6; (with_reducible refine hT1.mono ?_); rintro e w4 ⟨rfl, h4⟩)
              clear hT1 d0 d1 hbx
              obtain ⟨d0, d1⟩ := h4.kk.cell2
              have hT2 := h4.touch2 hx (by omega)
              go_upto_region 25 with (go_at_call 6; (with_reducible refine hT2.mono ?_); rintro e w5 ⟨rfl, h5⟩)
              clear hT2 d0 d1 h4
              obtain ⟨d0, d1⟩ := h5.kk.cell2
              have hT3 := h5.rtouch kk (by omega)
              have hRx := hR.tch hx
              have htl := tch_len m kk
              go_wp2_with (first
                | (go_at_call 6; (with_reducible refine (atouch_nil kk _).mono ?_); rintro e w6 ⟨rfl, rfl⟩)
                | (go_at_call 7; (with_reducible refine hT3.mono ?_); rintro e w6 ⟨v6, rfl, h6⟩))
              go_meet
              exact ⟨j + 1, tch m kk, by omega, by omega, hRx, by push_cast; exact h6⟩
            · have hd0 : (dd == 0) = false := by simpa using e0
              clear e0
              rcases (show dd = 1 ∨ dd ≠ 1 by omega) with e1 | e1
              · have hd1 : (dd == 1) = true := by simp [e1]
                clear e1
                have hD1 : ∀ w, St W W.heap.size (W.heap.size + 1) j m j m u6 m [(q, 32, #[.int .i64 dd, .int .i64 kk])] w → Calls Try.prog 8 #[.pointer (some ⟨W.heap.size, 0, none⟩), .int .i64 kk] w fun e w' => e = .returned (.bool (decide (kk ∈ m))) ∧ St W W.heap.size (W.heap.size + 1) j (wo m kk) j m u6 m [(q, 32, #[.int .i64 dd, .int .i64 kk])] w' := fun w h => h.drop1 hx (by omega)
                have hD2 : ∀ w, St W W.heap.size (W.heap.size + 1) j (wo m kk) j m u6 m [(q, 32, #[.int .i64 dd, .int .i64 kk])] w → Calls Try.prog 8 #[.pointer (some ⟨W.heap.size + 1, 0, none⟩), .int .i64 kk] w fun e w' => e = .returned (.bool (decide (kk ∈ m))) ∧ St W W.heap.size (W.heap.size + 1) j (wo m kk) j (wo m kk) u6 m [(q, 32, #[.int .i64 dd, .int .i64 kk])] w' := fun w h => h.drop2 hx (by omega)
                have hHs : ∀ w, St W W.heap.size (W.heap.size + 1) j (wo m kk) j (wo m kk) u6 m [(q, 32, #[.int .i64 dd, .int .i64 kk])] w → Calls Try.prog 9 #[u6, .int .i64 kk] w fun e w' => e = .returned (.bool (decide (kk ∈ m))) ∧ Below w.heap.size w w' := fun w h => h.rhas kk (by omega)
                generalize hqq : decide (kk ∈ m) = qq at *
                clear hqq
                go_upto_region 28 with fail
                go_region_with (first
                  | (go_at_call 8; (with_reducible refine (hD1 _ (by first | exact hbx | exact hbx.drew | exact hbx.drewN _)).mono ?_); rintro e w4 ⟨rfl, h4⟩; obtain ⟨d0', d1'⟩ := h4.kk.cell2)
                  | (go_at_call 8; (with_reducible refine (hD2 _ (by first | exact h4 | exact h4.drew | exact h4.drewN _)).mono ?_); rintro e w5 ⟨rfl, h5⟩))
                all_goals
                  clear hD1 hD2 d0 d1 d0' d1' hbx h4
                  obtain ⟨d0, d1⟩ := h5.kk.cell2
                  have hHs' := hHs _ h5
                  clear hHs
                  have hRx := hR.wo kk
                  have htl := wo_len m kk
                  go_upto_region 31 with (first
                    | (go_at_call 9; (with_reducible refine hHs'.mono ?_); rintro e w6 ⟨rfl, hb6⟩; have h6 := h5.nx hb6; obtain ⟨e0, e1⟩ := h6.kk.cell2)
                    | (go_at_call 8; (with_reducible refine (adrop_nil _ _).mono ?_); rintro e w7 ⟨rfl, rfl⟩))
                  have hWo := h6.rwithout kk (by omega)
                  go_wp2_with (go_at_call 10; (with_reducible refine hWo.mono ?_); rintro e w8 ⟨v8, rfl, h8⟩)
                  go_meet
                  exact ⟨j, wo m kk, by omega, by omega, hRx, h8⟩
              · have hd1 : (dd == 1) = false := by simpa using e1
                clear e1 d0 d1
                have hP1 := hbx.pop1 hR (by omega)
                have hP2 : ∀ w, St W W.heap.size (W.heap.size + 1) j (wo m (m.headD 0)) j m u6 m [(q, 32, #[.int .i64 dd, .int .i64 kk])] w → Calls Try.prog 11 #[.pointer (some ⟨W.heap.size + 1, 0, none⟩)] w fun e w' => e = .returned (.tuple #[.int .i64 (m.headD 0), .bool (decide (m ≠ []))]) ∧ St W W.heap.size (W.heap.size + 1) j (wo m (m.headD 0)) j (wo m (m.headD 0)) u6 m [(q, 32, #[.int .i64 dd, .int .i64 kk])] w' := fun w h => h.pop2 hR (by omega)
                obtain ⟨A6, c6, rfl, _, _, _⟩ := own_form hbx.own
                cases m with
                | nil =>
                  have hP1' : Calls Try.prog 11 #[.pointer (some ⟨W.heap.size, 0, none⟩)] w3 fun e w' => e = .returned (.tuple #[.int .i64 0, .bool false]) ∧ St W W.heap.size (W.heap.size + 1) j [] j [] (.slice A6 0 c6) [] [(q, 32, #[.int .i64 dd, .int .i64 kk])] w' := hP1
                  have hP2' : ∀ w, St W W.heap.size (W.heap.size + 1) j [] j [] (.slice A6 0 c6) [] [(q, 32, #[.int .i64 dd, .int .i64 kk])] w → Calls Try.prog 11 #[.pointer (some ⟨W.heap.size + 1, 0, none⟩)] w fun e w' => e = .returned (.tuple #[.int .i64 0, .bool false]) ∧ St W W.heap.size (W.heap.size + 1) j [] j [] (.slice A6 0 c6) [] [(q, 32, #[.int .i64 dd, .int .i64 kk])] w' := hP2
                  have hWo : ∀ w, St W W.heap.size (W.heap.size + 1) j [] j [] (.slice A6 0 c6) [] [(q, 32, #[.int .i64 dd, .int .i64 kk])] w → Calls Try.prog 10 #[.slice A6 0 c6, .int .i64 0] w fun e w' => ∃ v', e = .returned v' ∧ St W W.heap.size (W.heap.size + 1) j [] j [] v' [] [(q, 32, #[.int .i64 dd, .int .i64 kk])] w' := fun w h => h.rwithout 0 (by simp)
                  clear hP1 hP2 hbx
                  simp only [List.length_nil] at *
                  go_wp2_with (first
                    | (go_at_call 11; (with_reducible refine (apop_nil _).mono ?_); rintro e w6 ⟨rfl, rfl⟩)
                    | (go_at_call 11; (with_reducible refine hP1'.mono ?_); rintro e w4 ⟨rfl, h4⟩)
                    | (go_at_call 11; (with_reducible refine (hP2' _ h4).mono ?_); rintro e w5 ⟨rfl, h5⟩)
                    | (go_at_call 10; (with_reducible refine (hWo _ h5).mono ?_); rintro e w6 ⟨v6, rfl, h6⟩))
                  go_meet
                  exact ⟨j, [], by omega, by simp, hR, h6.nil⟩
                | cons k0 r =>
                  have hP1' : Calls Try.prog 11 #[.pointer (some ⟨W.heap.size, 0, none⟩)] w3 fun e w' => e = .returned (.tuple #[.int .i64 k0, .bool true]) ∧ St W W.heap.size (W.heap.size + 1) j (wo (k0 :: r) k0) j (k0 :: r) (.slice A6 (k0 :: r).length c6) (k0 :: r) [(q, 32, #[.int .i64 dd, .int .i64 kk])] w' := hP1
                  have hP2' : ∀ w, St W W.heap.size (W.heap.size + 1) j (wo (k0 :: r) k0) j (k0 :: r) (.slice A6 (k0 :: r).length c6) (k0 :: r) [(q, 32, #[.int .i64 dd, .int .i64 kk])] w → Calls Try.prog 11 #[.pointer (some ⟨W.heap.size + 1, 0, none⟩)] w fun e w' => e = .returned (.tuple #[.int .i64 k0, .bool true]) ∧ St W W.heap.size (W.heap.size + 1) j (wo (k0 :: r) k0) j (wo (k0 :: r) k0) (.slice A6 (k0 :: r).length c6) (k0 :: r) [(q, 32, #[.int .i64 dd, .int .i64 kk])] w' := hP2
                  have hWo : ∀ w, St W W.heap.size (W.heap.size + 1) j (wo (k0 :: r) k0) j (wo (k0 :: r) k0) (.slice A6 (k0 :: r).length c6) (k0 :: r) [(q, 32, #[.int .i64 dd, .int .i64 kk])] w → Calls Try.prog 10 #[.slice A6 (k0 :: r).length c6, .int .i64 k0] w fun e w' => ∃ v', e = .returned v' ∧ St W W.heap.size (W.heap.size + 1) j (wo (k0 :: r) k0) j (wo (k0 :: r) k0) v' (wo (k0 :: r) k0) [(q, 32, #[.int .i64 dd, .int .i64 kk])] w' := fun w h => h.rwithout k0 (by omega)
                  have hRx := hR.wo k0
                  have htl := wo_len (k0 :: r) k0
                  have hcl : ∀ w, St W W.heap.size (W.heap.size + 1) j (wo (k0 :: r) k0) j (wo (k0 :: r) k0) (.slice A6 (k0 :: r).length c6) (k0 :: r) [(q, 32, #[.int .i64 dd, .int .i64 kk])] w → ∃ b, A6 = some ⟨b, 0, none⟩ ∧ w.cell? ⟨b, 0, none⟩ = some (.int .i64 k0) := fun w h => by
                    obtain ⟨g, rfl, _⟩ := own_some h.own (by simp)
                    obtain ⟨b, o, e, _, hc⟩ := (Rd.of_own h.own).get 0 (by simp)
                    injection e with e; injection e with e1 e2
                    subst e1; subst e2
                    exact ⟨_, rfl, hc⟩
                  clear hP1 hP2 hbx
                  have hlz : 0 < (k0 :: r).length := by simp
                  generalize hL : (k0 :: r).length = Ln at *
                  clear hL
                  go_upto_region 17 with (first
                    | (go_at_call 11; (with_reducible refine (apop_nil _).mono ?_); rintro e w6 ⟨rfl, rfl⟩)
                    | (go_at_call 11; (with_reducible refine hP1'.mono ?_); rintro e w4 ⟨rfl, h4⟩)
                    | (go_at_call 11; (with_reducible refine (hP2' _ h4).mono ?_); rintro e w5 ⟨rfl, h5⟩))
                  obtain ⟨b6, rfl, hc6⟩ := hcl _ h5
                  have hWo' := hWo _ h5
                  clear hcl hWo hP1' hP2' h4
                  go_wp2_with (go_at_call 10; (with_reducible refine hWo'.mono ?_); rintro e w6 ⟨v6, rfl, h6⟩)
                  go_meet
                  exact ⟨j, wo (k0 :: r) k0, by omega, by omega, hRx, h6⟩
        case rest =>
          clear hnk hbx d0 d1 hR hml hjk
          obtain ⟨j1, m1, hj1, hml1, hR1, h1⟩ := hcut
          obtain ⟨A6, c6, rfl, hc6, hm6, hrd, _⟩ := own_form h1.own
          obtain ⟨d0, d1⟩ := h1.kk.cell2
          have hO1 := h1.old1
          have hO2 := h1.old2
          have hH1 := h1.has1 hx
          have HX := Lib.hid hx
          by_cases hm : m1 = []
          · have hh : m1.headD 0 = 0 := by rw [hm]; rfl
            have hne : decide (m1 ≠ []) = false := by rw [hm]; rfl
            have hle : decide (0 < m1.length) = false := by rw [hm]; rfl
            rw [hh, hne] at hO1 hO2
            clear hh hne hm
            generalize hLn : m1.length = Ln at *
            have HLn := Lib.hid hLn
            clear hLn
            go_upto_region 37 with (first
              | (go_at_call 12; (with_reducible refine (aold_nil _).mono ?_); rintro e w6 ⟨rfl, rfl⟩)
              | (go_at_call 12; (with_reducible refine hO1.mono ?_); rintro e w6 ⟨rfl, rfl⟩)
              | (go_at_call 12; (with_reducible refine hO2.mono ?_); rintro e w6 ⟨rfl, rfl⟩)
              | (go_at_call 13; (with_reducible refine (ahas_nil _ _).mono ?_); rintro e w6 ⟨rfl, rfl⟩)
              | (go_at_call 14; (with_reducible refine (alen_nil _).mono ?_); rintro e w6 ⟨rfl, rfl⟩)
              | (go_at_call 15; (with_reducible refine (aall_nil _).mono ?_); rintro e w6 ⟨rfl, rfl⟩))
            as_aux_lemma =>
              have hEq : m1.length = Ln := HLn.out
              have hLa : ∀ w, St W W.heap.size (W.heap.size + 1) j1 m1 j1 m1 (.slice A6 Ln c6) m1 [(q, 32, #[.int .i64 dd, .int .i64 kk])] w → Calls Try.prog 14 #[.pointer (some ⟨W.heap.size, 0, none⟩)] w fun e w' => e = .returned (.int .i64 (Ln : Nat)) ∧ w = w' := fun w h => by rw [← hEq]; exact h.len1
              have hLb : ∀ w, St W W.heap.size (W.heap.size + 1) j1 m1 j1 m1 (.slice A6 Ln c6) m1 [(q, 32, #[.int .i64 dd, .int .i64 kk])] w → Calls Try.prog 14 #[.pointer (some ⟨W.heap.size + 1, 0, none⟩)] w fun e w' => e = .returned (.int .i64 (Ln : Nat)) ∧ w = w' := fun w h => by rw [← hEq]; exact h.len2
              have hHa : ∀ w, St W W.heap.size (W.heap.size + 1) j1 m1 j1 m1 (.slice A6 Ln c6) m1 [(q, 32, #[.int .i64 dd, .int .i64 kk])] w → Calls Try.prog 13 #[.pointer (some ⟨W.heap.size, 0, none⟩), .int .i64 kk] w fun e w' => e = .returned (.bool (decide (kk ∈ m1))) ∧ w = w' := fun w h => h.has1 HX.out
              have hHb : ∀ w, St W W.heap.size (W.heap.size + 1) j1 m1 j1 m1 (.slice A6 Ln c6) m1 [(q, 32, #[.int .i64 dd, .int .i64 kk])] w → Calls Try.prog 9 #[.slice A6 Ln c6, .int .i64 kk] w fun e w' => e = .returned (.bool (decide (kk ∈ m1))) ∧ St W W.heap.size (W.heap.size + 1) j1 m1 j1 m1 (.slice A6 Ln c6) m1 [(q, 32, #[.int .i64 dd, .int .i64 kk])] w' := fun w h => (h.rhas kk (by omega)).mono fun e w' ⟨he, hb⟩ => ⟨he, h.nx hb⟩
              have hAa : ∀ w, St W W.heap.size (W.heap.size + 1) j1 m1 j1 m1 (.slice A6 Ln c6) m1 [(q, 32, #[.int .i64 dd, .int .i64 kk])] w → Calls Try.prog 15 #[.pointer (some ⟨W.heap.size, 0, none⟩)] w fun e w' => ∃ A c, e = .returned (.slice A Ln c) ∧ Rd w' w'.heap.size A (m1.map (Value.int .i64)) ∧ St W W.heap.size (W.heap.size + 1) j1 m1 j1 m1 (.slice A6 Ln c6) m1 [(q, 32, #[.int .i64 dd, .int .i64 kk])] w' := fun w h => (h.all1 (by omega)).mono fun e w' ⟨v, he, ho, hb⟩ => by
                obtain ⟨A, c, rfl, _, _, hr, _⟩ := own_form ho
                exact ⟨A, c, by rw [he, hEq], hr, h.nx hb⟩
              have hAb : ∀ w, St W W.heap.size (W.heap.size + 1) j1 m1 j1 m1 (.slice A6 Ln c6) m1 [(q, 32, #[.int .i64 dd, .int .i64 kk])] w → Calls Try.prog 15 #[.pointer (some ⟨W.heap.size + 1, 0, none⟩)] w fun e w' => ∃ A c, e = .returned (.slice A Ln c) ∧ Rd w' w'.heap.size A (m1.map (Value.int .i64)) ∧ St W W.heap.size (W.heap.size + 1) j1 m1 j1 m1 (.slice A6 Ln c6) m1 [(q, 32, #[.int .i64 dd, .int .i64 kk])] w' := fun w h => (h.all2 (by omega)).mono fun e w' ⟨v, he, ho, hb⟩ => by
                obtain ⟨A, c, rfl, _, _, hr, _⟩ := own_form ho
                exact ⟨A, c, by rw [he, hEq], hr, h.nx hb⟩
              have hIn : ∀ w, St W W.heap.size (W.heap.size + 1) j1 m1 j1 m1 (.slice A6 Ln c6) m1 [(q, 32, #[.int .i64 dd, .int .i64 kk])] w → ∀ A c, Rd w w.heap.size A (m1.map (Value.int .i64)) → Calls Try.prog 16 #[.slice A Ln c, .slice A6 Ln c6] w fun e w' => e = .returned (.bool true) ∧ St W W.heap.size (W.heap.size + 1) j1 m1 j1 m1 (.slice A6 Ln c6) m1 [(q, 32, #[.int .i64 dd, .int .i64 kk])] w' := fun w h A c hr => by
                obtain ⟨A', c', e, _, _, hr', _⟩ := own_form h.own
                injection e with e1 e2 e3
                subst e1
                exact (ints_eq m1 A A6 Ln c c6 w hEq hr hr' (by omega)).mono fun e w' ⟨he, hb⟩ => ⟨he, h.nx hb⟩
              clear hEq hH1 hO1 hO2 hrd
              generalize decide (kk ∈ m1) = qq at *
              go_region_held3 (fun w' => w'.cell? ⟨q, 1, none⟩ = some (.int .i64 kk)) (first | assumption | go_keep) (first
                | (go_at_call 14; (with_reducible refine (hLa _ (by first | exact h1 | exact h1.drew | exact h1.drewN _)).mono ?_); rintro e w6 ⟨rfl, rfl⟩)
                | (go_at_call 14; (with_reducible refine (hLb _ (by first | exact h1 | exact h1.drew | exact h1.drewN _)).mono ?_); rintro e w6 ⟨rfl, rfl⟩)
                | (go_at_call 13; (with_reducible refine (hHa _ (by first | exact h1 | exact h1.drew | exact h1.drewN _)).mono ?_); rintro e w6 ⟨rfl, rfl⟩)
                | (go_at_call 9; (with_reducible refine (hHb _ (by first | exact h1 | exact h1.drew | exact h1.drewN _)).mono ?_); rintro e w7 ⟨rfl, h7⟩; have d7 := (h7.kk.cell2).2)
                | (go_at_call 15; (with_reducible refine (hAa _ (by first | exact h7 | exact h7.drew | exact h7.drewN _)).mono ?_); rintro e w8 ⟨A8, c8, rfl, hr8, h8⟩; have d8 := (h8.kk.cell2).2)
                | (go_at_call 16; (with_reducible refine (hIn _ (by first | exact h8 | exact h8.drew | exact h8.drewN _) _ _ hr8).mono ?_); rintro e w9 ⟨rfl, h9⟩; have d9 := (h9.kk.cell2).2)
                | (go_at_call 15; (with_reducible refine (hAb _ (by first | exact h9 | exact h9.drew | exact h9.drewN _)).mono ?_); rintro e w10 ⟨A10, c10, rfl, hr10, h10⟩; have d10 := (h10.kk.cell2).2)
                | (go_at_call 16; (with_reducible refine (hIn _ (by first | exact h10 | exact h10.drew | exact h10.drewN _) _ _ hr10).mono ?_); rintro e w11 ⟨rfl, h11⟩; have d11 := (h11.kk.cell2).2))
              all_goals
                go_wp2_with fail
                exact ⟨⟨k + 1, j1, m1, by omega, by go_num, (by first | exact h11.less | exact h11.drew.less | exact (h11.drewN _).less), hR1, by have := HLn.out; omega, by omega⟩, by simp [intOf]; omega⟩
          · have h0 : 0 < m1.length := List.length_pos_iff.2 hm
            obtain ⟨b6, o6, rfl, _, hc0⟩ := hrd.get 0 (by simpa using h0)
            rw [List.getElem_map] at hc0
            have hh : m1[0] = m1.headD 0 := by cases m1 with
              | nil => exact absurd rfl hm
              | cons a r => rfl
            rw [hh, Nat.add_zero] at hc0
            have hne : decide (m1 ≠ []) = true := decide_eq_true hm
            rw [hne] at hO1 hO2
            clear hh hne hm
            generalize m1.headD 0 = x0 at *
            generalize hLn : m1.length = Ln at *
            have HLn := Lib.hid hLn
            clear hLn
            go_upto_region 37 with (first
              | (go_at_call 12; (with_reducible refine (aold_nil _).mono ?_); rintro e w6 ⟨rfl, rfl⟩)
              | (go_at_call 12; (with_reducible refine hO1.mono ?_); rintro e w6 ⟨rfl, rfl⟩)
              | (go_at_call 12; (with_reducible refine hO2.mono ?_); rintro e w6 ⟨rfl, rfl⟩)
              | (go_at_call 13; (with_reducible refine (ahas_nil _ _).mono ?_); rintro e w6 ⟨rfl, rfl⟩)
              | (go_at_call 14; (with_reducible refine (alen_nil _).mono ?_); rintro e w6 ⟨rfl, rfl⟩)
              | (go_at_call 15; (with_reducible refine (aall_nil _).mono ?_); rintro e w6 ⟨rfl, rfl⟩))
            as_aux_lemma =>
              have hEq : m1.length = Ln := HLn.out
              have hLa : ∀ w, St W W.heap.size (W.heap.size + 1) j1 m1 j1 m1 (.slice (some ⟨b6, o6, none⟩) Ln c6) m1 [(q, 32, #[.int .i64 dd, .int .i64 kk])] w → Calls Try.prog 14 #[.pointer (some ⟨W.heap.size, 0, none⟩)] w fun e w' => e = .returned (.int .i64 (Ln : Nat)) ∧ w = w' := fun w h => by rw [← hEq]; exact h.len1
              have hLb : ∀ w, St W W.heap.size (W.heap.size + 1) j1 m1 j1 m1 (.slice (some ⟨b6, o6, none⟩) Ln c6) m1 [(q, 32, #[.int .i64 dd, .int .i64 kk])] w → Calls Try.prog 14 #[.pointer (some ⟨W.heap.size + 1, 0, none⟩)] w fun e w' => e = .returned (.int .i64 (Ln : Nat)) ∧ w = w' := fun w h => by rw [← hEq]; exact h.len2
              have hHa : ∀ w, St W W.heap.size (W.heap.size + 1) j1 m1 j1 m1 (.slice (some ⟨b6, o6, none⟩) Ln c6) m1 [(q, 32, #[.int .i64 dd, .int .i64 kk])] w → Calls Try.prog 13 #[.pointer (some ⟨W.heap.size, 0, none⟩), .int .i64 kk] w fun e w' => e = .returned (.bool (decide (kk ∈ m1))) ∧ w = w' := fun w h => h.has1 HX.out
              have hHb : ∀ w, St W W.heap.size (W.heap.size + 1) j1 m1 j1 m1 (.slice (some ⟨b6, o6, none⟩) Ln c6) m1 [(q, 32, #[.int .i64 dd, .int .i64 kk])] w → Calls Try.prog 9 #[.slice (some ⟨b6, o6, none⟩) Ln c6, .int .i64 kk] w fun e w' => e = .returned (.bool (decide (kk ∈ m1))) ∧ St W W.heap.size (W.heap.size + 1) j1 m1 j1 m1 (.slice (some ⟨b6, o6, none⟩) Ln c6) m1 [(q, 32, #[.int .i64 dd, .int .i64 kk])] w' := fun w h => (h.rhas kk (by omega)).mono fun e w' ⟨he, hb⟩ => ⟨he, h.nx hb⟩
              have hAa : ∀ w, St W W.heap.size (W.heap.size + 1) j1 m1 j1 m1 (.slice (some ⟨b6, o6, none⟩) Ln c6) m1 [(q, 32, #[.int .i64 dd, .int .i64 kk])] w → Calls Try.prog 15 #[.pointer (some ⟨W.heap.size, 0, none⟩)] w fun e w' => ∃ A c, e = .returned (.slice A Ln c) ∧ Rd w' w'.heap.size A (m1.map (Value.int .i64)) ∧ St W W.heap.size (W.heap.size + 1) j1 m1 j1 m1 (.slice (some ⟨b6, o6, none⟩) Ln c6) m1 [(q, 32, #[.int .i64 dd, .int .i64 kk])] w' := fun w h => (h.all1 (by omega)).mono fun e w' ⟨v, he, ho, hb⟩ => by
                obtain ⟨A, c, rfl, _, _, hr, _⟩ := own_form ho
                exact ⟨A, c, by rw [he, hEq], hr, h.nx hb⟩
              have hAb : ∀ w, St W W.heap.size (W.heap.size + 1) j1 m1 j1 m1 (.slice (some ⟨b6, o6, none⟩) Ln c6) m1 [(q, 32, #[.int .i64 dd, .int .i64 kk])] w → Calls Try.prog 15 #[.pointer (some ⟨W.heap.size + 1, 0, none⟩)] w fun e w' => ∃ A c, e = .returned (.slice A Ln c) ∧ Rd w' w'.heap.size A (m1.map (Value.int .i64)) ∧ St W W.heap.size (W.heap.size + 1) j1 m1 j1 m1 (.slice (some ⟨b6, o6, none⟩) Ln c6) m1 [(q, 32, #[.int .i64 dd, .int .i64 kk])] w' := fun w h => (h.all2 (by omega)).mono fun e w' ⟨v, he, ho, hb⟩ => by
                obtain ⟨A, c, rfl, _, _, hr, _⟩ := own_form ho
                exact ⟨A, c, by rw [he, hEq], hr, h.nx hb⟩
              have hIn : ∀ w, St W W.heap.size (W.heap.size + 1) j1 m1 j1 m1 (.slice (some ⟨b6, o6, none⟩) Ln c6) m1 [(q, 32, #[.int .i64 dd, .int .i64 kk])] w → ∀ A c, Rd w w.heap.size A (m1.map (Value.int .i64)) → Calls Try.prog 16 #[.slice A Ln c, .slice (some ⟨b6, o6, none⟩) Ln c6] w fun e w' => e = .returned (.bool true) ∧ St W W.heap.size (W.heap.size + 1) j1 m1 j1 m1 (.slice (some ⟨b6, o6, none⟩) Ln c6) m1 [(q, 32, #[.int .i64 dd, .int .i64 kk])] w' := fun w h A c hr => by
                obtain ⟨A', c', e, _, _, hr', _⟩ := own_form h.own
                injection e with e1 e2 e3
                subst e1
                exact (ints_eq m1 A (some ⟨b6, o6, none⟩) Ln c c6 w hEq hr hr' (by omega)).mono fun e w' ⟨he, hb⟩ => ⟨he, h.nx hb⟩
              clear hEq hH1 hO1 hO2 hrd
              generalize decide (kk ∈ m1) = qq at *
              go_region_held3 (fun w' => w'.cell? ⟨q, 1, none⟩ = some (.int .i64 kk)) (first | assumption | go_keep) (first
                | (go_at_call 14; (with_reducible refine (hLa _ (by first | exact h1 | exact h1.drew | exact h1.drewN _)).mono ?_); rintro e w6 ⟨rfl, rfl⟩)
                | (go_at_call 14; (with_reducible refine (hLb _ (by first | exact h1 | exact h1.drew | exact h1.drewN _)).mono ?_); rintro e w6 ⟨rfl, rfl⟩)
                | (go_at_call 13; (with_reducible refine (hHa _ (by first | exact h1 | exact h1.drew | exact h1.drewN _)).mono ?_); rintro e w6 ⟨rfl, rfl⟩)
                | (go_at_call 9; (with_reducible refine (hHb _ (by first | exact h1 | exact h1.drew | exact h1.drewN _)).mono ?_); rintro e w7 ⟨rfl, h7⟩; have d7 := (h7.kk.cell2).2)
                | (go_at_call 15; (with_reducible refine (hAa _ (by first | exact h7 | exact h7.drew | exact h7.drewN _)).mono ?_); rintro e w8 ⟨A8, c8, rfl, hr8, h8⟩; have d8 := (h8.kk.cell2).2)
                | (go_at_call 16; (with_reducible refine (hIn _ (by first | exact h8 | exact h8.drew | exact h8.drewN _) _ _ hr8).mono ?_); rintro e w9 ⟨rfl, h9⟩; have d9 := (h9.kk.cell2).2)
                | (go_at_call 15; (with_reducible refine (hAb _ (by first | exact h9 | exact h9.drew | exact h9.drewN _)).mono ?_); rintro e w10 ⟨A10, c10, rfl, hr10, h10⟩; have d10 := (h10.kk.cell2).2)
                | (go_at_call 16; (with_reducible refine (hIn _ (by first | exact h10 | exact h10.drew | exact h10.drewN _) _ _ hr10).mono ?_); rintro e w11 ⟨rfl, h11⟩; have d11 := (h11.kk.cell2).2))
              all_goals
                go_wp2_with fail
                exact ⟨⟨k + 1, j1, m1, by omega, by go_num, (by first | exact h11.less | exact h11.drew.less | exact (h11.drewN _).less), hR1, by have := HLn.out; omega, by omega⟩, by simp [intOf]; omega⟩
      · obtain rfl : k = n0 := by omega
        have hB := h.bel
        clear h
        go_wp2_with (go_at_call 17; (with_reducible refine (alive40 _).mono ?_); rintro e w5 ⟨rfl, hb5⟩)
        go_returns
        exact ⟨rfl, hB.trans (hb5.mono hB.size)⟩
end Go.Proofs.Ytiefhmbffmphdaa
