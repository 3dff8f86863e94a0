/- AgesPops: walked. -/
import Derived.Test.YtiefhmbffmphdaaAG28
set_option linter.unusedVariables false
namespace Go.Proofs.Ytiefhmbffmphdaa
open Go.RowKit
theorem wo_not {m : List Int} {k : Int} (h : k ∉ m) : wo m k = m := without_none h
theorem wo_drop {m : List Int} (hn : m.Nodup) (k : Nat) (hk : k < m.length) : wo (m.drop k) m[k] = m.drop (k + 1) ∧ m[k] ∉ m.drop (k + 1) := by
  have e : m.drop k = m[k] :: m.drop (k + 1) := List.drop_eq_getElem_cons hk
  have h1 : (m[k] :: m.drop (k + 1)).Nodup := by rw [← e]; exact hn.sublist (List.drop_sublist _ _)
  rw [List.nodup_cons] at h1
  refine ⟨?_, h1.1⟩
  rw [e]
  unfold wo
  rw [List.filter_cons_of_neg (by simp)]
  exact without_none h1.1
theorem tch_ne (m : List Int) (k : Int) : tch m k ≠ [] := by unfold tch; simp
set_option maxRecDepth 100000 in
set_option maxHeartbeats 8000000 in
theorem pops_any (A0 : Option Addr) (n0 c0 : Nat) (W : World) (hA : Rv Try.prog W 30 [.slice A0 n0 c0]) :
    Calls Try.prog 4 #[.slice A0 n0 c0] W fun e w' => e = .returned (.bool true) ∧ Below W.heap.size W w' := by
  obtain ⟨A, n, c, l, e1, hnc, hcm, hl, hwf, hr⟩ := rv_ints Try.underlying30 Try.underlying3 (by kernel_rfl) hA
  simp only [List.cons.injEq, Value.slice.injEq, and_true] at e1
  obtain ⟨rfl, rfl, rfl⟩ := e1
  unfold maxLen at hcm
  clear hA
  by_cases hbig : n0 > 300
  · have hd : decide (300 < (n0 : Int)) = true := by simp; omega
    go_enter Try.func4, Try.ntmps4
    go_wp2_with fail
    go_returns
    exact ⟨rfl, Below.refl _ _⟩
  · have h0 := s1_new W
    have hn3 : n0 ≤ 300 := by omega
    have hd : decide (300 < (n0 : Int)) = false := by simp; omega
    clear hbig
    go_enter Try.func4, Try.ntmps4
    go_wp2_with (go_at_call 5; (with_reducible refine (agnew_any _).mono ?_); rintro e w1 ⟨rfl, rfl⟩)
    go_loopw [21] (fun i wr => ∃ (k : Nat) (m : List Int), k ≤ n0 ∧ i = .int .i64 k ∧ S1 W W.heap.size k m (.slice none 0 0) [] wr ∧ Rng m ∧ m.length ≤ k ∧ decide (0 < m.length) = decide (0 < k)) (fun i _ => n0 - (intOf i).toNat)
    case atStart => exact ⟨0, [], by omega, rfl, h0, (fun k hk => by cases hk), by simp, rfl⟩
    case round =>
      obtain ⟨k, m, hk, rfl, h, hR, hml, hmk⟩ := hrel
      clear h0
      by_cases hlt : k < n0
      · have hk2 : k < l.length := by omega
        obtain ⟨b, o, rfl, hbb, hc0⟩ := (hr.below h.bel).get k (by simp [hk2])
        rw [List.getElem_map] at hc0
        have hx := wf_i64 (hwf l[k] (List.getElem_mem hk2))
        generalize l[k] = x at *
        have hT := h.touch hx (by omega)
        have hRx := hR.tch hx
        have hne := tch_ne m x
        have htl := tch_len m x
        clear hmk hd
        go_wp2_with (go_at_call 6; (with_reducible refine hT.mono ?_); rintro e w2 ⟨rfl, h2⟩)
        refine ⟨⟨k + 1, tch m x, by omega, by go_num, h2, hRx, by omega, ?_⟩, by simp [intOf]; omega⟩
        have : 0 < (tch m x).length := by
          rcases Nat.eq_zero_or_pos (tch m x).length with e | e
          · exact absurd (List.eq_nil_of_length_eq_zero e) hne
          · exact e
        simp [this]
      · obtain rfl : k = n0 := by omega
        have hAl := h.all (by omega)
        have hnd := h.nodup
        have HMK := Lib.hid hmk
        clear hmk hlt h hd
        go_wp2_with (go_at_call 15; (with_reducible refine hAl.mono ?_); rintro e w2 ⟨v', rfl, h2⟩; obtain ⟨A1, c1, rfl, _⟩ := own_form h2.own)
        go_loopw [33] (fun i wr => ∃ (j : Nat), j ≤ m.length ∧ i = .int .i64 j ∧ S1 W W.heap.size k (m.drop j) (.slice A1 m.length c1) m wr) (fun i _ => m.length - (intOf i).toNat)
        case atStart => exact ⟨0, by omega, rfl, by simpa using h2⟩
        case round =>
          obtain ⟨j, hj, rfl, h⟩ := hrel
          clear h2 hAl
          by_cases hlt : j < m.length
          · obtain ⟨b, o, rfl, hbb, hc0⟩ := (Rd.of_own h.own).get j (by simp [hlt])
            rw [List.getElem_map] at hc0
            obtain ⟨hw, hnm⟩ := wo_drop hnd j hlt
            have hx := hR m[j] (List.getElem_mem hlt)
            have ed : m.drop j = m[j] :: m.drop (j + 1) := List.drop_eq_getElem_cons hlt
            have hP := h.pop (fun x hx => hR x (List.mem_of_mem_drop hx)) (by omega)
            have eh : (m.drop j).headD 0 = m[j] := by rw [ed]; rfl
            have en : decide (m.drop j ≠ []) = true := decide_eq_true (by rw [ed]; exact List.cons_ne_nil _ _)
            rw [eh, en, hw] at hP
            have hnmd : decide (m[j] ∈ m.drop (j + 1)) = false := decide_eq_false hnm
            have hw2 : wo (m.drop (j + 1)) m[j] = m.drop (j + 1) := wo_not hnm
            clear eh en hw ed hnm
            have hHas := fun (w : World) (h : S1 W W.heap.size k (m.drop (j + 1)) (.slice (some ⟨b, o, none⟩) m.length c1) m w) => h.has hx
            have hDr := fun (w : World) (h : S1 W W.heap.size k (m.drop (j + 1)) (.slice (some ⟨b, o, none⟩) m.length c1) m w) => h.drop hx (by omega)
            rw [hnmd] at hHas hDr
            rw [hw2] at hDr
            clear hnmd hw2 hx
            generalize m[j] = x at *
            go_wp2_with (first
              | (go_at_call 11; (with_reducible refine hP.mono ?_); rintro e w3 ⟨rfl, h3⟩)
              | (go_at_call 13; (with_reducible refine (hHas _ h3).mono ?_); rintro e w4 ⟨rfl, rfl⟩)
              | (go_at_call 8; (with_reducible refine (hDr _ h3).mono ?_); rintro e w4 ⟨rfl, h4⟩))
            exact ⟨⟨j + 1, by omega, by go_num, h4⟩, by simp [intOf]; omega⟩
          · obtain rfl : j = m.length := by omega
            have e0 : m.drop m.length = [] := by simp
            rw [e0] at h
            have hP := h.pop (fun x hx => by cases hx) (by omega)
            have hP' : Calls Try.prog 11 #[.pointer (some ⟨W.heap.size, 0, none⟩)] wr fun e w' => e = .returned (.tuple #[.int .i64 0, .bool false]) ∧ S1 W W.heap.size k [] (.slice A1 m.length c1) m w' := hP
            clear hP hlt e0
            have hmk : 0 < m.length ↔ 0 < k := by
              have := HMK.out
              simpa using this
            by_cases hm0 : 0 < m.length
            all_goals
              have hk0 := hmk
              simp only [hm0, true_iff, false_iff] at hk0
              clear hmk HMK
              go_wp2_with (first
                | (go_at_call 11; (with_reducible refine hP'.mono ?_); rintro e w3 ⟨rfl, h3⟩; have hLn : Calls Try.prog 14 #[.pointer (some ⟨W.heap.size, 0, none⟩)] w3 (fun e w' => e = .returned (.int .i64 0) ∧ w3 = w') := h3.len)
                | (go_at_call 14; (with_reducible refine hLn.mono ?_); rintro e w4 ⟨rfl, rfl⟩)
                | (go_at_call 17; (with_reducible refine (alive40 _).mono ?_); rintro e w5 ⟨rfl, hb5⟩))
              go_returns
              exact ⟨rfl, h3.bel.trans (hb5.mono h3.bel.size)⟩
end Go.Proofs.Ytiefhmbffmphdaa
