/- The law MeterTakes: the walk. -/
import Derived.Test.YtlbiiljncacdoaaGreatMe5
set_option linter.unusedVariables false
namespace Go.Proofs.YtlbiiljncacdoaaGreat
open Go.RowKit
theorem Lie.swap2 {w0 w : World} {a b : Nat × TypeId × Array Value} (h : Lie w0 [a, b] w) : Lie w0 [b, a] w := h.sub (fun x hx => by simp only [List.mem_cons, List.not_mem_nil, or_false] at hx ⊢; exact hx.symm)
theorem mtake_zero (g : Nat) (z : Int) (w : World) (hK : Bk w g 115 (meA 0 0)) : Calls Tryz.prog 64 #[.pointer (some ⟨g, 0, none⟩), .int .i64 z] w fun e w' => e = .returned (.bool (decide (z = 0))) ∧ Bk w' g 115 (meA 0 0) ∧ w.grownBy w' (some g) ∧ w'.heap.size = w.heap.size := by
  by_cases h : z = 0
  · subst h
    refine (mtake_yes g 0 0 0 w hK (by omega) (by omega) (by omega) (by omega)).mono ?_
    rintro e w' ⟨rfl, h1, h2, h3⟩
    exact ⟨rfl, h1, h2, h3⟩
  · refine (mtake_no g 0 0 z w hK (by omega)).mono ?_
    rintro e w' ⟨rfl, rfl⟩
    exact ⟨by rw [decide_eq_false h], hK, World.grownBy.refl w _, rfl⟩
set_option maxRecDepth 100000 in
set_option maxHeartbeats 16000000 in
theorem walkMeterTakes (m : Int) (A : Option Addr) (n cp : Nat) (l : List Int) (w : World) (hl : l.length = n) (hr : Rd w w.heap.size A (l.map (Value.int .i64))) :
    Calls Tryz.prog 13 #[.int .i64 m, .slice A n cp] w fun e w' => e = .returned (.bool true) ∧ Below w.heap.size w w' := by
  by_cases hn : (200 : Int) < n
  · have hb := Below.refl w.heap.size w
    clear hl hr
    go_enter Tryz.func13, Tryz.ntmps13
    go_wp2_with fail
    go_returns
    exact ⟨rfl, hb⟩
  obtain ⟨L, hLe⟩ : ∃ L, max 0 (min m 4611686018427387904) = L := ⟨_, rfl⟩
  have hL0 : 0 ≤ L ∧ L ≤ 4611686018427387904 := by omega
  have hNw : ∀ w', Calls Tryz.prog 63 #[.int .i64 m] w' fun e w'' => e = .returned (.pointer (some ⟨w'.heap.size, 0, none⟩)) ∧ w'.alloc (.cells (meA 0 L) 115) = w'' := fun w' => by rw [← hLe]; exact mnew_any m w'
  have HLE := Lib.hid hLe
  have HL := Lib.hid hl
  clear hLe hl
  have hLi := ((Lie.start w).alloc (meA 0 L) 115).alloc (meA 0 0) 115
  simp only [World.size_alloc] at hLi
  have hm : (m ≤ 0 ∧ Hid (L = 0)) ∨ (0 < m ∧ m ≤ 4611686018427387904 ∧ Hid (L = m)) ∨ (4611686018427387904 < m ∧ Hid (L = 4611686018427387904)) := by have := HLE.out; unfold Hid; omega
  have HLv : Hid (L = L) := rfl
  clear HLE
  obtain ⟨hL0, hL1⟩ := hL0
  rcases hm with ⟨h1, h2⟩ | ⟨h1, h2, h3⟩ | ⟨h1, h2⟩
  all_goals
    go_enter Tryz.func13, Tryz.ntmps13
    go_wp2_with (go_at_call 63; (with_reducible refine (hNw _).mono ?_); rintro e w' ⟨rfl, rfl⟩)
    clear hNw HLv
    go_loopw [8, 9, 25] (fun fv uv iv wr => ∃ (k : Nat) (f u : Int), k ≤ n ∧ iv = .int .i64 k ∧ fv = .int .i64 f ∧ uv = .int .i64 u ∧ 0 ≤ f ∧ 0 ≤ u ∧ u + f = L ∧ Lie w [(w.heap.size, 115, meA u f), (w.heap.size + 1, 115, meA 0 0)] wr) (fun _ _ iv _ => n - (intOf iv).toNat)
    case atStart =>
      refine ⟨0, L, 0, by omega, rfl, ?_, rfl, by omega, by omega, by omega, hLi.swap2⟩
      first | (rw [h2.out]; done) | (rw [h3.out]; done) | (rw [h2.out]) | (rw [h3.out])
    case round =>
      clear hLi
      obtain ⟨k, f, u, hk, rfl, rfl, rfl, hf, hu, hfu, hLi⟩ := hrel
      have k5 : Bk wr w.heap.size 115 (meA u f) := hLi.k 0 (by simp)
      have k7 : Bk wr (w.heap.size + 1) 115 (meA 0 0) := hLi.k 1 (by simp)
      by_cases hlt : k < n
      · obtain ⟨b, o, rfl, hb, hc⟩ := hr.get k (by rw [List.length_map, HL.out]; exact hlt)
        have hx : (l.map (Value.int .i64))[k]'(by rw [List.length_map, HL.out]; exact hlt) = .int .i64 (l.getD k 0) := by
          rw [List.getElem_map, List.getD_eq_getElem?_getD, List.getElem?_eq_getElem (by rw [HL.out]; exact hlt)]; rfl
        rw [hx] at hc
        clear hx
        replace hc := (hLi.bel.cell (p := ⟨b, o + k, none⟩) hb).trans hc
        generalize l.getD k 0 = z at *
        have hdd : (decide (z = 0) == (z == 0)) = true := by by_cases h : z = 0 <;> simp [h]
        by_cases hz : 0 ≤ z ∧ z ≤ f
        · obtain ⟨z0, z1⟩ := hz
          have hT := mtake_yes w.heap.size u f z wr k5 z0 z1 hu (by omega)
          have hfz : wrap64 (f - z) = f - z := IntWalk.wrap64_in _ ⟨by omega, by omega⟩
          have huz : wrap64 (u + z) = u + z := IntWalk.wrap64_in _ ⟨by omega, by omega⟩
          have hdz : decide (z ≤ f) = true := by simp [z1]
          go_wp2_with (first
            | (go_at_call 64; (with_reducible refine hT.mono ?_); rintro e wa ⟨rfl, ka5, hga, hsa⟩; have ka7 : Bk wa (w.heap.size + 1) 115 (meA 0 0) := k7.grown hga (by intro e; injection e with e; omega))
            | (go_at_call 64; (with_reducible refine (mtake_nil z _).mono ?_); rintro e wb ⟨rfl, rfl⟩)
            | (go_at_call 64; (with_reducible refine (mtake_zero _ z _ ka7).mono ?_); rintro e wc ⟨rfl, kc7, hgc, hsc⟩; have hLc : Lie w [(w.heap.size, 115, meA (u + z) (f - z)), (w.heap.size + 1, 115, meA 0 0)] wc := ((hLi.set hga ka5 (Nat.le_refl _) (fun x hx => by simp only [List.mem_cons, List.not_mem_nil, or_false] at hx; subst hx; show w.heap.size + 1 ≠ w.heap.size; omega)).swap2.set hgc kc7 (Nat.le_succ _) (fun x hx => by simp only [List.mem_cons, List.not_mem_nil, or_false] at hx; subst hx; show w.heap.size ≠ w.heap.size + 1; omega)).swap2; have kc5 : Bk wc w.heap.size 115 (meA (u + z) (f - z)) := hLc.k 0 (by simp))
            | (go_at_call 65; (with_reducible refine (mused_any _ _ _ _ kc5).mono ?_); rintro e w' ⟨rfl, rfl⟩)
            | (go_at_call 66; (with_reducible refine (mleft_any _ _ _ _ kc5).mono ?_); rintro e w' ⟨rfl, rfl⟩)
            | (go_at_call 65; (with_reducible refine (mused_nil _).mono ?_); rintro e w' ⟨rfl, rfl⟩)
            | (go_at_call 66; (with_reducible refine (mleft_nil _).mono ?_); rintro e w' ⟨rfl, rfl⟩)
            | (go_at_call 65; (with_reducible refine (mused_any _ _ _ _ kc7).mono ?_); rintro e w' ⟨rfl, rfl⟩)
            | (go_at_call 66; (with_reducible refine (mleft_any _ _ _ _ kc7).mono ?_); rintro e w' ⟨rfl, rfl⟩))
          exact ⟨⟨k + 1, f - z, u + z, by omega, by go_num, rfl, rfl, by omega, by omega, by omega, hLc⟩, by simp [intOf]; omega⟩
        · have hT := mtake_no w.heap.size u f z wr k5 (by omega)
          rcases (show z < 0 ∨ (0 ≤ z ∧ f < z) by omega) with h0 | ⟨h0, h00⟩
          all_goals
            clear hz
            go_wp2_with (first
              | (go_at_call 64; (with_reducible refine hT.mono ?_); rintro e wa ⟨rfl, rfl⟩; have ka7 := k7)
              | (go_at_call 64; (with_reducible refine (mtake_nil z _).mono ?_); rintro e wb ⟨rfl, rfl⟩)
              | (go_at_call 64; (with_reducible refine (mtake_zero _ z _ ka7).mono ?_); rintro e wc ⟨rfl, kc7, hgc, hsc⟩; have hLc : Lie w [(w.heap.size, 115, meA u f), (w.heap.size + 1, 115, meA 0 0)] wc := (hLi.swap2.set hgc kc7 (Nat.le_succ _) (fun x hx => by simp only [List.mem_cons, List.not_mem_nil, or_false] at hx; subst hx; show w.heap.size ≠ w.heap.size + 1; omega)).swap2; have kc5 : Bk wc w.heap.size 115 (meA u f) := hLc.k 0 (by simp))
              | (go_at_call 65; (with_reducible refine (mused_any _ _ _ _ kc5).mono ?_); rintro e w' ⟨rfl, rfl⟩)
              | (go_at_call 66; (with_reducible refine (mleft_any _ _ _ _ kc5).mono ?_); rintro e w' ⟨rfl, rfl⟩)
              | (go_at_call 65; (with_reducible refine (mused_nil _).mono ?_); rintro e w' ⟨rfl, rfl⟩)
              | (go_at_call 66; (with_reducible refine (mleft_nil _).mono ?_); rintro e w' ⟨rfl, rfl⟩)
              | (go_at_call 65; (with_reducible refine (mused_any _ _ _ _ kc7).mono ?_); rintro e w' ⟨rfl, rfl⟩)
              | (go_at_call 66; (with_reducible refine (mleft_any _ _ _ _ kc7).mono ?_); rintro e w' ⟨rfl, rfl⟩))
            exact ⟨⟨k + 1, f, u, by omega, by go_num, rfl, rfl, by omega, by omega, by omega, hLc⟩, by simp [intOf]; omega⟩
      · obtain rfl : k = n := by omega
        go_wp2_with (first
            | (go_at_call 65; (with_reducible refine (mused_any _ _ _ _ k5).mono ?_); rintro e w' ⟨rfl, rfl⟩)
            | (go_at_call 66; (with_reducible refine (mleft_any _ _ _ _ k5).mono ?_); rintro e w' ⟨rfl, rfl⟩)
            | (go_at_call 61; (with_reducible refine (alive44 _).mono ?_); rintro e wz ⟨rfl, hbz⟩))
        go_returns
        exact ⟨rfl, (hLi.nx hbz).bel⟩
theorem lawMeterTakes (m : Int) (A : Option Addr) (n cp : Nat) (w : World) (h0 : (Lit.int .i64 m).wf = true) (h1 : Rv Tryz.prog w 29 [.slice A n cp]) :
    Calls Tryz.prog 13 #[.int .i64 m, .slice A n cp] w fun e w' => e = .returned (.bool true) ∧ Below w.heap.size w w' := by
  obtain ⟨l, hl, _, _, _, hr⟩ := open_nums h1
  exact walkMeterTakes m A n cp l w hl hr
end Go.Proofs.YtlbiiljncacdoaaGreat
