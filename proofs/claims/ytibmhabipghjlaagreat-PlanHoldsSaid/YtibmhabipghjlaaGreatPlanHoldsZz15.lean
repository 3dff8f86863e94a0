/- Several texts in one: weight: four weights of a curve, walked. (Printed by wip/tools/gensp10.py.) cubic: what lies in an around (what needs no images, out of SP11). PlanHolds: cubic's look, of a spy. cubic: a channel of a row, a channel. (SP12 without images.) PlanHolds: cubic.By, of a spy. -/
import Derived.Test.YtibmhabipghjlaaGreatPlanHoldsZz12
import Derived.BigRegion
import Derived.RegionTactic
import Derived.Deep.RegionWith
import Derived.Test.YtibmhabipghjlaaGreatPlanHoldsZz14
import Derived.Test.YtibmhabipghjlaaGreatPlanHoldsZz13
section
set_option linter.unusedVariables false
namespace Go.Proofs.YtibmhabipghjlaaGreat
open Go.RowKit
def cwA (a b c d t : Int) : Int := ((a * t + b * 256) * t + c * 256 * 256) * t + d * 256 * 256 * 256
/-- How much the four pixels count. -/
def cw (i : Nat) (t : Int) : Int := match i with
  | 0 => cwA (-1) 2 (-1) 0 t
  | 1 => cwA 3 (-5) 0 2 t
  | 2 => cwA (-3) 4 1 0 t
  | _ => cwA 1 (-1) 0 0 t
theorem all257 {P : Int → Prop} (h : ∀ t : Fin 257, P ((t.val : Nat) : Int)) {t : Int} (h0 : 0 ≤ t) (h1 : t ≤ 256) : P t := by
  have := h ⟨t.toNat, by omega⟩
  have e : ((t.toNat : Nat) : Int) = t := by omega
  simp only [e] at this
  exact this
theorem cw_bd4 {t : Int} (h0 : 0 ≤ t) (h1 : t ≤ 256) : (-33554432 ≤ cw 0 t ∧ cw 0 t ≤ 33554432) ∧ (-33554432 ≤ cw 1 t ∧ cw 1 t ≤ 33554432) ∧ (-33554432 ≤ cw 2 t ∧ cw 2 t ≤ 33554432) ∧ (-33554432 ≤ cw 3 t ∧ cw 3 t ≤ 33554432) :=
  all257 (P := fun t => (-33554432 ≤ cw 0 t ∧ cw 0 t ≤ 33554432) ∧ (-33554432 ≤ cw 1 t ∧ cw 1 t ≤ 33554432) ∧ (-33554432 ≤ cw 2 t ∧ cw 2 t ≤ 33554432) ∧ (-33554432 ≤ cw 3 t ∧ cw 3 t ≤ 33554432)) (by decide +kernel) h0 h1
theorem cw_bd {t : Int} (h0 : 0 ≤ t) (h1 : t ≤ 256) (i : Nat) : -33554432 ≤ cw i t ∧ cw i t ≤ 33554432 := by
  obtain ⟨a, b, c, d⟩ := cw_bd4 h0 h1
  match i with
  | 0 => exact a
  | 1 => exact b
  | 2 => exact c
  | i + 3 => exact d
abbrev cuA : Array Value := #[.int .i64 (-1), .int .i64 2, .int .i64 (-1), .int .i64 0, .int .i64 3, .int .i64 (-5), .int .i64 0, .int .i64 2, .int .i64 (-3), .int .i64 4, .int .i64 1, .int .i64 0, .int .i64 1, .int .i64 (-1), .int .i64 0, .int .i64 0]
theorem cu_size : (Tryz.prog.info? 223).map (·.size) = some 16 := by kernel_rfl
theorem cv_size : (Tryz.prog.info? 222).map (·.size) = some 4 := by kernel_rfl
set_option maxRecDepth 100000 in
set_option maxHeartbeats 4000000 in
theorem curves_any (w : World) : Calls Tryz.prog 160 #[] w fun e w' => e = .returned (.agg cuA) ∧ Below w.heap.size w w' := by
  have hb := (Below.refl w.heap.size w).alloc (Nat.le_refl _) (.cells (Array.replicate 16 (.int .i64 0)) 223)
  have hK : Bk (w.alloc (.cells (Array.replicate 16 (.int .i64 0)) 223)) w.heap.size 223 (Array.replicate 16 (.int .i64 0)) := Bk.new w _ _
  go_enter Tryz.func160, Tryz.ntmps160
  go_wp2_with (refine stB (ty := 223) (cells := cuA) rfl _ _ rfl hK rfl rfl cu_size rfl (by simp [Value.oneCell']) ?_; intro w' hK' hg' _)
  refine bodyPost_ret (res_cell rfl hK' rfl Tryz.underlying223 rfl cu_size) rfl ?_
  exact ⟨rfl, below_of_gb hb hg' (Nat.le_refl _) hb.size⟩
theorem cu_ix0 (w : World) : (Instr.index 223 (.agg cuA) (.int .i64 0)).run Tryz.prog w = .ok (.agg #[.int .i64 (-1), .int .i64 2, .int .i64 (-1), .int .i64 0]) w := by kernel_rfl
theorem cu_ix1 (w : World) : (Instr.index 223 (.agg cuA) (.int .i64 1)).run Tryz.prog w = .ok (.agg #[.int .i64 3, .int .i64 (-5), .int .i64 0, .int .i64 2]) w := by kernel_rfl
theorem cu_ix2 (w : World) : (Instr.index 223 (.agg cuA) (.int .i64 2)).run Tryz.prog w = .ok (.agg #[.int .i64 (-3), .int .i64 4, .int .i64 1, .int .i64 0]) w := by kernel_rfl
theorem cu_ix3 (w : World) : (Instr.index 223 (.agg cuA) (.int .i64 3)).run Tryz.prog w = .ok (.agg #[.int .i64 1, .int .i64 (-1), .int .i64 0, .int .i64 0]) w := by kernel_rfl
def cbA (t : Int) (k : Nat) : Array Value :=
  let q := fun j => Value.int .i64 (if j < k then cw j t else 0)
  #[q 0, q 1, q 2, q 3]
theorem cb0 (t : Int) : cbA t 0 = #[.int .i64 0, .int .i64 0, .int .i64 0, .int .i64 0] := by simp [cbA]
theorem cb1 (t : Int) : cbA t 1 = #[.int .i64 (cw 0 t), .int .i64 0, .int .i64 0, .int .i64 0] := by simp [cbA]
theorem cb2 (t : Int) : cbA t 2 = #[.int .i64 (cw 0 t), .int .i64 (cw 1 t), .int .i64 0, .int .i64 0] := by simp [cbA]
theorem cb3 (t : Int) : cbA t 3 = #[.int .i64 (cw 0 t), .int .i64 (cw 1 t), .int .i64 (cw 2 t), .int .i64 0] := by simp [cbA]
theorem cb4 (t : Int) : cbA t 4 = #[.int .i64 (cw 0 t), .int .i64 (cw 1 t), .int .i64 (cw 2 t), .int .i64 (cw 3 t)] := by simp [cbA]
theorem cbA_up {t : Int} {k : Nat} (hk : k < 4) : (cbA t k).setIfInBounds k (.int .i64 (cw k t)) = cbA t (k + 1) := by
  have : k = 0 ∨ k = 1 ∨ k = 2 ∨ k = 3 := by omega
  rcases this with rfl | rfl | rfl | rfl <;> simp [cbA]
set_option maxRecDepth 100000 in
set_option maxHeartbeats 8000000 in
theorem wcubic_any (t : Int) (w : World) (h0 : 0 ≤ t) (h1 : t ≤ 256) : Calls Tryz.prog 147 #[.int .i64 t] w fun e w' => e = .returned (.agg (cbA t 4)) ∧ Below w.heap.size w w' := by
  have hC0 := fun w' => cat_any (-1) 2 (-1) 0 t w' (by omega) (by omega) (by omega) (by omega) h0 h1
  have hC1 := fun w' => cat_any 3 (-5) 0 2 t w' (by omega) (by omega) (by omega) (by omega) h0 h1
  have hC2 := fun w' => cat_any (-3) 4 1 0 t w' (by omega) (by omega) (by omega) (by omega) h0 h1
  have hC3 := fun w' => cat_any 1 (-1) 0 0 t w' (by omega) (by omega) (by omega) (by omega) h0 h1
  change ∀ w', Calls _ _ _ _ fun e w'' => e = .returned (.int .i64 (cw 0 t)) ∧ _ at hC0
  change ∀ w', Calls _ _ _ _ fun e w'' => e = .returned (.int .i64 (cw 1 t)) ∧ _ at hC1
  change ∀ w', Calls _ _ _ _ fun e w'' => e = .returned (.int .i64 (cw 2 t)) ∧ _ at hC2
  change ∀ w', Calls _ _ _ _ fun e w'' => e = .returned (.int .i64 (cw 3 t)) ∧ _ at hC3
  have hL := ((Lie.start w).alloc #[.int .i64 0, .int .i64 0, .int .i64 0, .int .i64 0] 146).alloc #[.int .i64 0, .int .i64 0, .int .i64 0, .int .i64 0] 146
  simp only [World.size_alloc] at hL
  have hCu := fun w' => curves_any w'
  have hi0 := fun w => cu_ix0 w
  have hi1 := fun w => cu_ix1 w
  have hi2 := fun w => cu_ix2 w
  have hi3 := fun w => cu_ix3 w
  generalize (cuA : Array Value) = cu at *
  go_enter Tryz.func147, Tryz.ntmps147
  go_wp2_with (go_at_call 160; (with_reducible refine (hCu _).mono ?_); rintro e w1 ⟨rfl, hb1⟩)
  have hL1 := hL.nx hb1
  clear hL hb1 hCu
  obtain ⟨g3, hg3⟩ : ∃ g3, w.heap.size + 1 = g3 := ⟨_, rfl⟩
  rw [hg3] at hL1
  simp only [hg3]
  have n3 : w.heap.size < g3 := by omega
  clear hg3
  go_loopw [7] (fun iv wr => ∃ k : Nat, k ≤ 4 ∧ iv = .int .i64 k ∧ Lie w [(g3, 146, cbA t k), (w.heap.size, 146, #[.int .i64 0, .int .i64 0, .int .i64 0, .int .i64 0])] wr) (fun iv _ => 4 - (intOf iv).toNat)
  case atStart => exact ⟨0, by omega, rfl, by rw [cb0]; exact hL1⟩
  case round =>
    clear hL1
    obtain ⟨k, hk, rfl, hLi⟩ := hrel
    rcases (show k = 0 ∨ k = 1 ∨ k = 2 ∨ k = 3 ∨ k = 4 by omega) with rfl | rfl | rfl | rfl | rfl
    · clear hC1 hi1 hC2 hi2 hC3 hi3
      go_wp2_with (go_at_call 161; (with_reducible refine (hC0 _).mono ?_); rintro e w6 ⟨rfl, hb6⟩; have hL6 := (hLi.alloc #[.int .i64 (-1), .int .i64 2, .int .i64 (-1), .int .i64 0] 222).nx hb6; have k3 : Bk w6 g3 146 (cbA t 0) := hL6.k 1 (by simp); have e3 := k3; rw [cb0] at e3; obtain ⟨d0, d1, d2, d3⟩ := e3.cell4; have f0 := e3.frozen 0)
      have hL7 : Lie w [(g3, 146, cbA t 0), (w.heap.size, 146, #[.int .i64 0, .int .i64 0, .int .i64 0, .int .i64 0])] w6 := hL6.sub (fun x hx => List.mem_cons_of_mem _ hx)
      exact ⟨⟨1, by omega, by go_num, hL7.set (gb_setCell (World.grownBy.refl w6 (some g3)) (p := ⟨g3, 0, none⟩) (.inl rfl) (.int .i64 (cw 0 t))) (by rw [← cbA_up (by omega)]; exact k3.set 0 (.int .i64 (cw 0 t))) (by omega) (fun x hx => by simp only [List.mem_cons, List.not_mem_nil, or_false] at hx; subst hx; simp; omega)⟩, by simp [intOf]⟩
    · clear hC0 hi0 hC2 hi2 hC3 hi3
      go_wp2_with (go_at_call 161; (with_reducible refine (hC1 _).mono ?_); rintro e w6 ⟨rfl, hb6⟩; have hL6 := (hLi.alloc #[.int .i64 3, .int .i64 (-5), .int .i64 0, .int .i64 2] 222).nx hb6; have k3 : Bk w6 g3 146 (cbA t 1) := hL6.k 1 (by simp); have e3 := k3; rw [cb1] at e3; obtain ⟨d0, d1, d2, d3⟩ := e3.cell4; have f0 := e3.frozen 1)
      have hL7 : Lie w [(g3, 146, cbA t 1), (w.heap.size, 146, #[.int .i64 0, .int .i64 0, .int .i64 0, .int .i64 0])] w6 := hL6.sub (fun x hx => List.mem_cons_of_mem _ hx)
      exact ⟨⟨2, by omega, by go_num, hL7.set (gb_setCell (World.grownBy.refl w6 (some g3)) (p := ⟨g3, 1, none⟩) (.inl rfl) (.int .i64 (cw 1 t))) (by rw [← cbA_up (by omega)]; exact k3.set 1 (.int .i64 (cw 1 t))) (by omega) (fun x hx => by simp only [List.mem_cons, List.not_mem_nil, or_false] at hx; subst hx; simp; omega)⟩, by simp [intOf]⟩
    · clear hC0 hi0 hC1 hi1 hC3 hi3
      go_wp2_with (go_at_call 161; (with_reducible refine (hC2 _).mono ?_); rintro e w6 ⟨rfl, hb6⟩; have hL6 := (hLi.alloc #[.int .i64 (-3), .int .i64 4, .int .i64 1, .int .i64 0] 222).nx hb6; have k3 : Bk w6 g3 146 (cbA t 2) := hL6.k 1 (by simp); have e3 := k3; rw [cb2] at e3; obtain ⟨d0, d1, d2, d3⟩ := e3.cell4; have f0 := e3.frozen 2)
      have hL7 : Lie w [(g3, 146, cbA t 2), (w.heap.size, 146, #[.int .i64 0, .int .i64 0, .int .i64 0, .int .i64 0])] w6 := hL6.sub (fun x hx => List.mem_cons_of_mem _ hx)
      exact ⟨⟨3, by omega, by go_num, hL7.set (gb_setCell (World.grownBy.refl w6 (some g3)) (p := ⟨g3, 2, none⟩) (.inl rfl) (.int .i64 (cw 2 t))) (by rw [← cbA_up (by omega)]; exact k3.set 2 (.int .i64 (cw 2 t))) (by omega) (fun x hx => by simp only [List.mem_cons, List.not_mem_nil, or_false] at hx; subst hx; simp; omega)⟩, by simp [intOf]⟩
    · clear hC0 hi0 hC1 hi1 hC2 hi2
      go_wp2_with (go_at_call 161; (with_reducible refine (hC3 _).mono ?_); rintro e w6 ⟨rfl, hb6⟩; have hL6 := (hLi.alloc #[.int .i64 1, .int .i64 (-1), .int .i64 0, .int .i64 0] 222).nx hb6; have k3 : Bk w6 g3 146 (cbA t 3) := hL6.k 1 (by simp); have e3 := k3; rw [cb3] at e3; obtain ⟨d0, d1, d2, d3⟩ := e3.cell4; have f0 := e3.frozen 3)
      have hL7 : Lie w [(g3, 146, cbA t 3), (w.heap.size, 146, #[.int .i64 0, .int .i64 0, .int .i64 0, .int .i64 0])] w6 := hL6.sub (fun x hx => List.mem_cons_of_mem _ hx)
      exact ⟨⟨4, by omega, by go_num, hL7.set (gb_setCell (World.grownBy.refl w6 (some g3)) (p := ⟨g3, 3, none⟩) (.inl rfl) (.int .i64 (cw 3 t))) (by rw [← cbA_up (by omega)]; exact k3.set 3 (.int .i64 (cw 3 t))) (by omega) (fun x hx => by simp only [List.mem_cons, List.not_mem_nil, or_false] at hx; subst hx; simp; omega)⟩, by simp [intOf]⟩
    · have k3 : Bk wr g3 146 (cbA t 4) := hLi.k 0 (by simp)
      have k2 : Bk wr w.heap.size 146 #[.int .i64 0, .int .i64 0, .int .i64 0, .int .i64 0] := hLi.k 1 (by simp)
      have hbz := hLi.bel
      rw [cb4] at k3
      clear hC0 hC1 hC2 hC3 hi0 hi1 hi2 hi3
      go_wp2_with (first
        | (refine ldB rfl _ _ rfl k3 rfl Tryz.underlying146 rfl w4_size ?_)
        | (refine stB rfl _ _ _ rfl k2 _ rfl rfl w4_size rfl (by simp [Value.oneCell']) ?_; intro w6 k66 hg6 hs6))
      refine bodyPost_ret (res_cell rfl k66 rfl Tryz.underlying146 rfl w4_size) rfl ?_
      exact ⟨by rw [cb4], below_of_gb hbz hg6 (Nat.le_refl _) hbz.size⟩
set_option maxRecDepth 100000 in
set_option maxHeartbeats 8000000 in
theorem wCubic_any (t : Int) (w : World) (h0 : 0 ≤ t) (h1 : t ≤ 256) : Calls Tryz.prog 119 #[.int .i64 t] w fun e w' => e = .returned (.tuple #[.agg (cbA t 4), .int .i64 0]) ∧ Below w.heap.size w w' := by
  have hL := (Lie.start w).alloc #[.int .i64 0, .int .i64 0, .int .i64 0, .int .i64 0] 146
  have hC := fun w' => wcubic_any t w' h0 h1
  have h2 : decide (t < 0) = false := decide_eq_false (by omega)
  have h3 : decide (256 < t) = false := decide_eq_false (by omega)
  have h4 : (cbA t 4).all (·.oneCell') = true := by simp [cbA, Value.oneCell']
  have h5 : (cbA t 4).size = 4 := rfl
  generalize cbA t 4 = A at *
  go_enter Tryz.func119, Tryz.ntmps119
  go_wp2_with (first
    | (go_at_call 147; (with_reducible refine (hC _).mono ?_); rintro e w6 ⟨rfl, hb6⟩; have hL6 := hL.nx hb6; have k2 : Bk w6 w.heap.size 146 #[.int .i64 0, .int .i64 0, .int .i64 0, .int .i64 0] := hL6.k 0 (by simp))
    | (refine stB rfl _ _ _ rfl k2 A rfl rfl (by rw [h5]; exact w4_size) (by rw [h5]; rfl) h4 ?_; intro w7 k7 hg7 hs7))
  refine bodyPost_ret (res_cell_tmp rfl k7 rfl Tryz.underlying146 rfl (by rw [h5]; exact w4_size)) rfl ?_
  exact ⟨rfl, below_of_gb hL6.bel hg7 (Nat.le_refl _) hL6.sz⟩
end Go.Proofs.YtibmhabipghjlaaGreat
end
section
set_option linter.unusedVariables false
namespace Go.Proofs.YtibmhabipghjlaaGreat
open Go.RowKit
/-- What lies in cubic's 'around' after so many rounds. -/
def lcL (S : Nat → Value) (m : Nat) (xs : List Value) : List Value := ((List.range 16).map fun j => if j < m then S j else .slice none 0 0) ++ xs
def lcA (S : Nat → Value) (m : Nat) (xs : List Value) : Array Value := (lcL S m xs).toArray
abbrev xyL (s t : Int) : List Value := [.int .i64 (cw 0 s), .int .i64 (cw 1 s), .int .i64 (cw 2 s), .int .i64 (cw 3 s), .int .i64 (cw 0 t), .int .i64 (cw 1 t), .int .i64 (cw 2 t), .int .i64 (cw 3 t)]
theorem lcA_zero (S : Nat → Value) (xs : List Value) : lcA S 0 xs = (([.slice none 0 0, .slice none 0 0, .slice none 0 0, .slice none 0 0, .slice none 0 0, .slice none 0 0, .slice none 0 0, .slice none 0 0, .slice none 0 0, .slice none 0 0, .slice none 0 0, .slice none 0 0, .slice none 0 0, .slice none 0 0, .slice none 0 0, .slice none 0 0] : List Value) ++ xs).toArray := by
  unfold lcA lcL; congr 1
theorem lcA_get (S : Nat → Value) (m : Nat) (xs : List Value) (j : Nat) (h : j < 16) : (lcA S m xs)[j]? = some (if j < m then S j else .slice none 0 0) := by
  unfold lcA lcL
  rw [List.getElem?_toArray, List.getElem?_append_left (by simpa using h), List.getElem?_map, List.getElem?_range h]; rfl
theorem lcA_up (S : Nat → Value) (m : Nat) (xs : List Value) (v : Value) (h : m < 16) : (lcA S m xs).setIfInBounds m v = lcA (fun j => if j = m then v else S j) (m + 1) xs := by
  apply Array.ext_getElem?
  intro i
  rw [Array.getElem?_setIfInBounds]
  by_cases hi : i < 16
  · by_cases hm : m = i
    · subst hm
      rw [if_pos rfl, if_pos (by unfold lcA lcL; simp; omega), lcA_get _ _ _ _ hi, if_pos (by omega), if_pos rfl]
    · rw [if_neg hm, lcA_get _ _ _ _ hi, lcA_get _ _ _ _ hi]
      by_cases h1 : i < m
      · rw [if_pos h1, if_pos (by omega), if_neg (by omega)]
      · rw [if_neg h1, if_neg (by omega)]
  · rw [if_neg (by omega)]
    unfold lcA lcL
    rw [List.getElem?_toArray, List.getElem?_toArray, List.getElem?_append_right (by simp; omega), List.getElem?_append_right (by simp; omega)]
    simp
theorem ca_size : (Tryz.prog.info? 154).map (·.size) = some 24 := by kernel_rfl
abbrev zer24 : Array Value := #[.slice none 0 0, .slice none 0 0, .slice none 0 0, .slice none 0 0, .slice none 0 0, .slice none 0 0, .slice none 0 0, .slice none 0 0, .slice none 0 0, .slice none 0 0, .slice none 0 0, .slice none 0 0, .slice none 0 0, .slice none 0 0, .slice none 0 0, .slice none 0 0, .int .i64 0, .int .i64 0, .int .i64 0, .int .i64 0, .int .i64 0, .int .i64 0, .int .i64 0, .int .i64 0]
section
variable {w0 w : World} {L : List (Nat × TypeId × Array Value)} {g : Nat} {tt : TypeId} {cs : Array Value}
theorem Lie.st1 (h : Lie w0 ((g, tt, cs) :: L) w) (o : Nat) (a : Value) (hB : w0.heap.size ≤ g) (hne : ∀ x ∈ L, x.1 ≠ g) : Lie w0 ((g, tt, cs.setIfInBounds o a) :: L) (w.setCell ⟨g, o, none⟩ a) :=
  h.set (gb_setCell (World.grownBy.refl w (some g)) (p := ⟨g, o, none⟩) (.inl rfl) a) ((show Bk w g tt cs from h.2 (g, tt, cs) (by simp)).set o a) hB hne
end
end Go.Proofs.YtibmhabipghjlaaGreat
end
section
set_option linter.unusedVariables false
namespace Go.Proofs.YtibmhabipghjlaaGreat
open Go.RowKit
theorem lcA_ok {S : Nat → Value} {m : Nat} {xs : List Value} (hxo : ∀ v ∈ xs, v.oneCell' = true) (h : ∀ j, j < 16 → ∃ A n c, S j = .slice A n c) : (lcA S 16 xs).all (·.oneCell') = true := by
  unfold lcA lcL
  simp only [List.all_toArray, List.all_append, Bool.and_eq_true, List.all_map]
  refine ⟨List.all_eq_true.2 fun j hj => ?_, List.all_eq_true.2 hxo⟩
  have hj16 : j < 16 := by simpa using hj
  obtain ⟨A, n, c, e⟩ := h j hj16
  simp [hj16, e, Value.oneCell']
theorem SlB.one {w : World} {v : Value} (h : SlB w v) : ∃ A n c, v = .slice A n c := by
  obtain ⟨A, n, c, L, e, _⟩ := h
  exact ⟨A, n, c, e⟩
theorem SG.drewN {w0 : World} {g : Nat} {j : Jb} {TT : List Rn} {m : Nat} {w : World} (h : SG w0 g j TT m w) (n : Nat) : SG w0 g j TT m (w.drewN n) := h.nx (below_drewN (Below.refl _ _) n)
theorem SG.drew {w0 : World} {g : Nat} {j : Jb} {TT : List Rn} {m : Nat} {w : World} (h : SG w0 g j TT m w) : SG w0 g j TT m w.drew := h.drewN 1
theorem Kp.dr {w w' : World} (h : Kp w.drew w') : Kp w w' := (Kp.of_below (below_drewN (Below.refl _ _) 1)).trans h
theorem Kp.drN {w w' : World} {n : Nat} (h : Kp (w.drewN n) w') : Kp w w' := (Kp.of_below (below_drewN (Below.refl _ _) n)).trans h
set_option maxRecDepth 100000 in
set_option maxHeartbeats 16000000 in
theorem pclook_any {w0 : World} {gs : Nat} {jb : Jb} {TT : List Rn} {m : Nat} {w : World} (h : SG w0 gs jb TT m w) (vw : Array Value) (u v : Int) (hu : -70368744177664 ≤ u ∧ u ≤ 70368744177664) (hv : -70368744177664 ≤ v ∧ v ≤ 70368744177664)
    (hP : ∀ w' m' (x y : Int), SG w0 gs jb TT m' w' → m' ≤ m + 15 → (u / 65536 - 1 ≤ x ∧ x ≤ u / 65536 + 2) → (v / 65536 - 1 ≤ y ∧ y ≤ v / 65536 + 2) → Calls Tryz.prog 37 #[.agg vw, .int .i64 x, .int .i64 y] w' (PxS w0 gs jb TT m' w')) :
    Calls Tryz.prog 90 #[.func (.func 37) #[.agg vw] #[], .int .i64 u, .int .i64 v] w fun e w' => ∃ S : Nat → Value, e = .returned (.agg (lcA S 16 (xyL (u % 65536 / 256) (v % 65536 / 256)))) ∧ (∀ j, j < 16 → SlB w' (S j)) ∧ SG w0 gs jb TT (m + 16) w' ∧ Kp w w' := by
  have hS1 := fun w' => wsplit_any u w' (by omega) (by omega)
  have hS2 := fun w' => wsplit_any v w' (by omega) (by omega)
  have hi : -1073741824 ≤ u / 65536 ∧ u / 65536 ≤ 1073741824 := by omega
  have hj : -1073741824 ≤ v / 65536 ∧ v / 65536 ≤ 1073741824 := by omega
  have hA1 := fun w' => wCubic_any (u % 65536 / 256) w' (by omega) (by omega)
  have hA2 := fun w' => wCubic_any (v % 65536 / 256) w' (by omega) (by omega)
  have s1 : (u % 65536) >>> 8 = u % 65536 / 256 := by rw [Int.shiftRight_eq_div_pow]; rfl
  have s2 : (v % 65536) >>> 8 = v % 65536 / 256 := by rw [Int.shiftRight_eq_div_pow]; rfl
  simp only [cb4] at hA1 hA2
  generalize u % 65536 = f at *
  generalize v % 65536 = g at *
  generalize u / 65536 = i at *
  generalize v / 65536 = q at *
  obtain ⟨s, hs⟩ : ∃ s, f / 256 = s := ⟨_, rfl⟩
  obtain ⟨t, ht⟩ : ∃ t, g / 256 = t := ⟨_, rfl⟩
  rw [hs] at hA1 s1
  rw [ht] at hA2 s2
  rw [hs, ht]
  obtain ⟨i1, hi1⟩ : ∃ x, i - 1 = x := ⟨_, rfl⟩
  obtain ⟨q1, hq1⟩ : ∃ x, q - 1 = x := ⟨_, rfl⟩
  have v1 : wrap64 (i - 1) = i1 := by rw [hi1]; exact IntWalk.wrap64_in _ ⟨by omega, by omega⟩
  have v2 : wrap64 (q - 1) = q1 := by rw [hq1]; exact IntWalk.wrap64_in _ ⟨by omega, by omega⟩
  have hJ' := fun (w' : World) (m' x y : Nat) (hx : x < 4) (hy : y < 4) (hm : m' ≤ m + 15) (hs : SG w0 gs jb TT m' w') => hP w' m' (i1 + x) (q1 + y) hs hm (by omega) (by omega)
  have v3 : ∀ x : Nat, x < 4 → wrap64 (i1 + x) = i1 + x := fun x hx => IntWalk.wrap64_in _ ⟨by omega, by omega⟩
  have v4 : ∀ y : Nat, y < 4 → wrap64 (q1 + y) = q1 + y := fun y hy => IntWalk.wrap64_in _ ⟨by omega, by omega⟩
  have u1 : IntKind.i64.wrap (i - 1) = i1 := by rw [hi1]; exact IntWalk.i64_in _ ⟨by omega, by omega⟩
  have u2 : IntKind.i64.wrap (q - 1) = q1 := by rw [hq1]; exact IntWalk.i64_in _ ⟨by omega, by omega⟩
  have U3 : Hid (∀ x : Nat, x < 4 → IntKind.i64.wrap (i1 + x) = i1 + x) := fun x hx => IntWalk.i64_in _ ⟨by omega, by omega⟩
  have U4 : Hid (∀ y : Nat, y < 4 → IntKind.i64.wrap (q1 + y) = q1 + y) := fun y hy => IntWalk.i64_in _ ⟨by omega, by omega⟩
  have V3 := Lib.hid v3
  have V4 := Lib.hid v4
  have hL := ((Lie.start w).alloc zer24 154).alloc zer24 154
  simp only [World.size_alloc] at hL
  have hzs := h.sz
  clear hu hv hi hj hP hi1 hq1 v3 v4
  go_enter Tryz.func90, Tryz.ntmps90
  go_wp2_with (first
    | (go_at_call 88; (with_reducible refine (hS1 _).mono ?_); rintro e w1 ⟨rfl, rfl⟩)
    | (go_at_call 88; (with_reducible refine (hS2 _).mono ?_); rintro e w1 ⟨rfl, rfl⟩)
    | (go_at_call 119; (with_reducible refine (hA1 _).mono ?_); rintro e w1 ⟨rfl, hb1⟩; have hL1 := hL.nx hb1; have k1 : Bk w1 (w.heap.size + 1) 154 zer24 := hL1.k 0 (by simp); have a16 := k1.cell 16; have a17 := k1.cell 17; have a18 := k1.cell 18; have a19 := k1.cell 19; have f16 := k1.frozen 16; have f17 := k1.frozen 17; have f18 := k1.frozen 18; have f19 := k1.frozen 19; have hne : ∀ x ∈ [(w.heap.size, (154 : TypeId), zer24)], x.1 ≠ w.heap.size + 1 := (fun x hx => by simp only [List.mem_cons, List.not_mem_nil, or_false] at hx; subst hx; simp); have hL2 := (((hL1.st1 16 (.int .i64 (cw 0 s)) (by omega) hne).st1 17 (.int .i64 (cw 1 s)) (by omega) hne).st1 18 (.int .i64 (cw 2 s)) (by omega) hne).st1 19 (.int .i64 (cw 3 s)) (by omega) hne)
    | (go_at_call 119; (with_reducible refine (hA2 _).mono ?_); rintro e w2 ⟨rfl, hb2⟩; have hL3 := hL2.nx hb2; have k3 : Bk w2 (w.heap.size + 1) 154 _ := hL3.k 0 (by simp); have a20 := k3.cell 20; have a21 := k3.cell 21; have a22 := k3.cell 22; have a23 := k3.cell 23; have f20 := k3.frozen 20; have f21 := k3.frozen 21; have f22 := k3.frozen 22; have f23 := k3.frozen 23; simp at a20 a21 a22 a23))
  have hL4 := (((hL3.st1 20 (.int .i64 (cw 0 t)) (by omega) hne).st1 21 (.int .i64 (cw 1 t)) (by omega) hne).st1 22 (.int .i64 (cw 2 t)) (by omega) hne).st1 23 (.int .i64 (cw 3 t)) (by omega) hne
  have e24 : ((((((((zer24.setIfInBounds 16 (.int .i64 (cw 0 s))).setIfInBounds 17 (.int .i64 (cw 1 s))).setIfInBounds 18 (.int .i64 (cw 2 s))).setIfInBounds 19 (.int .i64 (cw 3 s))).setIfInBounds 20 (.int .i64 (cw 0 t))).setIfInBounds 21 (.int .i64 (cw 1 t))).setIfInBounds 22 (.int .i64 (cw 2 t))).setIfInBounds 23 (.int .i64 (cw 3 t))) = lcA (fun _ => .slice none 0 0) 0 (xyL s t) := by rw [lcA_zero]; simp
  rw [e24] at hL4
  clear e24 hS1 hS2 hA1 hA2 hL hL1 hL2 hL3 k1 k3 hb1 hb2 a16 a17 a18 a19 a20 a21 a22 a23 f16 f17 f18 f19 f20 f21 f22 f23 hne s1 s2 hs ht
  generalize (((w2.setCell ⟨w.heap.size + 1, 20, none⟩ (.int .i64 (cw 0 t))).setCell ⟨w.heap.size + 1, 21, none⟩ (.int .i64 (cw 1 t))).setCell ⟨w.heap.size + 1, 22, none⟩ (.int .i64 (cw 2 t))).setCell ⟨w.heap.size + 1, 23, none⟩ (.int .i64 (cw 3 t)) = w5 at *
  obtain ⟨xs, hxs⟩ : ∃ xs, xyL s t = xs := ⟨_, rfl⟩
  have hxo : ∀ v ∈ xs, v.oneCell' = true := by rw [← hxs]; simp [Value.oneCell']
  have hxl : xs.length = 8 := by rw [← hxs]; rfl
  have HX := Lib.hid hxs
  rw [hxs] at hL4
  clear hxs
  obtain ⟨g11, hg11⟩ : ∃ g11, w.heap.size + 1 = g11 := ⟨_, rfl⟩
  rw [hg11] at hL4
  simp only [hg11]
  have n11 : w.heap.size < g11 := by omega
  clear hg11
  have hsg0 := h.nx hL4.bel
  have hkp0 := Kp.of_below hL4.bel
  have k110 : Bk w5 g11 154 (lcA (fun _ => .slice none 0 0) 0 xs) := hL4.k 0 (by simp)
  have k000 : Bk w5 w.heap.size 154 zer24 := hL4.k 1 (by simp)
  clear hL4 h
  go_loopw [38] (fun iv wr => ∃ (y : Nat) (S : Nat → Value), y ≤ 4 ∧ iv = .int .i64 y ∧ (∀ j, j < y * 4 → SlB wr (S j)) ∧ Bk wr g11 154 (lcA S (y * 4) xs) ∧ Bk wr w.heap.size 154 zer24 ∧ SG w0 gs jb TT (m + (y * 4)) wr ∧ Kp w wr) (fun iv _ => 4 - (intOf iv).toNat)
  case atStart => exact ⟨0, fun _ => .slice none 0 0, by omega, rfl, fun j hj => absurd hj (by omega), k110, k000, hsg0, hkp0⟩
  case round =>
    clear k110 k000 hsg0 hkp0
    obtain ⟨y, S0, hy, rfl, hSl0, k110, k000, hsg0, hkp0⟩ := hrel
    by_cases hyl : y < 4
    · have hyb : decide ((y : Int) < 4) = true := decide_eq_true (by omega)
      go_wp2_with fail
      go_loopw [41] (fun iv wr => ∃ (x : Nat) (S : Nat → Value), x ≤ 4 ∧ iv = .int .i64 x ∧ (∀ j, j < y * 4 + x → SlB wr (S j)) ∧ Bk wr g11 154 (lcA S (y * 4 + x) xs) ∧ Bk wr w.heap.size 154 zer24 ∧ SG w0 gs jb TT (m + (y * 4 + x)) wr ∧ Kp w wr) (fun iv _ => 4 - (intOf iv).toNat)
      case atStart => exact ⟨0, S0, by omega, rfl, hSl0, k110, k000, hsg0, hkp0⟩
      case round =>
        clear hSl0 k110 k000 hsg0 hkp0
        obtain ⟨x, S, hx, rfl, hSl, k11, k00, hsg, hkp⟩ := hrel
        by_cases hxl4 : x < 4
        · have vx := V3.out x hxl4
          have vy := V4.out y hyl
          have ux := U3.out x hxl4
          have uy := U4.out y hyl
          have hP := fun w' hs => hJ' w' (m + (y * 4 + x)) x y hxl4 hyl (by omega) hs
          go_upto_region 12 with fail
          go_region_with (first
            | (go_at_call 37; (with_reducible refine (hP _ (by first | exact hsg | exact hsg.drew | exact hsg.drewN _)).mono ?_); rintro e w6 ⟨A6, n6, c6, L6, rfl, hL6, h61, h64, h6c, hby6, hbb6, hs6, hk6⟩; have k6 := hk6.keep _ _ _ (by first | exact k11 | exact k11.drew | exact k11.drewN _) (by decide) (by decide); have d6 := (k6.cell (y * 4 + x)).trans (lcA_get _ _ _ _ (by omega)); have f6 := k6.frozen (y * 4 + x)))
          all_goals
            have hkx : Kp wr w6 := by first | exact hk6 | exact hk6.dr | exact hk6.drN
            have k06 := hkx.keep _ _ _ k00 (by decide) (by decide)
            have hSl6 : ∀ j, j < y * 4 + x → SlB w6 (S j) := fun j hj => (hSl j hj).kp hkx
            have hS6 : SlB w6 (.slice A6 n6 c6) := ⟨A6, n6, c6, L6, rfl, hL6, h61, h64, h6c, hby6, hbb6⟩
            have hgr := gb_setCell (World.grownBy.refl w6 (some g11)) (p := ⟨g11, y * 4 + x, none⟩) (.inl rfl) (.slice A6 n6 c6)
            go_wp2_with fail
            refine ⟨⟨x + 1, fun j => if j = y * 4 + x then .slice A6 n6 c6 else S j, by omega, by go_num, fun j hj => ?_, ?_, k06.grown hgr (fun e => by injection e with e; omega), hs6.gb k6 (by decide) (by decide) hgr (by omega), (hkp.trans hkx).gb hgr (by omega)⟩, by simp [intOf]; omega⟩
            · by_cases hjk : j = y * 4 + x
              · simp only [if_pos hjk]
                exact hS6.gb k6 (by decide) (by decide) hgr
              · simp only [if_neg hjk]
                exact (hSl6 j (by omega)).gb k6 (by decide) (by decide) hgr
            · have := k6.set (y * 4 + x) (.slice A6 n6 c6)
              rw [lcA_up _ _ _ _ (by omega)] at this
              exact this
        · obtain rfl : x = 4 := by omega
          go_wp2_with fail
          exact ⟨⟨y + 1, S, by omega, by go_num, fun j hj => hSl j (by omega), by rw [show (y + 1) * 4 = y * 4 + 4 by omega]; exact ⟨k11, k00, hsg, hkp⟩⟩, by simp [intOf]; omega⟩
    · obtain rfl : y = 4 := by omega
      have hsz : (lcA S0 16 xs).size = 24 := by unfold lcA lcL; simp [hxl]
      have hone : (lcA S0 16 xs).all (·.oneCell') = true := lcA_ok (m := 0) hxo (fun j hj => (hSl0 j (by omega)).one)
      obtain ⟨arr, harr⟩ : ∃ arr, lcA S0 16 xs = arr := ⟨_, rfl⟩
      have HAR := Lib.hid harr
      rw [show 4 * 4 = 16 from rfl, harr] at k110
      rw [harr] at hsz hone
      clear harr
      go_wp2_with (first
        | (refine ldB rfl _ _ rfl k110 rfl Tryz.underlying154 rfl (by rw [hsz]; exact ca_size) ?_)
        | (refine stB rfl _ _ _ rfl k000 arr rfl rfl (by rw [hsz]; exact ca_size) (by rw [hsz]; rfl) hone ?_; intro w6 k66 hg6 hs6))
      refine bodyPost_ret (res_cell rfl k66 rfl Tryz.underlying154 rfl (by rw [hsz]; exact ca_size)) rfl ?_
      exact ⟨S0, by rw [HX.out, HAR.out], fun j hj => (hSl0 j (by omega)).gb k000 (by decide) (by decide) hg6, hsg0.gb k000 (by decide) (by decide) hg6 hzs, hkp0.gb hg6 (Nat.le_refl _)⟩
end Go.Proofs.YtibmhabipghjlaaGreat
end
section
set_option linter.unusedVariables false
namespace Go.Proofs.YtibmhabipghjlaaGreat
open Go.RowKit
theorem row_size : (Tryz.prog.info? 151).map (·.size) = some 4 := by kernel_rfl
@[go_sem] theorem idx_r0 (a b c d : Value) (w : World) : (Instr.index 151 (.agg #[a, b, c, d]) (.int .i64 0)).run Tryz.prog w = .ok a w :=
  run_index1 (P := Tryz.prog) (j := 0) Tryz.underlying151 Tryz.underlying59 rfl u8s_size _ _ (by decide) _ rfl w
@[go_sem] theorem idx_r1 (a b c d : Value) (w : World) : (Instr.index 151 (.agg #[a, b, c, d]) (.int .i64 1)).run Tryz.prog w = .ok b w :=
  run_index1 (P := Tryz.prog) (j := 1) Tryz.underlying151 Tryz.underlying59 rfl u8s_size _ _ (by decide) _ rfl w
@[go_sem] theorem idx_r2 (a b c d : Value) (w : World) : (Instr.index 151 (.agg #[a, b, c, d]) (.int .i64 2)).run Tryz.prog w = .ok c w :=
  run_index1 (P := Tryz.prog) (j := 2) Tryz.underlying151 Tryz.underlying59 rfl u8s_size _ _ (by decide) _ rfl w
@[go_sem] theorem idx_r3 (a b c d : Value) (w : World) : (Instr.index 151 (.agg #[a, b, c, d]) (.int .i64 3)).run Tryz.prog w = .ok d w :=
  run_index1 (P := Tryz.prog) (j := 3) Tryz.underlying151 Tryz.underlying59 rfl u8s_size _ _ (by decide) _ rfl w
theorem idx_y0 (s0 s1 s2 s3 s4 s5 s6 s7 s8 s9 s10 s11 s12 s13 s14 s15 : Value) (w : World) : (Instr.index 152 (.agg #[s0, s1, s2, s3, s4, s5, s6, s7, s8, s9, s10, s11, s12, s13, s14, s15]) (.int .i64 0)).run Tryz.prog w = .ok (.agg #[s0, s1, s2, s3]) w := by kernel_rfl
theorem idx_y1 (s0 s1 s2 s3 s4 s5 s6 s7 s8 s9 s10 s11 s12 s13 s14 s15 : Value) (w : World) : (Instr.index 152 (.agg #[s0, s1, s2, s3, s4, s5, s6, s7, s8, s9, s10, s11, s12, s13, s14, s15]) (.int .i64 1)).run Tryz.prog w = .ok (.agg #[s4, s5, s6, s7]) w := by kernel_rfl
theorem idx_y2 (s0 s1 s2 s3 s4 s5 s6 s7 s8 s9 s10 s11 s12 s13 s14 s15 : Value) (w : World) : (Instr.index 152 (.agg #[s0, s1, s2, s3, s4, s5, s6, s7, s8, s9, s10, s11, s12, s13, s14, s15]) (.int .i64 2)).run Tryz.prog w = .ok (.agg #[s8, s9, s10, s11]) w := by kernel_rfl
theorem idx_y3 (s0 s1 s2 s3 s4 s5 s6 s7 s8 s9 s10 s11 s12 s13 s14 s15 : Value) (w : World) : (Instr.index 152 (.agg #[s0, s1, s2, s3, s4, s5, s6, s7, s8, s9, s10, s11, s12, s13, s14, s15]) (.int .i64 3)).run Tryz.prog w = .ok (.agg #[s12, s13, s14, s15]) w := by kernel_rfl
set_option maxRecDepth 100000 in
set_option maxHeartbeats 16000000 in
theorem rmix_any (S : Nat → Value) (p0 p1 p2 p3 : Int) (C kk : Nat) (px : Nat → List Int) (w : World) (hS : ∀ j, j < 4 → SlP C 0 w (S j) (px j)) (hk : kk < C) (hp0 : -33554432 ≤ p0 ∧ p0 ≤ 33554432) (hp1 : -33554432 ≤ p1 ∧ p1 ≤ 33554432) (hp2 : -33554432 ≤ p2 ∧ p2 ≤ 33554432) (hp3 : -33554432 ≤ p3 ∧ p3 ≤ 33554432) (hb : ∀ j, 0 ≤ (px j).getD kk 0 ∧ (px j).getD kk 0 ≤ 255) :
    Calls Tryz.prog 120 #[.agg #[S 0, S 1, S 2, S 3], .agg #[.int .i64 p0, .int .i64 p1, .int .i64 p2, .int .i64 p3], .int .i64 kk] w fun e w' => e = .returned (.int .i64 (dotK [p0, p1, p2, p3] [(px 0).getD kk 0, (px 1).getD kk 0, (px 2).getD kk 0, (px 3).getD kk 0] 4)) ∧ Below w.heap.size w w' := by
  obtain ⟨ch, hch⟩ : ∃ ch : Nat → Int, ch = fun j => (px j).getD kk 0 := ⟨_, rfl⟩
  have hb' : ∀ j, 0 ≤ ch j ∧ ch j ≤ 255 := fun j => by rw [hch]; exact hb j
  have hc : ∀ j, j < 4 → ∃ (b o n c : Nat), S j = .slice (some ⟨b, o, none⟩) n c ∧ kk < n ∧ n ≤ c ∧ b < w.heap.size ∧ w.cell? ⟨b, o + kk, none⟩ = some (.int .u8 (ch j)) := fun j hj => by
    rw [hch]; exact (hS j hj).cell hk
  rw [show [(px 0).getD kk 0, (px 1).getD kk 0, (px 2).getD kk 0, (px 3).getD kk 0] = [ch 0, ch 1, ch 2, ch 3] by rw [hch]]
  have hM := fun (p : Int) (hp : -33554432 ≤ p ∧ p ≤ 33554432) j => mulU_bd (M := 33554432) (by omega) hp (hb' j)
  have hmul : ∀ k, -8556380160 ≤ [p0, p1, p2, p3].getD k 0 * [ch 0, ch 1, ch 2, ch 3].getD k 0 ∧ [p0, p1, p2, p3].getD k 0 * [ch 0, ch 1, ch 2, ch 3].getD k 0 ≤ 8556380160 :=
    four_mul (P := fun z => -8556380160 ≤ z ∧ z ≤ 8556380160) (hM _ hp0 0) (hM _ hp1 1) (hM _ hp2 2) (hM _ hp3 3) (by omega)
  have hvs : ∀ k, 0 ≤ [ch 0, ch 1, ch 2, ch 3].getD k 0 ∧ [ch 0, ch 1, ch 2, ch 3].getD k 0 ≤ 255 := four_all (P := fun z => 0 ≤ z ∧ z ≤ 255) (hb' 0) (hb' 1) (hb' 2) (hb' 3) (by omega)
  have hMx := fun (A A' : Option Addr) (w' : World) (hA : Rd w' w'.heap.size A ([p0, p1, p2, p3].map (Value.int .i64))) (hA' : Rd w' w'.heap.size A' ([ch 0, ch 1, ch 2, ch 3].map (Value.int .u8))) => wmix_any [p0, p1, p2, p3] [ch 0, ch 1, ch 2, ch 3] A A' 4 4 4 w' rfl rfl (by omega) hA hA' (M := 8556380160) (by omega) (by omega) hmul hvs
  generalize dotK [p0, p1, p2, p3] [ch 0, ch 1, ch 2, ch 3] 4 = sum at *
  obtain ⟨b0, o0, n0, c0, e0, hn0, hm0, hl0, q0⟩ := hc 0 (by omega)
  obtain ⟨b1, o1, n1, c1, e1, hn1, hm1, hl1, q1⟩ := hc 1 (by omega)
  obtain ⟨b2, o2, n2, c2, e2, hn2, hm2, hl2, q2⟩ := hc 2 (by omega)
  obtain ⟨b3, o3, n3, c3, e3, hn3, hm3, hl3, q3⟩ := hc 3 (by omega)
  rw [e0, e1, e2, e3]
  clear hc e0 e1 e2 e3 hS hk hM hmul hvs hb hb' hp0 hp1 hp2 hp3 hch
  have hL := (((Lie.start w).alloc #[.slice (some ⟨b0, o0, none⟩) n0 c0, .slice (some ⟨b1, o1, none⟩) n1 c1, .slice (some ⟨b2, o2, none⟩) n2 c2, .slice (some ⟨b3, o3, none⟩) n3 c3] 151).alloc #[.int .i64 p0, .int .i64 p1, .int .i64 p2, .int .i64 p3] 146).alloc #[.int .u8 0, .int .u8 0, .int .u8 0, .int .u8 0] 24
  simp only [World.size_alloc] at hL
  go_enter Tryz.func120, Tryz.ntmps120
  go_wp2_with fail
  generalize ((w.alloc (.cells #[.slice (some ⟨b0, o0, none⟩) n0 c0, .slice (some ⟨b1, o1, none⟩) n1 c1, .slice (some ⟨b2, o2, none⟩) n2 c2, .slice (some ⟨b3, o3, none⟩) n3 c3] 151)).alloc (.cells #[.int .i64 p0, .int .i64 p1, .int .i64 p2, .int .i64 p3] 146)).alloc (.cells #[.int .u8 0, .int .u8 0, .int .u8 0, .int .u8 0] 24) = w5 at *
  obtain ⟨g4, hg4⟩ : ∃ g4, w.heap.size + 1 = g4 := ⟨_, rfl⟩
  obtain ⟨g5, hg5⟩ : ∃ g5, g4 + 1 = g5 := ⟨_, rfl⟩
  rw [hg4, hg5] at hL
  simp only [hg4, hg5]
  have n4 : w.heap.size < g4 := by omega
  have n5 : g4 < g5 := by omega
  clear hg4 hg5
  go_loopw [11] (fun iv wr => ∃ k : Nat, k ≤ 4 ∧ iv = .int .i64 k ∧ Lie w [(g5, 24, chQ ch k), (g4, 146, #[.int .i64 p0, .int .i64 p1, .int .i64 p2, .int .i64 p3]), (w.heap.size, 151, #[.slice (some ⟨b0, o0, none⟩) n0 c0, .slice (some ⟨b1, o1, none⟩) n1 c1, .slice (some ⟨b2, o2, none⟩) n2 c2, .slice (some ⟨b3, o3, none⟩) n3 c3])] wr) (fun iv _ => 4 - (intOf iv).toNat)
  case atStart => exact ⟨0, by omega, rfl, by rw [ch0]; exact hL⟩
  case round =>
    clear hL
    obtain ⟨k, hk, rfl, hLi⟩ := hrel
    rcases (show k = 0 ∨ k = 1 ∨ k = 2 ∨ k = 3 ∨ k = 4 by omega) with rfl | rfl | rfl | rfl | rfl
    · have k5 : Bk wr g5 24 (chQ ch 0) := hLi.k 0 (by simp)
      have e5 := k5
      rw [ch0] at e5
      obtain ⟨d0, d1, d2, d3⟩ := e5.cell4
      have f0 := e5.frozen 0
      have z0 := (hLi.bel.cell (p := ⟨b0, o0 + kk, none⟩) hl0).trans q0
      go_wp2_with fail
      exact ⟨⟨1, by omega, by go_num, by have := hLi.st1 0 (.int .u8 (ch 0)) (by omega) (fun x hx => by simp only [List.mem_cons, List.not_mem_nil, or_false] at hx; rcases hx with rfl | rfl <;> simp <;> omega); rw [chQ_up (by omega)] at this; exact this⟩, by simp [intOf]⟩
    · have k5 : Bk wr g5 24 (chQ ch 1) := hLi.k 0 (by simp)
      have e5 := k5
      rw [ch1] at e5
      obtain ⟨d0, d1, d2, d3⟩ := e5.cell4
      have f0 := e5.frozen 1
      have z0 := (hLi.bel.cell (p := ⟨b1, o1 + kk, none⟩) hl1).trans q1
      go_wp2_with fail
      exact ⟨⟨2, by omega, by go_num, by have := hLi.st1 1 (.int .u8 (ch 1)) (by omega) (fun x hx => by simp only [List.mem_cons, List.not_mem_nil, or_false] at hx; rcases hx with rfl | rfl <;> simp <;> omega); rw [chQ_up (by omega)] at this; exact this⟩, by simp [intOf]⟩
    · have k5 : Bk wr g5 24 (chQ ch 2) := hLi.k 0 (by simp)
      have e5 := k5
      rw [ch2] at e5
      obtain ⟨d0, d1, d2, d3⟩ := e5.cell4
      have f0 := e5.frozen 2
      have z0 := (hLi.bel.cell (p := ⟨b2, o2 + kk, none⟩) hl2).trans q2
      go_wp2_with fail
      exact ⟨⟨3, by omega, by go_num, by have := hLi.st1 2 (.int .u8 (ch 2)) (by omega) (fun x hx => by simp only [List.mem_cons, List.not_mem_nil, or_false] at hx; rcases hx with rfl | rfl <;> simp <;> omega); rw [chQ_up (by omega)] at this; exact this⟩, by simp [intOf]⟩
    · have k5 : Bk wr g5 24 (chQ ch 3) := hLi.k 0 (by simp)
      have e5 := k5
      rw [ch3] at e5
      obtain ⟨d0, d1, d2, d3⟩ := e5.cell4
      have f0 := e5.frozen 3
      have z0 := (hLi.bel.cell (p := ⟨b3, o3 + kk, none⟩) hl3).trans q3
      go_wp2_with fail
      exact ⟨⟨4, by omega, by go_num, by have := hLi.st1 3 (.int .u8 (ch 3)) (by omega) (fun x hx => by simp only [List.mem_cons, List.not_mem_nil, or_false] at hx; rcases hx with rfl | rfl <;> simp <;> omega); rw [chQ_up (by omega)] at this; exact this⟩, by simp [intOf]⟩
    · have k5 : Bk wr g5 24 (chQ ch 4) := hLi.k 0 (by simp)
      have k4 : Bk wr g4 146 #[.int .i64 p0, .int .i64 p1, .int .i64 p2, .int .i64 p3] := hLi.k 1 (by simp)
      rw [ch4] at k5
      have hX := fun (d : Nat) (os : Array Obj) => hMx (some ⟨g4, 0, none⟩) (some ⟨g5, 0, none⟩) (Go.Sort.grow (redrawn wr d) os)
        (by have k2x := k4.nx (below_regrown wr d os); obtain ⟨h4, h5, h6, h7⟩ := k2x.cell4; exact rd4 h4 h5 h6 h7 k2x.lt)
        (by have k5x := k5.nx (below_regrown wr d os); obtain ⟨h0, h1, h2, h3⟩ := k5x.cell4; exact rd4 h0 h1 h2 h3 k5x.lt)
      have hbz := hLi.bel
      clear hMx k5 k4 hLi q0 q1 q2 q3
      go_upto_region 8 with fail
      refine wp_region_quiet_below (by kernel_rfl) (by kernel_rfl) ?_
      repeat (first
        | go_big_quiet_step (with_reducible exact quiet_below (hX _ _))
        | quiet_step (with_reducible exact quiet_below (hX _ _)))
      refine wpQuiet_nil ?_
      intro _ hw'
      obtain ⟨⟨d9, os⟩, hw''⟩ := hw'
      subst hw''
      have hbx := below_regrown wr d9 os
      generalize Go.Sort.grow (redrawn wr d9) os = wx at *
      go_wp2_with fail
      go_returns
      exact ⟨rfl, hbz.trans (hbx.mono hbz.size)⟩
/-- A row's sum. -/
def rmZ (s : Int) (px : Nat → List Int) (kk y : Nat) : Int := dotK [cw 0 s, cw 1 s, cw 2 s, cw 3 s] [(px (4 * y)).getD kk 0, (px (4 * y + 1)).getD kk 0, (px (4 * y + 2)).getD kk 0, (px (4 * y + 3)).getD kk 0] 4
theorem rmZ_bd {s : Int} (hs : 0 ≤ s ∧ s ≤ 256) {px : Nat → List Int} {kk : Nat} (hb : ∀ j, 0 ≤ (px j).getD kk 0 ∧ (px j).getD kk 0 ≤ 255) (y : Nat) : -34225520640 ≤ rmZ s px kk y ∧ rmZ s px kk y ≤ 34225520640 := by
  have hM := fun (i : Nat) j => mulU_bd (M := 33554432) (by omega) (cw_bd hs.1 hs.2 i) (hb j)
  have := dotK_bd (M := 8556380160) (by omega) (four_mul (P := fun z => -8556380160 ≤ z ∧ z ≤ 8556380160) (hM 0 (4 * y)) (hM 1 (4 * y + 1)) (hM 2 (4 * y + 2)) (hM 3 (4 * y + 3)) (by omega)) 4
  unfold rmZ
  omega
theorem mulS_bd {a m : Int} (ha : -33554432 ≤ a ∧ a ≤ 33554432) (hm : -34225520640 ≤ m ∧ m ≤ 34225520640) : -1148417904979476480 ≤ a * m ∧ a * m ≤ 1148417904979476480 := by
  have h1 : (a + 33554432) * (34225520640 - m) ≥ 0 := Int.mul_nonneg (by omega) (by omega)
  have h2 : (33554432 - a) * (34225520640 + m) ≥ 0 := Int.mul_nonneg (by omega) (by omega)
  have h3 : (a + 33554432) * (34225520640 + m) ≥ 0 := Int.mul_nonneg (by omega) (by omega)
  have h4 : (33554432 - a) * (34225520640 - m) ≥ 0 := Int.mul_nonneg (by omega) (by omega)
  rw [Int.add_mul, Int.mul_sub, Int.mul_sub] at h1
  rw [Int.sub_mul, Int.mul_add, Int.mul_add] at h2
  rw [Int.add_mul, Int.mul_add, Int.mul_add] at h3
  rw [Int.sub_mul, Int.mul_sub, Int.mul_sub] at h4
  omega
/-- The sum of all rows. -/
def cuZ (s t : Int) (px : Nat → List Int) (kk : Nat) (k : Nat) : Int := dotK [cw 0 t, cw 1 t, cw 2 t, cw 3 t] [rmZ s px kk 0, rmZ s px kk 1, rmZ s px kk 2, rmZ s px kk 3] k
theorem cuZ_bd {s t : Int} (hs : 0 ≤ s ∧ s ≤ 256) (ht : 0 ≤ t ∧ t ≤ 256) {px : Nat → List Int} {kk : Nat} (hb : ∀ j, 0 ≤ (px j).getD kk 0 ∧ (px j).getD kk 0 ≤ 255) (k : Nat) (hk : k ≤ 4) : -4593671619917905920 ≤ cuZ s t px kk k ∧ cuZ s t px kk k ≤ 4593671619917905920 := by
  have hM := fun (i : Nat) j => mulS_bd (cw_bd ht.1 ht.2 i) (rmZ_bd hs hb j)
  have := dotK_bd (M := 1148417904979476480) (by omega) (four_mul (P := fun z => -1148417904979476480 ≤ z ∧ z ≤ 1148417904979476480) (hM 0 0) (hM 1 1) (hM 2 2) (hM 3 3) (by omega)) k
  have h2 : (k : Int) * 1148417904979476480 ≤ 4 * 1148417904979476480 := Int.mul_le_mul_of_nonneg_right (by omega) (by omega)
  unfold cuZ
  omega
theorem lcA_16 (S : Nat → Value) (xs : List Value) : lcA S 16 xs = ([S 0, S 1, S 2, S 3, S 4, S 5, S 6, S 7, S 8, S 9, S 10, S 11, S 12, S 13, S 14, S 15] ++ xs).toArray := by
  unfold lcA lcL; congr 1
set_option maxRecDepth 100000 in
set_option maxHeartbeats 32000000 in
theorem cchan_any (S : Nat → Value) (s t : Int) (C kk : Nat) (px : Nat → List Int) (w : World) (hS : ∀ j, j < 16 → SlP C 0 w (S j) (px j)) (hk : kk < C) (hs : 0 ≤ s ∧ s ≤ 256) (ht : 0 ≤ t ∧ t ≤ 256) (hb : ∀ j, 0 ≤ (px j).getD kk 0 ∧ (px j).getD kk 0 ≤ 255) :
    Calls Tryz.prog 91 #[.agg (lcA S 16 (xyL s t)), .int .i64 kk] w fun e w' => e = .returned (.int .u8 (byteZ (cuZ s t px kk 4) 1125899906842624)) ∧ Below w.heap.size w w' := by
  have hMx0 := fun (w' : World) (hb' : Below w.heap.size w w') => rmix_any (fun j => S (0 + j)) (cw 0 s) (cw 1 s) (cw 2 s) (cw 3 s) C kk (fun j => px (0 + j)) w' (fun j hj => (hS (0 + j) (by omega)).nx hb') hk (cw_bd hs.1 hs.2 0) (cw_bd hs.1 hs.2 1) (cw_bd hs.1 hs.2 2) (cw_bd hs.1 hs.2 3) (fun j => hb _)
  change ∀ (w' : World), Below w.heap.size w w' → Calls Tryz.prog 120 #[.agg #[S 0, S 1, S 2, S 3], _, _] w' fun e w'' => e = .returned (.int .i64 (rmZ s px kk 0)) ∧ _ at hMx0
  have hMx1 := fun (w' : World) (hb' : Below w.heap.size w w') => rmix_any (fun j => S (4 + j)) (cw 0 s) (cw 1 s) (cw 2 s) (cw 3 s) C kk (fun j => px (4 + j)) w' (fun j hj => (hS (4 + j) (by omega)).nx hb') hk (cw_bd hs.1 hs.2 0) (cw_bd hs.1 hs.2 1) (cw_bd hs.1 hs.2 2) (cw_bd hs.1 hs.2 3) (fun j => hb _)
  change ∀ (w' : World), Below w.heap.size w w' → Calls Tryz.prog 120 #[.agg #[S 4, S 5, S 6, S 7], _, _] w' fun e w'' => e = .returned (.int .i64 (rmZ s px kk 1)) ∧ _ at hMx1
  have hMx2 := fun (w' : World) (hb' : Below w.heap.size w w') => rmix_any (fun j => S (8 + j)) (cw 0 s) (cw 1 s) (cw 2 s) (cw 3 s) C kk (fun j => px (8 + j)) w' (fun j hj => (hS (8 + j) (by omega)).nx hb') hk (cw_bd hs.1 hs.2 0) (cw_bd hs.1 hs.2 1) (cw_bd hs.1 hs.2 2) (cw_bd hs.1 hs.2 3) (fun j => hb _)
  change ∀ (w' : World), Below w.heap.size w w' → Calls Tryz.prog 120 #[.agg #[S 8, S 9, S 10, S 11], _, _] w' fun e w'' => e = .returned (.int .i64 (rmZ s px kk 2)) ∧ _ at hMx2
  have hMx3 := fun (w' : World) (hb' : Below w.heap.size w w') => rmix_any (fun j => S (12 + j)) (cw 0 s) (cw 1 s) (cw 2 s) (cw 3 s) C kk (fun j => px (12 + j)) w' (fun j hj => (hS (12 + j) (by omega)).nx hb') hk (cw_bd hs.1 hs.2 0) (cw_bd hs.1 hs.2 1) (cw_bd hs.1 hs.2 2) (cw_bd hs.1 hs.2 3) (fun j => hb _)
  change ∀ (w' : World), Below w.heap.size w w' → Calls Tryz.prog 120 #[.agg #[S 12, S 13, S 14, S 15], _, _] w' fun e w'' => e = .returned (.int .i64 (rmZ s px kk 3)) ∧ _ at hMx3
  have hB := fun k hk => cuZ_bd hs ht hb k hk
  have hBy := fun (w' : World) => wbyte_any (cuZ s t px kk 4) 1125899906842624 w' (by have := hB 4 (by omega); unfold J62; omega) (by omega) (by omega)
  have HU0 : Hid (cuZ s t px kk 1 = cuZ s t px kk 0 + cw 0 t * rmZ s px kk 0) := rfl
  have vm0 : wrap64 (cw 0 t * rmZ s px kk 0) = cw 0 t * rmZ s px kk 0 := by have := mulS_bd (cw_bd ht.1 ht.2 0) (rmZ_bd hs hb 0); exact IntWalk.wrap64_in _ ⟨by omega, by omega⟩
  have va0 : wrap64 (cuZ s t px kk 0 + cw 0 t * rmZ s px kk 0) = cuZ s t px kk 1 := by rw [← HU0.out]; have := hB 1 (by omega); exact IntWalk.wrap64_in _ ⟨by omega, by omega⟩
  obtain ⟨m0, hm0⟩ : ∃ m, cw 0 t * rmZ s px kk 0 = m := ⟨_, rfl⟩
  rw [hm0] at va0
  replace vm0 := vm0.trans hm0
  have HU1 : Hid (cuZ s t px kk 2 = cuZ s t px kk 1 + cw 1 t * rmZ s px kk 1) := rfl
  have vm1 : wrap64 (cw 1 t * rmZ s px kk 1) = cw 1 t * rmZ s px kk 1 := by have := mulS_bd (cw_bd ht.1 ht.2 1) (rmZ_bd hs hb 1); exact IntWalk.wrap64_in _ ⟨by omega, by omega⟩
  have va1 : wrap64 (cuZ s t px kk 1 + cw 1 t * rmZ s px kk 1) = cuZ s t px kk 2 := by rw [← HU1.out]; have := hB 2 (by omega); exact IntWalk.wrap64_in _ ⟨by omega, by omega⟩
  obtain ⟨m1, hm1⟩ : ∃ m, cw 1 t * rmZ s px kk 1 = m := ⟨_, rfl⟩
  rw [hm1] at va1
  replace vm1 := vm1.trans hm1
  have HU2 : Hid (cuZ s t px kk 3 = cuZ s t px kk 2 + cw 2 t * rmZ s px kk 2) := rfl
  have vm2 : wrap64 (cw 2 t * rmZ s px kk 2) = cw 2 t * rmZ s px kk 2 := by have := mulS_bd (cw_bd ht.1 ht.2 2) (rmZ_bd hs hb 2); exact IntWalk.wrap64_in _ ⟨by omega, by omega⟩
  have va2 : wrap64 (cuZ s t px kk 2 + cw 2 t * rmZ s px kk 2) = cuZ s t px kk 3 := by rw [← HU2.out]; have := hB 3 (by omega); exact IntWalk.wrap64_in _ ⟨by omega, by omega⟩
  obtain ⟨m2, hm2⟩ : ∃ m, cw 2 t * rmZ s px kk 2 = m := ⟨_, rfl⟩
  rw [hm2] at va2
  replace vm2 := vm2.trans hm2
  have HU3 : Hid (cuZ s t px kk 4 = cuZ s t px kk 3 + cw 3 t * rmZ s px kk 3) := rfl
  have vm3 : wrap64 (cw 3 t * rmZ s px kk 3) = cw 3 t * rmZ s px kk 3 := by have := mulS_bd (cw_bd ht.1 ht.2 3) (rmZ_bd hs hb 3); exact IntWalk.wrap64_in _ ⟨by omega, by omega⟩
  have va3 : wrap64 (cuZ s t px kk 3 + cw 3 t * rmZ s px kk 3) = cuZ s t px kk 4 := by rw [← HU3.out]; have := hB 4 (by omega); exact IntWalk.wrap64_in _ ⟨by omega, by omega⟩
  obtain ⟨m3, hm3⟩ : ∃ m, cw 3 t * rmZ s px kk 3 = m := ⟨_, rfl⟩
  rw [hm3] at va3
  replace vm3 := vm3.trans hm3
  have hc0 : Hid (cuZ s t px kk 0 = 0) := rfl
  rw [lcA_16]
  simp only [xyL, List.cons_append, List.nil_append]
  have hone : ∀ j, j < 16 → ∃ A n c, S j = .slice A n c := fun j hj => by obtain ⟨A, n, c, L, h, _⟩ := hS j hj; exact ⟨A, n, c, h⟩
  generalize rmZ s px kk 0 = r0 at *
  generalize rmZ s px kk 1 = r1 at *
  generalize rmZ s px kk 2 = r2 at *
  generalize rmZ s px kk 3 = r3 at *
  generalize byteZ (cuZ s t px kk 4) 1125899906842624 = res at *
  generalize cuZ s t px kk = sm at *
  clear hS hk hs ht hb hB HU0 HU1 HU2 HU3 hm0 hm1 hm2 hm3
  generalize cw 0 s = x0 at *
  generalize cw 1 s = x1 at *
  generalize cw 2 s = x2 at *
  generalize cw 3 s = x3 at *
  generalize cw 0 t = y0 at *
  generalize cw 1 t = y1 at *
  generalize cw 2 t = y2 at *
  generalize cw 3 t = y3 at *
  obtain ⟨A0, n0, c0, es0⟩ := hone 0 (by omega)
  obtain ⟨A1, n1, c1, es1⟩ := hone 1 (by omega)
  obtain ⟨A2, n2, c2, es2⟩ := hone 2 (by omega)
  obtain ⟨A3, n3, c3, es3⟩ := hone 3 (by omega)
  obtain ⟨A4, n4, c4, es4⟩ := hone 4 (by omega)
  obtain ⟨A5, n5, c5, es5⟩ := hone 5 (by omega)
  obtain ⟨A6, n6, c6, es6⟩ := hone 6 (by omega)
  obtain ⟨A7, n7, c7, es7⟩ := hone 7 (by omega)
  obtain ⟨A8, n8, c8, es8⟩ := hone 8 (by omega)
  obtain ⟨A9, n9, c9, es9⟩ := hone 9 (by omega)
  obtain ⟨A10, n10, c10, es10⟩ := hone 10 (by omega)
  obtain ⟨A11, n11, c11, es11⟩ := hone 11 (by omega)
  obtain ⟨A12, n12, c12, es12⟩ := hone 12 (by omega)
  obtain ⟨A13, n13, c13, es13⟩ := hone 13 (by omega)
  obtain ⟨A14, n14, c14, es14⟩ := hone 14 (by omega)
  obtain ⟨A15, n15, c15, es15⟩ := hone 15 (by omega)
  rw [es0, es1, es2, es3, es4, es5, es6, es7, es8, es9, es10, es11, es12, es13, es14, es15]
  rw [es0, es1, es2, es3] at hMx0
  rw [es4, es5, es6, es7] at hMx1
  rw [es8, es9, es10, es11] at hMx2
  rw [es12, es13, es14, es15] at hMx3
  clear hone es0 es1 es2 es3 es4 es5 es6 es7 es8 es9 es10 es11 es12 es13 es14 es15
  have hL := (Lie.start w).alloc #[.slice A0 n0 c0, .slice A1 n1 c1, .slice A2 n2 c2, .slice A3 n3 c3, .slice A4 n4 c4, .slice A5 n5 c5, .slice A6 n6 c6, .slice A7 n7 c7, .slice A8 n8 c8, .slice A9 n9 c9, .slice A10 n10 c10, .slice A11 n11 c11, .slice A12 n12 c12, .slice A13 n13 c13, .slice A14 n14 c14, .slice A15 n15 c15, .int .i64 x0, .int .i64 x1, .int .i64 x2, .int .i64 x3, .int .i64 y0, .int .i64 y1, .int .i64 y2, .int .i64 y3] 154
  go_enter Tryz.func91, Tryz.ntmps91
  go_wp2_with fail
  generalize w.alloc (.cells #[.slice A0 n0 c0, .slice A1 n1 c1, .slice A2 n2 c2, .slice A3 n3 c3, .slice A4 n4 c4, .slice A5 n5 c5, .slice A6 n6 c6, .slice A7 n7 c7, .slice A8 n8 c8, .slice A9 n9 c9, .slice A10 n10 c10, .slice A11 n11 c11, .slice A12 n12 c12, .slice A13 n13 c13, .slice A14 n14 c14, .slice A15 n15 c15, .int .i64 x0, .int .i64 x1, .int .i64 x2, .int .i64 x3, .int .i64 y0, .int .i64 y1, .int .i64 y2, .int .i64 y3] 154) = w5 at *
  obtain ⟨g2, hg2⟩ : ∃ g2, w.heap.size = g2 := ⟨_, rfl⟩
  simp only [hg2]
  rw [hg2] at hL
  have h2le : w.heap.size ≤ g2 := by omega
  have H2 := Lib.hid hg2
  clear hg2
  go_loopw [6, 11] (fun sv iv wr => ∃ k : Nat, k ≤ 4 ∧ iv = .int .i64 k ∧ sv = .int .i64 (sm k) ∧ Lie w [(g2, 154, #[.slice A0 n0 c0, .slice A1 n1 c1, .slice A2 n2 c2, .slice A3 n3 c3, .slice A4 n4 c4, .slice A5 n5 c5, .slice A6 n6 c6, .slice A7 n7 c7, .slice A8 n8 c8, .slice A9 n9 c9, .slice A10 n10 c10, .slice A11 n11 c11, .slice A12 n12 c12, .slice A13 n13 c13, .slice A14 n14 c14, .slice A15 n15 c15, .int .i64 x0, .int .i64 x1, .int .i64 x2, .int .i64 x3, .int .i64 y0, .int .i64 y1, .int .i64 y2, .int .i64 y3])] wr) (fun _ iv _ => 4 - (intOf iv).toNat)
  case atStart => exact ⟨0, by omega, rfl, by rw [hc0.out], hL⟩
  case round =>
    clear hL
    obtain ⟨k, hk, rfl, rfl, hLi⟩ := hrel
    rcases (show k = 0 ∨ k = 1 ∨ k = 2 ∨ k = 3 ∨ k = 4 by omega) with rfl | rfl | rfl | rfl | rfl
    · clear hMx1 vm1 va1 hMx2 vm2 va2 hMx3 vm3 va3 hBy
      have hiy := fun w => idx_y0 (.slice A0 n0 c0) (.slice A1 n1 c1) (.slice A2 n2 c2) (.slice A3 n3 c3) (.slice A4 n4 c4) (.slice A5 n5 c5) (.slice A6 n6 c6) (.slice A7 n7 c7) (.slice A8 n8 c8) (.slice A9 n9 c9) (.slice A10 n10 c10) (.slice A11 n11 c11) (.slice A12 n12 c12) (.slice A13 n13 c13) (.slice A14 n14 c14) (.slice A15 n15 c15) w
      have hL8 := hLi.alloc #[.slice A0 n0 c0, .slice A1 n1 c1, .slice A2 n2 c2, .slice A3 n3 c3] 151
      go_upto_region 6 with fail
      have k8 := Bk.new wr 151 #[.slice A0 n0 c0, .slice A1 n1 c1, .slice A2 n2 c2, .slice A3 n3 c3]
      have k2 : Bk (wr.alloc (.cells #[.slice A0 n0 c0, .slice A1 n1 c1, .slice A2 n2 c2, .slice A3 n3 c3] 151)) g2 154 _ := hL8.k 1 (by simp)
      generalize hg8 : wr.heap.size = g8 at *
      generalize wr.alloc (.cells #[.slice A0 n0 c0, .slice A1 n1 c1, .slice A2 n2 c2, .slice A3 n3 c3] 151) = wx0 at *
      clear hg8
      have q16 := fun (n : Nat) (os : Array Obj) => cell_regrown ((k2.cell 16).trans (show _ = some (.int .i64 x0) from rfl)) n os
      have q17 := fun (n : Nat) (os : Array Obj) => cell_regrown ((k2.cell 17).trans (show _ = some (.int .i64 x1) from rfl)) n os
      have q18 := fun (n : Nat) (os : Array Obj) => cell_regrown ((k2.cell 18).trans (show _ = some (.int .i64 x2) from rfl)) n os
      have q19 := fun (n : Nat) (os : Array Obj) => cell_regrown ((k2.cell 19).trans (show _ = some (.int .i64 x3) from rfl)) n os
      have qy := fun (n : Nat) (os : Array Obj) => cell_regrown ((k2.cell (20 + 0)).trans (show _ = some (.int .i64 y0) from rfl)) n os
      have r0' := fun (n : Nat) (os : Array Obj) => cell_regrown k8.cell4.1 n os
      have r1' := fun (n : Nat) (os : Array Obj) => cell_regrown k8.cell4.2.1 n os
      have r2' := fun (n : Nat) (os : Array Obj) => cell_regrown k8.cell4.2.2.1 n os
      have r3' := fun (n : Nat) (os : Array Obj) => cell_regrown k8.cell4.2.2.2 n os
      have hX := fun (d : Nat) (os : Array Obj) => hMx0 (Go.Sort.grow (redrawn wx0 d) os) (hL8.bel.trans ((below_regrown wx0 d os).mono hL8.sz))
      refine wp_region_quiet_below (by kernel_rfl) (by kernel_rfl) ?_
      repeat (first
        | go_big_quiet_step (with_reducible exact quiet_below (hX _ _))
        | quiet_step (with_reducible exact quiet_below (hX _ _)))
      refine wpQuiet_nil ?_
      intro _ hw'
      obtain ⟨⟨d9, os⟩, hw''⟩ := hw'
      subst hw''
      have hbx := below_regrown wx0 d9 os
      generalize Go.Sort.grow (redrawn wx0 d9) os = wx at *
      clear q16 q17 q18 q19 qy r0' r1' r2' r3' hX hMx0
      go_wp2_with fail
      exact ⟨⟨1, by omega, by go_num, by first | rfl | rw [va0], (hL8.nx hbx).sub (fun x hx => List.mem_cons_of_mem _ hx)⟩, by simp [intOf]⟩
    · clear hMx0 vm0 va0 hMx2 vm2 va2 hMx3 vm3 va3 hBy
      have hiy := fun w => idx_y1 (.slice A0 n0 c0) (.slice A1 n1 c1) (.slice A2 n2 c2) (.slice A3 n3 c3) (.slice A4 n4 c4) (.slice A5 n5 c5) (.slice A6 n6 c6) (.slice A7 n7 c7) (.slice A8 n8 c8) (.slice A9 n9 c9) (.slice A10 n10 c10) (.slice A11 n11 c11) (.slice A12 n12 c12) (.slice A13 n13 c13) (.slice A14 n14 c14) (.slice A15 n15 c15) w
      have hL8 := hLi.alloc #[.slice A4 n4 c4, .slice A5 n5 c5, .slice A6 n6 c6, .slice A7 n7 c7] 151
      go_upto_region 6 with fail
      have k8 := Bk.new wr 151 #[.slice A4 n4 c4, .slice A5 n5 c5, .slice A6 n6 c6, .slice A7 n7 c7]
      have k2 : Bk (wr.alloc (.cells #[.slice A4 n4 c4, .slice A5 n5 c5, .slice A6 n6 c6, .slice A7 n7 c7] 151)) g2 154 _ := hL8.k 1 (by simp)
      generalize hg8 : wr.heap.size = g8 at *
      generalize wr.alloc (.cells #[.slice A4 n4 c4, .slice A5 n5 c5, .slice A6 n6 c6, .slice A7 n7 c7] 151) = wx0 at *
      clear hg8
      have q16 := fun (n : Nat) (os : Array Obj) => cell_regrown ((k2.cell 16).trans (show _ = some (.int .i64 x0) from rfl)) n os
      have q17 := fun (n : Nat) (os : Array Obj) => cell_regrown ((k2.cell 17).trans (show _ = some (.int .i64 x1) from rfl)) n os
      have q18 := fun (n : Nat) (os : Array Obj) => cell_regrown ((k2.cell 18).trans (show _ = some (.int .i64 x2) from rfl)) n os
      have q19 := fun (n : Nat) (os : Array Obj) => cell_regrown ((k2.cell 19).trans (show _ = some (.int .i64 x3) from rfl)) n os
      have qy := fun (n : Nat) (os : Array Obj) => cell_regrown ((k2.cell (20 + 1)).trans (show _ = some (.int .i64 y1) from rfl)) n os
      have r0' := fun (n : Nat) (os : Array Obj) => cell_regrown k8.cell4.1 n os
      have r1' := fun (n : Nat) (os : Array Obj) => cell_regrown k8.cell4.2.1 n os
      have r2' := fun (n : Nat) (os : Array Obj) => cell_regrown k8.cell4.2.2.1 n os
      have r3' := fun (n : Nat) (os : Array Obj) => cell_regrown k8.cell4.2.2.2 n os
      have hX := fun (d : Nat) (os : Array Obj) => hMx1 (Go.Sort.grow (redrawn wx0 d) os) (hL8.bel.trans ((below_regrown wx0 d os).mono hL8.sz))
      refine wp_region_quiet_below (by kernel_rfl) (by kernel_rfl) ?_
      repeat (first
        | go_big_quiet_step (with_reducible exact quiet_below (hX _ _))
        | quiet_step (with_reducible exact quiet_below (hX _ _)))
      refine wpQuiet_nil ?_
      intro _ hw'
      obtain ⟨⟨d9, os⟩, hw''⟩ := hw'
      subst hw''
      have hbx := below_regrown wx0 d9 os
      generalize Go.Sort.grow (redrawn wx0 d9) os = wx at *
      clear q16 q17 q18 q19 qy r0' r1' r2' r3' hX hMx1
      go_wp2_with fail
      exact ⟨⟨2, by omega, by go_num, by first | rfl | rw [va1], (hL8.nx hbx).sub (fun x hx => List.mem_cons_of_mem _ hx)⟩, by simp [intOf]⟩
    · clear hMx0 vm0 va0 hMx1 vm1 va1 hMx3 vm3 va3 hBy
      have hiy := fun w => idx_y2 (.slice A0 n0 c0) (.slice A1 n1 c1) (.slice A2 n2 c2) (.slice A3 n3 c3) (.slice A4 n4 c4) (.slice A5 n5 c5) (.slice A6 n6 c6) (.slice A7 n7 c7) (.slice A8 n8 c8) (.slice A9 n9 c9) (.slice A10 n10 c10) (.slice A11 n11 c11) (.slice A12 n12 c12) (.slice A13 n13 c13) (.slice A14 n14 c14) (.slice A15 n15 c15) w
      have hL8 := hLi.alloc #[.slice A8 n8 c8, .slice A9 n9 c9, .slice A10 n10 c10, .slice A11 n11 c11] 151
      go_upto_region 6 with fail
      have k8 := Bk.new wr 151 #[.slice A8 n8 c8, .slice A9 n9 c9, .slice A10 n10 c10, .slice A11 n11 c11]
      have k2 : Bk (wr.alloc (.cells #[.slice A8 n8 c8, .slice A9 n9 c9, .slice A10 n10 c10, .slice A11 n11 c11] 151)) g2 154 _ := hL8.k 1 (by simp)
      generalize hg8 : wr.heap.size = g8 at *
      generalize wr.alloc (.cells #[.slice A8 n8 c8, .slice A9 n9 c9, .slice A10 n10 c10, .slice A11 n11 c11] 151) = wx0 at *
      clear hg8
      have q16 := fun (n : Nat) (os : Array Obj) => cell_regrown ((k2.cell 16).trans (show _ = some (.int .i64 x0) from rfl)) n os
      have q17 := fun (n : Nat) (os : Array Obj) => cell_regrown ((k2.cell 17).trans (show _ = some (.int .i64 x1) from rfl)) n os
      have q18 := fun (n : Nat) (os : Array Obj) => cell_regrown ((k2.cell 18).trans (show _ = some (.int .i64 x2) from rfl)) n os
      have q19 := fun (n : Nat) (os : Array Obj) => cell_regrown ((k2.cell 19).trans (show _ = some (.int .i64 x3) from rfl)) n os
      have qy := fun (n : Nat) (os : Array Obj) => cell_regrown ((k2.cell (20 + 2)).trans (show _ = some (.int .i64 y2) from rfl)) n os
      have r0' := fun (n : Nat) (os : Array Obj) => cell_regrown k8.cell4.1 n os
      have r1' := fun (n : Nat) (os : Array Obj) => cell_regrown k8.cell4.2.1 n os
      have r2' := fun (n : Nat) (os : Array Obj) => cell_regrown k8.cell4.2.2.1 n os
      have r3' := fun (n : Nat) (os : Array Obj) => cell_regrown k8.cell4.2.2.2 n os
      have hX := fun (d : Nat) (os : Array Obj) => hMx2 (Go.Sort.grow (redrawn wx0 d) os) (hL8.bel.trans ((below_regrown wx0 d os).mono hL8.sz))
      refine wp_region_quiet_below (by kernel_rfl) (by kernel_rfl) ?_
      repeat (first
        | go_big_quiet_step (with_reducible exact quiet_below (hX _ _))
        | quiet_step (with_reducible exact quiet_below (hX _ _)))
      refine wpQuiet_nil ?_
      intro _ hw'
      obtain ⟨⟨d9, os⟩, hw''⟩ := hw'
      subst hw''
      have hbx := below_regrown wx0 d9 os
      generalize Go.Sort.grow (redrawn wx0 d9) os = wx at *
      clear q16 q17 q18 q19 qy r0' r1' r2' r3' hX hMx2
      go_wp2_with fail
      exact ⟨⟨3, by omega, by go_num, by first | rfl | rw [va2], (hL8.nx hbx).sub (fun x hx => List.mem_cons_of_mem _ hx)⟩, by simp [intOf]⟩
    · clear hMx0 vm0 va0 hMx1 vm1 va1 hMx2 vm2 va2 hBy
      have hiy := fun w => idx_y3 (.slice A0 n0 c0) (.slice A1 n1 c1) (.slice A2 n2 c2) (.slice A3 n3 c3) (.slice A4 n4 c4) (.slice A5 n5 c5) (.slice A6 n6 c6) (.slice A7 n7 c7) (.slice A8 n8 c8) (.slice A9 n9 c9) (.slice A10 n10 c10) (.slice A11 n11 c11) (.slice A12 n12 c12) (.slice A13 n13 c13) (.slice A14 n14 c14) (.slice A15 n15 c15) w
      have hL8 := hLi.alloc #[.slice A12 n12 c12, .slice A13 n13 c13, .slice A14 n14 c14, .slice A15 n15 c15] 151
      go_upto_region 6 with fail
      have k8 := Bk.new wr 151 #[.slice A12 n12 c12, .slice A13 n13 c13, .slice A14 n14 c14, .slice A15 n15 c15]
      have k2 : Bk (wr.alloc (.cells #[.slice A12 n12 c12, .slice A13 n13 c13, .slice A14 n14 c14, .slice A15 n15 c15] 151)) g2 154 _ := hL8.k 1 (by simp)
      generalize hg8 : wr.heap.size = g8 at *
      generalize wr.alloc (.cells #[.slice A12 n12 c12, .slice A13 n13 c13, .slice A14 n14 c14, .slice A15 n15 c15] 151) = wx0 at *
      clear hg8
      have q16 := fun (n : Nat) (os : Array Obj) => cell_regrown ((k2.cell 16).trans (show _ = some (.int .i64 x0) from rfl)) n os
      have q17 := fun (n : Nat) (os : Array Obj) => cell_regrown ((k2.cell 17).trans (show _ = some (.int .i64 x1) from rfl)) n os
      have q18 := fun (n : Nat) (os : Array Obj) => cell_regrown ((k2.cell 18).trans (show _ = some (.int .i64 x2) from rfl)) n os
      have q19 := fun (n : Nat) (os : Array Obj) => cell_regrown ((k2.cell 19).trans (show _ = some (.int .i64 x3) from rfl)) n os
      have qy := fun (n : Nat) (os : Array Obj) => cell_regrown ((k2.cell (20 + 3)).trans (show _ = some (.int .i64 y3) from rfl)) n os
      have r0' := fun (n : Nat) (os : Array Obj) => cell_regrown k8.cell4.1 n os
      have r1' := fun (n : Nat) (os : Array Obj) => cell_regrown k8.cell4.2.1 n os
      have r2' := fun (n : Nat) (os : Array Obj) => cell_regrown k8.cell4.2.2.1 n os
      have r3' := fun (n : Nat) (os : Array Obj) => cell_regrown k8.cell4.2.2.2 n os
      have hX := fun (d : Nat) (os : Array Obj) => hMx3 (Go.Sort.grow (redrawn wx0 d) os) (hL8.bel.trans ((below_regrown wx0 d os).mono hL8.sz))
      refine wp_region_quiet_below (by kernel_rfl) (by kernel_rfl) ?_
      repeat (first
        | go_big_quiet_step (with_reducible exact quiet_below (hX _ _))
        | quiet_step (with_reducible exact quiet_below (hX _ _)))
      refine wpQuiet_nil ?_
      intro _ hw'
      obtain ⟨⟨d9, os⟩, hw''⟩ := hw'
      subst hw''
      have hbx := below_regrown wx0 d9 os
      generalize Go.Sort.grow (redrawn wx0 d9) os = wx at *
      clear q16 q17 q18 q19 qy r0' r1' r2' r3' hX hMx3
      go_wp2_with fail
      exact ⟨⟨4, by omega, by go_num, by first | rfl | rw [va3], (hL8.nx hbx).sub (fun x hx => List.mem_cons_of_mem _ hx)⟩, by simp [intOf]⟩
    · clear hMx0 hMx1 hMx2 hMx3 vm0 vm1 vm2 vm3 va0 va1 va2 va3
      go_wp2_with (go_at_call 117; (with_reducible refine (hBy _).mono ?_); rintro e w6 ⟨rfl, hb6⟩)
      go_returns
      exact ⟨rfl, (hLi.nx hb6).bel⟩
end Go.Proofs.YtibmhabipghjlaaGreat
end
section
set_option linter.unusedVariables false
namespace Go.Proofs.YtibmhabipghjlaaGreat
open Go.RowKit
theorem some_px {w : World} {S : Nat → Value} (h : ∀ j, j < 16 → SlB w (S j)) : ∃ px : Nat → List Int, (∀ j, j < 16 → SlP 1 0 w (S j) (px j)) ∧ ∀ j kk, 0 ≤ (px j).getD kk 0 ∧ (px j).getD kk 0 ≤ 255 := by
  have h2 : ∀ j, ∃ l : List Int, (j < 16 → SlP 1 0 w (S j) l) ∧ ∀ kk, 0 ≤ l.getD kk 0 ∧ l.getD kk 0 ≤ 255 := fun j => by
    by_cases hj : j < 16
    · obtain ⟨a, ha, ha'⟩ := (h j hj).sl
      exact ⟨a, fun _ => ha, ha'⟩
    · exact ⟨[], fun e => absurd e hj, fun kk => by simp⟩
  exact ⟨fun j => Classical.choose (h2 j), fun j hj => (Classical.choose_spec (h2 j)).1 hj, fun j => (Classical.choose_spec (h2 j)).2⟩
theorem ar_size24 : (Tryz.prog.info? 154).map (·.size) = some 24 := by kernel_rfl
theorem lcA_size {S : Nat → Value} {m : Nat} {xs : List Value} (h : xs.length = 8) : (lcA S m xs).size = 24 := by unfold lcA lcL; simp [h]
set_option maxRecDepth 100000 in
set_option maxHeartbeats 8000000 in
theorem pcubic_any {w0 : World} {gs : Nat} {jb : Jb} {TT : List Rn} {m : Nat} {w : World} (h : SG w0 gs jb TT m w) (vw : Array Value) (u v : Int) (iu : inF u = true) (iv : inF v = true)
    (hP : ∀ w' m' (x y : Int), SG w0 gs jb TT m' w' → m' ≤ m + 15 → (u / 65536 - 1 ≤ x ∧ x ≤ u / 65536 + 2) → (v / 65536 - 1 ≤ y ∧ y ≤ v / 65536 + 2) → Calls Tryz.prog 37 #[.agg vw, .int .i64 x, .int .i64 y] w' (PxS w0 gs jb TT m' w')) :
    Calls Tryz.prog 57 #[.func (.func 37) #[.agg vw] #[], .int .i64 1, .int .i64 u, .int .i64 v] w fun e w' => ∃ r, e = .returned r ∧ SG w0 gs jb TT (m + 16) w' ∧ Kp w w' := by
  have hin := fun (w' : World) => cubic_in u w'
  have hin2 := fun (w' : World) => cubic_in v w'
  rw [iu] at hin
  rw [iv] at hin2
  have hLk := pclook_any h vw u v (inF_iff.1 iu) (inF_iff.1 iv) hP
  have hmk := fun W => run_make1 (P := Tryz.prog) Tryz.underlying59 u8_infoS rfl (1 : Int) 1 rfl (by omega) (by omega) W
  have hC1 : ¬ ((1 : Int) < 1) := by omega
  have hq := eql_getS (.func 37) #[.agg vw] #[]
  have hF : ∀ (S : Nat → Value) (px : Nat → List Int) (w' : World), (∀ j, j < 16 → SlP 1 0 w' (S j) (px j)) → (∀ j kk, 0 ≤ (px j).getD kk 0 ∧ (px j).getD kk 0 ≤ 255) → Calls Tryz.prog 91 #[.agg (lcA S 16 (xyL (u % 65536 / 256) (v % 65536 / 256))), .int .i64 (0 : Nat)] w' fun e w'' => e = .returned (.int .u8 (byteZ (cuZ (u % 65536 / 256) (v % 65536 / 256) px 0 4) 1125899906842624)) ∧ Below w'.heap.size w' w'' := fun S px w' hS hb =>
    cchan_any S (u % 65536 / 256) (v % 65536 / 256) 1 0 px w' hS (by omega) (by omega) (by omega) (fun j => hb j 0)
  have hxo : ∀ z ∈ xyL (u % 65536 / 256) (v % 65536 / 256), z.oneCell' = true := by simp [Value.oneCell']
  have hxl : (xyL (u % 65536 / 256) (v % 65536 / 256)).length = 8 := rfl
  have hF2 : ∀ (S : Nat → Value) (w' : World), (∀ j, j < 16 → SlB w' (S j)) → Calls Tryz.prog 91 #[.agg (lcA S 16 (xyL (u % 65536 / 256) (v % 65536 / 256))), .int .i64 (0 : Nat)] w' fun e w'' => ∃ b : Int, e = .returned (.int .u8 b) ∧ Below w'.heap.size w' w'' := fun S w' hS => by
    obtain ⟨px, hpx, hbb⟩ := some_px hS
    exact (hF S px w' hpx hbb).mono (fun e w'' hh => ⟨_, hh.1, hh.2⟩)
  generalize xyL (u % 65536 / 256) (v % 65536 / 256) = xs at *
  clear hP iu iv h hF
  go_enter Tryz.func57, Tryz.ntmps57
  go_wp2_with (first
    | (go_at_call 89; (with_reducible refine (hin _).mono ?_); rintro e w1 ⟨rfl, rfl⟩)
    | (go_at_call 89; (with_reducible refine (hin2 _).mono ?_); rintro e w1 ⟨rfl, rfl⟩)
    | (go_at_call 90; (with_reducible refine hLk.mono ?_); rintro e w3 ⟨S, rfl, hS, hs3, hk3⟩; have hK3 := Bk.new w3 154 zer24; have hsz := (lcA_size (S := S) (m := 16) hxl); have hone := lcA_ok (m := 0) hxo (fun j hj => (hS j hj).one))
    | (refine stB rfl _ _ _ rfl hK3 (lcA S 16 xs) rfl rfl (by rw [hsz]; exact ar_size24) (by rw [hsz]; rfl) hone ?_; intro w4 hK4 hg4 hs4))
  clear hin hin2 hLk hmk hq hK3
  have hb34 : Below w3.heap.size w3 w4 := below_of_gb ((Below.refl w3.heap.size w3).alloc (Nat.le_refl _) (.cells zer24 154)) hg4 (Nat.le_refl _) (by simp)
  have hF' := fun w' hb => hF2 S w' (fun j hj => (hS j hj).kp ((Kp.of_below hb34).trans (Kp.of_below hb)))
  have hs4' := hs3.nx hb34
  have hk4 := hk3.bel hb34
  obtain ⟨arr, harr⟩ : ∃ arr, lcA S 16 xs = arr := ⟨_, rfl⟩
  rw [harr] at hK4 hsz hone hF'
  clear harr hF2 hS hb34
  obtain ⟨g9, hg9⟩ : ∃ g9, w3.heap.size = g9 := ⟨_, rfl⟩
  rw [hg9] at hK4
  simp only [hg9]
  clear hs3 hk3 hg4
  have e4 : w4.heap.size = g9 + 1 := by rw [← hg9]; simpa using hs4
  clear hg9 hs4
  have hK0 := Bk.new w4 5 #[.int .u8 0]
  have hb4 := (Below.refl w4.heap.size w4).alloc (Nat.le_refl _) (.cells #[.int .u8 0] 5)
  rw [e4] at hK0
  go_loopw [36] (fun iv wr => ∃ k : Nat, k ≤ 1 ∧ iv = .int .i64 k ∧ (∃ b : Int, Bk wr (g9 + 1) 5 #[.int .u8 b]) ∧ Below w4.heap.size w4 wr) (fun iv _ => 1 - (intOf iv).toNat)
  case atStart => exact ⟨0, by omega, rfl, ⟨0, hK0⟩, hb4⟩
  case round =>
    clear hK0 hb4
    obtain ⟨k, hk, rfl, ⟨b, hKr⟩, hbr⟩ := hrel
    rcases (show k = 0 ∨ k = 1 by omega) with rfl | rfl
    · have hCh := hF' wr hbr
      have k9 : Bk wr g9 154 arr := hK4.nx hbr
      go_wp2_with (first
        | (refine ldB rfl _ _ rfl k9 rfl Tryz.underlying154 rfl (by rw [hsz]; exact ar_size24) ?_)
        | (go_at_call 91; refine hCh.mono ?_; rintro e w6 ⟨b6, rfl, hb6⟩; have k6 := hKr.nx hb6; have d0 := k6.cell1; have f0 := k6.frozen 0))
      exact ⟨⟨1, by omega, by go_num, ⟨_, k6.set1 _⟩, (hbr.trans (hb6.mono hbr.size)).setCell (by rw [e4]; exact Nat.le_refl _) _⟩, by simp [intOf]⟩
    · go_wp2_with fail
      go_returns
      exact ⟨_, rfl, hs4'.nx hbr, hk4.bel hbr⟩
end Go.Proofs.YtibmhabipghjlaaGreat
end
