/- weight: four weights of a curve, walked. (Printed by wip/tools/gensp10.py.) -/
import Derived.Test.YthgcfahacoonaaaGreatWT2
import Derived.Test.YthgcfahacoonaaaGreatSP0
set_option linter.unusedVariables false
namespace Go.Proofs.YthgcfahacoonaaaGreat
open Go.RowKit
def cwA (a b c d t : Int) : Int := ((a * t + b * 256) * t + c * 256 * 256) * t + d * 256 * 256 * 256
/-- How much the four pixels count. -/
def cw (i : Nat) (t : Int) : Int := match i with
  | 0 => cwA (-1) 2 (-1) 0 t
  | 1 => cwA 3 (-5) 0 2 t
  | 2 => cwA (-3) 4 1 0 t
  | _ => cwA 1 (-1) 0 0 t
theorem all257 {P : Int → Prop} (h : ∀ t : Fin 257, P ((t.val : Nat) : Int)) {t : Int} (h0 : 0 ≤ t) (h1 : t ≤ 256) : P t := by
  have := h ⟨t.toNat, by omega⟩
  have e : ((t.toNat : Nat) : Int) = t := by omega
  simp only [e] at this
  exact this
theorem cw_bd4 {t : Int} (h0 : 0 ≤ t) (h1 : t ≤ 256) : (-33554432 ≤ cw 0 t ∧ cw 0 t ≤ 33554432) ∧ (-33554432 ≤ cw 1 t ∧ cw 1 t ≤ 33554432) ∧ (-33554432 ≤ cw 2 t ∧ cw 2 t ≤ 33554432) ∧ (-33554432 ≤ cw 3 t ∧ cw 3 t ≤ 33554432) :=
  all257 (P := fun t => (-33554432 ≤ cw 0 t ∧ cw 0 t ≤ 33554432) ∧ (-33554432 ≤ cw 1 t ∧ cw 1 t ≤ 33554432) ∧ (-33554432 ≤ cw 2 t ∧ cw 2 t ≤ 33554432) ∧ (-33554432 ≤ cw 3 t ∧ cw 3 t ≤ 33554432)) (by decide +kernel) h0 h1
theorem cw_bd {t : Int} (h0 : 0 ≤ t) (h1 : t ≤ 256) (i : Nat) : -33554432 ≤ cw i t ∧ cw i t ≤ 33554432 := by
  obtain ⟨a, b, c, d⟩ := cw_bd4 h0 h1
  match i with
  | 0 => exact a
  | 1 => exact b
  | 2 => exact c
  | i + 3 => exact d
abbrev cuA : Array Value := #[.int .i64 (-1), .int .i64 2, .int .i64 (-1), .int .i64 0, .int .i64 3, .int .i64 (-5), .int .i64 0, .int .i64 2, .int .i64 (-3), .int .i64 4, .int .i64 1, .int .i64 0, .int .i64 1, .int .i64 (-1), .int .i64 0, .int .i64 0]
theorem cu_size : (Tryz.prog.info? 299).map (·.size) = some 16 := by kernel_rfl
theorem cv_size : (Tryz.prog.info? 298).map (·.size) = some 4 := by kernel_rfl
set_option maxRecDepth 100000 in
set_option maxHeartbeats 4000000 in
theorem curves_any (w : World) : Calls Tryz.prog 226 #[] w fun e w' => e = .returned (.agg cuA) ∧ Below w.heap.size w w' := by
  have hb := (Below.refl w.heap.size w).alloc (Nat.le_refl _) (.cells (Array.replicate 16 (.int .i64 0)) 299)
  have hK : Bk (w.alloc (.cells (Array.replicate 16 (.int .i64 0)) 299)) w.heap.size 299 (Array.replicate 16 (.int .i64 0)) := Bk.new w _ _
  go_enter Tryz.func226, Tryz.ntmps226
  go_wp2_with (refine stB (ty := 299) (cells := cuA) rfl _ _ rfl hK rfl rfl cu_size rfl (by simp [Value.oneCell']) ?_; intro w' hK' hg' _)
  refine bodyPost_ret (res_cell rfl hK' rfl Tryz.underlying299 rfl cu_size) rfl ?_
  exact ⟨rfl, below_of_gb hb hg' (Nat.le_refl _) hb.size⟩
theorem cu_ix0 (w : World) : (Instr.index 299 (.agg cuA) (.int .i64 0)).run Tryz.prog w = .ok (.agg #[.int .i64 (-1), .int .i64 2, .int .i64 (-1), .int .i64 0]) w := by kernel_rfl
theorem cu_ix1 (w : World) : (Instr.index 299 (.agg cuA) (.int .i64 1)).run Tryz.prog w = .ok (.agg #[.int .i64 3, .int .i64 (-5), .int .i64 0, .int .i64 2]) w := by kernel_rfl
theorem cu_ix2 (w : World) : (Instr.index 299 (.agg cuA) (.int .i64 2)).run Tryz.prog w = .ok (.agg #[.int .i64 (-3), .int .i64 4, .int .i64 1, .int .i64 0]) w := by kernel_rfl
theorem cu_ix3 (w : World) : (Instr.index 299 (.agg cuA) (.int .i64 3)).run Tryz.prog w = .ok (.agg #[.int .i64 1, .int .i64 (-1), .int .i64 0, .int .i64 0]) w := by kernel_rfl
def cbA (t : Int) (k : Nat) : Array Value :=
  let q := fun j => Value.int .i64 (if j < k then cw j t else 0)
  #[q 0, q 1, q 2, q 3]
theorem cb0 (t : Int) : cbA t 0 = #[.int .i64 0, .int .i64 0, .int .i64 0, .int .i64 0] := by simp [cbA]
theorem cb1 (t : Int) : cbA t 1 = #[.int .i64 (cw 0 t), .int .i64 0, .int .i64 0, .int .i64 0] := by simp [cbA]
theorem cb2 (t : Int) : cbA t 2 = #[.int .i64 (cw 0 t), .int .i64 (cw 1 t), .int .i64 0, .int .i64 0] := by simp [cbA]
theorem cb3 (t : Int) : cbA t 3 = #[.int .i64 (cw 0 t), .int .i64 (cw 1 t), .int .i64 (cw 2 t), .int .i64 0] := by simp [cbA]
theorem cb4 (t : Int) : cbA t 4 = #[.int .i64 (cw 0 t), .int .i64 (cw 1 t), .int .i64 (cw 2 t), .int .i64 (cw 3 t)] := by simp [cbA]
theorem cbA_up {t : Int} {k : Nat} (hk : k < 4) : (cbA t k).setIfInBounds k (.int .i64 (cw k t)) = cbA t (k + 1) := by
  have : k = 0 ∨ k = 1 ∨ k = 2 ∨ k = 3 := by omega
  rcases this with rfl | rfl | rfl | rfl <;> simp [cbA]
set_option maxRecDepth 100000 in
set_option maxHeartbeats 8000000 in
theorem wcubic_any (t : Int) (w : World) (h0 : 0 ≤ t) (h1 : t ≤ 256) : Calls Tryz.prog 197 #[.int .i64 t] w fun e w' => e = .returned (.agg (cbA t 4)) ∧ Below w.heap.size w w' := by
  have hC0 := fun w' => cat_any (-1) 2 (-1) 0 t w' (by omega) (by omega) (by omega) (by omega) h0 h1
  have hC1 := fun w' => cat_any 3 (-5) 0 2 t w' (by omega) (by omega) (by omega) (by omega) h0 h1
  have hC2 := fun w' => cat_any (-3) 4 1 0 t w' (by omega) (by omega) (by omega) (by omega) h0 h1
  have hC3 := fun w' => cat_any 1 (-1) 0 0 t w' (by omega) (by omega) (by omega) (by omega) h0 h1
  change ∀ w', Calls _ _ _ _ fun e w'' => e = .returned (.int .i64 (cw 0 t)) ∧ _ at hC0
  change ∀ w', Calls _ _ _ _ fun e w'' => e = .returned (.int .i64 (cw 1 t)) ∧ _ at hC1
  change ∀ w', Calls _ _ _ _ fun e w'' => e = .returned (.int .i64 (cw 2 t)) ∧ _ at hC2
  change ∀ w', Calls _ _ _ _ fun e w'' => e = .returned (.int .i64 (cw 3 t)) ∧ _ at hC3
  have hL := ((Lie.start w).alloc #[.int .i64 0, .int .i64 0, .int .i64 0, .int .i64 0] 30).alloc #[.int .i64 0, .int .i64 0, .int .i64 0, .int .i64 0] 30
  simp only [World.size_alloc] at hL
  have hCu := fun w' => curves_any w'
  have hi0 := fun w => cu_ix0 w
  have hi1 := fun w => cu_ix1 w
  have hi2 := fun w => cu_ix2 w
  have hi3 := fun w => cu_ix3 w
  generalize (cuA : Array Value) = cu at *
  go_enter Tryz.func197, Tryz.ntmps197
  go_wp2_with (go_at_call 226; (with_reducible refine (hCu _).mono ?_); rintro e w1 ⟨rfl, hb1⟩)
  have hL1 := hL.nx hb1
  clear hL hb1 hCu
  obtain ⟨g3, hg3⟩ : ∃ g3, w.heap.size + 1 = g3 := ⟨_, rfl⟩
  rw [hg3] at hL1
  simp only [hg3]
  have n3 : w.heap.size < g3 := by omega
  clear hg3
  go_loopw [7] (fun iv wr => ∃ k : Nat, k ≤ 4 ∧ iv = .int .i64 k ∧ Lie w [(g3, 30, cbA t k), (w.heap.size, 30, #[.int .i64 0, .int .i64 0, .int .i64 0, .int .i64 0])] wr) (fun iv _ => 4 - (intOf iv).toNat)
  case atStart => exact ⟨0, by omega, rfl, by rw [cb0]; exact hL1⟩
  case round =>
    clear hL1
    obtain ⟨k, hk, rfl, hLi⟩ := hrel
    rcases (show k = 0 ∨ k = 1 ∨ k = 2 ∨ k = 3 ∨ k = 4 by omega) with rfl | rfl | rfl | rfl | rfl
    · clear hC1 hi1 hC2 hi2 hC3 hi3
      go_wp2_with (go_at_call 227; (with_reducible refine (hC0 _).mono ?_); rintro e w6 ⟨rfl, hb6⟩; have hL6 := (hLi.alloc #[.int .i64 (-1), .int .i64 2, .int .i64 (-1), .int .i64 0] 298).nx hb6; have k3 : Bk w6 g3 30 (cbA t 0) := hL6.k 1 (by simp); have e3 := k3; rw [cb0] at e3; obtain ⟨d0, d1, d2, d3⟩ := e3.cell4; have f0 := e3.frozen 0)
      have hL7 : Lie w [(g3, 30, cbA t 0), (w.heap.size, 30, #[.int .i64 0, .int .i64 0, .int .i64 0, .int .i64 0])] w6 := hL6.sub (fun x hx => List.mem_cons_of_mem _ hx)
      exact ⟨⟨1, by omega, by go_num, hL7.set (gb_setCell (World.grownBy.refl w6 (some g3)) (p := ⟨g3, 0, none⟩) (.inl rfl) (.int .i64 (cw 0 t))) (by rw [← cbA_up (by omega)]; exact k3.set 0 (.int .i64 (cw 0 t))) (by omega) (fun x hx => by simp only [List.mem_cons, List.not_mem_nil, or_false] at hx; subst hx; simp; omega)⟩, by simp [intOf]⟩
    · clear hC0 hi0 hC2 hi2 hC3 hi3
      go_wp2_with (go_at_call 227; (with_reducible refine (hC1 _).mono ?_); rintro e w6 ⟨rfl, hb6⟩; have hL6 := (hLi.alloc #[.int .i64 3, .int .i64 (-5), .int .i64 0, .int .i64 2] 298).nx hb6; have k3 : Bk w6 g3 30 (cbA t 1) := hL6.k 1 (by simp); have e3 := k3; rw [cb1] at e3; obtain ⟨d0, d1, d2, d3⟩ := e3.cell4; have f0 := e3.frozen 1)
      have hL7 : Lie w [(g3, 30, cbA t 1), (w.heap.size, 30, #[.int .i64 0, .int .i64 0, .int .i64 0, .int .i64 0])] w6 := hL6.sub (fun x hx => List.mem_cons_of_mem _ hx)
      exact ⟨⟨2, by omega, by go_num, hL7.set (gb_setCell (World.grownBy.refl w6 (some g3)) (p := ⟨g3, 1, none⟩) (.inl rfl) (.int .i64 (cw 1 t))) (by rw [← cbA_up (by omega)]; exact k3.set 1 (.int .i64 (cw 1 t))) (by omega) (fun x hx => by simp only [List.mem_cons, List.not_mem_nil, or_false] at hx; subst hx; simp; omega)⟩, by simp [intOf]⟩
    · clear hC0 hi0 hC1 hi1 hC3 hi3
      go_wp2_with (go_at_call 227; (with_reducible refine (hC2 _).mono ?_); rintro e w6 ⟨rfl, hb6⟩; have hL6 := (hLi.alloc #[.int .i64 (-3), .int .i64 4, .int .i64 1, .int .i64 0] 298).nx hb6; have k3 : Bk w6 g3 30 (cbA t 2) := hL6.k 1 (by simp); have e3 := k3; rw [cb2] at e3; obtain ⟨d0, d1, d2, d3⟩ := e3.cell4; have f0 := e3.frozen 2)
      have hL7 : Lie w [(g3, 30, cbA t 2), (w.heap.size, 30, #[.int .i64 0, .int .i64 0, .int .i64 0, .int .i64 0])] w6 := hL6.sub (fun x hx => List.mem_cons_of_mem _ hx)
      exact ⟨⟨3, by omega, by go_num, hL7.set (gb_setCell (World.grownBy.refl w6 (some g3)) (p := ⟨g3, 2, none⟩) (.inl rfl) (.int .i64 (cw 2 t))) (by rw [← cbA_up (by omega)]; exact k3.set 2 (.int .i64 (cw 2 t))) (by omega) (fun x hx => by simp only [List.mem_cons, List.not_mem_nil, or_false] at hx; subst hx; simp; omega)⟩, by simp [intOf]⟩
    · clear hC0 hi0 hC1 hi1 hC2 hi2
      go_wp2_with (go_at_call 227; (with_reducible refine (hC3 _).mono ?_); rintro e w6 ⟨rfl, hb6⟩; have hL6 := (hLi.alloc #[.int .i64 1, .int .i64 (-1), .int .i64 0, .int .i64 0] 298).nx hb6; have k3 : Bk w6 g3 30 (cbA t 3) := hL6.k 1 (by simp); have e3 := k3; rw [cb3] at e3; obtain ⟨d0, d1, d2, d3⟩ := e3.cell4; have f0 := e3.frozen 3)
      have hL7 : Lie w [(g3, 30, cbA t 3), (w.heap.size, 30, #[.int .i64 0, .int .i64 0, .int .i64 0, .int .i64 0])] w6 := hL6.sub (fun x hx => List.mem_cons_of_mem _ hx)
      exact ⟨⟨4, by omega, by go_num, hL7.set (gb_setCell (World.grownBy.refl w6 (some g3)) (p := ⟨g3, 3, none⟩) (.inl rfl) (.int .i64 (cw 3 t))) (by rw [← cbA_up (by omega)]; exact k3.set 3 (.int .i64 (cw 3 t))) (by omega) (fun x hx => by simp only [List.mem_cons, List.not_mem_nil, or_false] at hx; subst hx; simp; omega)⟩, by simp [intOf]⟩
    · have k3 : Bk wr g3 30 (cbA t 4) := hLi.k 0 (by simp)
      have k2 : Bk wr w.heap.size 30 #[.int .i64 0, .int .i64 0, .int .i64 0, .int .i64 0] := hLi.k 1 (by simp)
      have hbz := hLi.bel
      rw [cb4] at k3
      clear hC0 hC1 hC2 hC3 hi0 hi1 hi2 hi3
      go_wp2_with (first
        | (refine ldB rfl _ _ rfl k3 rfl Tryz.underlying30 rfl w4_size ?_)
        | (refine stB rfl _ _ _ rfl k2 _ rfl rfl w4_size rfl (by simp [Value.oneCell']) ?_; intro w6 k66 hg6 hs6))
      refine bodyPost_ret (res_cell rfl k66 rfl Tryz.underlying30 rfl w4_size) rfl ?_
      exact ⟨by rw [cb4], below_of_gb hbz hg6 (Nat.le_refl _) hbz.size⟩
set_option maxRecDepth 100000 in
set_option maxHeartbeats 8000000 in
theorem wCubic_any (t : Int) (w : World) (h0 : 0 ≤ t) (h1 : t ≤ 256) : Calls Tryz.prog 147 #[.int .i64 t] w fun e w' => e = .returned (.tuple #[.agg (cbA t 4), .int .i64 0]) ∧ Below w.heap.size w w' := by
  have hL := (Lie.start w).alloc #[.int .i64 0, .int .i64 0, .int .i64 0, .int .i64 0] 30
  have hC := fun w' => wcubic_any t w' h0 h1
  have h2 : decide (t < 0) = false := decide_eq_false (by omega)
  have h3 : decide (256 < t) = false := decide_eq_false (by omega)
  have h4 : (cbA t 4).all (·.oneCell') = true := by simp [cbA, Value.oneCell']
  have h5 : (cbA t 4).size = 4 := rfl
  generalize cbA t 4 = A at *
  go_enter Tryz.func147, Tryz.ntmps147
  go_wp2_with (first
    | (go_at_call 197; (with_reducible refine (hC _).mono ?_); rintro e w6 ⟨rfl, hb6⟩; have hL6 := hL.nx hb6; have k2 : Bk w6 w.heap.size 30 #[.int .i64 0, .int .i64 0, .int .i64 0, .int .i64 0] := hL6.k 0 (by simp))
    | (refine stB rfl _ _ _ rfl k2 A rfl rfl (by rw [h5]; exact w4_size) (by rw [h5]; rfl) h4 ?_; intro w7 k7 hg7 hs7))
  refine bodyPost_ret (res_cell_tmp rfl k7 rfl Tryz.underlying30 rfl (by rw [h5]; exact w4_size)) rfl ?_
  exact ⟨rfl, below_of_gb hL6.bel hg7 (Nat.le_refl _) hL6.sz⟩
end Go.Proofs.YthgcfahacoonaaaGreat
