/- boxes: parts of images, their outermost places. -/
import Derived.Test.YtlbiiljncacdoaaGreatBx1
set_option linter.unusedVariables false
namespace Go.Proofs.YtlbiiljncacdoaaGreat
open Go.RowKit
attribute [local go_sem high] run_maxM run_minM
abbrev paA (p : Option Addr) (a b c d n : Int) : Array Value := #[.pointer p, .int .i64 a, .int .i64 b, .int .i64 c, .int .i64 d, .int .i64 n]
abbrev paV (p : Option Addr) (a b c d n : Int) : Value := .agg (paA p a b c d n)
section
variable {w : World} {g : Nat} {t : TypeId} {v0 v1 v2 v3 v4 v5 : Value}
theorem Bk.cell6 (h : Bk w g t #[v0, v1, v2, v3, v4, v5]) : w.cell? ⟨g, 0, none⟩ = some v0 ∧ w.cell? ⟨g, 1, none⟩ = some v1 ∧ w.cell? ⟨g, 2, none⟩ = some v2 ∧ w.cell? ⟨g, 3, none⟩ = some v3 ∧ w.cell? ⟨g, 4, none⟩ = some v4 ∧ w.cell? ⟨g, 5, none⟩ = some v5 :=
  ⟨by rw [h.cell]; rfl, by rw [h.cell]; rfl, by rw [h.cell]; rfl, by rw [h.cell]; rfl, by rw [h.cell]; rfl, by rw [h.cell]; rfl⟩
end
def paF (n x : Int) : Int := if n = 0 then x else 2 * n * x + 1 - n
def paL (n x : Int) : Int := if n = 0 then x else 2 * n * x + n - 1
def paD (n : Int) : Int := max (2 * n) 1
theorem nx_bd {n x : Int} (hn : 0 ≤ n ∧ n ≤ 8) (hx : -4294967296 ≤ x ∧ x ≤ 4294967296) : -68719476736 ≤ 2 * n * x ∧ 2 * n * x ≤ 68719476736 := by
  have := mulbd (a := 2 * n) (b := x) (A := 16) (B := 4294967296) (by omega) (by omega) (by omega) (by omega)
  omega
set_option maxHeartbeats 1000000 in
theorem pfirst_any (p : Option Addr) (a b c d n x : Int) (w : World) (hn : 0 ≤ n ∧ n ≤ 8) (hx : -4294967296 ≤ x ∧ x ≤ 4294967296) : Calls Tryz.prog 172 #[paV p a b c d n, .int .i64 x] w fun e w' => e = .returned (.int .i64 (paF n x)) ∧ Below w.heap.size w w' := by
  have hb := (Below.refl w.heap.size w).alloc (Nat.le_refl _) (.cells (paA p a b c d n) 162)
  have m := nx_bd hn hx
  by_cases h0 : n = 0
  · have HE : Hid (paF n x = x) := by unfold paF Hid; rw [if_pos h0]
    subst h0
    clear m
    go_enter Tryz.func172, Tryz.ntmps172
    go_wp2_with fail
    go_returns
    exact ⟨by rw [HE.out]; rfl, hb⟩
  · have HE : Hid (paF n x = 2 * n * x + 1 - n) := by unfold paF Hid; rw [if_neg h0]
    have k1 : wrap64 (2 * n) = 2 * n := IntWalk.wrap64_in _ ⟨by omega, by omega⟩
    have k2 : wrap64 (2 * n * x) = 2 * n * x := IntWalk.wrap64_in _ ⟨by omega, by omega⟩
    have k3 : wrap64 (2 * n * x + 1) = 2 * n * x + 1 := IntWalk.wrap64_in _ ⟨by omega, by omega⟩
    have k4 : wrap64 (2 * n * x + 1 - n) = 2 * n * x + 1 - n := IntWalk.wrap64_in _ ⟨by omega, by omega⟩
    have hb0 : (n == 0) = false := by simp [h0]
    clear m h0
    go_enter Tryz.func172, Tryz.ntmps172
    go_wp2_with fail
    go_returns
    exact ⟨by rw [HE.out]; first | rfl | exact ret_int k4, hb⟩
set_option maxHeartbeats 1000000 in
theorem plast_any (p : Option Addr) (a b c d n x : Int) (w : World) (hn : 0 ≤ n ∧ n ≤ 8) (hx : -4294967296 ≤ x ∧ x ≤ 4294967296) : Calls Tryz.prog 173 #[paV p a b c d n, .int .i64 x] w fun e w' => e = .returned (.int .i64 (paL n x)) ∧ Below w.heap.size w w' := by
  have hb := (Below.refl w.heap.size w).alloc (Nat.le_refl _) (.cells (paA p a b c d n) 162)
  have m := nx_bd hn hx
  by_cases h0 : n = 0
  · have HE : Hid (paL n x = x) := by unfold paL Hid; rw [if_pos h0]
    subst h0
    clear m
    go_enter Tryz.func173, Tryz.ntmps173
    go_wp2_with fail
    go_returns
    exact ⟨by rw [HE.out]; rfl, hb⟩
  · have HE : Hid (paL n x = 2 * n * x + n - 1) := by unfold paL Hid; rw [if_neg h0]
    have k1 : wrap64 (2 * n) = 2 * n := IntWalk.wrap64_in _ ⟨by omega, by omega⟩
    have k2 : wrap64 (2 * n * x) = 2 * n * x := IntWalk.wrap64_in _ ⟨by omega, by omega⟩
    have k3 : wrap64 (2 * n * x + n) = 2 * n * x + n := IntWalk.wrap64_in _ ⟨by omega, by omega⟩
    have k4 : wrap64 (2 * n * x + n - 1) = 2 * n * x + n - 1 := IntWalk.wrap64_in _ ⟨by omega, by omega⟩
    have hb0 : (n == 0) = false := by simp [h0]
    clear m h0
    go_enter Tryz.func173, Tryz.ntmps173
    go_wp2_with fail
    go_returns
    exact ⟨by rw [HE.out]; first | rfl | exact ret_int k4, hb⟩
set_option maxHeartbeats 1000000 in
theorem pparts_any (p : Option Addr) (a b c d n : Int) (w : World) (hn : 0 ≤ n ∧ n ≤ 8) : Calls Tryz.prog 213 #[paV p a b c d n] w fun e w' => e = .returned (.int .i64 (paD n)) ∧ Below w.heap.size w w' := by
  have hb := (Below.refl w.heap.size w).alloc (Nat.le_refl _) (.cells (paA p a b c d n) 162)
  have k1 : wrap64 (2 * n) = 2 * n := IntWalk.wrap64_in _ ⟨by omega, by omega⟩
  go_enter Tryz.func213, Tryz.ntmps213
  go_wp2_with fail
  go_returns
  exact ⟨rfl, hb⟩
theorem bx_size : (Tryz.prog.info? 83).map (·.size) = some 4 := by kernel_rfl
theorem pa_size : (Tryz.prog.info? 162).map (·.size) = some 6 := by kernel_rfl
set_option maxRecDepth 100000 in
set_option maxHeartbeats 4000000 in
theorem around_any (a b c d e f g h : Int) (w : World) : Calls Tryz.prog 55 #[rc_rect4 a b c d, rc_rect4 e f g h] w fun e' w' => e' = .returned (rc_rect4 (min a e) (min b f) (max c g) (max d h)) ∧ Below w.heap.size w w' := by
  have hL := (((Lie.start w).alloc (rc_rectA a b c d) 83).alloc (rc_rectA e f g h) 83).alloc (rc_rectA 0 0 0 0) 83
  simp only [World.size_alloc] at hL
  have k4 := hL.k 0 (by simp)
  simp only [List.getElem_cons_zero] at k4
  go_enter Tryz.func55, Tryz.ntmps55
  go_wp2_with (refine stB (ty := 83) (cells := rc_rectA (min a e) (min b f) (max c g) (max d h)) rfl _ _ rfl k4 rfl rfl bx_size rfl (by simp [Value.oneCell']) ?_; intro w2 k42 hg2 hs2)
  refine bodyPost_ret (res_cell rfl k42 rfl Tryz.underlying83 rfl bx_size) rfl ?_
  exact ⟨rfl, below_of_gb hL.bel hg2 (by omega) hL.sz⟩
end Go.Proofs.YtlbiiljncacdoaaGreat
