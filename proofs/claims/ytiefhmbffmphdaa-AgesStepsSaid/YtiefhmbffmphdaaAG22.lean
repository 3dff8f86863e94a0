/- ages: All's comparison, its copy. -/
import Derived.Test.YtiefhmbffmphdaaAG21
import Derived.Deep.QuietTactic
import Derived.BigQuiet
import Derived.Laws.Cover3
set_option linter.unusedVariables false
namespace Go.Proofs.Ytiefhmbffmphdaa
open Go.RowKit
def cmpI (x y : Int) : Int := if x < y then -1 else if y < x then 1 else 0
theorem nanI_any (x : Int) (w : World) : Calls Try.prog 30 #[.int .i64 x] w fun e w' => e = .returned (.bool false) ∧ w' = w := by
  go_enter Try.func30, Try.ntmps30
  go_wp2
  go_ret
  exact ⟨by simp, rfl⟩
set_option maxHeartbeats 1000000 in
theorem cmpI_any (x y : Int) (w : World) : Calls Try.prog 25 #[.int .i64 x, .int .i64 y] w fun e w' => e = .returned (.int .i64 (cmpI x y)) ∧ w' = w := by
  go_enter Try.func25, Try.ntmps25
  go_wp2_with (go_at_call 30; refine (nanI_any _ _).mono ?_; rintro e w' ⟨rfl, hw⟩; rw [hw])
  all_goals (go_ret; refine ⟨?_, rfl⟩; unfold cmpI; (repeat' split) <;> first | rfl | (exfalso; omega))
set_option maxHeartbeats 1000000 in
theorem older_any (a b : Nat) (ka ta pa kb tb pb : Int) (w : World) (ha : Bk w a 48 #[.int .i64 ka, .int .i64 ta, .int .i64 pa]) (hb : Bk w b 48 #[.int .i64 kb, .int .i64 tb, .int .i64 pb]) :
    Calls Try.prog 24 #[.pointer (some ⟨a, 0, none⟩), .pointer (some ⟨b, 0, none⟩)] w fun e w' => e = .returned (.int .i64 (cmpI ta tb)) ∧ ∃ q, w' = w.drewN q := by
  obtain ⟨c0, c1, c2⟩ := ha.cell3
  obtain ⟨d0, d1, d2⟩ := hb.cell3
  clear c0 c2 d0 d2
  have hcon := fun W' => cmpI_any ta tb W'
  generalize cmpI ta tb = r at hcon ⊢
  go_enter Try.func24, Try.ntmps24
  go_wp2_with fail
  go_quiet ((go_at_call 25; exact Calls.quiet_of_same (hcon _)))
  go_wp2_with fail
  go_ret
  exact ⟨rfl, _, rfl⟩
theorem ptr_one : ∀ (l : List Nat), ∀ u ∈ l.map (fun b => Value.pointer (some ⟨b, 0, none⟩)), u.oneCell' = true := by
  intro l u hu
  obtain ⟨b, _, rfl⟩ := List.mem_map.1 hu
  rfl
theorem eql_row (b o n cp : Nat) (w : World) : (binOp .eql 26 (.slice (some ⟨b, o, none⟩) n cp) (.slice none 0 0)).run Try.prog w = .ok (.bool false) w := by
  unfold binOp
  simp [run_equal_slice_nil w 26 45 _ _ _ Try.underlying26]
theorem clone_nil (w : World) : Calls Try.prog 22 #[.slice none 0 0] w fun e w' => e = .returned (.slice none 0 0) ∧ w = w' := by
  have hq : (binOp .eql 26 (.slice none 0 0) (.slice none 0 0)).run Try.prog w = .ok (.bool true) w := by
    unfold binOp
    simp [run_equal_slice_nil w 26 45 _ _ _ Try.underlying26]
  go_enter Try.func22, Try.ntmps22
  go_wp2_with fail
  go_returns
  exact ⟨rfl, rfl⟩
set_option maxRecDepth 100000 in
set_option maxHeartbeats 4000000 in
theorem clone_th (l : List Nat) (b o n cp : Nat) (w : World) {B : Nat} (hl : l.length = n) (hn : n ≤ 1000000) (hr : Rd w B (some ⟨b, o, none⟩) (l.map (fun b => Value.pointer (some ⟨b, 0, none⟩)))) (hB : B ≤ w.heap.size) :
    Calls Try.prog 22 #[.slice (some ⟨b, o, none⟩) n cp] w fun e w' => ∃ v, e = .returned v ∧ w'.ownsRow w.heap.size 45 1 v n (l.map (fun b => Value.pointer (some ⟨b, 0, none⟩))) ∧ Below w.heap.size w w' := by
  have hb0 := (Below.refl w.heap.size w).alloc (Nat.le_refl _) (.cells #[] 45)
  have hown0 : (w.alloc (.cells #[] 45)).ownsRow w.heap.size 45 1 (.slice (some ⟨w.heap.size, 0, none⟩) 0 0) 0 [] := by
    simpa using own_of_Bk (base := w.heap.size) (Bk.new w 45 #[]) 0 rfl (by omega) (Nat.le_refl _)
  have hr1 := hr.alloc hB (.cells #[] 45)
  have HLn := Lib.hid hl
  have hq := eql_row b o n cp
  clear hl
  go_enter Try.func22, Try.ntmps22
  go_wp2_with (at_builtin; refine appR rfl _ _ _ rfl Try.underlying26 pt_info rfl (by omega) rfl rfl hown0 hb0 (Nat.le_refl _) (by simp) hr1 (by simp [HLn.out]) (ptr_one l) (by omega) (by omega) ?_; intro v1 w1 hown1 hb1 _ _ _)
  go_returns
  rw [Nat.zero_add, List.nil_append] at hown1
  exact ⟨_, rfl, hown1, hb1⟩
end Go.Proofs.Ytiefhmbffmphdaa
