/- slices.Clone of numbers, homog.Of. -/
import Derived.Test.YtebcienjeponmaaHp0
import Derived.Laws.Cover3
set_option linter.unusedVariables false
namespace Go.Proofs.Ytebcienjeponmaa
open Go.RowKit
theorem eql_nil (b o n cp : Nat) (w : World) : (binOp .eql 22 (.slice (some ⟨b, o, none⟩) n cp) (.slice none 0 0)).run Try.prog w = .ok (.bool false) w := by
  unfold binOp
  simp [run_equal_slice_nil w 22 2 _ _ _ Try.underlying22]
theorem i64_info3 : (Try.prog.info? 2).map (fun i => (i.zero, i.size, i.bytes)) = some (some (.int .i64 0), 1, 8) := by kernel_rfl
set_option maxRecDepth 100000 in
set_option maxHeartbeats 4000000 in
theorem clone_any (l : List Int) (b o n cp : Nat) (w : World) {B : Nat} (hl : l.length = n) (hn : n ≤ 100000) (hr : Rd w B (some ⟨b, o, none⟩) (l.map (Value.int .i64))) (hB : B ≤ w.heap.size) :
    Calls Try.prog 46 #[.slice (some ⟨b, o, none⟩) n cp] w fun e w' => ∃ v, e = .returned v ∧ w'.ownsRow w.heap.size 2 1 v n (l.map (Value.int .i64)) ∧ Below w.heap.size w w' := by
  have hb0 := (Below.refl w.heap.size w).alloc (Nat.le_refl _) (.cells #[] 2)
  have hown0 : (w.alloc (.cells #[] 2)).ownsRow w.heap.size 2 1 (.slice (some ⟨w.heap.size, 0, none⟩) 0 0) 0 [] := by
    simpa using own_of_Bk (base := w.heap.size) (Bk.new w 2 #[]) 0 rfl (by omega) (Nat.le_refl _)
  have hr1 := hr.alloc hB (.cells #[] 2)
  have HLn := Lib.hid hl
  have hq := eql_nil b o n cp
  clear hl
  go_enter Try.func46, Try.ntmps46
  go_wp2_with (at_builtin; refine appR rfl _ _ _ rfl Try.underlying22 i64_info3 rfl (by omega) rfl rfl hown0 hb0 (Nat.le_refl _) (by simp) hr1 (by simp [HLn.out]) (intsL l) (by omega) (by omega) ?_; intro v1 w1 hown1 hb1 _ _ _)
  go_returns
  rw [Nat.zero_add, List.nil_append] at hown1
  exact ⟨_, rfl, hown1, hb1⟩
set_option maxRecDepth 100000 in
set_option maxHeartbeats 4000000 in
theorem of_six (l : List Int) (A : Option Addr) (cp : Nat) (w : World) {B : Nat} (hl : l.length = 6) (hr : Rd w B A (l.map (Value.int .i64))) (hB : B ≤ w.heap.size) :
    Calls Try.prog 22 #[.slice A 6 cp] w fun e w' => ∃ v, e = .returned v ∧ w'.ownsRow w.heap.size 2 1 v 9 ((nine l).map (Value.int .i64)) ∧ Below w.heap.size w w' := by
  obtain ⟨b, o, rfl, hb, hq⟩ := hr.get 0 (by simp [hl])
  have hC := clone_any l b o 6 cp w hl (by decide) hr hB
  clear hq hl
  go_enter Try.func22, Try.ntmps22
  go_wp2_with fail
  refine hC.mono ?_
  rintro e w1 ⟨v, rfl, hown, hb1⟩
  have hsz := hb1.size
  have hown1 := hown.alloc (.cells #[.int .i64 0, .int .i64 0, .int .i64 65536] 2)
  have hb2 := hb1.alloc hsz (.cells #[.int .i64 0, .int .i64 0, .int .i64 65536] 2)
  have hr1 : Rd (w1.alloc (.cells #[.int .i64 0, .int .i64 0, .int .i64 65536] 2)) (w1.alloc (.cells #[.int .i64 0, .int .i64 0, .int .i64 65536] 2)).heap.size (some ⟨w1.heap.size, 0, none⟩) ([0, 0, 65536].map (Value.int .i64)) := by
    have := own_of_Bk (base := w1.heap.size) (Bk.new w1 2 #[.int .i64 0, .int .i64 0, .int .i64 65536]) 3 rfl (by omega) (Nat.le_refl _)
    exact Rd.of_own (c := 3) (n := 3) (size := 1) (by simpa using this)
  have hsz2 : w.heap.size ≤ (w1.alloc (.cells #[.int .i64 0, .int .i64 0, .int .i64 65536] 2)).heap.size := by simp; omega
  clear hown hb1 hC
  go_wp2_with (at_builtin; refine appR rfl _ _ _ rfl Try.underlying22 i64_info3 rfl (by omega) rfl rfl hown1 hb2 (Nat.le_refl _) hsz2 hr1 rfl (intsL _) (by omega) (by omega) ?_; intro v1 w2 hown2 hb3 _ _ _)
  go_returns
  exact ⟨_, rfl, by rw [nine, List.map_append]; exact hown2, hb3⟩
set_option maxHeartbeats 1000000 in
theorem of_else (A : Option Addr) (n cp : Nat) (w : World) (hn : n ≠ 6) :
    Calls Try.prog 22 #[.slice A n cp] w fun e w' => e = .returned (.slice none 0 0) ∧ w = w' := by
  have hnb : ((n : Int) != 6) = true := by rw [bne_iff_ne]; omega
  clear hn
  go_enter Try.func22, Try.ntmps22
  go_wp2_with fail
  all_goals first
    | (go_ret; exact ⟨rfl, rfl⟩)
    | (exfalso; omega)
end Go.Proofs.Ytebcienjeponmaa
