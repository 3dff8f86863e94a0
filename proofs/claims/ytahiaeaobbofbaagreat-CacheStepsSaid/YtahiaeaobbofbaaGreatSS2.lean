/- The sources' images: clones of bytes, what is wrong with several images, Of. -/
import Derived.Test.YtahiaeaobbofbaaGreatSS1
import Derived.Laws.Cover3
set_option linter.unusedVariables false
namespace Go.Proofs.YtahiaeaobbofbaaGreat
open Go.RowKit
set_option maxHeartbeats 1000000 in
theorem icheck_any (W H C : Int) (A : Option Addr) (n c : Nat) (w : World) :
    Calls Tryz.prog 50 #[.agg #[.int .i64 W, .int .i64 H, .int .i64 C, .slice A n c]] w fun e w' => e = .returned (.int .i64 (checkC W H C n)) ∧ Below w.heap.size w w' := by
  by_cases hf : fitsC W H C = 0
  · obtain ⟨hc, hw1, hw2, hh1, hh2, hp⟩ := fitsC_ok hf
    have hp0 := mul_bd W H (by omega) (by omega) hw2 hh2
    have hp3 := mul3_bd W H C (by omega) hp (by omega) (by omega)
    by_cases hn : (n : Int) = W * H * C
    all_goals
      have hfb : (fitsC W H C != 0) = false := by simpa using hf
      have HF := Lib.hid hf
      clear hf hc
      go_enter Tryz.func50, Tryz.ntmps50
      go_wp2_with (go_at_call 71; refine (fits_any _ _ _ _).mono ?_; rintro e w' ⟨rfl, rfl⟩)
      go_returns
      exact ⟨ret_int (by unfold checkC; rw [HF.out]; first | (rw [if_pos ⟨rfl, by assumption⟩]) | (rw [if_neg (by omega)])), by go_grown⟩
  · have hfb : (fitsC W H C != 0) = true := by simpa using hf
    have HF := Lib.hid hf
    clear hf
    go_enter Tryz.func50, Tryz.ntmps50
    go_wp2_with (go_at_call 71; refine (fits_any _ _ _ _).mono ?_; rintro e w' ⟨rfl, rfl⟩)
    go_returns
    exact ⟨ret_int (by unfold checkC; rw [if_neg (fun h => HF.out h.1)]), by go_grown⟩
theorem eql_u8s (a : Addr) (n cp : Nat) (w : World) : (binOp .eql 42 (.slice (some a) n cp) (.slice none 0 0)).run Tryz.prog w = .ok (.bool false) w := by
  unfold binOp
  simp [run_equal_slice_nil w 42 5 _ _ _ Tryz.underlying42]
theorem eql_u8n (n cp : Nat) (w : World) : (binOp .eql 42 (.slice none n cp) (.slice none 0 0)).run Tryz.prog w = .ok (.bool true) w := by
  unfold binOp
  simp [run_equal_slice_nil w 42 5 _ _ _ Tryz.underlying42]
/-- A row of bytes of one's own. -/
def OwnU (L : List Int) (w : World) (e : Ending) (w' : World) : Prop := ∃ v, e = .returned v ∧ w'.ownsRow w.heap.size 5 1 v L.length (L.map (Value.int .u8)) ∧ Below w.heap.size w w'
set_option maxRecDepth 100000 in
set_option maxHeartbeats 4000000 in
theorem cloneu_some (l : List Int) (a : Addr) (n cp : Nat) (w : World) {B : Nat} (hl : l.length = n) (hn : n ≤ 1000000000) (hr : Rd w B (some a) (l.map (Value.int .u8))) (hB : B ≤ w.heap.size) :
    Calls Tryz.prog 28 #[.slice (some a) n cp] w (OwnU l w) := by
  have hb0 := (Below.refl w.heap.size w).alloc (Nat.le_refl _) (.cells #[] 5)
  have hown0 : (w.alloc (.cells #[] 5)).ownsRow w.heap.size 5 1 (.slice (some ⟨w.heap.size, 0, none⟩) 0 0) 0 [] := by
    simpa using own_of_Bk (base := w.heap.size) (Bk.new w 5 #[]) 0 rfl (by omega) (Nat.le_refl _)
  have hr1 := hr.alloc hB (.cells #[] 5)
  have HLn := Lib.hid hl
  have hq := eql_u8s a n cp
  clear hl
  go_enter Tryz.func28, Tryz.ntmps28
  go_wp2_with (at_builtin; refine appR rfl _ _ _ rfl Tryz.underlying42 u8_info rfl (by omega) rfl rfl hown0 hb0 (Nat.le_refl _) (by simp) hr1 (by simp [HLn.out]) (intsL l) (by omega) (by omega) ?_; intro v1 w1 hown1 hb1 _ _ _)
  go_returns
  rw [Nat.zero_add, List.nil_append] at hown1
  exact ⟨_, rfl, by rw [HLn.out]; exact hown1, hb1⟩
theorem cloneu_none (n cp : Nat) (w : World) : Calls Tryz.prog 28 #[.slice none n cp] w fun e w' => e = .returned (.slice none 0 0) ∧ w = w' := by
  have hq := eql_u8n n cp
  go_enter Tryz.func28, Tryz.ntmps28
  go_wp2_with fail
  go_returns
  exact ⟨rfl, rfl⟩
theorem cloneu_any (l : List Int) (A : Option Addr) (n cp : Nat) (w : World) {B : Nat} (hl : l.length = n) (hn : n ≤ 1000000000) (hr : Rd w B A (l.map (Value.int .u8))) (hB : B ≤ w.heap.size) :
    Calls Tryz.prog 28 #[.slice A n cp] w (OwnU l w) := by
  cases A with
  | none =>
    have h0 : l = [] := by
      cases l with
      | nil => rfl
      | cons a r => obtain ⟨b, o, e, _⟩ := hr.get 0 (by simp); cases e
    subst h0
    refine (cloneu_none n cp w).mono ?_
    rintro e w' ⟨rfl, rfl⟩
    exact ⟨_, rfl, World.ownsRow_nil _ _ _ _, Below.refl _ _⟩
  | some a => exact cloneu_some l a n cp w hl hn hr hB
end Go.Proofs.YtahiaeaobbofbaaGreat
