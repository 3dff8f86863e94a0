/- SampleSources: bytes alike, few, the chapter's example. -/
import Derived.Test.YtahiaeaobbofbaaGreatSS8
import Derived.Laws.BytesArg
set_option linter.unusedVariables false
namespace Go.Proofs.YtahiaeaobbofbaaGreat
open Go.RowKit
theorem conv_bytes (l : List Int) (A : Option Addr) (n c : Nat) (w : World) {B : Nat} (hn : l.length = n) (hr : Rd w B A (l.map (Value.int .u8))) : (convert 42 9 (.slice A n c)).run Tryz.prog w = .ok (.string (strOfNums l)) w := by
  rcases Nat.eq_zero_or_pos n with h0 | h0
  · subst h0
    obtain rfl : l = [] := List.eq_nil_of_length_eq_zero hn
    cases A with
    | none => exact run_convert_bytes_nil w _ _ Tryz.underlying42 Tryz.underlying5 _ _ _ Tryz.underlying9
    | some a =>
      rw [run_convert_bytes_string w _ _ _ _ 0 c Tryz.underlying42 Tryz.underlying5 Tryz.underlying9]
      rw [run_bytesToString w _ 0 c [] (by simp [loadCells, loadCellsFrom])]
      rfl
  · obtain ⟨b, o, rfl, _⟩ := hr.get 0 (by simp; omega)
    refine run_convert_bytes_arg w _ _ Tryz.underlying42 Tryz.underlying5 b o n c l hn (fun i hi => ?_) _ Tryz.underlying9
    obtain ⟨b', o', e, _, hc⟩ := hr.get i (by simp; omega)
    injection e with e; injection e with e1 e2
    subst e1; subst e2
    rw [hc]
    simp [List.getD, List.getElem?_eq_getElem (show i < l.length by omega)]
theorem same14 (l : List Int) (A A' : Option Addr) (n c c' : Nat) (w : World) {B B' : Nat} (hn : l.length = n) (hr : Rd w B A (l.map (Value.int .u8))) (hr' : Rd w B' A' (l.map (Value.int .u8))) :
    Calls Tryz.prog 19 #[.slice A n c, .slice A' n c'] w fun e w' => e = .returned (.bool true) ∧ Below w.heap.size w w' := by
  have h1 := conv_bytes l A n c w hn hr
  have h2 := conv_bytes l A' n c' w hn hr'
  generalize strOfNums l = s at *
  clear hn hr hr'
  go_enter Tryz.func19, Tryz.ntmps19
  go_wp2_with fail
  go_returns
  exact ⟨ret_bool (by simp), by go_grown⟩
theorem fewi_any (m : Im) (A : Option Addr) (cp : Nat) (z : Int) (w : World) : Calls Tryz.prog 26 #[.agg #[.int .i64 m.W, .int .i64 m.H, .int .i64 m.C, .slice A m.px.length cp], .int .i64 z] w fun e w' => e = .returned (.bool (decide ((m.px.length : Int) ≤ z))) ∧ Below w.heap.size w w' := by
  go_enter Tryz.func26, Tryz.ntmps26
  go_wp2
  go_returns
  exact ⟨rfl, by go_grown⟩
def fewB (ims : List Im) : Bool := ims.all fun m => decide ((m.px.length : Int) ≤ 3000)
theorem few_snoc {ims : List Im} {k : Nat} (hk : k < ims.length) : fewB (ims.drop k) = (decide ((ims[k].px.length : Int) ≤ 3000) && fewB (ims.drop (k + 1))) := by
  rw [List.drop_eq_getElem_cons hk]; rfl
end Go.Proofs.YtahiaeaobbofbaaGreat
