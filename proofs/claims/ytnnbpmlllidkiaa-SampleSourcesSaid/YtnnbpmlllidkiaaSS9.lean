/- SampleSources: bytes alike, few, the chapter's example. -/
import Derived.Test.YtnnbpmlllidkiaaSS8
import Derived.Laws.BytesArg
set_option linter.unusedVariables false
namespace Go.Proofs.Ytnnbpmlllidkiaa
open Go.RowKit
theorem conv_bytes (l : List Int) (A : Option Addr) (n c : Nat) (w : World) {B : Nat} (hn : l.length = n) (hr : Rd w B A (l.map (Value.int .u8))) : (convert 30 9 (.slice A n c)).run Try.prog w = .ok (.string (strOfNums l)) w := by
  rcases Nat.eq_zero_or_pos n with h0 | h0
  · subst h0
    obtain rfl : l = [] := List.eq_nil_of_length_eq_zero hn
    cases A with
    | none => exact run_convert_bytes_nil w _ _ Try.underlying30 Try.underlying5 _ _ _ Try.underlying9
    | some a =>
      rw [run_convert_bytes_string w _ _ _ _ 0 c Try.underlying30 Try.underlying5 Try.underlying9]
      rw [run_bytesToString w _ 0 c [] (by simp [loadCells, loadCellsFrom])]
      rfl
  · obtain ⟨b, o, rfl, _⟩ := hr.get 0 (by simp; omega)
    refine run_convert_bytes_arg w _ _ Try.underlying30 Try.underlying5 b o n c l hn (fun i hi => ?_) _ Try.underlying9
    obtain ⟨b', o', e, _, hc⟩ := hr.get i (by simp; omega)
    injection e with e; injection e with e1 e2
    subst e1; subst e2
    rw [hc]
    simp [List.getD, List.getElem?_eq_getElem (show i < l.length by omega)]
theorem same14 (l : List Int) (A A' : Option Addr) (n c c' : Nat) (w : World) {B B' : Nat} (hn : l.length = n) (hr : Rd w B A (l.map (Value.int .u8))) (hr' : Rd w B' A' (l.map (Value.int .u8))) :
    Calls Try.prog 12 #[.slice A n c, .slice A' n c'] w fun e w' => e = .returned (.bool true) ∧ Below w.heap.size w w' := by
  have h1 := conv_bytes l A n c w hn hr
  have h2 := conv_bytes l A' n c' w hn hr'
  generalize strOfNums l = s at *
  clear hn hr hr'
  go_enter Try.func12, Try.ntmps12
  go_wp2_with fail
  go_returns
  exact ⟨ret_bool (by simp), by go_grown⟩
theorem fewi_any (m : Im) (A : Option Addr) (cp : Nat) (z : Int) (w : World) : Calls Try.prog 13 #[.agg #[.int .i64 m.W, .int .i64 m.H, .int .i64 m.C, .slice A m.px.length cp], .int .i64 z] w fun e w' => e = .returned (.bool (decide ((m.px.length : Int) ≤ z))) ∧ Below w.heap.size w w' := by
  go_enter Try.func13, Try.ntmps13
  go_wp2
  go_returns
  exact ⟨rfl, by go_grown⟩
def fewB (ims : List Im) : Bool := ims.all fun m => decide ((m.px.length : Int) ≤ 3000)
theorem few_snoc {ims : List Im} {k : Nat} (hk : k < ims.length) : fewB (ims.drop k) = (decide ((ims[k].px.length : Int) ≤ 3000) && fewB (ims.drop (k + 1))) := by
  rw [List.drop_eq_getElem_cons hk]; rfl
set_option maxRecDepth 100000 in
set_option maxHeartbeats 4000000 in
theorem few_any (ims : List Im) (A : Option Addr) (n c lo : Nat) (w : World) (hn : ims.length = n) (hA : ImsAt w lo A ims) (hnb : n ≤ 9223372036854775807) :
    Calls Try.prog 4 #[.slice A n c] w fun e w' => e = .returned (.bool (fewB ims && decide ((n : Int) ≤ 8))) ∧ Below w.heap.size w w' := by
  go_enter Try.func4, Try.ntmps4
  go_wp2_with fail
  go_loopw [7] (fun i wr => ∃ k : Nat, k ≤ n ∧ i = .int .i64 k ∧ Below w.heap.size w wr ∧ fewB ims = fewB (ims.drop k)) (fun i _ => n - (intOf i).toNat)
  case atStart => exact ⟨0, by omega, rfl, Below.refl _ _, by simp⟩
  case round =>
    obtain ⟨k, hk, rfl, hbel, hdr⟩ := hrel
    have HD := Lib.hid hdr
    clear hdr
    by_cases hlt : k < n
    · have hk2 : k < ims.length := by omega
      have HS := Lib.hid (few_snoc hk2)
      obtain ⟨b, o, Ai, ci, rfl, _, hbw', q0, q1, q2, q3, hci, hri⟩ := (hA.nx hbel (Nat.le_refl _)).get k hk2
      generalize ims[k] = m at *
      have hbw2 := hbel.size
      have hF := fun w => fewi_any m Ai ci 3000 w
      cases hq : decide ((m.px.length : Int) ≤ 3000) with
      | true =>
        rw [hq] at hF HS
        clear hq
        go_wp2_with (go_at_call 13; (with_reducible refine (hF _).mono ?_); rintro e w2 ⟨rfl, hb2⟩)
        exact ⟨⟨k + 1, by omega, by go_num, hbel.trans (((Below.refl _ _).alloc (Nat.le_refl _) _).trans (hb2.mono (by simp)) |>.mono hbw2), by rw [HD.out, HS.out]; rfl⟩, by simp [intOf]; omega⟩
      | false =>
        rw [hq] at hF HS
        clear hq
        go_wp2_with (go_at_call 13; (with_reducible refine (hF _).mono ?_); rintro e w2 ⟨rfl, hb2⟩)
        go_returns
        exact ⟨ret_bool (by rw [HD.out, HS.out]; rfl), hbel.trans (((Below.refl _ _).alloc (Nat.le_refl _) _).trans (hb2.mono (by simp)) |>.mono hbw2)⟩
    · obtain rfl : k = n := by omega
      have hz := HD.out
      rw [List.drop_of_length_le (by omega)] at hz
      have HZ := Lib.hid hz
      clear hz hlt
      go_wp2_with fail
      go_returns
      exact ⟨ret_bool (by rw [HZ.out]; simp [fewB]), hbel⟩
theorem alive33 (w : World) : Calls Try.prog 10 #[] w fun e w' => e = .returned (.bool true) ∧ Below w.heap.size w w' := by
  have hN : Calls Try.prog 20 #[.int .i64 2] w fun e w' => e = .returned (.string sCubic) ∧ Below w.heap.size w w' := name_any 2 w
  have hs : (sCubic.toList == [99, 117, 98, 105, 99]) = true := by decide +kernel
  go_enter Try.func10, Try.ntmps10
  go_wp2_with (go_at_call 20; (with_reducible refine hN.mono ?_); rintro e w2 ⟨rfl, hb2⟩)
  go_returns
  exact ⟨rfl, hb2⟩
end Go.Proofs.Ytnnbpmlllidkiaa
