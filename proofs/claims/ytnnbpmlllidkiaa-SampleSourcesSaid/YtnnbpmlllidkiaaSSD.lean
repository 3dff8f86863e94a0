/- Which method a source of images calls. -/
import Derived.Test.YtnnbpmlllidkiaaSS5
set_option linter.unusedVariables false
namespace Go.Proofs.Ytnnbpmlllidkiaa
open Go.RowKit
theorem me_finds (nm : String) (f : FuncId) (h : ((Try.t52.methods.find? (fun x => x.name == nm)).map fun m => (m.path, m.func)) = some (#[], some (f, false))) : ∃ m, Try.t52.methods.find? (fun x => x.name == nm) = some m ∧ m.path = #[] ∧ m.func = some (f, false) := by
  obtain ⟨m, hm, e⟩ := Option.map_eq_some_iff.1 h
  injection e with e1 e2
  exact ⟨m, hm, e1, e2⟩
theorem me_levels (v : Value) (w : World) : (method 241 52 v "Levels").run Try.prog w = .ok (79, v) w := by
  obtain ⟨m, hm, hp, hf⟩ := me_finds "Levels" 79 (by kernel_rfl)
  unfold method
  simp [follow, receiverAt, Place.get, hm, hp, hf]
theorem me_size (v : Value) (w : World) : (method 241 52 v "Size").run Try.prog w = .ok (81, v) w := by
  obtain ⟨m, hm, hp, hf⟩ := me_finds "Size" 81 (by kernel_rfl)
  unfold method
  simp [follow, receiverAt, Place.get, hm, hp, hf]
theorem me_channels (v : Value) (w : World) : (method 241 52 v "Channels").run Try.prog w = .ok (78, v) w := by
  obtain ⟨m, hm, hp, hf⟩ := me_finds "Channels" 78 (by kernel_rfl)
  unfold method
  simp [follow, receiverAt, Place.get, hm, hp, hf]
theorem me_read (v : Value) (w : World) : (method 241 52 v "Read").run Try.prog w = .ok (80, v) w := by
  obtain ⟨m, hm, hp, hf⟩ := me_finds "Read" 80 (by kernel_rfl)
  unfold method
  simp [follow, receiverAt, Place.get, hm, hp, hf]
end Go.Proofs.Ytnnbpmlllidkiaa
