/- Which method a source of images calls. -/
import Derived.Test.YthgcfahacoonaaaGreatSS5
set_option linter.unusedVariables false
namespace Go.Proofs.YthgcfahacoonaaaGreat
open Go.RowKit
theorem me_finds (nm : String) (f : FuncId) (h : ((Tryz.t65.methods.find? (fun x => x.name == nm)).map fun m => (m.path, m.func)) = some (#[], some (f, false))) : ∃ m, Tryz.t65.methods.find? (fun x => x.name == nm) = some m ∧ m.path = #[] ∧ m.func = some (f, false) := by
  obtain ⟨m, hm, e⟩ := Option.map_eq_some_iff.1 h
  injection e with e1 e2
  exact ⟨m, hm, e1, e2⟩
theorem me_size (v : Value) (w : World) : (method 444 65 v "Size").run Tryz.prog w = .ok (276, v) w := by
  obtain ⟨m, hm, hp, hf⟩ := me_finds "Size" 276 (by kernel_rfl)
  unfold method
  simp [follow, receiverAt, Place.get, hm, hp, hf]
theorem me_channels (v : Value) (w : World) : (method 444 65 v "Channels").run Tryz.prog w = .ok (273, v) w := by
  obtain ⟨m, hm, hp, hf⟩ := me_finds "Channels" 273 (by kernel_rfl)
  unfold method
  simp [follow, receiverAt, Place.get, hm, hp, hf]
theorem me_read (v : Value) (w : World) : (method 444 65 v "Read").run Tryz.prog w = .ok (275, v) w := by
  obtain ⟨m, hm, hp, hf⟩ := me_finds "Read" 275 (by kernel_rfl)
  unfold method
  simp [follow, receiverAt, Place.get, hm, hp, hf]
end Go.Proofs.YthgcfahacoonaaaGreat
