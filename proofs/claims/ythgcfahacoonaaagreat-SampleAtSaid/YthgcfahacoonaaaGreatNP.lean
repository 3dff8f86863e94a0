/- What a transform's map answers (the bundles MapFn, NewIs, NewMp); xform.Check, Size and Kind out of them. -/
import Derived.Test.YthgcfahacoonaaaGreatQTail
import Derived.Deep.QuietTactic
import Derived.BigQuiet
import Derived.Deep.Cut
import Derived.Deep.DeepCutAuto
import Derived.Test.YthgcfahacoonaaaGreatLie
import Derived.Test.YthgcfahacoonaaaGreatOpen
set_option linter.unusedVariables false
namespace Go.Proofs.YthgcfahacoonaaaGreat
open Go.RowKit
theorem run_maxM {P : Program} {w : World} (ts : Array TypeId) (t : TypeId) (k k' : IntKind) (x y : Int) : (Builtin.max_ ts t #[.int k x, .int k' y]).run P w = .ok (.int k (max x y)) w := by
  rw [run_max_int2]
  congr 2
  split <;> omega
theorem run_minM {P : Program} {w : World} (ts : Array TypeId) (t : TypeId) (k k' : IntKind) (x y : Int) : (Builtin.min_ ts t #[.int k x, .int k' y]).run P w = .ok (.int k (min x y)) w := by
  rw [run_min_int2]
  congr 2
  split <;> omega
theorem Bk.same {w w' : World} {g : Nat} {t : TypeId} {cs : Array Value} (h : Bk w g t cs) (e : w'.heap[g]? = w.heap[g]?) : Bk w' g t cs := e.trans h
abbrev xfV (k : Int) (A : Option Addr) (n cp : Nat) : Value := .agg #[.int .i64 k, .slice A n cp]
/-- What a map answers: in every world in which the blocks from lo to hi lie as in w. -/
def MapFn (lo hi : Nat) (w : World) (p : Option Addr) (F G E : Int → Int → Int → Int) : Prop :=
  ∀ w' : World, hi ≤ w'.heap.size → (∀ i, lo ≤ i → i < hi → w'.heap[i]? = w.heap[i]?) → ∀ x y d, Calls Tryz.prog 38 #[.pointer p, .int .i64 x, .int .i64 y, .int .i64 d] w' fun e w'' => e = .returned (.tuple #[.int .i64 (F x y d), .int .i64 (G x y d), .int .i64 (E x y d)]) ∧ Below w'.heap.size w' w''
theorem MapFn.at {lo : Nat} {w w' : World} {p : Option Addr} {F G E : Int → Int → Int → Int} (h : MapFn lo w.heap.size w p F G E) (hb : Below w.heap.size w w') (x y d : Int) :
    Calls Tryz.prog 38 #[.pointer p, .int .i64 x, .int .i64 y, .int .i64 d] w' fun e w'' => e = .returned (.tuple #[.int .i64 (F x y d), .int .i64 (G x y d), .int .i64 (E x y d)]) ∧ Below w'.heap.size w' w'' :=
  h w' hb.size (fun i _ hi => hb.block i hi) x y d
/-- What xform.New answers of a transform: its code C, and, if that is 0, a map that answers F, G, E. -/
def NewIs (k : Int) (A : Option Addr) (sn cp : Nat) (W H : Int) (w : World) (C : Int) (F G E : Int → Int → Int → Int) : Prop :=
  ∀ w', Below w.heap.size w w' → Calls Tryz.prog 15 #[.agg #[.int .i64 k, .slice A sn cp], .int .i64 W, .int .i64 H] w' fun e w'' => ∃ p, e = .returned (.tuple #[.pointer p, .int .i64 C]) ∧ (C ≠ 0 → p = none) ∧ (C = 0 → MapFn w'.heap.size w''.heap.size w'' p F G E) ∧ Below w'.heap.size w' w''
theorem NewIs.nx {k : Int} {A : Option Addr} {sn cp : Nat} {W H : Int} {w w' : World} {C : Int} {F G E : Int → Int → Int → Int} (h : NewIs k A sn cp W H w C F G E) (hb : Below w.heap.size w w') : NewIs k A sn cp W H w' C F G E :=
  fun w'' hb' => h w'' (hb.trans (hb'.mono hb.size))
/-- What xform.New answers of a transform: its code, and, if that is 0, a map that answers F, G, E and holds its kind and size. -/
def NewMp (k : Int) (A : Option Addr) (sn cp : Nat) (W H : Int) (w : World) (C : Int) (F G E : Int → Int → Int → Int) : Prop :=
  ∀ w', Below w.heap.size w w' → Calls Tryz.prog 15 #[.agg #[.int .i64 k, .slice A sn cp], .int .i64 W, .int .i64 H] w' fun e w'' => ∃ p, e = .returned (.tuple #[.pointer p, .int .i64 C]) ∧ (C ≠ 0 → p = none) ∧ (C = 0 → MapFn w'.heap.size w''.heap.size w'' p F G E ∧ ∃ q, p = some ⟨q, 0, none⟩ ∧ w'.heap.size ≤ q ∧ ∃ v, Bk w'' q 89 #[.int .i64 k, .int .i64 W, .int .i64 H, v]) ∧ Below w'.heap.size w' w''
theorem NewMp.is {k : Int} {A : Option Addr} {sn cp : Nat} {W H : Int} {w : World} {C : Int} {F G E : Int → Int → Int → Int} (h : NewMp k A sn cp W H w C F G E) : NewIs k A sn cp W H w C F G E := fun w' hb =>
  (h w' hb).mono fun _ _ ⟨p, h1, h2, h3, h4⟩ => ⟨p, h1, h2, fun hc => (h3 hc).1, h4⟩
theorem xsize_nil (w : World) : Calls Tryz.prog 127 #[.pointer none] w fun e w' => e = .returned (.tuple #[.int .i64 0, .int .i64 0]) ∧ w = w' := by
  go_enter Tryz.func127, Tryz.ntmps127
  go_wp2_with fail
  go_returns
  exact ⟨rfl, rfl⟩
theorem xsize_at (k W H : Int) (v : Value) (q : Nat) (w : World) (hK : Bk w q 89 #[.int .i64 k, .int .i64 W, .int .i64 H, v]) : Calls Tryz.prog 127 #[.pointer (some ⟨q, 0, none⟩)] w fun e w' => e = .returned (.tuple #[.int .i64 W, .int .i64 H]) ∧ Below w.heap.size w w' := by
  have hb := Below.refl w.heap.size w
  obtain ⟨c0, c1, c2, c3⟩ := hK.cell4
  clear hK
  go_enter Tryz.func127, Tryz.ntmps127
  go_upto_region 3 with fail
  go_quiet (fail)
  go_wp2_with fail
  go_returns
  exact ⟨rfl, below_drewN hb _⟩
set_option maxRecDepth 100000 in
set_option maxHeartbeats 4000000 in
theorem xat_nil (x y d : Int) (w : World) : Calls Tryz.prog 38 #[.pointer none, .int .i64 x, .int .i64 y, .int .i64 d] w fun e w' =>
    e = .returned (.tuple #[.int .i64 0, .int .i64 0, .int .i64 10]) ∧ w = w' := by
  go_enter Tryz.func38, Tryz.ntmps38
  go_wp2_with fail
  go_returns
  exact ⟨rfl, rfl⟩
end Go.Proofs.YthgcfahacoonaaaGreat
