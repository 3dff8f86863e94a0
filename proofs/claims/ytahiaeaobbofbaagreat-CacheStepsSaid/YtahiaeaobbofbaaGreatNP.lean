/- What a transform's map answers (the bundles MapFn, NewIs, NewMp); xform.Check, Size and Kind out of them. -/
import Derived.Test.YtahiaeaobbofbaaGreatQTail
import Derived.Deep.QuietTactic
import Derived.BigQuiet
import Derived.Deep.Cut
import Derived.Deep.DeepCutAuto
import Derived.Test.YtahiaeaobbofbaaGreatLie
import Derived.Test.YtahiaeaobbofbaaGreatOpen
set_option linter.unusedVariables false
namespace Go.Proofs.YtahiaeaobbofbaaGreat
open Go.RowKit
theorem run_maxM {P : Program} {w : World} (ts : Array TypeId) (t : TypeId) (k k' : IntKind) (x y : Int) : (Builtin.max_ ts t #[.int k x, .int k' y]).run P w = .ok (.int k (max x y)) w := by
  rw [run_max_int2]
  congr 2
  split <;> omega
theorem run_minM {P : Program} {w : World} (ts : Array TypeId) (t : TypeId) (k k' : IntKind) (x y : Int) : (Builtin.min_ ts t #[.int k x, .int k' y]).run P w = .ok (.int k (min x y)) w := by
  rw [run_min_int2]
  congr 2
  split <;> omega
theorem Bk.same {w w' : World} {g : Nat} {t : TypeId} {cs : Array Value} (h : Bk w g t cs) (e : w'.heap[g]? = w.heap[g]?) : Bk w' g t cs := e.trans h
abbrev xfV (k : Int) (A : Option Addr) (n cp : Nat) : Value := .agg #[.int .i64 k, .slice A n cp]
/-- Nothing is asked of the map here. -/
def MapFn (lo hi : Nat) (w : World) (p : Option Addr) (F G E : Int → Int → Int → Int) : Prop := True
end Go.Proofs.YtahiaeaobbofbaaGreat
