/- What a transform's map answers (the bundles MapFn, NewIs, NewMp); xform.Check, Size and Kind out of them. -/
import Derived.Test.YtencbfmcmpmdnaaGreatDoorQTail
import Derived.Deep.QuietTactic
import Derived.BigQuiet
import Derived.Deep.Cut
import Derived.Deep.DeepCutAuto
import Derived.Test.YtencbfmcmpmdnaaGreatDoorLie
import Derived.Test.YtencbfmcmpmdnaaGreatDoorOpen
set_option linter.unusedVariables false
namespace Go.Proofs.YtencbfmcmpmdnaaGreatDoor
open Go.RowKit
theorem run_maxM {P : Program} {w : World} (ts : Array TypeId) (t : TypeId) (k k' : IntKind) (x y : Int) : (Builtin.max_ ts t #[.int k x, .int k' y]).run P w = .ok (.int k (max x y)) w := by
  rw [run_max_int2]
  congr 2
  split <;> omega
theorem run_minM {P : Program} {w : World} (ts : Array TypeId) (t : TypeId) (k k' : IntKind) (x y : Int) : (Builtin.min_ ts t #[.int k x, .int k' y]).run P w = .ok (.int k (min x y)) w := by
  rw [run_min_int2]
  congr 2
  split <;> omega
theorem Bk.same {w w' : World} {g : Nat} {t : TypeId} {cs : Array Value} (h : Bk w g t cs) (e : w'.heap[g]? = w.heap[g]?) : Bk w' g t cs := e.trans h
abbrev xfV (k : Int) (A : Option Addr) (n cp : Nat) : Value := .agg #[.int .i64 k, .slice A n cp]
/-- Nothing is asked of the map here. -/
def MapFn (lo hi : Nat) (w : World) (p : Option Addr) (F G E : Int → Int → Int → Int) : Prop := True
/-- What xform.New answers of a transform: its code C, and, if that is 0, a map that answers F, G, E. -/
def NewIs (k : Int) (A : Option Addr) (sn cp : Nat) (W H : Int) (w : World) (C : Int) (F G E : Int → Int → Int → Int) : Prop :=
  ∀ w', Below w.heap.size w w' → Calls Tryz.prog 31 #[.agg #[.int .i64 k, .slice A sn cp], .int .i64 W, .int .i64 H] w' fun e w'' => ∃ p, e = .returned (.tuple #[.pointer p, .int .i64 C]) ∧ (C ≠ 0 → p = none) ∧ (C = 0 → MapFn w'.heap.size w''.heap.size w'' p F G E) ∧ Below w'.heap.size w' w''
theorem NewIs.nx {k : Int} {A : Option Addr} {sn cp : Nat} {W H : Int} {w w' : World} {C : Int} {F G E : Int → Int → Int → Int} (h : NewIs k A sn cp W H w C F G E) (hb : Below w.heap.size w w') : NewIs k A sn cp W H w' C F G E :=
  fun w'' hb' => h w'' (hb.trans (hb'.mono hb.size))
/-- What xform.New answers of a transform: its code, and, if that is 0, a map that answers F, G, E and holds its kind and size. -/
def NewMp (k : Int) (A : Option Addr) (sn cp : Nat) (W H : Int) (w : World) (C : Int) (F G E : Int → Int → Int → Int) : Prop :=
  ∀ w', Below w.heap.size w w' → Calls Tryz.prog 31 #[.agg #[.int .i64 k, .slice A sn cp], .int .i64 W, .int .i64 H] w' fun e w'' => ∃ p, e = .returned (.tuple #[.pointer p, .int .i64 C]) ∧ (C ≠ 0 → p = none) ∧ (C = 0 → MapFn w'.heap.size w''.heap.size w'' p F G E ∧ ∃ q, p = some ⟨q, 0, none⟩ ∧ w'.heap.size ≤ q ∧ ∃ v, Bk w'' q 92 #[.int .i64 k, .int .i64 W, .int .i64 H, v]) ∧ Below w'.heap.size w' w''
theorem NewMp.is {k : Int} {A : Option Addr} {sn cp : Nat} {W H : Int} {w : World} {C : Int} {F G E : Int → Int → Int → Int} (h : NewMp k A sn cp W H w C F G E) : NewIs k A sn cp W H w C F G E := fun w' hb =>
  (h w' hb).mono fun _ _ ⟨p, h1, h2, h3, h4⟩ => ⟨p, h1, h2, fun hc => (h3 hc).1, h4⟩
set_option maxRecDepth 100000 in
set_option maxHeartbeats 4000000 in
theorem xcheck_any (k : Int) (A : Option Addr) (n cp : Nat) (W H C : Int) (F G E : Int → Int → Int → Int) (w : World) (hN : NewIs k A n cp W H w C F G E) :
    Calls Tryz.prog 19 #[xfV k A n cp, .int .i64 W, .int .i64 H] w fun e w' => e = .returned (.int .i64 C) ∧ Below w.heap.size w w' := by
  have hb := (Below.refl w.heap.size w).alloc (Nat.le_refl _) (.cells #[.int .i64 k, .slice A n cp] 24)
  have hN1 := hN _ hb
  have hBs := hb.size
  go_enter Tryz.func19, Tryz.ntmps19
  go_wp2_with (go_at_call 31; (with_reducible refine hN1.mono ?_); rintro e w1 ⟨p, rfl, _, _, hb1⟩)
  go_returns
  exact ⟨rfl, hb.trans (hb1.mono hBs)⟩
end Go.Proofs.YtencbfmcmpmdnaaGreatDoor
