/- The reference's numbers that lie in a variable's block: stores, loads, results. -/
import Derived.Test.YtencbfmcmpmdnaaGreatDoorRowG
set_option linter.unusedVariables false
namespace Go.Proofs.YtencbfmcmpmdnaaGreatDoor
open Go.RowKit
theorem big_size : (Tryz.prog.info? 71).map (·.size) = some 2 := by kernel_rfl
@[go_sem] theorem field_big0 (s : Bool) (A : Option Addr) (n c : Nat) (w : World) : (Instr.field 71 (.agg #[.bool s, .slice A n c]) 0).run Tryz.prog w = .ok (.bool s) w :=
  run_field1 (P := Tryz.prog) (T := 71) (i := 0) Tryz.underlying71 rfl Tryz.underlying4 rfl #[.bool s, .slice A n c] (.bool s) rfl w
@[go_sem] theorem field_big1 (s : Bool) (A : Option Addr) (n c : Nat) (w : World) : (Instr.field 71 (.agg #[.bool s, .slice A n c]) 1).run Tryz.prog w = .ok (.slice A n c) w :=
  run_field1 (P := Tryz.prog) (T := 71) (i := 1) Tryz.underlying71 rfl Tryz.underlying69 rfl #[.bool s, .slice A n c] (.slice A n c) rfl w
theorem stBig {ops : Array Oper} {rest : List Oper} {o : Oper} {a : Act} {w : World} {Q : Exit → Act → World → Prop} (hgd : o.guard = none) (x y : Operand) (ho : o.op = .store 71 x y)
    {g : Nat} {old : Array Value} (hK : Bk w g 71 old) (hold : old.size = 2) {s : Bool} {A : Option Addr} {n c : Nat} (hx : a.eval x = .pointer (some ⟨g, 0, none⟩)) (hy : a.eval y = .agg #[.bool s, .slice A n c])
    (h : ∀ w', Bk w' g 71 #[.bool s, .slice A n c] → w.grownBy w' (some g) → w'.heap.size = w.heap.size → wpList Tryz.prog ops Q rest (a.put o.dst undef) w') : wpList Tryz.prog ops Q (o :: rest) a w :=
  stB hgd _ x y ho hK _ hx hy big_size (by simpa using hold) (by simp [Value.oneCell']) h
theorem ldBig {ops : Array Oper} {rest : List Oper} {o : Oper} {a : Act} {w : World} {Q : Exit → Act → World → Prop} (hgd : o.guard = none) (x : Operand) (ho : o.op = .load 71 x)
    {g : Nat} {s : Bool} {A : Option Addr} {n c : Nat} (hK : Bk w g 71 #[.bool s, .slice A n c]) (hx : a.eval x = .pointer (some ⟨g, 0, none⟩))
    (h : wpList Tryz.prog ops Q rest (a.put o.dst (.agg #[.bool s, .slice A n c])) w) : wpList Tryz.prog ops Q (o :: rest) a w :=
  ldB hgd _ x ho hK hx Tryz.underlying71 rfl big_size h
theorem res_big {fn : Func} {p : Tmp} (h : fn.results = #[.cell p 71]) {tmps : Array Value} {w : World} {g : Nat} {s : Bool} {A : Option Addr} {n c : Nat} (hK : Bk w g 71 #[.bool s, .slice A n c])
    (hp : tmps.getD p undef = .pointer (some ⟨g, 0, none⟩)) : (results fn tmps).run Tryz.prog w = .ok (.agg #[.bool s, .slice A n c]) w :=
  res_cell h hK hp Tryz.underlying71 rfl big_size
end Go.Proofs.YtencbfmcmpmdnaaGreatDoor
