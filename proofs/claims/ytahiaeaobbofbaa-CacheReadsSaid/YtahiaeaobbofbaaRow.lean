/- Images that lie in a variable's block: stores, loads, results. -/
import Derived.Test.YtahiaeaobbofbaaRowG
import Derived.Test.YtahiaeaobbofbaaImg07
set_option linter.unusedVariables false
namespace Go.Proofs.Ytahiaeaobbofbaa
open Go.RowKit
abbrev imgA (W H C : Int) (A : Option Addr) (n c : Nat) : Array Value := #[.int .i64 W, .int .i64 H, .int .i64 C, .slice A n c]
abbrev img0 : Array Value := #[.int .i64 0, .int .i64 0, .int .i64 0, .slice none 0 0]
/-- A store of an image into a variable's block. -/
theorem stImg {ops : Array Oper} {rest : List Oper} {o : Oper} {a : Act} {w : World} {Q : Exit → Act → World → Prop} (hgd : o.guard = none) (x y : Operand) (ho : o.op = .store 41 x y)
    {g : Nat} {old : Array Value} (hK : Bk w g 41 old) (hold : old.size = 4) {W H C : Int} {A : Option Addr} {n c : Nat} (hx : a.eval x = .pointer (some ⟨g, 0, none⟩)) (hy : a.eval y = .agg #[.int .i64 W, .int .i64 H, .int .i64 C, .slice A n c])
    (h : ∀ w', Bk w' g 41 #[.int .i64 W, .int .i64 H, .int .i64 C, .slice A n c] → w.grownBy w' (some g) → w'.heap.size = w.heap.size → wpList Try.prog ops Q rest (a.put o.dst undef) w') : wpList Try.prog ops Q (o :: rest) a w :=
  stB hgd _ x y ho hK _ hx hy img_size (by simpa using hold) (by simp [Value.oneCell']) h
theorem ldImg {ops : Array Oper} {rest : List Oper} {o : Oper} {a : Act} {w : World} {Q : Exit → Act → World → Prop} (hgd : o.guard = none) (x : Operand) (ho : o.op = .load 41 x)
    {g : Nat} {W H C : Int} {A : Option Addr} {n c : Nat} (hK : Bk w g 41 #[.int .i64 W, .int .i64 H, .int .i64 C, .slice A n c]) (hx : a.eval x = .pointer (some ⟨g, 0, none⟩))
    (h : wpList Try.prog ops Q rest (a.put o.dst (.agg #[.int .i64 W, .int .i64 H, .int .i64 C, .slice A n c])) w) : wpList Try.prog ops Q (o :: rest) a w :=
  ldB hgd _ x ho hK hx Try.underlying41 rfl img_size h
theorem res_img_tmp {fn : Func} {p q : Tmp} (h : fn.results = #[.cell p 41, .tmp q]) {tmps : Array Value} {w : World} {g : Nat} {W H C : Int} {A : Option Addr} {n c : Nat} (hK : Bk w g 41 #[.int .i64 W, .int .i64 H, .int .i64 C, .slice A n c])
    (hp : tmps.getD p undef = .pointer (some ⟨g, 0, none⟩)) : (results fn tmps).run Try.prog w = .ok (.tuple #[.agg #[.int .i64 W, .int .i64 H, .int .i64 C, .slice A n c], tmps.getD q undef]) w :=
  res_cell_tmp h hK hp Try.underlying41 rfl img_size
theorem res_img {fn : Func} {p : Tmp} (h : fn.results = #[.cell p 41]) {tmps : Array Value} {w : World} {g : Nat} {W H C : Int} {A : Option Addr} {n c : Nat} (hK : Bk w g 41 #[.int .i64 W, .int .i64 H, .int .i64 C, .slice A n c])
    (hp : tmps.getD p undef = .pointer (some ⟨g, 0, none⟩)) : (results fn tmps).run Try.prog w = .ok (.agg #[.int .i64 W, .int .i64 H, .int .i64 C, .slice A n c]) w :=
  res_cell h hK hp Try.underlying41 rfl img_size
end Go.Proofs.Ytahiaeaobbofbaa
