/- Images that lie in a variable's block: stores, loads, results. -/
import Derived.Test.YtahiaeaobbofbaaGreatRowG
import Derived.Test.YtahiaeaobbofbaaGreatImg07
set_option linter.unusedVariables false
namespace Go.Proofs.YtahiaeaobbofbaaGreat
open Go.RowKit
abbrev imgA (W H C : Int) (A : Option Addr) (n c : Nat) : Array Value := #[.int .i64 W, .int .i64 H, .int .i64 C, .slice A n c]
abbrev img0 : Array Value := #[.int .i64 0, .int .i64 0, .int .i64 0, .slice none 0 0]
/-- A store of an image into a variable's block. -/
theorem stImg {ops : Array Oper} {rest : List Oper} {o : Oper} {a : Act} {w : World} {Q : Exit → Act → World → Prop} (hgd : o.guard = none) (x y : Operand) (ho : o.op = .store 44 x y)
    {g : Nat} {old : Array Value} (hK : Bk w g 44 old) (hold : old.size = 4) {W H C : Int} {A : Option Addr} {n c : Nat} (hx : a.eval x = .pointer (some ⟨g, 0, none⟩)) (hy : a.eval y = .agg #[.int .i64 W, .int .i64 H, .int .i64 C, .slice A n c])
    (h : ∀ w', Bk w' g 44 #[.int .i64 W, .int .i64 H, .int .i64 C, .slice A n c] → w.grownBy w' (some g) → w'.heap.size = w.heap.size → wpList Tryz.prog ops Q rest (a.put o.dst undef) w') : wpList Tryz.prog ops Q (o :: rest) a w :=
  stB hgd _ x y ho hK _ hx hy img_size (by simpa using hold) (by simp [Value.oneCell']) h
theorem ldImg {ops : Array Oper} {rest : List Oper} {o : Oper} {a : Act} {w : World} {Q : Exit → Act → World → Prop} (hgd : o.guard = none) (x : Operand) (ho : o.op = .load 44 x)
    {g : Nat} {W H C : Int} {A : Option Addr} {n c : Nat} (hK : Bk w g 44 #[.int .i64 W, .int .i64 H, .int .i64 C, .slice A n c]) (hx : a.eval x = .pointer (some ⟨g, 0, none⟩))
    (h : wpList Tryz.prog ops Q rest (a.put o.dst (.agg #[.int .i64 W, .int .i64 H, .int .i64 C, .slice A n c])) w) : wpList Tryz.prog ops Q (o :: rest) a w :=
  ldB hgd _ x ho hK hx Tryz.underlying44 rfl img_size h
theorem res_img_tmp {fn : Func} {p q : Tmp} (h : fn.results = #[.cell p 44, .tmp q]) {tmps : Array Value} {w : World} {g : Nat} {W H C : Int} {A : Option Addr} {n c : Nat} (hK : Bk w g 44 #[.int .i64 W, .int .i64 H, .int .i64 C, .slice A n c])
    (hp : tmps.getD p undef = .pointer (some ⟨g, 0, none⟩)) : (results fn tmps).run Tryz.prog w = .ok (.tuple #[.agg #[.int .i64 W, .int .i64 H, .int .i64 C, .slice A n c], tmps.getD q undef]) w :=
  res_cell_tmp h hK hp Tryz.underlying44 rfl img_size
theorem res_img {fn : Func} {p : Tmp} (h : fn.results = #[.cell p 44]) {tmps : Array Value} {w : World} {g : Nat} {W H C : Int} {A : Option Addr} {n c : Nat} (hK : Bk w g 44 #[.int .i64 W, .int .i64 H, .int .i64 C, .slice A n c])
    (hp : tmps.getD p undef = .pointer (some ⟨g, 0, none⟩)) : (results fn tmps).run Tryz.prog w = .ok (.agg #[.int .i64 W, .int .i64 H, .int .i64 C, .slice A n c]) w :=
  res_cell h hK hp Tryz.underlying44 rfl img_size
end Go.Proofs.YtahiaeaobbofbaaGreat
