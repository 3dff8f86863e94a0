/- Structs that lie in a block of their own: loads, stores and results, the world behind a store under one name. -/
import Derived.Test.YtakdcdpgojllpaaApp
import Derived.Test.YtakdcdpgojllpaaImg07
import Derived.Laws.CopyOwn
set_option linter.unusedVariables false
namespace Go.Proofs.Ytakdcdpgojllpaa
open Go.RowKit
section
variable {P : Program}
theorem Bk_setRow {w : World} {g : Nat} {t : TypeId} {old : Array Value} (h : Bk w g t old) (cs : Array Value) : Bk (w.setRow g cs) g t cs := setRow_heap w g old cs t (0, 0) h
theorem grown_setRow (w : World) (g : Nat) (cs : Array Value) : w.grownBy (w.setRow g cs) (some g) :=
  ⟨rfl, rfl, rfl, by simp, fun k hk hne => setRow_other w g k cs (fun e => hne (by rw [e]))⟩
theorem below_grown {B g : Nat} {W w w' : World} (hb : Below B W w) (hg : w.grownBy w' (some g)) (hB : B ≤ g) (hB2 : B ≤ w.heap.size) : Below B W w' :=
  hb.grown hg hB2 (fun k hk => by injection hk; omega)
/-- A store of a whole struct into its block. -/
theorem stB {ops : Array Oper} {rest : List Oper} {o : Oper} {a : Act} {w : World} {Q : Exit → Act → World → Prop} (hgd : o.guard = none) (ty : TypeId) (x y : Operand) (ho : o.op = .store ty x y)
    {g : Nat} {t : TypeId} {old : Array Value} (hK : Bk w g t old) (cells : Array Value) (hx : a.eval x = .pointer (some ⟨g, 0, none⟩)) (hy : a.eval y = .agg cells)
    (hi : (P.info? ty).map (·.size) = some cells.size) (hold : old.size = cells.size) (h1 : cells.all (·.oneCell') = true)
    (h : ∀ w', Bk w' g t cells → w.grownBy w' (some g) → w'.heap.size = w.heap.size → wpList P ops Q rest (a.put o.dst undef) w') : wpList P ops Q (o :: rest) a w :=
  wpList_store_row hgd ty x y ho g cells hx hy t old hK hi hold h1 (h _ (Bk_setRow hK cells) (grown_setRow w g cells) (by simp))
/-- A load of a whole struct out of its block. -/
theorem ldB {ops : Array Oper} {rest : List Oper} {o : Oper} {a : Act} {w : World} {Q : Exit → Act → World → Prop} (hgd : o.guard = none) (ty : TypeId) (x : Operand) (ho : o.op = .load ty x)
    {g : Nat} {t : TypeId} {cs : Array Value} (hK : Bk w g t cs) (hx : a.eval x = .pointer (some ⟨g, 0, none⟩)) {d : TypeDesc}
    (hu : P.underlying ty = some d) (hd : (match d with | .struct _ | .array _ _ => true | _ => false) = true) (hi : (P.info? ty).map (·.size) = some cs.size)
    (h : wpList P ops Q rest (a.put o.dst (.agg cs)) w) : wpList P ops Q (o :: rest) a w :=
  wpList_load_row hgd ty x ho g hx t cs (0, 0) d hK hu hd hi h
theorem res_cell {fn : Func} {p : Tmp} {ty : TypeId} (h : fn.results = #[.cell p ty]) {tmps : Array Value} {w : World} {g : Nat} {t : TypeId} {cs : Array Value} (hK : Bk w g t cs) {d : TypeDesc}
    (hp : tmps.getD p undef = .pointer (some ⟨g, 0, none⟩)) (hu : P.underlying ty = some d) (hd : (match d with | .struct _ | .array _ _ => true | _ => false) = true) (hi : (P.info? ty).map (·.size) = some cs.size) :
    (results fn tmps).run P w = .ok (.agg cs) w := results_cell_row h tmps w g t cs (0, 0) d hp hK hu hd hi
theorem res_cell_tmp {fn : Func} {p q : Tmp} {ty : TypeId} (h : fn.results = #[.cell p ty, .tmp q]) {tmps : Array Value} {w : World} {g : Nat} {t : TypeId} {cs : Array Value} (hK : Bk w g t cs) {d : TypeDesc}
    (hp : tmps.getD p undef = .pointer (some ⟨g, 0, none⟩)) (hu : P.underlying ty = some d) (hd : (match d with | .struct _ | .array _ _ => true | _ => false) = true) (hi : (P.info? ty).map (·.size) = some cs.size) :
    (results fn tmps).run P w = .ok (.tuple #[.agg cs, tmps.getD q undef]) w := by
  have hp' : tmps[p]?.getD undef = .pointer (some ⟨g, 0, none⟩) := by simpa using hp
  simp [results, h, hp', asAddr, run_loadVar_row w g t ty cs (0, 0) d hK hu hd hi]
end
abbrev imgA (W H C : Int) (A : Option Addr) (n c : Nat) : Array Value := #[.int .i64 W, .int .i64 H, .int .i64 C, .slice A n c]
abbrev img0 : Array Value := #[.int .i64 0, .int .i64 0, .int .i64 0, .slice none 0 0]
/-- A store of an image into a variable's block. -/
theorem stImg {ops : Array Oper} {rest : List Oper} {o : Oper} {a : Act} {w : World} {Q : Exit → Act → World → Prop} (hgd : o.guard = none) (x y : Operand) (ho : o.op = .store 41 x y)
    {g : Nat} {old : Array Value} (hK : Bk w g 41 old) (hold : old.size = 4) {W H C : Int} {A : Option Addr} {n c : Nat} (hx : a.eval x = .pointer (some ⟨g, 0, none⟩)) (hy : a.eval y = .agg #[.int .i64 W, .int .i64 H, .int .i64 C, .slice A n c])
    (h : ∀ w', Bk w' g 41 #[.int .i64 W, .int .i64 H, .int .i64 C, .slice A n c] → w.grownBy w' (some g) → w'.heap.size = w.heap.size → wpList Try.prog ops Q rest (a.put o.dst undef) w') : wpList Try.prog ops Q (o :: rest) a w :=
  stB hgd _ x y ho hK _ hx hy img_size (by simpa using hold) (by simp [Value.oneCell']) h
theorem ldImg {ops : Array Oper} {rest : List Oper} {o : Oper} {a : Act} {w : World} {Q : Exit → Act → World → Prop} (hgd : o.guard = none) (x : Operand) (ho : o.op = .load 41 x)
    {g : Nat} {W H C : Int} {A : Option Addr} {n c : Nat} (hK : Bk w g 41 #[.int .i64 W, .int .i64 H, .int .i64 C, .slice A n c]) (hx : a.eval x = .pointer (some ⟨g, 0, none⟩))
    (h : wpList Try.prog ops Q rest (a.put o.dst (.agg #[.int .i64 W, .int .i64 H, .int .i64 C, .slice A n c])) w) : wpList Try.prog ops Q (o :: rest) a w :=
  ldB hgd _ x ho hK hx Try.underlying41 rfl img_size h
theorem res_img_tmp {fn : Func} {p q : Tmp} (h : fn.results = #[.cell p 41, .tmp q]) {tmps : Array Value} {w : World} {g : Nat} {W H C : Int} {A : Option Addr} {n c : Nat} (hK : Bk w g 41 #[.int .i64 W, .int .i64 H, .int .i64 C, .slice A n c])
    (hp : tmps.getD p undef = .pointer (some ⟨g, 0, none⟩)) : (results fn tmps).run Try.prog w = .ok (.tuple #[.agg #[.int .i64 W, .int .i64 H, .int .i64 C, .slice A n c], tmps.getD q undef]) w :=
  res_cell_tmp h hK hp Try.underlying41 rfl img_size
theorem res_img {fn : Func} {p : Tmp} (h : fn.results = #[.cell p 41]) {tmps : Array Value} {w : World} {g : Nat} {W H C : Int} {A : Option Addr} {n c : Nat} (hK : Bk w g 41 #[.int .i64 W, .int .i64 H, .int .i64 C, .slice A n c])
    (hp : tmps.getD p undef = .pointer (some ⟨g, 0, none⟩)) : (results fn tmps).run Try.prog w = .ok (.agg #[.int .i64 W, .int .i64 H, .int .i64 C, .slice A n c]) w :=
  res_cell h hK hp Try.underlying41 rfl img_size
end Go.Proofs.Ytakdcdpgojllpaa
