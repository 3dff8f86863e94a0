/- The law ShownOf: the commands of any warp. -/
import Derived.Test.YtencbfmcmpmdnaaGreatDoorSH6
import Derived.Test.YtencbfmcmpmdnaaGreatDoorSH4
import Derived.Test.YtencbfmcmpmdnaaGreatDoorMW3
set_option linter.unusedVariables false
namespace Go.Proofs.YtencbfmcmpmdnaaGreatDoor
open Go.RowKit
set_option maxRecDepth 100000 in
set_option maxHeartbeats 8000000 in
theorem sof_bad (k : Int) (A : Option Addr) (sn cp : Nat) (W H kn n mo c0 c1 c2 c3 mi C : Int) (w : World) (hC : C ≠ 0)
    (hM : ∀ w', Below w.heap.size w w' → Calls Tryz.prog 9 #[.agg (wrA k A sn cp W H kn n mo c0 c1 c2 c3 mi)] w' fun e w'' => e = .returned (.int .i64 C) ∧ Below w'.heap.size w' w'') :
    Calls Tryz.prog 4 #[.agg (wrA k A sn cp W H kn n mo c0 c1 c2 c3 mi)] w fun e w' => e = .returned (.tuple #[.slice none 0 0, .bool false]) ∧ Below w.heap.size w w' := by
  have hL := (Lie.start w).alloc (wrA k A sn cp W H kn n mo c0 c1 c2 c3 mi) 29
  have k0 : Bk _ w.heap.size 29 (wrA k A sn cp W H kn n mo c0 c1 c2 c3 mi) := hL.k 0 (by simp)
  have hM1 := hM _ hL.bel
  have hb : (C != 0) = true := by simp [hC]
  clear hC hM
  go_enter Tryz.func4, Tryz.ntmps4
  go_wp2_with (first
    | (refine ldB rfl _ _ rfl k0 rfl Tryz.underlying29 rfl wr_size ?_)
    | (go_at_call 9; (with_reducible refine hM1.mono ?_); rintro e w1 ⟨rfl, hb1⟩))
  go_returns
  exact ⟨rfl, (hL.nx hb1).bel⟩
theorem i64_app (W : World) (base k : Nat) (v : Value) (xs : List Value) (a : Int) (ho : W.ownsRow base 2 1 v k xs) (hb : base ≤ W.heap.size) (hk : k ≤ 100000) :
    ∃ v' w', (Builtin.append_ #[22, 22] 22 #[v, .slice (some ⟨W.heap.size, 0, none⟩) 1 1]).run Tryz.prog (W.alloc (.cells #[.int .i64 a] 2)) = .ok v' w' ∧ w'.ownsRow base 2 1 v' (k + 1) (xs ++ [.int .i64 a]) ∧ (W.alloc (.cells #[.int .i64 a] 2)).grownBy w' v.ownBlock := by
  obtain ⟨i, hi', hz, hs0, hby⟩ := info_parts i64_info51
  obtain ⟨v', w', hr, h2, h3, _, h5⟩ := run_append_own_at (P := Tryz.prog) (W.alloc (.cells #[.int .i64 a] 2)) base 22 22 2 i _ 1 8 Tryz.underlying22 hi' hz hs0 hby rfl (by decide) v k xs (ho.alloc _) ⟨W.heap.size, 0, none⟩ 1 1 [.int .i64 a] rfl
    (fun j u hj => by rw [add0, World.cell?_alloc_new]; simpa using hj) (by simp [Value.oneCell']) (by simp [maxLen]; omega) (by omega) (by simp; omega)
  exact ⟨v', w', hr, h2, h3⟩
theorem wp_append_run51 {P : Program} {o : Oper} {a : Act} {K : Act → World → Prop} {Q : Exit → Act → World → Prop} {w w' : World} {v v' sl : Value} (s x : Operand) (t : TypeId)
    (ho : o.op = .call { callee := .builtin .append, args := #[s, x], argTypes := #[t, t] }) (hs : a.eval s = v) (hx : a.eval x = sl)
    (hr : (Builtin.append_ #[t, t] o.type #[v, sl]).run P w = .ok v' w') (hK : K (a.put o.dst v') w') : Oper.wp P o a w K Q := by
  unfold Oper.wp execOp
  simp only [ho, resolve, invoke, builtin, Sem.run_bind, Sem.run_pure, Result.andThen_ok, List.map_toArray, List.map_cons, List.map_nil, hs, hx, hr]
  exact hK
theorem same_reg {w : World} (op k : Int) (l : List Int) (A A' : Option Addr) (n c c' : Nat) {B B' : Nat} (hn : l.length = n) (hr : Rd w B A (l.map (Value.int .i64))) (hr' : Rd w B' A' (l.map (Value.int .i64))) (hB : B ≤ w.heap.size) (hB' : B' ≤ w.heap.size) (hb : n ≤ 1000000) :
    ∀ (d : Nat) (os : Array Obj), Calls Tryz.prog 7 #[.agg (cmA op k A n c), .agg (cmA op k A' n c')] (Go.Sort.grow (redrawn w d) os) fun e w' => e = .returned (.bool true) ∧ Below (Go.Sort.grow (redrawn w d) os).heap.size (Go.Sort.grow (redrawn w d) os) w' := fun d os => by
  have hbr := below_regrown w d os
  exact same50_any op k l A A' n c c' _ hn (hr.below' hbr hB) (hr'.below' hbr hB') (by have := hbr.size; omega) (by have := hbr.size; omega) hb
end Go.Proofs.YtencbfmcmpmdnaaGreatDoor
