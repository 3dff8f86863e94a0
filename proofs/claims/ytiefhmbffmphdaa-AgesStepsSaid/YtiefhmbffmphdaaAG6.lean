/- container/heap over a row of things: Push. -/
import Derived.Test.YtiefhmbffmphdaaAG5
set_option linter.unusedVariables false
namespace Go.Proofs.Ytiefhmbffmphdaa
open Go.RowKit
set_option maxRecDepth 100000 in
set_option maxHeartbeats 4000000 in
theorem hpush_any {F : Nat → Prop} {w : World} {g : Nat} {A : Option Addr} {n c : Nat} {mv : Value} {now : Int} {a : Nat → Nat} {K W : Nat → Int} (h : Hw F w g A n c mv now a K W) (hp : Hp W a n) (q : Nat) (z : Int) (hq : Bk w q 48 #[.int .i64 (K q), .int .i64 (W q), .int .i64 z]) (hqn : ∀ j, j < n → a j ≠ q) (hn : n < 1000000) :
    Calls Try.prog 20 #[ifV g, .iface 45 (.pointer (some ⟨q, 0, none⟩))] w fun e w' => e = .returned (.tuple #[]) ∧ ∃ A' c' F' b, Hw F' w' g A' (n + 1) c' mv now b K W ∧ Hp W b (n + 1) ∧ Pm (fun j => if j = n then q else a j) b (n + 1) ∧ (∀ i, F' i → F i ∨ i = q ∨ w.heap.size ≤ i) ∧ Only (fun i => F i ∨ i = q) w w' := by
  have hme := me_push g w
  have hPu := rpush_any h q z hq hqn (by omega)
  go_enter Try.func20, Try.ntmps20
  go_upto_region 1 with (go_at_call 67; (with_reducible refine hPu.mono ?_); rintro e w1 ⟨rfl, A', c', F', h1, hF, hO⟩)
  have hml := me_len g w1 _ h1.lv
  have hUp := up_any h1 n (up_start hp (fun j hj => by rw [if_neg (by omega)])) (by omega)
  clear hme hPu h hq
  go_wp2_with (first
    | (go_at_call 63; (with_reducible refine (rlen_any _ _ _ _).mono ?_); rintro e w2 ⟨rfl, rfl⟩)
    | (go_at_call 27; (with_reducible refine hUp.mono ?_); rintro e w3 ⟨rfl, b, h3, hp3, hP3, hO3⟩))
  go_end0
  refine ⟨rfl, A', c', F', b, h3, hp3, hP3, hF, ?_⟩
  exact hO.trans hO3 (fun i hi => by rcases hF i hi with h | h | h; exact .inl (.inl h); exact .inl (.inr h); exact .inr h)
end Go.Proofs.Ytiefhmbffmphdaa
