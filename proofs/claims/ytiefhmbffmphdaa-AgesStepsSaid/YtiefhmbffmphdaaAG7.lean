/- A row of things: Pop. -/
import Derived.Test.YtiefhmbffmphdaaAG6
set_option linter.unusedVariables false
namespace Go.Proofs.Ytiefhmbffmphdaa
open Go.RowKit
theorem ptrs_take (a : Nat → Nat) (n : Nat) : (ptrs a (n + 1)).take n = ptrs a n := by
  unfold ptrs
  rw [List.range_succ, List.map_append, List.take_append_of_le_length (by simp), List.take_of_length_le (by simp)]
theorem own_less {w : World} {A : Option Addr} {n c : Nat} {a : Nat → Nat} (h : w.ownsRow 0 45 1 (.slice A (n + 1) c) (n + 1) (ptrs a (n + 1))) : w.ownsRow 0 45 1 (.slice A n c) n (ptrs a n) := by
  refine ⟨by simp [ptrs_len], ?_⟩
  rcases h.2 with ⟨e, e2⟩ | ⟨r, cap, cur, e, hb, hh, hn, hm, hs, ht⟩
  · omega
  · injection e with e1 e2 e3
    subst e1 e3
    refine .inr ⟨r, c, cur, rfl, hb, hh, by omega, hm, hs, ?_⟩
    rw [← ptrs_take, ← ht, List.take_take]
    congr 1; omega
set_option maxRecDepth 100000 in
set_option maxHeartbeats 8000000 in
theorem rpop_any {F : Nat → Prop} {w : World} {g : Nat} {A : Option Addr} {n c : Nat} {mv : Value} {now : Int} {a : Nat → Nat} {K W : Nat → Int} (h : Hw F w g A (n + 1) c mv now a K W) (hn : n < 1000000) :
    Calls Try.prog 66 #[.pointer (some ⟨g, 0, none⟩)] w fun e w' => e = .returned (.iface 45 (.pointer (some ⟨a n, 0, none⟩))) ∧ Hw F w' g A n c mv now a K W ∧ Only F w w' ∧ w'.heap.size = w.heap.size ∧ Bk w' (a n) 48 #[.int .i64 (K (a n)), .int .i64 (W (a n)), .int .i64 (n : Nat)] := by
  obtain ⟨r, cur, rfl, hFr, hh, hnc, hcs, ci⟩ := h.cell n (by omega)
  obtain ⟨c0, c1, c2⟩ := h.hg.cell3
  have f0 := h.hg.frozen 0
  have hgr : r ≠ g := fun e => by rw [e] at hh; exact absurd (bk_type h.hg hh) (by decide)
  have hga : ∀ j, j < n + 1 → a j ≠ g := fun j hj e => by have h1 := h.th j hj; rw [e] at h1; exact absurd (bk_type h1 h.hg) (by decide)
  have hfin : Hw F (w.setCell ⟨g, 0, none⟩ (.slice (some ⟨r, 0, none⟩) n c)) g (some ⟨r, 0, none⟩) n c mv now a K W :=
    ⟨h.hg.set 0 _, own_far (own_less h.row) _ _ (fun b hb => by injection hb with hb; rw [← hb]; exact hgr), fun j hj => (h.th j (by omega)).far (by simpa using hga j (by omega)) _, fun i j hi hj => h.inj i j (by omega) (by omega), h.fg, fun b hb => h.fr b hb, fun j hj => h.ft j (by omega)⟩
  have hO : Only F w (w.setCell ⟨g, 0, none⟩ (.slice (some ⟨r, 0, none⟩) n c)) := only_gb (gb_set1 w ⟨g, 0, none⟩ _) h.fg
  have hT := (h.th n (by omega)).far (p := ⟨g, 0, none⟩) (by simpa using hga n (by omega)) (.slice (some ⟨r, 0, none⟩) n c)
  clear h hh
  go_enter Try.func66, Try.ntmps66
  go_wp2_with fail
  go_returns
  exact ⟨rfl, hfin, hO, by simp [World.setCell], hT⟩
end Go.Proofs.Ytiefhmbffmphdaa
