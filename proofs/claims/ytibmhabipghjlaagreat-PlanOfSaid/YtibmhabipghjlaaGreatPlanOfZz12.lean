/- Several texts in one: The law PlanOf, of any job as the row reads it. -/
import Derived.Test.YtibmhabipghjlaaGreatPlanOfZz11
section
set_option linter.unusedVariables false
namespace Go.Proofs.YtibmhabipghjlaaGreat
open Go.RowKit
theorem walkPlanOf (j : Jb) (k : Int) (w : World) : Calls Tryz.prog 3 #[.agg j.cells, .int .i64 k] w fun e w' => e = .returned (.bool true) ∧ Below w.heap.size w w' := by
  have hR := fun w' => rcheck_any j w'
  have hP := fun w' => pcheck_any j w'
  have hN := fun w' => near_b j w'
  by_cases hc : plC j = 0
  · have ok := plC_zero hc
    rw [hc] at hR hP
    cases hnb : nearB j
    · rw [hnb] at hN
      exact law_far39 j k w hR hP hN
    · rw [hnb] at hN
      unfold nearB at hnb
      have hwh := of_decide_eq_true hnb
      obtain ⟨l1, l2⟩ := ok.l
      have hcn := (cnt_le16 j.W j.H 15).1
      obtain ⟨n, hn⟩ : ∃ n : Nat, j.L = (n : Int) := ⟨j.L.toNat, by omega⟩
      have hn16 : n ≤ 16 := by omega
      have hsm := fun q (_ : q < 16) => ok.small hwh.1 hwh.2.1 q
      have hF := fun w' => pof_in j n (lfJ j) w' hn hn16 hsm hP (fun q w'' hq => ok.tiles q (by omega) w'')
      have hLv := fun (q : Nat) (w' : World) (hq : q < n) => ok.level q (by omega) w'
      by_cases hk : 0 ≤ k ∧ k < j.L
      · refine law_near39 j k 0 n (lfJ j) (lfJ j k.toNat) w hn hn16 hsm hR hP hN hF (fun w' => plevel_in j k (lfJ j k.toNat) w' hk.1 hk.2 hP (fun w'' => ?_)) hLv (.inr (.inr ⟨hk.1, hk.2, rfl, rfl⟩))
        have := ok.tiles k.toNat (by omega) w''
        rw [show ((k.toNat : Nat) : Int) = k by omega] at this
        exact this
      · have hko : k < 0 ∨ (0 ≤ k ∧ k ≥ j.L) := by omega
        refine law_near39 j k 11 n (lfJ j) [] w hn hn16 hsm hR hP hN hF (fun w' => (plevel_out j k w' hko hP).mono ?_) hLv (hko.elim (fun h => .inl ⟨h, rfl, rfl⟩) (fun h => .inr (.inl ⟨h.1, h.2, rfl, rfl⟩)))
        rintro e w'' ⟨rfl, hb⟩
        exact ⟨_, rfl, World.ownsRow_nil _ _ _ _, hb⟩
  · exact law_bad39 j k (plC j) w hc hR hP
theorem lawPlanOf (cs : Array Value) (k : Int) (w : World) (h0 : Rv Tryz.prog w 28 cs.toList) (h1 : (Lit.int .i64 k).wf = true) :
    Calls Tryz.prog 3 #[.agg cs, .int .i64 k] w fun e w' => e = .returned (.bool true) ∧ Below w.heap.size w w' := by
  obtain ⟨j, e0⟩ := open_job39 h0
  obtain rfl : cs = j.cells := Array.toList_inj.1 e0
  exact walkPlanOf j k w
end Go.Proofs.YtibmhabipghjlaaGreat
end
