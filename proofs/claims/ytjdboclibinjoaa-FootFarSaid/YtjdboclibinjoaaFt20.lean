/- The law: columns far away: what it leans on. -/
import Derived.Test.YtjdboclibinjoaaFt18
set_option linter.unusedVariables false
namespace Go.Proofs.Ytjdboclibinjoaa
open Go.RowKit
theorem cb_3 : Try.prog.cellsOf 30 = 3 := by kernel_rfl
theorem open_3 {w : World} {cs : Array Value} (h : Rv Try.prog w 30 cs.toList) : ∃ a b c : Int, cs = #[.int .i64 a, .int .i64 b, .int .i64 c] ∧ (-9223372036854775808 ≤ c ∧ c ≤ 9223372036854775807) := by
  obtain ⟨hl, hel⟩ := rv_array Try.underlying30 h
  rw [cb_i64] at hel
  rw [cb_3] at hl
  obtain ⟨l2⟩ := cs
  match l2, hl with
  | [v0, v1, v2], _ =>
    obtain ⟨a, e4, i4⟩ := rv_int Try.underlying2 (hel 0 (by omega))
    obtain ⟨b, e5, i5⟩ := rv_int Try.underlying2 (hel 1 (by omega))
    obtain ⟨c, e6, i6⟩ := rv_int Try.underlying2 (hel 2 (by omega))
    simp at e4 e5 e6
    subst e4 e5 e6
    exact ⟨a, b, c, rfl, wf64 i6⟩
def perF (m n : Int) : Int := if n < 1 ∨ 2147483648 < n then 0 else if m = 2 then n else if m = 3 then 2 * n else 0
set_option maxHeartbeats 1000000 in
theorem period_any (m n : Int) (w : World) (hm : 0 ≤ m ∧ m ≤ 3) (hn : 1 ≤ n) (hn2 : n ≤ 2147483648) : Calls Try.prog 15 #[.int .i64 m, .int .i64 n] w fun e w' => e = .returned (.int .i64 (perF m n)) ∧ w' = w := by
  have hcase : m = 0 ∨ m = 1 ∨ m = 2 ∨ m = 3 := by omega
  have hb : ¬ (n < 1 ∨ 2147483648 < n) := by omega
  unfold perF
  rw [if_neg hb]
  clear hb
  rcases hcase with rfl | rfl | rfl | rfl
  all_goals
    go_enter Try.func15, Try.ntmps15
    go_wp2
    go_returns
    exact ⟨by simp, rfl⟩
theorem far_range {m lo hi n : Int} (hok : okC m lo hi n) : ∀ r ∈ colsR m lo hi n, 0 ≤ r.1 ∧ r.2 ≤ n := by
  refine canon_range (colsR_canon m lo hi n) fun j hj => ?_
  obtain ⟨i, _, _, h3⟩ := (colsR_mem hok j).1 hj
  have h := idx_bd (m := m) (i := i) (n := n) (by rw [(idx_col hok.2.1 hok.2.2.1.1).1 h3])
  rw [(idx_col hok.2.1 hok.2.2.1.1).1 h3] at h
  exact h
theorem cntF_canon {l : List Rn} (h : Canon l) : cntF l = min (cntR l) 9223372036854775807 := by
  unfold cntF
  rw [joinF_of_canon h (fun _ => Iff.rfl)]
theorem far_cnt {m lo hi n : Int} (hok : okC m lo hi n) : cntF (colsR m lo hi n) = cntR (colsR m lo hi n) ∧ 0 ≤ cntR (colsR m lo hi n) ∧ cntR (colsR m lo hi n) ≤ n := by
  have h := cnt_bound (colsR_canon m lo hi n) (lo := 0) (N := n.toNat) (fun r hr => by have := far_range hok r hr; have := hok.2.2.1.1; omega)
  have hn := hok.2.2.1
  rw [cntF_canon (colsR_canon m lo hi n)]
  omega
theorem far_more {m lo hi n : Int} (hok : okC m lo hi n) (hok2 : okC m lo (hi + 1) n) : cntF (colsR m lo hi n) ≤ cntF (colsR m lo (hi + 1) n) := by
  rw [(far_cnt hok).1, (far_cnt hok2).1]
  have hn := hok.2.2.1
  refine cnt_mono (lo := 0) (N := n.toNat) (colsR_canon _ _ _ _) (colsR_canon _ _ _ _) (fun r hr => by have := far_range hok r hr; omega) (fun r hr => by have := far_range hok2 r hr; omega) fun j hj => ?_
  obtain ⟨i, h1, h2, h3⟩ := (colsR_mem hok j).1 hj
  exact (colsR_mem hok2 j).2 ⟨i, h1, by omega, h3⟩
theorem far_all {m lo hi n : Int} (hok : okC m lo hi n) (hp : 0 < perF m n) (h : perF m n - 1 ≤ hi - lo) : cntF (colsR m lo hi n) = n := by
  have hn := hok.2.2.1
  have hall : colsR m lo hi n = [(0, n)] := by
    refine canon_ext (colsR_canon _ _ _ _) ⟨by simp; omega, by simp⟩ fun j => ?_
    rw [memR_one]
    constructor
    · intro hj
      obtain ⟨r, hr, h1, h2⟩ := hj
      have := far_range hok r hr
      omega
    · intro hj
      unfold colsR
      rw [if_pos hok, (joinF_law _).2]
      unfold perF at hp h
      rw [if_neg (by omega)] at hp h
      unfold colsF
      by_cases h2 : m = 2
      · subst h2
        rw [if_pos rfl] at h
        rw [if_neg (by omega), if_neg (by omega), if_pos rfl]
        unfold roundF
        rw [if_pos (by omega), memR_one]
        exact hj
      · by_cases h3 : m = 3
        · subst h3
          rw [if_neg (by omega), if_pos rfl] at h
          rw [if_neg (by omega), if_neg (by omega), if_neg (by omega)]
          unfold roundF
          rw [if_pos (by omega), memR_one]
          exact hj
        · rw [if_neg h2, if_neg h3] at hp
          omega
  rw [(far_cnt hok).1, hall]
  simp [cntR]
theorem far_in {m lo hi n i : Int} (hok : okC m lo hi n) (h1 : lo ≤ i) (h2 : i ≤ hi) (h : (idx m i n).2 = true) : hasB (colsR m lo hi n) (idx m i n).1 = true := by
  rw [hasB_iff, colsR_mem hok]
  refine ⟨i, h1, h2, (idx_col hok.2.1 hok.2.2.1.1).2 ?_⟩
  rw [← h]
end Go.Proofs.Ytjdboclibinjoaa
