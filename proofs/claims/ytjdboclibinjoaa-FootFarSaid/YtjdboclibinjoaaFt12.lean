/- foot.Columns: its answer. -/
import Derived.Test.YtjdboclibinjoaaFt11
set_option linter.unusedVariables false
namespace Go.Proofs.Ytjdboclibinjoaa
open Go.RowKit
def colsF (m lo hi n : Int) : List Rn :=
  if m = 0 then [(max lo 0, min hi (n - 1) + 1)] else if m = 1 then [(max 0 (min lo (n - 1)), max 0 (min hi (n - 1)) + 1)]
  else if m = 2 then roundF layA 1 lo hi n else roundF layB 2 lo hi n
def okC (m lo hi n : Int) : Prop := lo ≤ hi ∧ (0 ≤ m ∧ m ≤ 3) ∧ (1 ≤ n ∧ n ≤ 2147483648) ∧ offB lo = false ∧ offB hi = false
instance (m lo hi n : Int) : Decidable (okC m lo hi n) := by unfold okC; infer_instance
def colsR (m lo hi n : Int) : List Rn := if okC m lo hi n then joinF (colsF m lo hi n) else []
theorem off_no {i : Int} (h : offB i = false) : -4611686018427387904 ≤ i ∧ i ≤ 4611686018427387904 := by
  unfold offB at h
  simp at h
  omega
theorem roundF_len (lay : Int → Int → Int → Int → Rn) (t lo hi n : Int) (hn : 1 ≤ n) (ht : t = 1 ∨ t = 2) (h : lo ≤ hi) (h1 : -4611686018427387904 ≤ lo ∧ lo ≤ 4611686018427387904) (h2 : -4611686018427387904 ≤ hi ∧ hi ≤ 4611686018427387904) : (roundF lay t lo hi n).length ≤ 3 := by
  unfold roundF
  split
  · simp
  · rename_i hc
    have := blocks_few hn ht h hc h1 h2
    rw [roundL_len]
    omega
theorem colsF_len {m lo hi n : Int} (hok : okC m lo hi n) : (colsF m lo hi n).length ≤ 3 := by
  obtain ⟨a, b, c, d, e⟩ := hok
  unfold colsF
  split
  · simp
  · split
    · simp
    · split
      · exact roundF_len _ _ _ _ _ c.1 (.inl rfl) a (off_no d) (off_no e)
      · exact roundF_len _ _ _ _ _ c.1 (.inr rfl) a (off_no d) (off_no e)
set_option maxHeartbeats 4000000 in
theorem columns_ok (m lo hi n : Int) (w : World) (hok : okC m lo hi n) :
    Calls Try.prog 9 #[.int .i64 m, .int .i64 lo, .int .i64 hi, .int .i64 n] w fun e w' => ∃ v, e = .returned v ∧ w'.ownsRow w.heap.size 35 2 v (joinF (colsF m lo hi n)).length (encR (joinF (colsF m lo hi n))) ∧ Below w.heap.size w w' := by
  have hlen := colsF_len hok
  obtain ⟨hlh, ⟨hm0, hm3⟩, ⟨hn, hn2⟩, ho1, ho2⟩ := hok
  have h1 := off_no ho1
  have h2 := off_no ho2
  have hof1 := fun W => off_any lo W
  have hof2 := fun W => off_any hi W
  rw [ho1] at hof1
  rw [ho2] at hof2
  have hin := fun W => inside_any lo hi n W hn hn2 h1 h2
  have hcl := fun W => clamped_any lo hi n W hn hn2 h1 h2
  have hag := fun W => again_any lo hi n W hn hn2 hlh h1 h2
  have hba := fun W => back_any lo hi n W hn hn2 hlh h1 h2
  have hcase : m = 0 ∨ m = 1 ∨ m = 2 ∨ m = 3 := by omega
  clear h1 h2 ho1 ho2
  rcases hcase with rfl | rfl | rfl | rfl
  · rw [show colsF 0 lo hi n = [(max lo 0, min hi (n - 1) + 1)] from rfl] at *
    have hw : ∀ W, Calls Try.prog 71 #[askV lo hi n] W fun e w' => ∃ v, e = .returned v ∧ w'.ownsRow W.heap.size 35 2 v ([(max lo 0, min hi (n - 1) + 1)]).length (encR ([(max lo 0, min hi (n - 1) + 1)])) ∧ Below W.heap.size W w' := hin
    clear hin hcl hag hba
    generalize ([(max lo 0, min hi (n - 1) + 1)]) = L at *
    go_enter Try.func9, Try.ntmps9
    go_wp2_with (first
      | (go_at_call 42; (with_reducible refine (hof1 _).mono ?_); rintro e w1 ⟨rfl, rfl⟩)
      | (go_at_call 42; (with_reducible refine (hof2 _).mono ?_); rintro e w2 ⟨rfl, rfl⟩)
      | (go_at_call 43; (with_reducible refine (fways_any _).mono ?_); rintro e w3 ⟨rfl, hb3⟩)
      | (go_at_call 71; (with_reducible refine (hw _).mono ?_); rintro e w4 ⟨v, rfl, hown, hb4⟩; obtain ⟨A4, c4, rfl, g41, g42, hA4, hr4, _⟩ := own_form2 hown)
      | (go_at_call 17; (with_reducible refine (joinf_any L A4 L.length c4 _ rfl hr4 (by omega)).mono ?_); rintro e w5 ⟨v5, rfl, hown5, hb5⟩))
    go_returns
    exact ⟨_, rfl, own_base hown5 (by have := hb3.size; have := hb4.size; omega), hb3.trans ((hb4.mono hb3.size).trans (hb5.mono (Nat.le_trans hb3.size hb4.size)))⟩
  · rw [show colsF 1 lo hi n = [(max 0 (min lo (n - 1)), max 0 (min hi (n - 1)) + 1)] from rfl] at *
    have hw : ∀ W, Calls Try.prog 72 #[askV lo hi n] W fun e w' => ∃ v, e = .returned v ∧ w'.ownsRow W.heap.size 35 2 v ([(max 0 (min lo (n - 1)), max 0 (min hi (n - 1)) + 1)]).length (encR ([(max 0 (min lo (n - 1)), max 0 (min hi (n - 1)) + 1)])) ∧ Below W.heap.size W w' := hcl
    clear hin hcl hag hba
    generalize ([(max 0 (min lo (n - 1)), max 0 (min hi (n - 1)) + 1)]) = L at *
    go_enter Try.func9, Try.ntmps9
    go_wp2_with (first
      | (go_at_call 42; (with_reducible refine (hof1 _).mono ?_); rintro e w1 ⟨rfl, rfl⟩)
      | (go_at_call 42; (with_reducible refine (hof2 _).mono ?_); rintro e w2 ⟨rfl, rfl⟩)
      | (go_at_call 43; (with_reducible refine (fways_any _).mono ?_); rintro e w3 ⟨rfl, hb3⟩)
      | (go_at_call 72; (with_reducible refine (hw _).mono ?_); rintro e w4 ⟨v, rfl, hown, hb4⟩; obtain ⟨A4, c4, rfl, g41, g42, hA4, hr4, _⟩ := own_form2 hown)
      | (go_at_call 17; (with_reducible refine (joinf_any L A4 L.length c4 _ rfl hr4 (by omega)).mono ?_); rintro e w5 ⟨v5, rfl, hown5, hb5⟩))
    go_returns
    exact ⟨_, rfl, own_base hown5 (by have := hb3.size; have := hb4.size; omega), hb3.trans ((hb4.mono hb3.size).trans (hb5.mono (Nat.le_trans hb3.size hb4.size)))⟩
  · rw [show colsF 2 lo hi n = roundF layA 1 lo hi n from rfl] at *
    have hw : ∀ W, Calls Try.prog 73 #[askV lo hi n] W fun e w' => ∃ v, e = .returned v ∧ w'.ownsRow W.heap.size 35 2 v (roundF layA 1 lo hi n).length (encR (roundF layA 1 lo hi n)) ∧ Below W.heap.size W w' := hag
    clear hin hcl hag hba
    generalize (roundF layA 1 lo hi n) = L at *
    go_enter Try.func9, Try.ntmps9
    go_wp2_with (first
      | (go_at_call 42; (with_reducible refine (hof1 _).mono ?_); rintro e w1 ⟨rfl, rfl⟩)
      | (go_at_call 42; (with_reducible refine (hof2 _).mono ?_); rintro e w2 ⟨rfl, rfl⟩)
      | (go_at_call 43; (with_reducible refine (fways_any _).mono ?_); rintro e w3 ⟨rfl, hb3⟩)
      | (go_at_call 73; (with_reducible refine (hw _).mono ?_); rintro e w4 ⟨v, rfl, hown, hb4⟩; obtain ⟨A4, c4, rfl, g41, g42, hA4, hr4, _⟩ := own_form2 hown)
      | (go_at_call 17; (with_reducible refine (joinf_any L A4 L.length c4 _ rfl hr4 (by omega)).mono ?_); rintro e w5 ⟨v5, rfl, hown5, hb5⟩))
    go_returns
    exact ⟨_, rfl, own_base hown5 (by have := hb3.size; have := hb4.size; omega), hb3.trans ((hb4.mono hb3.size).trans (hb5.mono (Nat.le_trans hb3.size hb4.size)))⟩
  · rw [show colsF 3 lo hi n = roundF layB 2 lo hi n from rfl] at *
    have hw : ∀ W, Calls Try.prog 74 #[askV lo hi n] W fun e w' => ∃ v, e = .returned v ∧ w'.ownsRow W.heap.size 35 2 v (roundF layB 2 lo hi n).length (encR (roundF layB 2 lo hi n)) ∧ Below W.heap.size W w' := hba
    clear hin hcl hag hba
    generalize (roundF layB 2 lo hi n) = L at *
    go_enter Try.func9, Try.ntmps9
    go_wp2_with (first
      | (go_at_call 42; (with_reducible refine (hof1 _).mono ?_); rintro e w1 ⟨rfl, rfl⟩)
      | (go_at_call 42; (with_reducible refine (hof2 _).mono ?_); rintro e w2 ⟨rfl, rfl⟩)
      | (go_at_call 43; (with_reducible refine (fways_any _).mono ?_); rintro e w3 ⟨rfl, hb3⟩)
      | (go_at_call 74; (with_reducible refine (hw _).mono ?_); rintro e w4 ⟨v, rfl, hown, hb4⟩; obtain ⟨A4, c4, rfl, g41, g42, hA4, hr4, _⟩ := own_form2 hown)
      | (go_at_call 17; (with_reducible refine (joinf_any L A4 L.length c4 _ rfl hr4 (by omega)).mono ?_); rintro e w5 ⟨v5, rfl, hown5, hb5⟩))
    go_returns
    exact ⟨_, rfl, own_base hown5 (by have := hb3.size; have := hb4.size; omega), hb3.trans ((hb4.mono hb3.size).trans (hb5.mono (Nat.le_trans hb3.size hb4.size)))⟩
end Go.Proofs.Ytjdboclibinjoaa
