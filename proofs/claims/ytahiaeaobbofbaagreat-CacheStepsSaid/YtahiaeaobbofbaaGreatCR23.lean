/- CacheSteps: the walk over the row's reading. -/
import Derived.Test.YtahiaeaobbofbaaGreatCR21
set_option linter.unusedVariables false
namespace Go.Proofs.YtahiaeaobbofbaaGreat
open Go.RowKit
set_option maxRecDepth 100000 in
set_option maxHeartbeats 16000000 in
theorem steps_walk (ims : List Im) (A : Option Addr) (n c : Nat) (tw th most : Int) (ps : List St5) (A' : Option Addr) (n' c' : Nat) (w : World) (hn : ims.length = n) (hA : ImsAt w 0 A ims) (hnc : n ≤ maxLen)
    (hn' : ps.length = n') (hP : Rd w w.heap.size A' (enc5 ps)) :
    Calls Tryz.prog 3 #[.slice A n c, .agg (w42S tw th most), .slice A' n' c'] w fun e w' => e = .returned (.bool true) ∧ Below w.heap.size w w' := by
  have hb0 := (Below.refl w.heap.size w).alloc (Nat.le_refl _) (.cells (w42S tw th most) 24)
  have hA0 := hA.nx hb0 (Nat.le_refl _)
  have hfew := few_any6 ims A n c 0 _ hn hA0 (by simp [maxLen] at hnc; omega)
  obtain ⟨fb, hfb⟩ : ∃ fb, (fewB6 ims && decide ((n : Int) ≤ 6)) = fb := ⟨_, rfl⟩
  rw [hfb] at hfew
  have HFB := Lib.hid hfb
  clear hfb
  cases fb with
  | false =>
    clear hA hA0 hP
    go_enter Tryz.func3, Tryz.ntmps3
    go_wp2_with (go_at_call 4; (with_reducible refine hfew.mono ?_); rintro e w1 ⟨rfl, hb1⟩)
    go_returns
    exact ⟨rfl, hb0.trans (hb1.mono hb0.size)⟩
  | true =>
    by_cases hbig : n' > 60
    · have hbz : (n' : Int) > 60 := by omega
      clear hA hA0 hP
      go_enter Tryz.func3, Tryz.ntmps3
      go_wp2_with (go_at_call 4; (with_reducible refine hfew.mono ?_); rintro e w1 ⟨rfl, hb1⟩)
      go_returns
      exact ⟨rfl, hb0.trans (hb1.mono hb0.size)⟩
    · have hbz : ¬ (n' : Int) > 60 := by omega
      have hn6 : n ≤ 6 := by
        have := HFB.out
        simp at this
        omega
      have hpx : ∀ m ∈ ims, m.px.length ≤ 2000 := by
        have := HFB.out
        simp [fewB6] at this
        intro m hm
        have := this.1 m hm
        omega
      have hSN : ∀ W, Below (w.alloc (.cells (w42S tw th most) 24)).heap.size (w.alloc (.cells (w42S tw th most) 24)) W → Calls Tryz.prog 5 #[.slice A n c, .int .i64 tw, .int .i64 th] W (NewP ims tw th W) := fun W hW => snew ims A n c 0 tw th W hn (hA0.nx hW (Nat.le_refl _)) (by omega) (fun m hm => by have := hpx m hm; omega)
      by_cases hnew : newC ims tw th = 0
      · by_cases hm : 1 ≤ most ∧ most ≤ 65536
        · refine steps_main ims A n c tw th most ps A' n' c' w _ rfl hn hA0 hn' ((hP.below hb0).more hb0.size) hbz hn6 hnew hm hfew fun W hW => (hSN W hW).mono fun e w' ⟨q1, q2⟩ => ?_
          rcases q2 with ⟨q3, _⟩ | ⟨_, q3⟩
          · exact absurd hnew q3
          · exact ⟨q1, q3⟩
        · refine steps_nil ims A n c tw th most A' n' c' w _ rfl hbz hfew fun W hW => (hSN W hW).mono fun e w' ⟨q1, q2⟩ => ?_
          rcases q2 with ⟨q3, _⟩ | ⟨_, gs, v, e1, _⟩
          · exact absurd hnew q3
          · exact ⟨q1, _, _, e1, .inr ⟨⟨_, rfl⟩, rfl, by omega⟩⟩
      · refine steps_nil ims A n c tw th most A' n' c' w _ rfl hbz hfew fun W hW => (hSN W hW).mono fun e w' ⟨q1, q2⟩ => ?_
        rcases q2 with ⟨_, q3⟩ | ⟨q3, _⟩
        · exact ⟨q1, _, _, q3, .inl ⟨rfl, by simpa using hnew⟩⟩
        · exact absurd q3 hnew
theorem lawCacheSteps (A : Option Addr) (n c : Nat) (cs1 : Array Value) (A2 : Option Addr) (n2 c2 : Nat) (w : World) (h0 : Rv Tryz.prog w 22 [.slice A n c]) (h1 : Rv Tryz.prog w 24 cs1.toList) (h2 : Rv Tryz.prog w 25 [.slice A2 n2 c2]) :
    Calls Tryz.prog 3 #[.slice A n c, .agg cs1, .slice A2 n2 c2] w fun e w' => e = .returned (.bool true) ∧ Below w.heap.size w w' := by
  obtain ⟨hnc, hcm, ims, hn, hA, hok⟩ := open_ims h0
  obtain ⟨tw, th, most, e1, _, _, _⟩ := open_w42 h1
  obtain ⟨hnc2, hcm2, ps, hn2, hP, hp64⟩ := open_sts h2
  have f1 : cs1 = w42S tw th most := by rw [← Array.toArray_toList (xs := cs1), e1]
  subst f1
  exact steps_walk ims A n c tw th most ps A2 n2 c2 w hn hA (by omega) hn2 hP
end Go.Proofs.YtahiaeaobbofbaaGreat
