/- sample.New of images; the reference's code of images; places; bytes alike; few. -/
import Derived.Test.YthgcfahacoonaaaGreatSS6
import Derived.BigRegion
import Derived.RegionTactic
import Derived.Deep.RegionWith
set_option linter.unusedVariables false
namespace Go.Proofs.YthgcfahacoonaaaGreat
open Go.RowKit
set_option maxRecDepth 100000 in
theorem eql_src (v : Value) (w : World) : (binOp .eql 38 (.iface 65 v) .nilIface).run Tryz.prog w = .ok (.bool false) w := by
  first | rfl | kernel_rfl | (unfold binOp; simp [Op.equalIn])
theorem snew_bad (v : Value) (k n m c0 c1 c2 c3 : Int) (w : World) (h : kerC k n m ≠ 0) : Calls Tryz.prog 9 #[.iface 65 v, .int .i64 k, .int .i64 n, bdV m c0 c1 c2 c3] w fun e w' => e = .returned (.tuple #[.pointer none, .int .i64 (kerC k n m)]) ∧ Below w.heap.size w w' := by
  have hq := fun w => eql_src v w
  have hK := fun w => kchk_any k n m c0 c1 c2 c3 w
  have hb : (kerC k n m != 0) = true := by simpa using h
  clear h
  generalize kerC k n m = q at *
  go_enter Tryz.func9, Tryz.ntmps9
  go_wp2_with (go_at_call 23; (with_reducible refine (hK _).mono ?_); rintro e w2 ⟨rfl, hb2⟩)
  go_returns
  exact ⟨rfl, ((Below.refl _ _).alloc (Nat.le_refl _) _).trans (hb2.mono (by simp))⟩
abbrev samA (v nm fb fr : Value) (n : Int) (sup : Bool) (m c0 c1 c2 c3 : Int) : Array Value := #[.iface 65 v, nm, fb, fr, .int .i64 n, .bool sup, .int .i64 m, .int .u8 c0, .int .u8 c1, .int .u8 c2, .int .u8 c3]
set_option maxRecDepth 100000 in
set_option maxHeartbeats 8000000 in
theorem snew_gen (v nm fb fr : Value) (k n m c0 c1 c2 c3 : Int) (w : World) (h : kerC k n m = 0) (hix : ∀ w, (Instr.index 71 (.agg kerA) (.int .i64 k)).run Tryz.prog w = .ok (.agg #[nm, fb, fr]) w) (hnm : nm.oneCell' = true) (hfb : fb.oneCell' = true) (hfr : fr.oneCell' = true) : Calls Tryz.prog 9 #[.iface 65 v, .int .i64 k, .int .i64 n, bdV m c0 c1 c2 c3] w fun e w' => ∃ g, e = .returned (.tuple #[.pointer (some ⟨g, 0, none⟩), .int .i64 0]) ∧ w.heap.size ≤ g ∧ Bk w' g 74 (samA v nm fb fr n (k == 3) m c0 c1 c2 c3) ∧ Below w.heap.size w w' := by
  have hq := fun w => eql_src v w
  have hK := fun w => kchk_any k n m c0 c1 c2 c3 w
  rw [h] at hK
  clear h
  have hKe := fun w => kernels_any w
  generalize (kerA : Array Value) = ka at *
  go_enter Tryz.func9, Tryz.ntmps9
  go_upto_region 6 with (go_at_call 23; (with_reducible refine (hK _).mono ?_); rintro e w2 ⟨rfl, hb2⟩)
  have kb := (Bk.new w 27 #[.int .i64 m, .int .u8 c0, .int .u8 c1, .int .u8 c2, .int .u8 c3]).nx hb2
  have hb3 := ((Below.refl w.heap.size w).alloc (Nat.le_refl _) (.cells #[.int .i64 m, .int .u8 c0, .int .u8 c1, .int .u8 c2, .int .u8 c3] 27)).trans (hb2.mono (by simp))
  obtain ⟨d0, d1, d2, d3, d4⟩ := kb.cell5
  have hb2s := hb3.size
  go_region_with (first
    | (go_at_call 24; (with_reducible refine (hKe _).mono ?_); rintro e w4 ⟨rfl, hb4⟩; obtain ⟨e0, e1, e2, e3, e4⟩ := (Bk.nx (by first | exact kb | exact kb.drew | exact kb.drewN _) hb4).cell5))
  all_goals
    go_wp2_with fail
    go_returns
    have hb5 : Below w.heap.size w w4 := by first | exact hb3.trans (hb4.mono hb2s) | exact (below_drewN hb3 1).trans (hb4.mono hb2s) | exact (below_drewN hb3 _).trans (hb4.mono hb2s)
    exact ⟨_, rfl, hb5.size, Bk.new _ _ _, hb5.alloc hb5.size _⟩
set_option maxRecDepth 100000 in
set_option maxHeartbeats 4000000 in
/-- New of images. -/
theorem snew_ok (v : Value) (k n m c0 c1 c2 c3 : Int) (w : World) (h : kerC k n m = 0) : Calls Tryz.prog 9 #[.iface 65 v, .int .i64 k, .int .i64 n, bdV m c0 c1 c2 c3] w fun e w' => ∃ g nm fb fr, e = .returned (.tuple #[.pointer (some ⟨g, 0, none⟩), .int .i64 0]) ∧ w.heap.size ≤ g ∧ Bk w' g 74 (samA v nm fb fr n (k == 3) m c0 c1 c2 c3) ∧ ((k = 0 ∧ fb = .func (.func 54) #[] #[]) ∨ (k = 2 ∧ fb = .func (.func 58) #[] #[]) ∨ ((k = 1 ∨ k = 3) ∧ fb = .func (.func 56) #[] #[])) ∧ Below w.heap.size w w' := by
  have hk : k = 0 ∨ k = 1 ∨ k = 2 ∨ k = 3 := by
    unfold kerC at h
    split at h
    · cases h
    · omega
  rcases hk with rfl | rfl | rfl | rfl
  · refine (snew_gen v (.string sNear) (.func (.func 54) #[] #[]) (.func (.func 55) #[] #[]) 0 n m c0 c1 c2 c3 w h (fun w => by kernel_rfl) rfl rfl rfl).mono ?_
    rintro e w' ⟨g, he, hg, hK, hb⟩
    exact ⟨g, _, _, _, he, hg, hK, .inl ⟨rfl, rfl⟩, hb⟩
  · refine (snew_gen v (.string sLinear) (.func (.func 56) #[] #[]) (.func (.func 57) #[] #[]) 1 n m c0 c1 c2 c3 w h (fun w => by kernel_rfl) rfl rfl rfl).mono ?_
    rintro e w' ⟨g, he, hg, hK, hb⟩
    exact ⟨g, _, _, _, he, hg, hK, .inr (.inr ⟨.inl rfl, rfl⟩), hb⟩
  · refine (snew_gen v (.string sCubic) (.func (.func 58) #[] #[]) (.func (.func 59) #[] #[]) 2 n m c0 c1 c2 c3 w h (fun w => by kernel_rfl) rfl rfl rfl).mono ?_
    rintro e w' ⟨g, he, hg, hK, hb⟩
    exact ⟨g, _, _, _, he, hg, hK, .inr (.inl ⟨rfl, rfl⟩), hb⟩
  · refine (snew_gen v (.string sSuper) (.func (.func 56) #[] #[]) (.func (.func 57) #[] #[]) 3 n m c0 c1 c2 c3 w h (fun w => by kernel_rfl) rfl rfl rfl).mono ?_
    rintro e w' ⟨g, he, hg, hK, hb⟩
    exact ⟨g, _, _, _, he, hg, hK, .inr (.inr ⟨.inr rfl, rfl⟩), hb⟩
end Go.Proofs.YthgcfahacoonaaaGreat
