/- Several texts in one: plan's jobs as the row reads them. PlanHolds: what stands at a place of a spy, whatever the kernel; the row, of any job. -/
import Derived.Test.YtibmhabipghjlaaGreatPlanHoldsZz3
import Derived.Test.YtibmhabipghjlaaGreatPlanHoldsZz2
import Derived.Test.YtibmhabipghjlaaGreatPlanHoldsZz14
import Derived.Test.YtibmhabipghjlaaGreatPlanHoldsZz15
section
set_option linter.unusedVariables false
namespace Go.Proofs.YtibmhabipghjlaaGreat
open Go.RowKit
theorem co_int39 : Tryz.prog.cellsOf 3 = 1 := by kernel_rfl
theorem co_i6439 : Tryz.prog.cellsOf 2 = 1 := by kernel_rfl
theorem co_u839 : Tryz.prog.cellsOf 5 = 1 := by kernel_rfl
theorem co_4b39 : Tryz.prog.cellsOf 24 = 4 := by kernel_rfl
theorem co_box39 : Tryz.prog.cellsOf 23 = 4 := by kernel_rfl
theorem co_bord39 : Tryz.prog.cellsOf 26 = 5 := by kernel_rfl
theorem co_job39 : Tryz.prog.cellsOf 28 = 15 := by kernel_rfl
set_option maxRecDepth 100000 in
theorem open_4b39 {w : World} {cs : List Value} (h : Rv Tryz.prog w 24 cs) : ∃ a b c d : Int, cs = [.int .u8 a, .int .u8 b, .int .u8 c, .int .u8 d] := by
  obtain ⟨hl, hel⟩ := rv_array Tryz.underlying24 h
  rw [co_4b39] at hl
  match cs, hl with
  | [v0, v1, v2, v3], _ =>
    rw [co_u839] at hel
    obtain ⟨a, e0, i0⟩ := rv_int Tryz.underlying5 (hel 0 (by omega))
    obtain ⟨b, e1, i1⟩ := rv_int Tryz.underlying5 (hel 1 (by omega))
    obtain ⟨c, e2, i2⟩ := rv_int Tryz.underlying5 (hel 2 (by omega))
    obtain ⟨d, e3, i3⟩ := rv_int Tryz.underlying5 (hel 3 (by omega))
    simp at e0 e1 e2 e3
    subst e0 e1 e2 e3
    exact ⟨a, b, c, d, rfl⟩
set_option maxRecDepth 100000 in
theorem open_box39 {w : World} {cs : List Value} (h : Rv Tryz.prog w 23 cs) : ∃ a b c d : Int, cs = [.int .i64 a, .int .i64 b, .int .i64 c, .int .i64 d] := by
  obtain ⟨hl, hf⟩ := rv_struct Tryz.underlying23 h
  rw [co_box39] at hl
  match cs, hl with
  | [v0, v1, v2, v3], _ =>
    have g0 : Rv Tryz.prog w 2 (([v0, v1, v2, v3].drop 0).take (Tryz.prog.cellsOf 2)) := hf 0 _ rfl
    have g1 : Rv Tryz.prog w 2 (([v0, v1, v2, v3].drop 1).take (Tryz.prog.cellsOf 2)) := hf 1 _ rfl
    have g2 : Rv Tryz.prog w 2 (([v0, v1, v2, v3].drop 2).take (Tryz.prog.cellsOf 2)) := hf 2 _ rfl
    have g3 : Rv Tryz.prog w 2 (([v0, v1, v2, v3].drop 3).take (Tryz.prog.cellsOf 2)) := hf 3 _ rfl
    rw [co_i6439] at g0 g1 g2 g3
    obtain ⟨a, e0, _⟩ := rv_int Tryz.underlying2 g0
    obtain ⟨b, e1, _⟩ := rv_int Tryz.underlying2 g1
    obtain ⟨c, e2, _⟩ := rv_int Tryz.underlying2 g2
    obtain ⟨d, e3, _⟩ := rv_int Tryz.underlying2 g3
    simp at e0 e1 e2 e3
    subst e0 e1 e2 e3
    exact ⟨a, b, c, d, rfl⟩
set_option maxRecDepth 100000 in
theorem open_bord39 {w : World} {cs : List Value} (h : Rv Tryz.prog w 26 cs) : ∃ m a b c d : Int, cs = [.int .i64 m, .int .u8 a, .int .u8 b, .int .u8 c, .int .u8 d] := by
  obtain ⟨hl, hf⟩ := rv_struct Tryz.underlying26 h
  rw [co_bord39] at hl
  match cs, hl with
  | [v0, v1, v2, v3, v4], _ =>
    have g0 : Rv Tryz.prog w 3 (([v0, v1, v2, v3, v4].drop 0).take (Tryz.prog.cellsOf 3)) := hf 0 _ rfl
    have g1 : Rv Tryz.prog w 24 (([v0, v1, v2, v3, v4].drop 1).take (Tryz.prog.cellsOf 24)) := hf 1 _ rfl
    rw [co_int39] at g0
    rw [co_4b39] at g1
    obtain ⟨m, e0, _⟩ := rv_int Tryz.underlying3 g0
    obtain ⟨a, b, c, d, e1⟩ := open_4b39 g1
    simp at e0 e1
    obtain ⟨e1, e2, e3, e4⟩ := e1
    subst e0 e1 e2 e3 e4
    exact ⟨m, a, b, c, d, rfl⟩
set_option maxRecDepth 100000 in
set_option maxHeartbeats 1000000 in
theorem open_job39 {w : World} {cs : List Value} (h : Rv Tryz.prog w 28 cs) : ∃ j : Jb, cs = j.cells.toList := by
  obtain ⟨hl, hf⟩ := rv_struct Tryz.underlying28 h
  rw [co_job39] at hl
  match cs, hl with
  | [v0, v1, v2, v3, v4, v5, v6, v7, v8, v9, v10, v11, v12, v13, v14], _ =>
    have g0 : Rv Tryz.prog w 23 (([v0, v1, v2, v3, v4, v5, v6, v7, v8, v9, v10, v11, v12, v13, v14].drop 0).take (Tryz.prog.cellsOf 23)) := hf 0 _ rfl
    have g4 : Rv Tryz.prog w 3 (([v0, v1, v2, v3, v4, v5, v6, v7, v8, v9, v10, v11, v12, v13, v14].drop 4).take (Tryz.prog.cellsOf 3)) := hf 1 _ rfl
    have g5 : Rv Tryz.prog w 26 (([v0, v1, v2, v3, v4, v5, v6, v7, v8, v9, v10, v11, v12, v13, v14].drop 5).take (Tryz.prog.cellsOf 26)) := hf 2 _ rfl
    have g10 : Rv Tryz.prog w 3 (([v0, v1, v2, v3, v4, v5, v6, v7, v8, v9, v10, v11, v12, v13, v14].drop 10).take (Tryz.prog.cellsOf 3)) := hf 3 _ rfl
    have g11 : Rv Tryz.prog w 3 (([v0, v1, v2, v3, v4, v5, v6, v7, v8, v9, v10, v11, v12, v13, v14].drop 11).take (Tryz.prog.cellsOf 3)) := hf 4 _ rfl
    have g12 : Rv Tryz.prog w 3 (([v0, v1, v2, v3, v4, v5, v6, v7, v8, v9, v10, v11, v12, v13, v14].drop 12).take (Tryz.prog.cellsOf 3)) := hf 5 _ rfl
    have g13 : Rv Tryz.prog w 3 (([v0, v1, v2, v3, v4, v5, v6, v7, v8, v9, v10, v11, v12, v13, v14].drop 13).take (Tryz.prog.cellsOf 3)) := hf 6 _ rfl
    have g14 : Rv Tryz.prog w 3 (([v0, v1, v2, v3, v4, v5, v6, v7, v8, v9, v10, v11, v12, v13, v14].drop 14).take (Tryz.prog.cellsOf 3)) := hf 7 _ rfl
    rw [co_box39] at g0
    rw [co_bord39] at g5
    rw [co_int39] at g4 g10 g11 g12 g13 g14
    obtain ⟨a, b, c, d, e0⟩ := open_box39 g0
    obtain ⟨K, e4, _⟩ := rv_int Tryz.underlying3 g4
    obtain ⟨m, p, q, r, s, e5⟩ := open_bord39 g5
    obtain ⟨x10, e10, _⟩ := rv_int Tryz.underlying3 g10
    obtain ⟨x11, e11, _⟩ := rv_int Tryz.underlying3 g11
    obtain ⟨x12, e12, _⟩ := rv_int Tryz.underlying3 g12
    obtain ⟨x13, e13, _⟩ := rv_int Tryz.underlying3 g13
    obtain ⟨x14, e14, _⟩ := rv_int Tryz.underlying3 g14
    simp at e0 e4 e5 e10 e11 e12 e13 e14
    obtain ⟨f0, f1, f2, f3⟩ := e0
    obtain ⟨f5, f6, f7, f8, f9⟩ := e5
    subst f0 f1 f2 f3 e4 f5 f6 f7 f8 f9 e10 e11 e12 e13 e14
    exact ⟨⟨a, b, c, d, K, m, p, q, r, s, x10, x11, x12, x13, x14⟩, rfl⟩
end Go.Proofs.YtibmhabipghjlaaGreat
end
section
set_option linter.unusedVariables false
namespace Go.Proofs.YtibmhabipghjlaaGreat
open Go.RowKit
set_option maxRecDepth 100000 in
theorem job_bytes {w : World} {j : Jb} (h : Rv Tryz.prog w 28 j.cells.toList) : (0 ≤ j.c0 ∧ j.c0 ≤ 255) ∧ (0 ≤ j.c1 ∧ j.c1 ≤ 255) ∧ (0 ≤ j.c2 ∧ j.c2 ≤ 255) ∧ (0 ≤ j.c3 ∧ j.c3 ≤ 255) := by
  obtain ⟨hl, hf⟩ := rv_struct Tryz.underlying28 h
  have g5 : Rv Tryz.prog w 26 ((j.cells.toList.drop 5).take (Tryz.prog.cellsOf 26)) := hf 2 _ rfl
  rw [co_bord39] at g5
  have g5' : Rv Tryz.prog w 26 [.int .i64 j.mo, .int .u8 j.c0, .int .u8 j.c1, .int .u8 j.c2, .int .u8 j.c3] := g5
  obtain ⟨hl2, hf2⟩ := rv_struct Tryz.underlying26 g5'
  have g1 : Rv Tryz.prog w 24 ((([.int .i64 j.mo, .int .u8 j.c0, .int .u8 j.c1, .int .u8 j.c2, .int .u8 j.c3] : List Value).drop 1).take (Tryz.prog.cellsOf 24)) := hf2 1 _ rfl
  rw [co_4b39] at g1
  have g1' : Rv Tryz.prog w 24 [.int .u8 j.c0, .int .u8 j.c1, .int .u8 j.c2, .int .u8 j.c3] := g1
  obtain ⟨hl3, hel⟩ := rv_array Tryz.underlying24 g1'
  rw [co_u839] at hel
  obtain ⟨a, e0, i0⟩ := rv_int Tryz.underlying5 (hel 0 (by omega))
  obtain ⟨b, e1, i1⟩ := rv_int Tryz.underlying5 (hel 1 (by omega))
  obtain ⟨c, e2, i2⟩ := rv_int Tryz.underlying5 (hel 2 (by omega))
  obtain ⟨d, e3, i3⟩ := rv_int Tryz.underlying5 (hel 3 (by omega))
  simp at e0 e1 e2 e3
  subst e0 e1 e2 e3
  exact ⟨wf_u8 i0, wf_u8 i1, wf_u8 i2, wf_u8 i3⟩
set_option maxRecDepth 100000 in
theorem open_p239 {w : World} {cs : List Value} (h : Rv Tryz.prog w 50 cs) : ∃ a b : Int, cs = [.int .i64 a, .int .i64 b] := by
  obtain ⟨hl, hel⟩ := rv_array Tryz.underlying50 h
  rw [show Tryz.prog.cellsOf 50 = 2 by kernel_rfl] at hl
  match cs, hl with
  | [v0, v1], _ =>
    rw [co_i6439] at hel
    obtain ⟨a, e0, i0⟩ := rv_int Tryz.underlying2 (hel 0 (by omega))
    obtain ⟨b, e1, i1⟩ := rv_int Tryz.underlying2 (hel 1 (by omega))
    simp at e0 e1
    subst e0 e1
    exact ⟨a, b, rfl⟩
theorem hold_at {j : Jb} (hj : JOk j) (hb : (0 ≤ j.c0 ∧ j.c0 ≤ 255) ∧ (0 ≤ j.c1 ∧ j.c1 ≤ 255) ∧ (0 ≤ j.c2 ∧ j.c2 ≤ 255) ∧ (0 ≤ j.c3 ∧ j.c3 ≤ 255)) {n k : Nat} (hk : k < n) (hk15 : k ≤ 15)
    (w0 : World) (gs gS : Nat) (nm fb fr : Value) (u v : Int) (w' : World) (iu : inF u = true) (iv : inF v = true) (hu : j.U0 ≤ u ∧ u ≤ j.U1) (hv : j.V0 ≤ v ∧ v ≤ j.V1) (hs : SG w0 gs j (accL (lfJ j) n 0) 0 w') (hK : Bk w' gS 96 (samS gs nm fb fr 1 (j.K == 3) j.mo j.c0 j.c1 j.c2 j.c3))
    (hfb : (j.K = 0 ∧ fb = .func (.func 53) #[] #[]) ∨ (j.K = 2 ∧ fb = .func (.func 57) #[] #[]) ∨ ((j.K = 1 ∨ j.K = 3) ∧ fb = .func (.func 55) #[] #[])) :
    Calls Tryz.prog 18 #[.pointer (some ⟨gS, 0, none⟩), .int .i64 (k : Int), .int .i64 u, .int .i64 v] w' fun e w'' => ∃ r, e = .returned (.tuple #[r, .int .i64 0]) ∧ SG w0 gs j (accL (lfJ j) n 0) 16 w'' ∧ Kp w' w'' := by
  obtain ⟨b0, b1, b2, b3⟩ := hb
  have lu := lvTo_in (k := (k : Int)) iu
  have lv := lvTo_in (k := (k : Int)) iv
  have bu := inF_iff.1 lu
  have bv := inF_iff.1 lv
  have lU0 := lvTo_in (k := (k : Int)) hj.f.1
  have lV0 := lvTo_in (k := (k : Int)) hj.f.2.1
  have lU1 := lvTo_in (k := (k : Int)) hj.f.2.2.1
  have lV1 := lvTo_in (k := (k : Int)) hj.f.2.2.2
  have u0 := lvTo_le (k := (k : Int)) hu.1
  have u1 := lvTo_le (k := (k : Int)) hu.2
  have v0 := lvTo_le (k := (k : Int)) hv.1
  have v1 := lvTo_le (k := (k : Int)) hv.2
  rcases hfb with ⟨h0, rfl⟩ | ⟨h2, rfl⟩ | ⟨h13, rfl⟩
  · refine pat_near hs hj k hk15 nm fr 1 (j.K == 3) j.c0 j.c1 j.c2 j.c3 u v hK iu iv 16 (fun w2 hs2 => ?_)
    refine (pnear_any hs2 _ (lvTo u k) (lvTo v k) lu lv (fun w3 hs3 => ?_)).mono (fun e w'' h => ?_)
    · refine ppix_any hs3 hj k hk15 (by omega) j.mo j.c0 j.c1 j.c2 j.c3 _ _ b0 b1 b2 b3 (by omega) (by omega) (fun p q hp hq => ?_)
      have ru := reach_near u0 u1 lU0 lU1
      have rv := reach_near v0 v1 lV0 lV1
      rw [← h0] at ru rv
      exact told_tile hj hk ru.1 ru.2 rv.1 rv.2 hp hq
    · obtain ⟨r, e1, e2, e3⟩ := h
      exact ⟨r, e1, e2.more (by omega), e3⟩
  · refine pat_cubic hs hj k hk15 nm fr 1 (j.K == 3) j.c0 j.c1 j.c2 j.c3 u v hK iu iv 16 (fun w2 hs2 => ?_)
    refine (pcubic_any hs2 _ (lvTo u k) (lvTo v k) lu lv (fun w3 m3 x y hs3 hm3 hx hy => ?_)).mono (fun e w'' h => ?_)
    · refine ppix_any hs3 hj k hk15 (by omega) j.mo j.c0 j.c1 j.c2 j.c3 _ _ b0 b1 b2 b3 (by omega) (by omega) (fun p q hp hq => ?_)
      have ru := reach_cubic u0 u1 lU0 lU1 hx.1 hx.2
      have rv := reach_cubic v0 v1 lV0 lV1 hy.1 hy.2
      rw [← h2] at ru rv
      exact told_tile hj hk ru.1 ru.2 rv.1 rv.2 hp hq
    · obtain ⟨r, e1, e2, e3⟩ := h
      exact ⟨r, e1, e2.more (by omega), e3⟩
  · refine pat_linear hs hj k hk15 nm fr 1 (j.K == 3) j.c0 j.c1 j.c2 j.c3 u v hK iu iv 16 (fun w2 hs2 => ?_)
    refine (plinear_any hs2 _ (lvTo u k) (lvTo v k) lu lv (fun w3 m3 x y hs3 hm3 hx hy => ?_)).mono (fun e w'' h => ?_)
    · refine ppix_any hs3 hj k hk15 (by omega) j.mo j.c0 j.c1 j.c2 j.c3 _ _ b0 b1 b2 b3 (by omega) (by omega) (fun p q hp hq => ?_)
      have ru := reach_linear h13 u0 u1 lU0 lU1 hx
      have rv := reach_linear h13 v0 v1 lV0 lV1 hy
      exact told_tile hj hk ru.1 ru.2 rv.1 rv.2 hp hq
    · obtain ⟨r, e1, e2, e3⟩ := h
      exact ⟨r, e1, e2.more (by omega), e3⟩
theorem walkPlanHolds (j : Jb) (hb : (0 ≤ j.c0 ∧ j.c0 ≤ 255) ∧ (0 ≤ j.c1 ∧ j.c1 ≤ 255) ∧ (0 ≤ j.c2 ∧ j.c2 ≤ 255) ∧ (0 ≤ j.c3 ∧ j.c3 ≤ 255)) (a b k : Int) (w : World) : Calls Tryz.prog 4 #[.agg j.cells, .agg (p2A a b), .int .i64 k] w fun e w' => e = .returned (.bool true) ∧ Below w.heap.size w w' := by
  have hR := fun w' => rcheck_any j w'
  have hP := fun w' => pcheck_any j w'
  by_cases hc : plC j = 0
  · have ok := plC_zero hc
    rw [hc] at hR hP
    by_cases h1 : j.W ≤ 60
    · by_cases h2 : j.H ≤ 60
      · obtain ⟨l1, l2⟩ := ok.l
        have hcn := (cnt_le16 j.W j.H 15).1
        obtain ⟨n, hn⟩ : ∃ n : Nat, j.L = (n : Int) := ⟨j.L.toNat, by omega⟩
        have hn16 : n ≤ 16 := by omega
        have hsm := fun q (_ : q < 16) => ok.small (by omega) (by omega) q
        have hF := fun w' => pof_in j n (lfJ j) w' hn hn16 hsm hP (fun q w'' hq => ok.tiles q (by omega) w'')
        by_cases hk : 0 ≤ k ∧ k < j.L
        · obtain ⟨kn, rfl⟩ : ∃ kn : Nat, k = (kn : Int) := ⟨k.toNat, by omega⟩
          refine hold_main j a b kn (accL (lfJ j) n 0) w ok h1 h2 hk.1 hk.2 hR hF ?_ (fun w0 gs gS nm fb fr u v w' iu iv hu hv hs hK hfb => hold_at ok hb (by omega) (by omega) w0 gs gS nm fb fr u v w' iu iv hu hv hs hK hfb)
          exact Nat.le_trans (accL_len hsm (.inr ⟨hn16, rfl⟩)) (by decide)
        · exact hold_out j a b k (accL (lfJ j) n 0) w h1 h2 (by omega) hR hF
      · exact hold_far j a b k w (.inr ⟨h1, by omega⟩) hR
    · exact hold_far j a b k w (.inl (by omega)) hR
  · exact hold_bad j a b k (plC j) w hc hR hP
theorem lawPlanHolds (cs ps : Array Value) (k : Int) (w : World) (h0 : Rv Tryz.prog w 28 cs.toList) (h1 : Rv Tryz.prog w 50 ps.toList) (h2 : (Lit.int .i64 k).wf = true) :
    Calls Tryz.prog 4 #[.agg cs, .agg ps, .int .i64 k] w fun e w' => e = .returned (.bool true) ∧ Below w.heap.size w w' := by
  obtain ⟨j, e0⟩ := open_job39 h0
  obtain rfl : cs = j.cells := Array.toList_inj.1 e0
  obtain ⟨a, b, e1⟩ := open_p239 h1
  obtain rfl : ps = p2A a b := Array.toList_inj.1 e1
  exact walkPlanHolds j (job_bytes h0) a b k w
end Go.Proofs.YtibmhabipghjlaaGreat
end
