/- Several texts in one: plan and its reference: the tiles of an image, of a job that may be. plan and its reference: the checks, joined; whether a job is near; the reference's job. plan: whether a tile is in a list (after the cache's). plan.Level and plan.Of. plan: the chapter's example; lists that are alike. PlanHolds: the law's walk where nothing is asked of a spy. PlanHolds: the spy: its block, what its calls leave alone; its methods that note nothing. PlanHolds: the plain law: what is asked for within the box is told. PlanHolds: what a spy answers within an image, and what it notes. -/
import Derived.Test.YtibmhabipghjlaaGreatPlanHoldsZz10
import Derived.Test.YtibmhabipghjlaaGreatPlanHoldsZz3
import Derived.Test.YtibmhabipghjlaaGreatPlanHoldsZz9
import Derived.Test.YtibmhabipghjlaaGreatPlanHoldsZz4
import Derived.Test.YtibmhabipghjlaaGreatPlanHoldsZz2
import Derived.Test.YtibmhabipghjlaaGreatPlanHoldsZz1
import Derived.Deep.QuietTactic
import Derived.BigQuiet
section
set_option linter.unusedVariables false
namespace Go.Proofs.YtibmhabipghjlaaGreat
open Go.RowKit
structure JOk (j : Jb) : Prop where
  k : 0 ≤ j.K ∧ j.K ≤ 3
  m : 0 ≤ j.mo ∧ j.mo ≤ 3
  g : grC j.W j.H j.TW j.TH = 0
  l : 1 ≤ j.L ∧ j.L ≤ cntI 15 j.W j.H
  f : inF j.U0 = true ∧ inF j.V0 = true ∧ inF j.U1 = true ∧ inF j.V1 = true
  u : j.U0 ≤ j.U1
  v : j.V0 ≤ j.V1
theorem boC_zero {m : Int} (h : boC m = 0) : 0 ≤ m ∧ m ≤ 3 := by
  unfold boC at h
  split at h <;> omega
theorem plC_zero {j : Jb} (h : plC j = 0) : JOk j := by
  rcases plC_cases j with ⟨_, e⟩ | ⟨_, _, hb, e⟩ | ⟨_, _, _, hg, e⟩ | ⟨_, _, _, _, _, e⟩ | ⟨_, _, _, _, _, _, e⟩ | ⟨h1, h2, h3, h4, h5, h6, e⟩
  · omega
  · exact absurd (e ▸ h) hb
  · exact absurd (e ▸ h) hg
  · omega
  · omega
  · rw [h] at e
    have hn : ¬ (farL j = true ∨ j.U1 < j.U0 ∨ j.V1 < j.V0) := fun hh => by rw [if_pos hh] at e; omega
    have hf : farL j = false := by
      cases hq : farL j
      · rfl
      · exact absurd (.inl hq) hn
    unfold farL at hf
    simp at hf
    exact ⟨⟨h1, h2⟩, boC_zero h3, h4, ⟨h5, h6⟩, ⟨hf.1, hf.2.1, hf.2.2.1, hf.2.2.2⟩, by omega, by omega⟩
theorem lvTo_in {u k : Int} (h : inF u = true) : inF (lvTo u k) = true := by
  rw [inF_iff] at *
  unfold lvTo
  have hp : (1 : Int) ≤ 2 ^ lvTop k := by have := p2_15 (lvTop k) (lvTop_le k); omega
  generalize (2 : Int) ^ lvTop k = p at *
  have e : (70368744177664 : Int) * p - 70368744177664 = 70368744177664 * (p - 1) := by rw [Int.mul_sub, Int.mul_one]
  constructor
  · rw [Int.le_ediv_iff_mul_le (by omega)]; omega
  · have := Int.ediv_le_ediv (a := u - 32768 * (p - 1)) (b := 70368744177664 * p) (c := p) (by omega) (by omega)
    rw [Int.mul_ediv_cancel _ (by omega)] at this
    exact this
theorem lvTo_le {u v k : Int} (h : u ≤ v) : lvTo u k ≤ lvTo v k := by
  unfold lvTo
  have hp : (1 : Int) ≤ 2 ^ lvTop k := by have := p2_15 (lvTop k) (lvTop_le k); omega
  exact Int.ediv_le_ediv (by omega) (by omega)
theorem sreach_ok {K mo lo hi n : Int} (hK : 0 ≤ K ∧ K ≤ 3) (hm : 0 ≤ mo ∧ mo ≤ 3) (hle : lo ≤ hi) (e1 : inF lo = true) (e2 : inF hi = true) (hn : 1 ≤ n ∧ n ≤ 32768) : okC mo (sreachR K lo hi).1 (sreachR K lo hi).2 n := by
  have hR : ∀ a b h : Int, reachR a b h lo hi = ((lo + h) / 65536 + a, (hi + h) / 65536 + b) := fun a b h => if_pos ⟨hle, e1, e2⟩
  rw [inF_iff] at e1 e2
  have hf : ∀ a b h : Int, 0 ≤ h ∧ h ≤ 32768 → -1 ≤ a ∧ a ≤ b ∧ b ≤ 2 → okC mo ((lo + h) / 65536 + a) ((hi + h) / 65536 + b) n := fun a b h hh hab => by
    have h1 : (lo + h) / 65536 ≤ (hi + h) / 65536 := Int.ediv_le_ediv (by omega) (by omega)
    refine ⟨by omega, hm, ⟨hn.1, by omega⟩, ?_, ?_⟩ <;> (unfold offB; simp; omega)
  unfold sreachR
  rcases (show K = 0 ∨ K = 1 ∨ K = 2 ∨ K = 3 by omega) with h | h | h | h <;> subst h
  · rw [if_pos rfl, hR]; exact hf 0 0 32768 ⟨by omega, by omega⟩ ⟨by omega, by omega, by omega⟩
  · rw [if_neg (by omega), if_pos rfl, hR]; exact hf 0 1 0 ⟨by omega, by omega⟩ ⟨by omega, by omega, by omega⟩
  · rw [if_neg (by omega), if_neg (by omega), if_pos rfl, hR]; exact hf (-1) 2 0 ⟨by omega, by omega⟩ ⟨by omega, by omega, by omega⟩
  · rw [if_neg (by omega), if_neg (by omega), if_neg (by omega), if_pos rfl, hR]; exact hf 0 1 0 ⟨by omega, by omega⟩ ⟨by omega, by omega, by omega⟩
theorem colsR_in {m lo hi n : Int} (h : okC m lo hi n) : ∀ r ∈ colsR m lo hi n, 0 ≤ r.1 ∧ r.1 < r.2 ∧ r.2 ≤ n := fun r hr => by
  have hc := (colsR_canon m lo hi n).1 r hr
  have hb : ∀ x, MemR (colsR m lo hi n) x → 0 ≤ x ∧ x < n := fun x hx => by
    obtain ⟨i, h1, h2, h3⟩ := (colsR_mem h x).1 hx
    have hi2 := off_no h.2.2.2.1
    have hi3 := off_no h.2.2.2.2
    have hq := (@idx_col m n i x h.2.1 h.2.2.1.1).1 h3
    have := @idx_bd m i n
    rw [hq] at this
    exact this rfl
  have h1 := hb r.1 ⟨r, hr, by omega, hc⟩
  have h2 := hb (r.2 - 1) ⟨r, hr, by omega, by omega⟩
  omega
/-- The columns (or rows) that are asked for, of image q. -/
def colJ (K mo lo hi : Int) (q : Nat) (n : Int) : List Rn := colsR mo (sreachR K (lvTo lo q) (lvTo hi q)).1 (sreachR K (lvTo lo q) (lvTo hi q)).2 n
noncomputable def lfJ (j : Jb) (q : Nat) : List Int := levL (szI q j.W) (szI q j.H) j.TW j.TH (colJ j.K j.mo j.U0 j.U1 q (szI q j.W)) (colJ j.K j.mo j.V0 j.V1 q (szI q j.H))
theorem cnt_le16 (a b : Int) : ∀ n, cntI n a b ≤ n + 1 ∧ 1 ≤ cntI n a b
  | 0 => ⟨by simp [cntI], by simp [cntI]⟩
  | n + 1 => by
    have := cnt_le16 ((a + 1) / 2) ((b + 1) / 2) n
    unfold cntI
    split <;> omega
theorem JOk.grq {j : Jb} (h : JOk j) (q : Nat) : grC (szI q j.W) (szI q j.H) j.TW j.TH = 0 := by
  obtain ⟨hW, hH, hTW, hTH⟩ := grC_zero.1 h.g
  exact grC_zero.2 ⟨szI_bd q hW, szI_bd q hH, hTW, hTH⟩
theorem JOk.tiles {j : Jb} (h : JOk j) (q : Nat) (hq : q ≤ 15) (w : World) :
    Calls Tryz.prog 28 #[.agg j.cells, .int .i64 q] w fun e w' => ∃ v, e = .returned v ∧ w'.ownsRow w.heap.size 3 1 v (lfJ j q).length ((lfJ j q).map (Value.int .i64)) ∧ Below w.heap.size w w' := by
  obtain ⟨hW, hH, hTW, hTH⟩ := grC_zero.1 h.g
  have hWq := szI_bd q hW
  have hHq := szI_bd q hH
  have okU := sreach_ok (n := szI q j.W) h.k h.m (lvTo_le (k := q) h.u) (lvTo_in h.f.1) (lvTo_in h.f.2.2.1) hWq
  have okV := sreach_ok (n := szI q j.H) h.k h.m (lvTo_le (k := q) h.v) (lvTo_in h.f.2.1) (lvTo_in h.f.2.2.2) hHq
  exact tiles_any j q (szI q j.W) (szI q j.H) j.TW j.TH (lvTo j.U0 q) (lvTo j.V0 q) (lvTo j.U1 q) (lvTo j.V1 q) (colJ j.K j.mo j.U0 j.U1 q (szI q j.W)) (colJ j.K j.mo j.V0 j.V1 q (szI q j.H)) w (h.grq q)
    (colsR_in okU) (colsR_in okV) (colsR_len _ _ _ _) (colsR_len _ _ _ _)
    (fun w' => jruns_any j (lvTo j.V0 q) (lvTo j.V1 q) (szI q j.H) w') (fun w' => jruns_any j (lvTo j.U0 q) (lvTo j.U1 q) (szI q j.W) w')
    (fun w' => jgrid_any j q w' hq hW hH)
    (fun w' => boxto_any j.U0 j.V0 j.U1 j.V1 q w' fun u w'' hu => to_any u q w'' (by rcases hu with e | e | e | e <;> subst e <;> first | exact (inF_iff.1 h.f.1).1 | exact (inF_iff.1 h.f.2.1).1 | exact (inF_iff.1 h.f.2.2.1).1 | exact (inF_iff.1 h.f.2.2.2).1) (by rcases hu with e | e | e | e <;> subst e <;> first | exact (inF_iff.1 h.f.1).2 | exact (inF_iff.1 h.f.2.1).2 | exact (inF_iff.1 h.f.2.2.1).2 | exact (inF_iff.1 h.f.2.2.2).2))
theorem JOk.marks {j : Jb} (h : JOk j) (lo hi : Int) (q : Nat) (n : Nat) (hn : 1 ≤ n ∧ n ≤ 32768) (hle : lo ≤ hi) (e1 : inF lo = true) (e2 : inF hi = true) (w : World) :
    Calls Tryz.prog 30 #[.agg j.cells, .int .i64 q, .int .i64 lo, .int .i64 hi, .int .i64 (n : Int)] w fun e w' => ∃ v bs, e = .returned v ∧ bs.length = n ∧ w'.ownsRow w.heap.size 4 1 v n (bs.map Value.bool) ∧ Below w.heap.size w w' ∧ Marks bs (colJ j.K j.mo lo hi q n) := by
  have f1 := lvTo_in (k := q) e1
  have f2 := lvTo_in (k := q) e2
  have b1 := inF_iff.1 f1
  have b2 := inF_iff.1 f2
  exact rmarks39 j q lo hi _ _ n w (fun u w' hu => rto_any u q w' (by rcases hu with e | e <;> subst e <;> first | exact (inF_iff.1 e1).1 | exact (inF_iff.1 e2).1) (by rcases hu with e | e <;> subst e <;> first | exact (inF_iff.1 e1).2 | exact (inF_iff.1 e2).2))
    (fun w' => rreach39 j.K (lvTo lo q) (lvTo hi q) w' h.k (lvTo_le hle) b1 b2 f1 f2) (sreach_ok h.k h.m (lvTo_le hle) f1 f2 ⟨by omega, by omega⟩) (by omega)
theorem JOk.level {j : Jb} (h : JOk j) (q : Nat) (hq : q ≤ 15) (w : World) :
    Calls Tryz.prog 12 #[.agg j.cells, .int .i64 q] w fun e w' => ∃ v, e = .returned v ∧ w'.ownsRow w.heap.size 3 1 v (lfJ j q).length ((lfJ j q).map (Value.int .i64)) ∧ Below w.heap.size w w' := by
  obtain ⟨hW, hH, hTW, hTH⟩ := grC_zero.1 h.g
  have hWq := szI_bd q hW
  have hHq := szI_bd q hH
  have hSz := fun w' => rsize_any j.W j.H q w' hq hW hH
  have hg := h.grq q
  have hM := fun lo hi n h1 h2 h3 h4 w' => h.marks lo hi q n h1 h2 h3 h4 w'
  unfold lfJ
  obtain ⟨W, hWe⟩ : ∃ W : Nat, szI q j.W = (W : Int) := ⟨(szI q j.W).toNat, by omega⟩
  obtain ⟨H, hHe⟩ : ∃ H : Nat, szI q j.H = (H : Int) := ⟨(szI q j.H).toNat, by omega⟩
  rw [hWe, hHe] at hg
  simp only [hWe, hHe] at hSz ⊢
  rw [hWe] at hWq
  rw [hHe] at hHq
  exact rlevel39 j q W H _ _ w hg (by omega) (by omega) hSz (fun w' => hM j.U0 j.U1 W ⟨by omega, by omega⟩ h.u h.f.1 h.f.2.2.1 w') (fun w' => hM j.V0 j.V1 H ⟨by omega, by omega⟩ h.v h.f.2.1 h.f.2.2.2 w')
theorem szI_le : ∀ (q : Nat) {n : Int}, 1 ≤ n → szI q n ≤ n ∧ 1 ≤ szI q n
  | 0, n, h => ⟨Int.le_refl _, h⟩
  | q + 1, n, h => by
    have h1 := szI_le q (n := (n + 1) / 2) (by omega)
    unfold szI
    omega
theorem grN_le {W T : Int} (hW : 1 ≤ W) (hT : 1 ≤ T) : grN W T ≤ W := by
  rcases Int.lt_or_le W (grN W T) with h | h
  · have h1 := (grN_lt (W := W) (T := T) (r := W) hT).1 h
    have h2 : W * 1 ≤ W * T := Int.mul_le_mul_of_nonneg_left hT (by omega)
    omega
  · exact h
theorem JOk.small {j : Jb} (h : JOk j) (hW1 : j.W ≤ 100) (hH1 : j.H ≤ 100) (q : Nat) : (lfJ j q).length ≤ 10000 := by
  obtain ⟨hW, hH, hTW, hTH⟩ := grC_zero.1 h.g
  have h1 := szI_le q hW.1
  have h2 := szI_le q hH.1
  have g1 := grN_le h1.2 hTW.1
  have g2 := grN_le h2.2 hTH.1
  have g3 := grN_bd (szI_bd q hW) hTW
  have g4 := grN_bd (szI_bd q hH) hTH
  unfold lfJ levL
  rw [List.length_map]
  refine Nat.le_trans (List.length_filter_le _ _) ?_
  rw [List.length_range]
  unfold plN
  have : grN (szI q j.W) j.TW * grN (szI q j.H) j.TH ≤ 100 * 100 := Int.mul_le_mul (by omega) (by omega) (by omega) (by omega)
  omega
end Go.Proofs.YtibmhabipghjlaaGreat
end
section
set_option linter.unusedVariables false
namespace Go.Proofs.YtibmhabipghjlaaGreat
open Go.RowKit
theorem pcheck_any (j : Jb) (w : World) : Calls Tryz.prog 7 #[.agg j.cells] w fun e w' => e = .returned (.int .i64 (plC j)) ∧ Below w.heap.size w w' := by
  by_cases hK : j.K < 0 ∨ 3 < j.K
  · have e : plC j = 10 := by unfold plC; rw [if_pos hK]
    rw [e]
    exact pchk_name j w hK
  · have e : plC j = (if boC j.mo ≠ 0 then boC j.mo else if grC j.W j.H j.TW j.TH ≠ 0 then grC j.W j.H j.TW j.TH else if j.L < 1 ∨ cntI 15 j.W j.H < j.L then 11 else if (farL j || decide (j.U0 > j.U1) || decide (j.V0 > j.V1)) = true then 11 else 0) := by
      unfold plC
      rw [if_neg hK]
      simp only [Bool.or_eq_true, decide_eq_true_eq, or_assoc, GT.gt]
    rw [e]
    refine pchk_rest j w (boC j.mo) (grC j.W j.H j.TW j.TH) (cntI 15 j.W j.H) (farL j) _ _ (nameR j.K) (nameR_some ⟨by omega, by omega⟩) rfl rfl (fun w' => name_any j.K w') (fun w' => jgrid0 j w') (fun w' => bochk_any j.mo j.c0 j.c1 j.c2 j.c3 w') (fun w' => gcheck_any j.W j.H j.TW j.TH w') (fun _ hg w' => ?_) (fun A cp w' B hR => ?_)
    · obtain ⟨hW, hH, _, _⟩ := grC_zero.1 hg
      exact mcount_any j.W j.H 15 w' (by omega) hW hH
    · exact ctf_plan (fun u => !inF u) (fun x w'' => pfar_any x w'') [j.U0, j.V0, j.U1, j.V1] A 4 cp w' rfl (by omega) hR
theorem rcheck_any (j : Jb) (w : World) : Calls Tryz.prog 6 #[.agg j.cells] w fun e w' => e = .returned (.int .i64 (plC j)) ∧ Below w.heap.size w w' := by
  by_cases hK : j.K < 0 ∨ 3 < j.K
  · have e : plC j = 10 := by unfold plC; rw [if_pos hK]
    rw [e]
    exact rchk_bad j w (by omega)
  · by_cases hm : j.mo < 0 ∨ 3 < j.mo
    · have e : plC j = 10 := by unfold plC boC; rw [if_neg hK, if_pos hm]; simp
      rw [e]
      exact rchk_bad j w (by omega)
    · have e : plC j = (if grC j.W j.H j.TW j.TH ≠ 0 then grC j.W j.H j.TW j.TH else if j.L < 1 ∨ cntI 15 j.W j.H < j.L then 11 else if farL j = true ∨ j.U1 < j.U0 ∨ j.V1 < j.V0 then 11 else 0) := by
        unfold plC boC
        rw [if_neg hK, if_neg hm]
        simp
      rw [e]
      refine rchk_ok j w (grC j.W j.H j.TW j.TH) (cntI 15 j.W j.H) (by omega) (by omega) (by omega) (by omega) (fun w' => rgcheck_any j.W j.H j.TW j.TH w') (fun hg w' => ?_)
      obtain ⟨hW, hH, _, _⟩ := grC_zero.1 hg
      exact rcount_any j.W j.H 15 w' (by omega) hW hH
def NearR (j : Jb) (w : World) (e : Ending) (w' : World) : Prop := ∃ b, e = .returned (.bool b) ∧ (b = true → j.W ≤ 100 ∧ j.H ≤ 100) ∧ Below w.heap.size w w'
set_option maxRecDepth 100000 in
set_option maxHeartbeats 4000000 in
theorem near_any (j : Jb) (w : World) : Calls Tryz.prog 8 #[.agg j.cells] w (NearR j w) := by
  have hL := (Lie.start w).alloc j.cells 31
  have k0 : Bk _ w.heap.size 31 j.cells := hL.k 0 (by simp)
  have hb0 := hL.bel
  obtain ⟨y0, y1, y2, y3, y4, y5, y6, y7, y8, y9, y10, y11, y12, y13, y14⟩ := k0.cellJ
  clear y4 y5 y6 y7 y8 y9 y12 y13 y14 hL
  by_cases h1 : j.W ≤ 100
  · by_cases h2 : j.H ≤ 100
    · have H1 := Lib.hid h1
      have H2 := Lib.hid h2
      go_enter Tryz.func8, Tryz.ntmps8
      go_wp2_with fail
      all_goals
        go_returns
        exact ⟨_, rfl, fun _ => ⟨H1.out, H2.out⟩, hb0⟩
    · go_enter Tryz.func8, Tryz.ntmps8
      go_wp2_with fail
      go_returns
      exact ⟨false, rfl, (fun e => by cases e), hb0⟩
  · go_enter Tryz.func8, Tryz.ntmps8
    go_wp2_with fail
    go_returns
    exact ⟨false, rfl, (fun e => by cases e), hb0⟩
theorem rjob_size39 : (Tryz.prog.info? 31).map (·.size) = some 15 := by kernel_rfl
set_option maxRecDepth 100000 in
set_option maxHeartbeats 4000000 in
theorem own_any (j : Jb) (w : World) : Calls Tryz.prog 5 #[.agg j.cells] w fun e w' => e = .returned (.agg j.cells) ∧ Below w.heap.size w w' := by
  have hL := ((Lie.start w).alloc j.cells 28).alloc (Jb.cells ⟨0, 0, 0, 0, 0, 0, 0, 0, 0, 0, 0, 0, 0, 0, 0⟩) 31
  simp only [World.size_alloc] at hL
  have k0 : Bk _ w.heap.size 28 j.cells := hL.k 1 (by simp)
  have k1 : Bk _ (w.heap.size + 1) 31 (Jb.cells ⟨0, 0, 0, 0, 0, 0, 0, 0, 0, 0, 0, 0, 0, 0, 0⟩) := hL.k 0 (by simp)
  have hb0 := hL.bel
  obtain ⟨y0, y1, y2, y3, y4, y5, y6, y7, y8, y9, y10, y11, y12, y13, y14⟩ := k0.cellJ
  clear hL
  go_enter Tryz.func5, Tryz.ntmps5
  go_upto_region 1 with fail
  generalize (w.alloc (.cells j.cells 28)).alloc (.cells (Jb.cells ⟨0, 0, 0, 0, 0, 0, 0, 0, 0, 0, 0, 0, 0, 0, 0⟩) 31) = w1 at *
  have kn := Bk.new w1 29 #[.int .i64 0, .int .i64 0, .int .i64 0, .int .i64 0]
  have hbA := (Below.refl w1.heap.size w1).alloc (Nat.le_refl _) (.cells #[.int .i64 0, .int .i64 0, .int .i64 0, .int .i64 0] 29)
  go_upto_region 2 with (refine stB (ty := 29) (cells := #[.int .i64 j.U0, .int .i64 j.V0, .int .i64 j.U1, .int .i64 j.V1]) rfl _ _ rfl kn rfl rfl rbox_size37 rfl (by simp [Value.oneCell']) ?_; intro w3 k3 hg3 hs3)
  have hb3 := below_of_gb hbA hg3 (Nat.le_refl _) hbA.size
  have k03 := k0.nx hb3
  have k13 := k1.nx hb3
  have hb03 := hb0.trans (hb3.mono hb0.size)
  clear y0 y1 y2 y3 y4 y5 y6 y7 y8 y9 y10 y11 y12 y13 y14 k0 k1 hb0 kn hbA hg3 hs3 hb3
  obtain ⟨y0, y1, y2, y3, y4, y5, y6, y7, y8, y9, y10, y11, y12, y13, y14⟩ := k03.cellJ
  go_wp2_with (first
    | (refine ldB rfl _ _ rfl k3 rfl Tryz.underlying29 rfl rbox_size37 ?_)
    | (refine stB (ty := 31) (cells := j.cells) rfl _ _ rfl k13 rfl rfl rjob_size39 rfl (by simp [Value.oneCell']) ?_; intro w' hK' hg' _))
  refine bodyPost_ret (res_cell rfl hK' rfl Tryz.underlying31 rfl rjob_size39) rfl ?_
  exact ⟨rfl, below_of_gb hb03 hg' (by omega) hb03.size⟩
end Go.Proofs.YtibmhabipghjlaaGreat
end
section
set_option linter.unusedVariables false
namespace Go.Proofs.YtibmhabipghjlaaGreat
open Go.RowKit
abbrev tlA (a b : Int) : Array Value := #[.int .i64 a, .int .i64 b]
theorem eq2_bool (a b c d : Int) : decide ((a, b) = (c, d)) = ((a == c) && (b == d)) := by
  by_cases h1 : a = c <;> by_cases h2 : b = d <;> simp [h1, h2]
theorem eql_tile (a b c d : Int) (w : World) : (binOp .eql 46 (.agg (tlA a b)) (.agg (tlA c d))).run Tryz.prog w = .ok (.bool (decide ((a, b) = (c, d)))) w := by
  rw [eq2_bool]
  simp [go_sem, Tryz.underlying46]
  by_cases h1 : a = c <;> by_cases h2 : b = d <;> simp [h1, h2]
set_option maxHeartbeats 4000000 in
theorem tix_any (S : List (Int × Int)) (A : Option Addr) (n c B : Nat) (t : Int × Int) (w : World) (hn : S.length = n) (hsm : n ≤ 1000000) (hr : Rd w B A (encR S)) (hB : B ≤ w.heap.size) :
    Calls Tryz.prog 52 #[.slice A n c, .agg (tlA t.1 t.2)] w fun e w' => (∃ z : Int, e = .returned (.int .i64 z) ∧ decide (z ≥ 0) = decide (t ∈ S)) ∧ Below w.heap.size w w' := by
  obtain ⟨t1, t2⟩ := t
  simp only
  have hb1 := (Below.refl w.heap.size w).alloc (Nat.le_refl _) (.cells (tlA t1 t2) 46)
  have k0 := Bk.new w 46 (tlA t1 t2)
  go_enter Tryz.func52, Tryz.ntmps52
  go_upto_region 1 with fail
  generalize hw1 : w.alloc (.cells (tlA t1 t2) 46) = w1 at *
  go_wp2_with fail
  go_loopw [8] (fun i wr => ∃ k : Nat, k ≤ n ∧ i = .int .i64 k ∧ (t1, t2) ∉ S.take k ∧ Below w1.heap.size w1 wr) (fun i _ => n - (intOf i).toNat)
  case atStart => exact ⟨0, by omega, rfl, by simp, Below.refl _ _⟩
  case round =>
    obtain ⟨k, hk, rfl, hni, hbel⟩ := hrel
    by_cases hlt : k < n
    · have hk2 : k < S.length := by omega
      have hl := encR_len S
      obtain ⟨b, o, rfl, hbB, e0⟩ := hr (k * 2) (by omega)
      obtain ⟨b', o', e', _, e1⟩ := hr (k * 2 + 1) (by omega)
      injection e' with e'; injection e' with q1 q2
      subst q1; subst q2
      obtain ⟨g0, g1⟩ := encR_get S k hk2
      rw [List.getElem?_eq_getElem (by omega)] at g0 g1
      rw [Option.some.inj g0] at e0
      rw [Option.some.inj g1] at e1
      have HT := Lib.hid (List.take_succ_eq_append_getElem hk2)
      have hm : S[k] ∈ S := List.getElem_mem hk2
      generalize S[k] = s at *
      obtain ⟨s1, s2⟩ := s
      simp only at e0 e1
      have kr := k0.nx hbel
      obtain ⟨d0, d1⟩ := kr.cell2
      have f0 := (hbel.cell (p := ⟨b, o + k * 2, none⟩) (by have := hb1.size; show b < _; omega)).trans ((hb1.cell (p := ⟨b, o + k * 2, none⟩) (by show b < _; omega)).trans e0)
      have f1 := (hbel.cell (p := ⟨b, o + (k * 2 + 1), none⟩) (by have := hb1.size; show b < _; omega)).trans ((hb1.cell (p := ⟨b, o + (k * 2 + 1), none⟩) (by show b < _; omega)).trans e1)
      rw [show o + (k * 2 + 1) = o + k * 2 + 1 by omega] at f1
      have hE := fun w => eql_tile t1 t2 s1 s2 w
      by_cases hq : (t1, t2) = (s1, s2)
      · rw [decide_eq_true hq] at hE
        have HQ := Lib.hid hq
        have HM := Lib.hid hm
        have hz := hb1.size
        clear hq hm kr k0 hr e0 e1
        go_upto_region 4 with fail
        go_quiet ((fail))
        go_wp2_with fail
        go_returns
        refine ⟨⟨k, rfl, ?_⟩, hb1.trans ((below_drewN hbel _).mono hz)⟩
        have hmem := HM.out
        rw [← HQ.out] at hmem
        simp [hmem]
      · rw [decide_eq_false hq] at hE
        have HQ := Lib.hid hq
        clear hq hm kr k0 hr e0 e1
        go_upto_region 4 with fail
        go_quiet ((fail))
        go_wp2_with fail
        refine ⟨⟨k + 1, by omega, by go_num, ?_, below_drewN hbel _⟩, by simp [intOf]; omega⟩
        rw [HT.out]
        simp only [List.mem_append, List.mem_singleton, not_or]
        exact ⟨hni, HQ.out⟩
    · obtain rfl : k = n := by omega
      rw [List.take_of_length_le (by omega)] at hni
      go_wp2_with fail
      go_returns
      exact ⟨⟨-1, rfl, by simp [hni]⟩, hb1.trans (hbel.mono (by have := hb1.size; omega))⟩
theorem tcon_any (S : List (Int × Int)) (A : Option Addr) (n c B : Nat) (t : Int × Int) (w : World) (hn : S.length = n) (hsm : n ≤ 1000000) (hr : Rd w B A (encR S)) (hB : B ≤ w.heap.size) :
    Calls Tryz.prog 33 #[.slice A n c, .agg (tlA t.1 t.2)] w fun e w' => e = .returned (.bool (decide (t ∈ S))) ∧ Below w.heap.size w w' := by
  obtain ⟨t1, t2⟩ := t
  simp only
  have hb1 := (Below.refl w.heap.size w).alloc (Nat.le_refl _) (.cells (tlA t1 t2) 46)
  have k0 := Bk.new w 46 (tlA t1 t2)
  obtain ⟨d0, d1⟩ := k0.cell2
  have hI := tix_any S A n c B (t1, t2) (w.alloc (.cells (tlA t1 t2) 46)) hn hsm (hr.keep (fun p hp => hb1.cell (by omega))) (by have := hb1.size; omega)
  simp only at hI
  generalize decide ((t1, t2) ∈ S) = bb at *
  clear k0 hr
  go_enter Tryz.func33, Tryz.ntmps33
  go_upto_region 1 with fail
  generalize w.alloc (.cells (tlA t1 t2) 46) = w1 at *
  go_wp2_with (go_at_call 52; (with_reducible refine hI.mono ?_); rintro e w2 ⟨⟨z, rfl, hz⟩, hb2⟩)
  go_returns
  exact ⟨rfl, hb1.trans (hb2.mono hb1.size)⟩
theorem phas_any (S : List (Int × Int)) (A : Option Addr) (n c B : Nat) (t : Int × Int) (w : World) (hn : S.length = n) (hsm : n ≤ 1000000) (hr : Rd w B A (encR S)) (hB : B ≤ w.heap.size) :
    Calls Tryz.prog 13 #[.slice A n c, .agg (tlA t.1 t.2)] w fun e w' => e = .returned (.bool (decide (t ∈ S))) ∧ Below w.heap.size w w' := by
  obtain ⟨t1, t2⟩ := t
  simp only
  have hb1 := (Below.refl w.heap.size w).alloc (Nat.le_refl _) (.cells (tlA t1 t2) 46)
  have k0 := Bk.new w 46 (tlA t1 t2)
  obtain ⟨d0, d1⟩ := k0.cell2
  have hI := tcon_any S A n c B (t1, t2) (w.alloc (.cells (tlA t1 t2) 46)) hn hsm (hr.keep (fun p hp => hb1.cell (by omega))) (by have := hb1.size; omega)
  simp only at hI
  generalize decide ((t1, t2) ∈ S) = bb at *
  clear k0 hr
  go_enter Tryz.func13, Tryz.ntmps13
  go_upto_region 1 with fail
  generalize w.alloc (.cells (tlA t1 t2) 46) = w1 at *
  go_wp2_with (go_at_call 33; (with_reducible refine hI.mono ?_); rintro e w2 ⟨rfl, hb2⟩)
  go_returns
  exact ⟨rfl, hb1.trans (hb2.mono hb1.size)⟩
end Go.Proofs.YtibmhabipghjlaaGreat
end
section
set_option linter.unusedVariables false
namespace Go.Proofs.YtibmhabipghjlaaGreat
open Go.RowKit
/-- The tiles of all images so far: those of images below k, and the first p of image k. -/
def accL (lf : Nat → List Int) (k p : Nat) : List Rn := ((List.range k).flatMap fun q => (lf q).map fun i => ((q : Int), i)) ++ ((lf k).take p).map fun i => ((k : Int), i)
theorem accL_0 (lf : Nat → List Int) : accL lf 0 0 = [] := by simp [accL]
theorem accL_p {lf : Nat → List Int} {k p : Nat} (hp : p < (lf k).length) : accL lf k (p + 1) = accL lf k p ++ [((k : Int), (lf k)[p])] := by
  unfold accL
  rw [List.take_succ_eq_append_getElem hp, List.map_append, List.append_assoc]
  rfl
theorem accL_k (lf : Nat → List Int) (k : Nat) : accL lf k (lf k).length = accL lf (k + 1) 0 := by
  unfold accL
  rw [List.range_succ, List.flatMap_append, List.take_length]
  simp
theorem accL_len {lf : Nat → List Int} (hlf : ∀ q, q < 16 → (lf q).length ≤ 10000) {k p : Nat} (hk : k < 16 ∨ (k ≤ 16 ∧ p = 0)) : (accL lf k p).length ≤ 170000 := by
  unfold accL
  have h1 : ∀ k, k ≤ 16 → ((List.range k).flatMap fun q => (lf q).map fun i => ((q : Int), i)).length ≤ k * 10000 := by
    intro k
    induction k with
    | zero => intro _; simp
    | succ k ih =>
      intro hk
      have := ih (by omega)
      have := hlf k (by omega)
      rw [List.range_succ, List.flatMap_append, List.length_append]
      simp only [List.flatMap_cons, List.flatMap_nil, List.append_nil, List.length_map]
      omega
  have h2 := h1 k (by omega)
  rw [List.length_append, List.length_map]
  rcases hk with hk | ⟨hk, hp⟩
  · have h3 := hlf k hk
    have h4 := List.length_take_le' p (lf k)
    omega
  · subst hp
    simp only [List.take_zero, List.length_nil, Nat.add_zero]
    omega
theorem tile_info : (Tryz.prog.info? 46).map (fun i => (i.zero, i.size, i.bytes)) = some (some (.agg #[.int .i64 0, .int .i64 0]), 2, 16) := by kernel_rfl
set_option maxRecDepth 100000 in
set_option maxHeartbeats 4000000 in
theorem plevel_bad (j : Jb) (k c : Int) (w : World) (hc : c ≠ 0) (hC : ∀ w', Calls Tryz.prog 7 #[.agg j.cells] w' fun e w'' => e = .returned (.int .i64 c) ∧ Below w'.heap.size w' w'') :
    Calls Tryz.prog 11 #[.agg j.cells, .int .i64 k] w fun e w' => e = .returned (.tuple #[.slice none 0 0, .int .i64 c]) ∧ Below w.heap.size w w' := by
  have hL := (Lie.start w).alloc j.cells 28
  have k0 : Bk _ w.heap.size 28 j.cells := hL.k 0 (by simp)
  have hb0 := hL.bel
  have hb : (c != 0) = true := by simpa using hc
  clear hL hc
  go_enter Tryz.func11, Tryz.ntmps11
  go_wp2_with (first
    | (refine ldB rfl _ _ rfl k0 rfl Tryz.underlying28 rfl job_size ?_)
    | (go_at_call 7; (with_reducible refine (hC _).mono ?_); rintro e w1 ⟨rfl, hb1⟩))
  go_returns
  exact ⟨rfl, hb0.trans (hb1.mono hb0.size)⟩
set_option maxRecDepth 100000 in
set_option maxHeartbeats 4000000 in
theorem plevel_out (j : Jb) (k : Int) (w : World) (hk : k < 0 ∨ (0 ≤ k ∧ k ≥ j.L)) (hC : ∀ w', Calls Tryz.prog 7 #[.agg j.cells] w' fun e w'' => e = .returned (.int .i64 0) ∧ Below w'.heap.size w' w'') :
    Calls Tryz.prog 11 #[.agg j.cells, .int .i64 k] w fun e w' => e = .returned (.tuple #[.slice none 0 0, .int .i64 11]) ∧ Below w.heap.size w w' := by
  have hL := (Lie.start w).alloc j.cells 28
  have k0 : Bk _ w.heap.size 28 j.cells := hL.k 0 (by simp)
  have hb0 := hL.bel
  clear hL
  rcases hk with h1 | ⟨h1, h2⟩
  all_goals
    go_enter Tryz.func11, Tryz.ntmps11
    go_wp2_with (first
      | (refine ldB rfl _ _ rfl k0 rfl Tryz.underlying28 rfl job_size ?_)
      | (go_at_call 7; (with_reducible refine (hC _).mono ?_); rintro e w1 ⟨rfl, hb1⟩; obtain ⟨-, -, -, -, -, -, -, -, -, -, -, -, y12, -, -⟩ := (k0.nx hb1).cellJ))
    go_returns
    exact ⟨rfl, hb0.trans (hb1.mono hb0.size)⟩
set_option maxRecDepth 100000 in
set_option maxHeartbeats 4000000 in
theorem plevel_in (j : Jb) (k : Int) (LL : List Int) (w : World) (h0 : 0 ≤ k) (h1 : k < j.L) (hC : ∀ w', Calls Tryz.prog 7 #[.agg j.cells] w' fun e w'' => e = .returned (.int .i64 0) ∧ Below w'.heap.size w' w'')
    (hT : ∀ w', Calls Tryz.prog 28 #[.agg j.cells, .int .i64 k] w' fun e w'' => ∃ v, e = .returned v ∧ w''.ownsRow w'.heap.size 3 1 v LL.length (LL.map (Value.int .i64)) ∧ Below w'.heap.size w' w'') :
    Calls Tryz.prog 11 #[.agg j.cells, .int .i64 k] w fun e w' => ∃ v, e = .returned (.tuple #[v, .int .i64 0]) ∧ w'.ownsRow w.heap.size 3 1 v LL.length (LL.map (Value.int .i64)) ∧ Below w.heap.size w w' := by
  have hL := (Lie.start w).alloc j.cells 28
  have k0 : Bk _ w.heap.size 28 j.cells := hL.k 0 (by simp)
  have hb0 := hL.bel
  have h2 : ¬ k < 0 := by omega
  have h3 : ¬ k ≥ j.L := by omega
  clear hL h0 h1
  go_enter Tryz.func11, Tryz.ntmps11
  go_wp2_with (first
    | (refine ldB rfl _ _ rfl k0 rfl Tryz.underlying28 rfl job_size ?_)
    | (go_at_call 7; (with_reducible refine (hC _).mono ?_); rintro e w1 ⟨rfl, hb1⟩; have k1 := k0.nx hb1; obtain ⟨-, -, -, -, -, -, -, -, -, -, -, -, y12, -, -⟩ := k1.cellJ; have hb01 := hb0.trans (hb1.mono hb0.size))
    | (refine ldB rfl _ _ rfl k1 rfl Tryz.underlying28 rfl job_size ?_)
    | (go_at_call 28; (with_reducible refine (hT _).mono ?_); rintro e w2 ⟨v, rfl, ho, hb2⟩))
  go_returns
  exact ⟨v, rfl, own_base ho hb01.size, hb01.trans (hb2.mono hb01.size)⟩
set_option maxRecDepth 100000 in
set_option maxHeartbeats 4000000 in
theorem pof_bad (j : Jb) (c : Int) (w : World) (hc : c ≠ 0) (hC : ∀ w', Calls Tryz.prog 7 #[.agg j.cells] w' fun e w'' => e = .returned (.int .i64 c) ∧ Below w'.heap.size w' w'') :
    Calls Tryz.prog 10 #[.agg j.cells] w fun e w' => e = .returned (.tuple #[.slice none 0 0, .int .i64 c]) ∧ Below w.heap.size w w' := by
  have hL := (Lie.start w).alloc j.cells 28
  have k0 : Bk _ w.heap.size 28 j.cells := hL.k 0 (by simp)
  have hb0 := hL.bel
  have hb : (c != 0) = true := by simpa using hc
  clear hL hc
  go_enter Tryz.func10, Tryz.ntmps10
  go_wp2_with (first
    | (refine ldB rfl _ _ rfl k0 rfl Tryz.underlying28 rfl job_size ?_)
    | (go_at_call 7; (with_reducible refine (hC _).mono ?_); rintro e w1 ⟨rfl, hb1⟩))
  go_returns
  exact ⟨rfl, hb0.trans (hb1.mono hb0.size)⟩
theorem fit16 {n : Nat} (h : n ≤ 170000) : (n + 1) * 16 ≤ 140737488355328 ∧ n + 1 ≤ 9223372036854775807 := ⟨by omega, by omega⟩
set_option maxRecDepth 100000 in
set_option maxHeartbeats 4000000 in
theorem pof_in (j : Jb) (n : Nat) (lf : Nat → List Int) (w : World) (hn : j.L = n) (hn16 : n ≤ 16) (hlf : ∀ q, q < 16 → (lf q).length ≤ 10000) (hC : ∀ w', Calls Tryz.prog 7 #[.agg j.cells] w' fun e w'' => e = .returned (.int .i64 0) ∧ Below w'.heap.size w' w'')
    (hT : ∀ (k : Nat) w', k < n → Calls Tryz.prog 28 #[.agg j.cells, .int .i64 k] w' fun e w'' => ∃ v, e = .returned v ∧ w''.ownsRow w'.heap.size 3 1 v (lf k).length ((lf k).map (Value.int .i64)) ∧ Below w'.heap.size w' w'') :
    Calls Tryz.prog 10 #[.agg j.cells] w fun e w' => ∃ v, e = .returned (.tuple #[v, .int .i64 0]) ∧ w'.ownsRow w.heap.size 46 2 v (accL lf n 0).length (encR (accL lf n 0)) ∧ Below w.heap.size w w' := by
  have hL := (Lie.start w).alloc j.cells 28
  have k0 : Bk _ w.heap.size 28 j.cells := hL.k 0 (by simp)
  have hb0 := hL.bel
  have hlen := fun k p h => @accL_len lf hlf k p h
  have hA0 := accL_0 lf
  have hAp := fun k p h => @accL_p lf k p h
  have hAk := accL_k lf
  generalize hT0 : accL lf = T at *
  clear hT0
  have HLn := Lib.hid hlen
  have HAp := Lib.hid hAp
  have HAk := Lib.hid hAk
  have HN := Lib.hid (And.intro hn hn16)
  have HLF := Lib.hid hlf
  have HT := Lib.hid hT
  clear hlen hAp hAk hlf hT hn hn16 hL
  go_enter Tryz.func10, Tryz.ntmps10
  go_wp2_with (first
    | (refine ldB rfl _ _ rfl k0 rfl Tryz.underlying28 rfl job_size ?_)
    | (go_at_call 7; (with_reducible refine (hC _).mono ?_); rintro e w1 ⟨rfl, hb1⟩; have k1 := k0.nx hb1; obtain ⟨-, -, -, -, -, -, -, -, -, -, -, -, y12, -, -⟩ := k1.cellJ; rw [HN.out.1] at y12; have hb01 := hb0.trans (hb1.mono hb0.size))
    | (refine ldB rfl _ _ rfl k1 rfl Tryz.underlying28 rfl job_size ?_))
  have hz1 := hb01.size
  clear k0 k1 y12 hb0 hb1 hC
  go_loopw [5, 19] (fun v i wr => ∃ q : Nat, q ≤ n ∧ i = .int .i64 (q : Int) ∧ wr.ownsRow w1.heap.size 46 2 v (T q 0).length (encR (T q 0)) ∧ Below w1.heap.size w1 wr) (fun _ i _ => (n - intOf i).toNat)
  case atStart => exact ⟨0, by omega, rfl, by rw [hA0]; simpa [encR] using World.ownsRow_nil _ _ _ _, Below.refl _ _⟩
  case round =>
    obtain ⟨q, hq, rfl, hown, hbel⟩ := hrel
    have hbz := hbel.size
    by_cases hlt : (q : Int) < (n : Int)
    · have hq1 : q < n := by omega
      have hq16 : q < 16 := Nat.lt_of_lt_of_le hq1 HN.out.2
      have hTq := fun w' => HT.out q w' hq1
      have HLq := Lib.hid (fun p => HLn.out q p (.inl hq16))
      have HAq := Lib.hid (fun p => HAp.out q p)
      have HAe := Lib.hid (HAk.out q)
      have HLl := Lib.hid (HLF.out q hq16)
      have v1 := (lvq_fit (l := 0) (show q ≤ 2000000000 from Nat.le_trans hq (Nat.le_trans HN.out.2 (by decide))) (Nat.le_refl q) (Nat.zero_le _)).2.2
      have V1 := Lib.hid v1
      have HQ1 := Lib.hid hq1
      clear v1 hq1 hq16 HLn HAp HAk HLF HT
      generalize lf q = l at *
      go_wp2_with (go_at_call 28; (with_reducible refine (hTq _).mono ?_); rintro e w6 ⟨v6, rfl, ho6, hb6⟩; obtain ⟨A6, c6, rfl, -, -, -, -⟩ := own_form ho6)
      have hown6 := own_below hown hb6 (Nat.le_refl _)
      have hbel6 := hbel.trans (hb6.mono hbz)
      have ho6 := own_base ho6 hbz
      clear hown hbel hTq hb6 hbz
      go_loopw [5, 26] (fun v i ws => ∃ p : Nat, p ≤ l.length ∧ i = .int .i64 (p : Int) ∧ ws.ownsRow w1.heap.size 46 2 v (T q p).length (encR (T q p)) ∧ ws.ownsRow w1.heap.size 3 1 (.slice A6 l.length c6) l.length (l.map (Value.int .i64)) ∧ Below w1.heap.size w1 ws) (fun _ i _ => (l.length - intOf i).toNat)
      case atStart => exact ⟨0, by omega, rfl, hown6, ho6, hbel6⟩
      case round =>
        clear hown6 ho6 hbel6
        obtain ⟨p, hp, rfl, hown, hcw, hbel⟩ := hrel
        have hbz := hbel.size
        by_cases hlt2 : (p : Int) < (l.length : Int)
        · have hp1 : p < l.length := by omega
          obtain ⟨b6, o6, rfl, hb6, e0⟩ := (Rd.of_own hcw).get p (by simpa using hp1)
          simp only [List.getElem_map] at e0
          obtain ⟨x, hx⟩ : ∃ x, x = l[p] := ⟨_, rfl⟩
          rw [← hx] at e0
          have HX := Lib.hid hx
          clear hx
          have hAp1 := HAq.out p hp1
          have hfit := fit16 (HLq.out p)
          have u1 := (lvq_fit (l := 0) (show p ≤ 2000000000 from Nat.le_trans hp (Nat.le_trans HLl.out (by decide))) (Nat.le_refl p) (Nat.zero_le _)).2.2
          have U1 := Lib.hid u1
          have HP1 := Lib.hid hp1
          have HAP1 := Lib.hid hAp1
          have hf1 := Lib.hid hfit
          generalize T q p = L0 at *
          clear hAp1 u1 hfit
          go_wp2_with (at_builtin; refine app1 rfl _ _ _ rfl Tryz.underlying38 tile_info rfl (by decide) rfl rfl hown hbel (Nat.le_refl _) hbz rfl (by simp [Value.oneCell']) hf1.out.1 hf1.out.2 ?_; intro v' w' hown' hbel' _ hg' _)
          have hcw' := own_gbr hcw hg' (own_ne_own hcw hown (by decide))
          exact ⟨⟨p + 1, HP1.out, (by rw [U1.out]; simp), (by rw [HAP1.out, ← HX.out, List.length_append, encR_append]; exact hown'), hcw', hbel'⟩, dec_i U1.out HP1.out⟩
        · have hpe : p = l.length := by omega
          subst hpe
          have hAqq := HAe.out
          go_wp2_with fail
          exact ⟨⟨q + 1, HQ1.out, (by rw [V1.out]; simp), (by rw [← hAqq]; exact hown), hbel⟩, dec_i V1.out HQ1.out⟩
    · have hqe : q = n := by omega
      subst hqe
      go_wp2_with fail
      go_returns
      exact ⟨_, rfl, own_base hown hz1, hb01.trans (hbel.mono hz1)⟩
end Go.Proofs.YtibmhabipghjlaaGreat
end
section
set_option linter.unusedVariables false
namespace Go.Proofs.YtibmhabipghjlaaGreat
open Go.RowKit
set_option maxRecDepth 100000 in
set_option maxHeartbeats 4000000 in
theorem ints_eq (l : List Int) (A A' : Option Addr) (n c c' : Nat) (w : World) {B B' : Nat} (hn : l.length = n) (hr : Rd w B A (l.map (Value.int .i64))) (hr' : Rd w B' A' (l.map (Value.int .i64))) (hb : n ≤ 1000000) :
    Calls Tryz.prog 14 #[.slice A n c, .slice A' n c'] w fun e w' => e = .returned (.bool true) ∧ Below w.heap.size w w' := by
  go_enter Tryz.func14, Tryz.ntmps14
  go_wp2_with fail
  go_loopw [5] (fun i wr => ∃ k : Nat, k ≤ n ∧ i = .int .i64 k ∧ ∃ q, wr = w.drewN q) (fun i _ => n - (intOf i).toNat)
  case atStart => exact ⟨0, by omega, rfl, 0, rfl⟩
  case round =>
    obtain ⟨k, hk, rfl, q, rfl⟩ := hrel
    by_cases hlt : k < n
    · have hk2 : k < l.length := by omega
      obtain ⟨b, o, rfl, hbb, hc0⟩ := hr.get k (by simp [hk2])
      obtain ⟨b', o', rfl, hbb', hc1⟩ := hr'.get k (by simp [hk2])
      rw [List.getElem_map] at hc0 hc1
      generalize l[k] = x at *
      go_wp2_with fail
      go_quiet ((fail))
      go_wp2_with fail
      refine ⟨⟨k + 1, by omega, by go_num, _, rfl⟩, by simp [intOf]; omega⟩
    · obtain rfl : k = n := by omega
      go_wp2_with fail
      go_returns
      exact ⟨rfl, below_drewN (Below.refl _ _) q⟩
def j39 : Jb := ⟨0, 0, 0, 0, 0, 1, 0, 0, 0, 0, 4, 4, 1, 2, 2⟩
theorem j39_ok : JOk j39 :=
  ⟨⟨by decide, by decide⟩, ⟨by decide, by decide⟩, by decide, ⟨by decide, (cnt_le16 4 4 15).2⟩, ⟨by decide, by decide, by decide, by decide⟩, by decide, by decide⟩
theorem j39_code : plC j39 = 0 := by
  have h := j39_ok
  unfold plC
  rw [if_neg (by decide), if_neg (by decide), if_neg (by decide), if_neg (by have := (cnt_le16 4 4 15).2; show ¬ ((1 : Int) < 1 ∨ cntI 15 4 4 < 1); omega), if_neg (by decide)]
theorem j39_col (x : Int) : MemR (colJ 0 1 0 0 0 4) x ↔ x = 0 := by
  unfold colJ
  rw [colsR_mem (by decide)]
  constructor
  · rintro ⟨i, h1, h2, h3⟩
    have e1 : (sreachR 0 (lvTo 0 ((0 : Nat) : Int)) (lvTo 0 ((0 : Nat) : Int))).1 = 0 := by decide
    have e2 : (sreachR 0 (lvTo 0 ((0 : Nat) : Int)) (lvTo 0 ((0 : Nat) : Int))).2 = 0 := by decide
    rw [e1] at h1
    rw [e2] at h2
    obtain rfl : i = 0 := by omega
    have : colAt 1 4 0 = some 0 := by decide
    rw [this] at h3
    injection h3 with h3
    omega
  · rintro rfl
    exact ⟨0, by decide, by decide, by decide⟩
theorem j39_hit (a b : Int) : hitB (colJ 0 1 0 0 0 4) a b = decide (a ≤ 0 ∧ 0 < b) := by
  rw [Bool.eq_iff_iff, hitB_iff, decide_eq_true_eq]
  unfold hitC
  constructor
  · rintro ⟨x, h1, h2, h3⟩
    obtain rfl := (j39_col x).1 h3
    exact ⟨h1, h2⟩
  · rintro ⟨h1, h2⟩
    exact ⟨0, h1, h2, (j39_col 0).2 rfl⟩
theorem j39_lf : lfJ j39 0 = [0] := by
  show levL 4 4 2 2 (colJ 0 1 0 0 0 4) (colJ 0 1 0 0 0 4) = [0]
  unfold levL
  rw [show plN 4 4 2 2 = 4 from by decide]
  have ht : ∀ i : Nat, tileB 4 4 2 2 (colJ 0 1 0 0 0 4) (colJ 0 1 0 0 0 4) i = (decide (tlX 4 2 i ≤ 0 ∧ 0 < min (tlX 4 2 i + 2) 4) && decide (tlY 4 2 2 i ≤ 0 ∧ 0 < min (tlY 4 2 2 i + 2) 4)) := fun i => by
    unfold tileB
    rw [j39_hit, j39_hit]
  rw [List.filter_congr (fun x _ => ht x)]
  decide
theorem j39_acc : accL (lfJ j39) 1 0 = [((0 : Int), (0 : Int))] := by
  unfold accL
  simp [List.range_succ, j39_lf]
set_option maxRecDepth 100000 in
set_option maxHeartbeats 4000000 in
theorem alive39 (w : World) : Calls Tryz.prog 9 #[] w fun e w' => e = .returned (.bool true) ∧ Below w.heap.size w w' := by
  have hO := pof_in j39 1 (lfJ j39) w rfl (by omega) (fun q _ => j39_ok.small (by decide) (by decide) q) (fun w' => by have := pcheck_any j39 w'; rw [j39_code] at this; exact this) (fun k w' hk => j39_ok.tiles k (by omega) w')
  rw [j39_acc] at hO
  change Calls _ _ #[.agg #[.int .i64 0, .int .i64 0, .int .i64 0, .int .i64 0, .int .i64 0, .int .i64 1, .int .u8 0, .int .u8 0, .int .u8 0, .int .u8 0, .int .i64 4, .int .i64 4, .int .i64 1, .int .i64 2, .int .i64 2]] _ _ at hO
  have hE := fun w => eql_tile 0 0 0 0 w
  rw [show decide (((0 : Int), (0 : Int)) = ((0 : Int), (0 : Int))) = true from rfl] at hE
  go_enter Tryz.func9, Tryz.ntmps9
  go_wp2_with (go_at_call 10; (with_reducible refine hO.mono ?_); rintro e w1 ⟨v, rfl, ho, hb⟩; obtain ⟨A, c, rfl, -, -, hr, -⟩ := own_form ho; obtain ⟨b, o, rfl, hbb, e0', e1'⟩ := rd_run hr 0 (by decide); have e0 : w1.cell? ⟨b, o, none⟩ = some (.int .i64 0) := (by simpa using e0'); have e1 : w1.cell? ⟨b, o + 1, none⟩ = some (.int .i64 0) := (by simpa using e1'); clear e0' e1')
  go_returns
  exact ⟨rfl, hb⟩
end Go.Proofs.YtibmhabipghjlaaGreat
end
section
set_option linter.unusedVariables false
namespace Go.Proofs.YtibmhabipghjlaaGreat
open Go.RowKit
abbrev p2A (a b : Int) : Array Value := #[.int .i64 a, .int .i64 b]
set_option maxRecDepth 100000 in
set_option maxHeartbeats 8000000 in
theorem hold_bad (j : Jb) (a b k c : Int) (w : World) (hc : c ≠ 0) (hR : ∀ w', Calls Tryz.prog 6 #[.agg j.cells] w' fun e w'' => e = .returned (.int .i64 c) ∧ Below w'.heap.size w' w'')
    (hP : ∀ w', Calls Tryz.prog 7 #[.agg j.cells] w' fun e w'' => e = .returned (.int .i64 c) ∧ Below w'.heap.size w' w'') :
    Calls Tryz.prog 4 #[.agg j.cells, .agg (p2A a b), .int .i64 k] w fun e w' => e = .returned (.bool true) ∧ Below w.heap.size w w' := by
  have hO := fun w' => own_any j w'
  have hF := fun w' => pof_bad j c w' hc hP
  have hA := fun w' => alive39 w'
  have hb1' : (c != 0) = true := by simpa using hc
  have hb2' : (c == 0) = false := by simpa using hc
  have hb3' : (c != c) = false := by simp
  have hL := ((Lie.start w).alloc j.cells 28).alloc (p2A a b) 50
  simp only [World.size_alloc] at hL
  have k0 : Bk _ w.heap.size 28 j.cells := hL.k 1 (by simp)
  have hb0 := hL.bel
  clear hL hc
  go_enter Tryz.func4, Tryz.ntmps4
  go_wp2_with (first
    | (refine ldB rfl _ _ rfl k0 rfl Tryz.underlying28 rfl job_size ?_)
    | (go_at_call 5; (with_reducible refine (hO _).mono ?_); rintro e w1 ⟨rfl, hb1⟩; have k1 := k0.nx hb1; have hb01 := hb0.trans (hb1.mono hb0.size))
    | (go_at_call 6; (with_reducible refine (hR _).mono ?_); rintro e w2 ⟨rfl, hb2⟩; have k2 := k1.nx hb2; have hb02 := hb01.trans (hb2.mono hb01.size))
    | (refine ldB rfl _ _ rfl k2 rfl Tryz.underlying28 rfl job_size ?_)
    | (go_at_call 10; (with_reducible refine (hF _).mono ?_); rintro e w5 ⟨rfl, hb5⟩; have hb05 := hb02.trans (hb5.mono hb02.size))
    | (go_at_call 9; (with_reducible refine (hA _).mono ?_); rintro e w7 ⟨rfl, hb7⟩))
  go_returns
  exact ⟨rfl, hb05.trans (hb7.mono hb05.size)⟩
set_option maxRecDepth 100000 in
set_option maxHeartbeats 8000000 in
theorem hold_far (j : Jb) (a b k : Int) (w : World) (hf : j.W > 60 ∨ (j.W ≤ 60 ∧ j.H > 60)) (hR : ∀ w', Calls Tryz.prog 6 #[.agg j.cells] w' fun e w'' => e = .returned (.int .i64 0) ∧ Below w'.heap.size w' w'') :
    Calls Tryz.prog 4 #[.agg j.cells, .agg (p2A a b), .int .i64 k] w fun e w' => e = .returned (.bool true) ∧ Below w.heap.size w w' := by
  have hO := fun w' => own_any j w'
  have hA := fun w' => alive39 w'
  have hL := ((Lie.start w).alloc j.cells 28).alloc (p2A a b) 50
  simp only [World.size_alloc] at hL
  have k0 : Bk _ w.heap.size 28 j.cells := hL.k 1 (by simp)
  have hb0 := hL.bel
  clear hL
  rcases hf with h1 | ⟨h1, h2⟩
  · have d1 : decide (j.W > 60) = true := decide_eq_true h1
    go_enter Tryz.func4, Tryz.ntmps4
    go_wp2_with (first
      | (refine ldB rfl _ _ rfl k0 rfl Tryz.underlying28 rfl job_size ?_)
      | (go_at_call 5; (with_reducible refine (hO _).mono ?_); rintro e w1 ⟨rfl, hb1⟩; have k1 := k0.nx hb1; have hb01 := hb0.trans (hb1.mono hb0.size))
      | (go_at_call 6; (with_reducible refine (hR _).mono ?_); rintro e w2 ⟨rfl, hb2⟩; have k2 := k1.nx hb2; have hb02 := hb01.trans (hb2.mono hb01.size); obtain ⟨-, -, -, -, -, -, -, -, -, -, y10, y11, -, -, -⟩ := k2.cellJ)
      | (go_at_call 9; (with_reducible refine (hA _).mono ?_); rintro e w7 ⟨rfl, hb7⟩))
    go_returns
    exact ⟨rfl, hb02.trans (hb7.mono hb02.size)⟩
  · have d1 : decide (j.W > 60) = false := decide_eq_false (by omega)
    have d2 : decide (j.H > 60) = true := decide_eq_true h2
    go_enter Tryz.func4, Tryz.ntmps4
    go_wp2_with (first
      | (refine ldB rfl _ _ rfl k0 rfl Tryz.underlying28 rfl job_size ?_)
      | (go_at_call 5; (with_reducible refine (hO _).mono ?_); rintro e w1 ⟨rfl, hb1⟩; have k1 := k0.nx hb1; have hb01 := hb0.trans (hb1.mono hb0.size))
      | (go_at_call 6; (with_reducible refine (hR _).mono ?_); rintro e w2 ⟨rfl, hb2⟩; have k2 := k1.nx hb2; have hb02 := hb01.trans (hb2.mono hb01.size); obtain ⟨-, -, -, -, -, -, -, -, -, -, y10, y11, -, -, -⟩ := k2.cellJ)
      | (go_at_call 9; (with_reducible refine (hA _).mono ?_); rintro e w7 ⟨rfl, hb7⟩))
    go_returns
    exact ⟨rfl, hb02.trans (hb7.mono hb02.size)⟩
set_option maxRecDepth 100000 in
set_option maxHeartbeats 8000000 in
theorem hold_out (j : Jb) (a b k : Int) (N : List Rn) (w : World) (h1 : j.W ≤ 60) (h2 : j.H ≤ 60) (hk : k < 0 ∨ (0 ≤ k ∧ k ≥ j.L)) (hR : ∀ w', Calls Tryz.prog 6 #[.agg j.cells] w' fun e w'' => e = .returned (.int .i64 0) ∧ Below w'.heap.size w' w'')
    (hF : ∀ w', Calls Tryz.prog 10 #[.agg j.cells] w' fun e w'' => ∃ v, e = .returned (.tuple #[v, .int .i64 0]) ∧ w''.ownsRow w'.heap.size 46 2 v N.length (encR N) ∧ Below w'.heap.size w' w'') :
    Calls Tryz.prog 4 #[.agg j.cells, .agg (p2A a b), .int .i64 k] w fun e w' => e = .returned (.bool true) ∧ Below w.heap.size w w' := by
  have hO := fun w' => own_any j w'
  have hA := fun w' => alive39 w'
  have hL := ((Lie.start w).alloc j.cells 28).alloc (p2A a b) 50
  simp only [World.size_alloc] at hL
  have k0 : Bk _ w.heap.size 28 j.cells := hL.k 1 (by simp)
  have hb0 := hL.bel
  have d1 : decide (j.W > 60) = false := decide_eq_false (by omega)
  have d2 : decide (j.H > 60) = false := decide_eq_false (by omega)
  clear hL h1 h2
  rcases hk with h1 | ⟨h1, h2⟩
  · have d3 : decide (k < 0) = true := decide_eq_true h1
    go_enter Tryz.func4, Tryz.ntmps4
    go_wp2_with (first
      | (refine ldB rfl _ _ rfl k0 rfl Tryz.underlying28 rfl job_size ?_)
      | (go_at_call 5; (with_reducible refine (hO _).mono ?_); rintro e w1 ⟨rfl, hb1⟩; have k1 := k0.nx hb1; have hb01 := hb0.trans (hb1.mono hb0.size))
      | (go_at_call 6; (with_reducible refine (hR _).mono ?_); rintro e w2 ⟨rfl, hb2⟩; have k2 := k1.nx hb2; have hb02 := hb01.trans (hb2.mono hb01.size); obtain ⟨-, -, -, -, -, -, -, -, -, -, y10, y11, y12, -, -⟩ := k2.cellJ)
      | (refine ldB rfl _ _ rfl k2 rfl Tryz.underlying28 rfl job_size ?_)
      | (go_at_call 10; (with_reducible refine (hF _).mono ?_); rintro e w5 ⟨v5, rfl, ho5, hb5⟩; have hb05 := hb02.trans (hb5.mono hb02.size))
      | (go_at_call 9; (with_reducible refine (hA _).mono ?_); rintro e w7 ⟨rfl, hb7⟩))
    go_returns
    exact ⟨rfl, hb05.trans (hb7.mono hb05.size)⟩
  · have d3 : decide (k < 0) = false := decide_eq_false (by omega)
    have d4 : decide (k ≥ j.L) = true := decide_eq_true h2
    go_enter Tryz.func4, Tryz.ntmps4
    go_wp2_with (first
      | (refine ldB rfl _ _ rfl k0 rfl Tryz.underlying28 rfl job_size ?_)
      | (go_at_call 5; (with_reducible refine (hO _).mono ?_); rintro e w1 ⟨rfl, hb1⟩; have k1 := k0.nx hb1; have hb01 := hb0.trans (hb1.mono hb0.size))
      | (go_at_call 6; (with_reducible refine (hR _).mono ?_); rintro e w2 ⟨rfl, hb2⟩; have k2 := k1.nx hb2; have hb02 := hb01.trans (hb2.mono hb01.size); obtain ⟨-, -, -, -, -, -, -, -, -, -, y10, y11, y12, -, -⟩ := k2.cellJ)
      | (refine ldB rfl _ _ rfl k2 rfl Tryz.underlying28 rfl job_size ?_)
      | (go_at_call 10; (with_reducible refine (hF _).mono ?_); rintro e w5 ⟨v5, rfl, ho5, hb5⟩; have k5 := k2.nx hb5; have y12' := k5.cellJ.2.2.2.2.2.2.2.2.2.2.2.2.1; have hb05 := hb02.trans (hb5.mono hb02.size))
      | (go_at_call 9; (with_reducible refine (hA _).mono ?_); rintro e w7 ⟨rfl, hb7⟩))
    go_returns
    exact ⟨rfl, hb05.trans (hb7.mono hb05.size)⟩
end Go.Proofs.YtibmhabipghjlaaGreat
end
section
set_option linter.unusedVariables false
namespace Go.Proofs.YtibmhabipghjlaaGreat
open Go.RowKit
/-- A spy's cells: its job, and what has been seen. -/
abbrev spA (j : Jb) (A : Option Addr) (n c : Nat) : Array Value := #[.int .i64 j.U0, .int .i64 j.V0, .int .i64 j.U1, .int .i64 j.V1, .int .i64 j.K, .int .i64 j.mo, .int .u8 j.c0, .int .u8 j.c1, .int .u8 j.c2, .int .u8 j.c3, .int .i64 j.W, .int .i64 j.H, .int .i64 j.L, .int .i64 j.TW, .int .i64 j.TH, .slice A n c]
/-- A spy in memory: all blocks of w0 as they were; g its block; S what it has seen. -/
structure Spy (w0 : World) (g : Nat) (j : Jb) (S : List Rn) (w : World) : Prop where
  bel : Below w0.heap.size w0 w
  lo : w0.heap.size ≤ g
  row : ∃ A c, Bk w g 55 (spA j A S.length c) ∧ w.ownsRow w0.heap.size 46 2 (.slice A S.length c) S.length (encR S)
/-- What a spy's calls leave alone: each block of another kind. -/
structure Kp (w w' : World) : Prop where
  size : w.heap.size ≤ w'.heap.size
  keep : ∀ h t cs, Bk w h t cs → t ≠ 46 → t ≠ 55 → Bk w' h t cs
theorem Kp.refl (w : World) : Kp w w := ⟨Nat.le_refl _, fun _ _ _ h _ _ => h⟩
theorem Kp.trans {a b c : World} (h : Kp a b) (h' : Kp b c) : Kp a c := ⟨Nat.le_trans h.size h'.size, fun g t cs k h1 h2 => h'.keep g t cs (h.keep g t cs k h1 h2) h1 h2⟩
theorem Kp.of_below {w w' : World} (h : Below w.heap.size w w') : Kp w w' := ⟨h.size, fun _ _ _ k _ _ => k.nx h⟩
theorem Spy.nx {w0 : World} {g : Nat} {j : Jb} {S : List Rn} {w w' : World} (h : Spy w0 g j S w) (hb : Below w.heap.size w w') : Spy w0 g j S w' := by
  obtain ⟨A, c, k, ho⟩ := h.row
  exact ⟨h.bel.trans (hb.mono h.bel.size), h.lo, A, c, k.nx hb, own_below ho hb (Nat.le_refl _)⟩
theorem spy_size : (Tryz.prog.info? 55).map (·.size) = some 16 := by kernel_rfl
theorem Bk.cellS {w : World} {g : Nat} {t : TypeId} {j : Jb} {A : Option Addr} {n c : Nat} (h : Bk w g t (spA j A n c)) : w.cell? ⟨g, 10, none⟩ = some (.int .i64 j.W) ∧ w.cell? ⟨g, 11, none⟩ = some (.int .i64 j.H) ∧ w.cell? ⟨g, 12, none⟩ = some (.int .i64 j.L) ∧ w.cell? ⟨g, 13, none⟩ = some (.int .i64 j.TW) ∧ w.cell? ⟨g, 14, none⟩ = some (.int .i64 j.TH) ∧ w.cell? ⟨g, 15, none⟩ = some (.slice A n c) :=
  ⟨h.cell 10, h.cell 11, h.cell 12, h.cell 13, h.cell 14, h.cell 15⟩
/-- A tile has a place exactly where the place is reckoned to lie. -/
theorem tl_has {W H TW TH x y : Int} {q : Int} (h0 : grC W H TW TH = 0) (hx : 0 ≤ x ∧ x < W) (hy : 0 ≤ y ∧ y < H) (hq : 0 ≤ q ∧ q < grN W TW * grN H TH) :
    (x ≥ tlX W TW q ∧ x < min (tlX W TW q + TW) W ∧ y ≥ tlY W TW TH q ∧ y < min (tlY W TW TH q + TH) H) ↔ q = tlI W TW TH x y := by
  obtain ⟨hW, hH, hTW, hTH⟩ := grC_zero.1 h0
  obtain ⟨⟨a0, a1⟩, ⟨b0, b1⟩, _, _⟩ := tl_bd h0 hx hy
  obtain ⟨n0, n1, _⟩ := grN_bd hW hTW
  have hm := Int.mul_ediv_add_emod q (grN W TW)
  have c1 : ∀ a : Int, (x ≥ a * TW ∧ x < a * TW + TW) ↔ a = x / TW := fun a => by
    have h1 := Int.mul_ediv_add_emod x TW
    have h2 := Int.emod_nonneg x (show TW ≠ 0 by omega)
    have h3 := Int.emod_lt_of_pos x (show 0 < TW by omega)
    rw [Int.mul_comm] at h1
    constructor
    · rintro ⟨h4, h5⟩
      have h6 : a ≤ x / TW := by rw [Int.le_ediv_iff_mul_le (by omega)]; exact h4
      have h7 : x / TW < a + 1 := by rw [Int.ediv_lt_iff_lt_mul (by omega), Int.add_mul]; omega
      omega
    · rintro rfl
      exact ⟨by omega, by omega⟩
  have c2 : ∀ a : Int, (y ≥ a * TH ∧ y < a * TH + TH) ↔ a = y / TH := fun a => by
    have h1 := Int.mul_ediv_add_emod y TH
    have h2 := Int.emod_nonneg y (show TH ≠ 0 by omega)
    have h3 := Int.emod_lt_of_pos y (show 0 < TH by omega)
    rw [Int.mul_comm] at h1
    constructor
    · rintro ⟨h4, h5⟩
      have h6 : a ≤ y / TH := by rw [Int.le_ediv_iff_mul_le (by omega)]; exact h4
      have h7 : y / TH < a + 1 := by rw [Int.ediv_lt_iff_lt_mul (by omega), Int.add_mul]; omega
      omega
    · rintro rfl
      exact ⟨by omega, by omega⟩
  unfold tlX tlY tlI
  have d1 := c1 (q % grN W TW)
  have d2 := c2 (q / grN W TW)
  generalize q % grN W TW * TW = X at *
  generalize q / grN W TW * TH = Y at *
  constructor
  · rintro ⟨h1, h2, h3, h4⟩
    have e1 := d1.1 ⟨h1, by omega⟩
    have e2 := d2.1 ⟨h3, by omega⟩
    rw [← e1, ← e2, Int.mul_comm]
    omega
  · intro h
    have e1 : q % grN W TW = x / TW := by
      rw [h, Int.add_comm, Int.add_mul_emod_self_right]
      exact Int.emod_eq_of_lt a0 a1
    have e2 : q / grN W TW = y / TH := by
      rw [h, Int.add_comm, Int.add_mul_ediv_right _ _ (by omega), Int.ediv_eq_zero_of_lt a0 a1]
      omega
    obtain ⟨h1, h2⟩ := d1.2 e1
    obtain ⟨h3, h4⟩ := d2.2 e2
    exact ⟨h1, by omega, h3, by omega⟩
set_option maxHeartbeats 4000000 in
theorem spsize_any {w0 : World} {g : Nat} {j : Jb} {S : List Rn} {w : World} (h : Spy w0 g j S w) (hj : JOk j) (k : Nat) (hk : k ≤ 15) :
    Calls Tryz.prog 203 #[.pointer (some ⟨g, 0, none⟩), .int .i64 k] w fun e w' => e = .returned (.tuple #[.int .i64 (szI k j.W), .int .i64 (szI k j.H)]) ∧ Below w.heap.size w w' := by
  obtain ⟨hW, hH, hTW, hTH⟩ := grC_zero.1 hj.g
  have hS := fun w' => (rsize_any j.W j.H k w' hk hW hH).mono (R' := fun e w'' => e = .returned (.tuple #[.int .i64 (szI k j.W), .int .i64 (szI k j.H)]) ∧ Below w'.heap.size w' w'') fun e w'' ⟨q1, q2⟩ => ⟨q1, q2 ▸ Below.refl _ _⟩
  obtain ⟨A, c, kS, ho⟩ := h.row
  obtain ⟨y10, y11, -, -, -, -⟩ := kS.cellS
  have z10 := fun (n : Nat) (os : Array Obj) => cell_regrown y10 n os
  have z11 := fun (n : Nat) (os : Array Obj) => cell_regrown y11 n os
  generalize szI k j.W = sw at *
  generalize szI k j.H = sh at *
  clear ho h hj hW hH hTW hTH
  go_enter Tryz.func203, Tryz.ntmps203
  go_upto_region 1 with fail
  refine wp_region_quiet_below (by kernel_rfl) (by kernel_rfl) ?_
  repeat (first
    | go_big_quiet_step ((with_reducible exact quiet_below (hS _)))
    | quiet_step ((with_reducible exact quiet_below (hS _))))
  refine wpQuiet_nil ?_
  intro _ hw'
  obtain ⟨⟨d9, os⟩, hw''⟩ := hw'
  subst hw''
  have hbx := below_regrown w d9 os
  generalize Go.Sort.grow (redrawn w d9) os = w2 at *
  clear y10 y11 z10 z11 hS kS
  go_wp2_with fail
  go_returns
  exact ⟨rfl, hbx⟩
theorem spchan_any (p : Value) (w : World) : Calls Tryz.prog 201 #[p] w fun e w' => e = .returned (.int .i64 1) ∧ w = w' := by
  go_enter Tryz.func201, Tryz.ntmps201
  go_wp2_with fail
  go_returns
  exact ⟨rfl, rfl⟩
end Go.Proofs.YtibmhabipghjlaaGreat
end
section
set_option linter.unusedVariables false
namespace Go.Proofs.YtibmhabipghjlaaGreat
open Go.RowKit
theorem accL_mem {lf : Nat → List Int} {n q : Nat} {i : Int} (hq : q < n) (hi : i ∈ lf q) : ((q : Int), i) ∈ accL lf n 0 := by
  unfold accL
  simp only [List.take_zero, List.map_nil, List.append_nil, List.mem_flatMap, List.mem_range, List.mem_map]
  exact ⟨q, hq, i, hi, rfl⟩
/-- A column that is asked for, of those between the two that sreachR tells, is among the runs. -/
theorem colJ_mem {K mo lo hi : Int} {k : Nat} {n x p : Int} (hK : 0 ≤ K ∧ K ≤ 3) (hm : 0 ≤ mo ∧ mo ≤ 3) (hle : lo ≤ hi) (e1 : inF lo = true) (e2 : inF hi = true) (hn : 1 ≤ n ∧ n ≤ 32768)
    (h1 : (sreachR K (lvTo lo k) (lvTo hi k)).1 ≤ x) (h2 : x ≤ (sreachR K (lvTo lo k) (lvTo hi k)).2) (hx : idx mo x n = (p, true)) : MemR (colJ K mo lo hi k n) p := by
  unfold colJ
  rw [colsR_mem (sreach_ok hK hm (lvTo_le hle) (lvTo_in e1) (lvTo_in e2) hn)]
  exact ⟨x, h1, h2, (idx_col hm hn.1).2 hx⟩
/-- Each pixel asked for lies in a tile that is told. -/
theorem told_tile {j : Jb} (h : JOk j) {n k : Nat} (hk : k < n) {x y p q : Int}
    (hx1 : (sreachR j.K (lvTo j.U0 k) (lvTo j.U1 k)).1 ≤ x) (hx2 : x ≤ (sreachR j.K (lvTo j.U0 k) (lvTo j.U1 k)).2)
    (hy1 : (sreachR j.K (lvTo j.V0 k) (lvTo j.V1 k)).1 ≤ y) (hy2 : y ≤ (sreachR j.K (lvTo j.V0 k) (lvTo j.V1 k)).2)
    (ep : idx j.mo x (szI k j.W) = (p, true)) (eq : idx j.mo y (szI k j.H) = (q, true)) : ((k : Int), tlI (szI k j.W) j.TW j.TH p q) ∈ accL (lfJ j) n 0 := by
  obtain ⟨hW, hH, hTW, hTH⟩ := grC_zero.1 h.g
  have hWq := szI_bd k hW
  have hHq := szI_bd k hH
  have hg := h.grq k
  have mu := colJ_mem h.k h.m h.u h.f.1 h.f.2.2.1 hWq hx1 hx2 ep
  have mv := colJ_mem h.k h.m h.v h.f.2.1 h.f.2.2.2 hHq hy1 hy2 eq
  have bp := @idx_bd j.mo x (szI k j.W)
  rw [ep] at bp
  have bq := @idx_bd j.mo y (szI k j.H)
  rw [eq] at bq
  have bp := bp rfl
  have bq := bq rfl
  simp only at bp bq
  refine accL_mem hk ?_
  unfold lfJ levL
  have htl : 0 ≤ tlI (szI k j.W) j.TW j.TH p q ∧ tlI (szI k j.W) j.TW j.TH p q < grN (szI k j.W) j.TW * grN (szI k j.H) j.TH := by
    obtain ⟨⟨a0, a1⟩, ⟨b0, b1⟩, c0, c1⟩ := tl_bd hg bp bq
    have h3 : q / j.TH * grN (szI k j.W) j.TW ≤ (grN (szI k j.H) j.TH - 1) * grN (szI k j.W) j.TW := Int.mul_le_mul_of_nonneg_right (by omega) (by omega)
    rw [Int.sub_mul, Int.one_mul, Int.mul_comm (grN (szI k j.H) j.TH)] at h3
    unfold tlI
    omega
  have hhas := (tl_has hg bp bq htl).2 rfl
  rw [List.mem_map]
  refine ⟨(tlI (szI k j.W) j.TW j.TH p q).toNat, List.mem_filter.2 ⟨List.mem_range.2 (by unfold plN; omega), ?_⟩, by omega⟩
  unfold tileB
  rw [show (((tlI (szI k j.W) j.TW j.TH p q).toNat : Nat) : Int) = tlI (szI k j.W) j.TW j.TH p q by omega, Bool.and_eq_true, hitB_iff, hitB_iff]
  exact ⟨⟨p, hhas.1, hhas.2.1, mu⟩, ⟨q, hhas.2.2.1, hhas.2.2.2, mv⟩⟩
/-- What each kernel asks for at a place between two others. -/
theorem reach_near {lo hi u : Int} (h1 : lo ≤ u) (h2 : u ≤ hi) (e1 : inF lo = true) (e2 : inF hi = true) : (sreachR 0 lo hi).1 ≤ (u + 32768) / 65536 ∧ (u + 32768) / 65536 ≤ (sreachR 0 lo hi).2 := by
  unfold sreachR
  rw [if_pos rfl, show reachR 0 0 32768 lo hi = ((lo + 32768) / 65536 + 0, (hi + 32768) / 65536 + 0) from if_pos ⟨by omega, e1, e2⟩]
  simp only
  have := Int.ediv_le_ediv (a := lo + 32768) (b := u + 32768) (c := 65536) (by omega) (by omega)
  have := Int.ediv_le_ediv (a := u + 32768) (b := hi + 32768) (c := 65536) (by omega) (by omega)
  omega
theorem reach_linear {K lo hi u x : Int} (hK : K = 1 ∨ K = 3) (h1 : lo ≤ u) (h2 : u ≤ hi) (e1 : inF lo = true) (e2 : inF hi = true) (hx : x = u / 65536 ∨ x = u / 65536 + 1) : (sreachR K lo hi).1 ≤ x ∧ x ≤ (sreachR K lo hi).2 := by
  have hR : reachR 0 1 0 lo hi = ((lo + 0) / 65536 + 0, (hi + 0) / 65536 + 1) := if_pos ⟨by omega, e1, e2⟩
  have hs : sreachR K lo hi = reachR 0 1 0 lo hi := by
    unfold sreachR
    rcases hK with e | e <;> subst e <;> simp
  rw [hs, hR]
  simp only
  have := Int.ediv_le_ediv (a := lo) (b := u) (c := 65536) (by omega) (by omega)
  have := Int.ediv_le_ediv (a := u) (b := hi) (c := 65536) (by omega) (by omega)
  rcases hx with e | e <;> subst e <;> simp only [Int.add_zero] <;> omega
theorem reach_cubic {lo hi u x : Int} (h1 : lo ≤ u) (h2 : u ≤ hi) (e1 : inF lo = true) (e2 : inF hi = true) (hx1 : u / 65536 - 1 ≤ x) (hx2 : x ≤ u / 65536 + 2) : (sreachR 2 lo hi).1 ≤ x ∧ x ≤ (sreachR 2 lo hi).2 := by
  have hR : reachR (-1) 2 0 lo hi = ((lo + 0) / 65536 + -1, (hi + 0) / 65536 + 2) := if_pos ⟨by omega, e1, e2⟩
  have hs : sreachR 2 lo hi = reachR (-1) 2 0 lo hi := by
    unfold sreachR
    simp
  rw [hs, hR]
  simp only [Int.add_zero]
  have := Int.ediv_le_ediv (a := lo) (b := u) (c := 65536) (by omega) (by omega)
  have := Int.ediv_le_ediv (a := u) (b := hi) (c := 65536) (by omega) (by omega)
  omega
end Go.Proofs.YtibmhabipghjlaaGreat
end
section
set_option linter.unusedVariables false
namespace Go.Proofs.YtibmhabipghjlaaGreat
open Go.RowKit
theorem fit16' {n : Nat} (h : n ≤ 100000) : (n + 1) * 16 ≤ 140737488355328 ∧ n + 1 ≤ 9223372036854775807 := ⟨by omega, by omega⟩
set_option maxRecDepth 100000 in
set_option maxHeartbeats 8000000 in
theorem spread_in {w0 : World} {g : Nat} {j : Jb} {S : List Rn} {w : World} (h : Spy w0 g j S w) (hj : JOk j) (k : Nat) (hk : k ≤ 15) (x y : Int) (hx : 0 ≤ x ∧ x < szI k j.W) (hy : 0 ≤ y ∧ y < szI k j.H) (hS : S.length ≤ 100000) :
    Calls Tryz.prog 202 #[.pointer (some ⟨g, 0, none⟩), .int .i64 k, .int .i64 x, .int .i64 y] w fun e w' => ∃ b, e = .returned (.slice (some ⟨b, 0, none⟩) 1 1) ∧ Bk w' b 5 #[.int .u8 1] ∧ Spy w0 g j (S ++ [((k : Int), tlI (szI k j.W) j.TW j.TH x y)]) w' ∧ Kp w w' := by
  have hg0 := hj.grq k
  have hSz := fun w' (h' : Spy w0 g j S w') => spsize_any h' hj k hk
  have hTi := fun w' => rtiles_any (szI k j.W) (szI k j.H) j.TW j.TH w' hg0
  have hrd := fun (wr : World) (B : Nat) (A : Option Addr) (hR : Rd wr B A (encG (szI k j.W) (szI k j.H) j.TW j.TH (grN (szI k j.W) j.TW * grN (szI k j.H) j.TH).toNat)) (q : Nat) (hq : q < (grN (szI k j.W) j.TW * grN (szI k j.H) j.TH).toNat) => rd_tlR hR q hq
  have hhas := fun (q : Nat) (hq : q < (grN (szI k j.W) j.TW * grN (szI k j.H) j.TH).toNat) => tl_has (q := (q : Int)) hg0 hx hy ⟨by omega, by omega⟩
  have htl : 0 ≤ tlI (szI k j.W) j.TW j.TH x y ∧ tlI (szI k j.W) j.TW j.TH x y < ((grN (szI k j.W) j.TW * grN (szI k j.H) j.TH).toNat : Int) := by
    obtain ⟨⟨a0, a1⟩, ⟨b0, b1⟩, c0, c1⟩ := tl_bd hg0 hx hy
    have h3 : y / j.TH * grN (szI k j.W) j.TW ≤ (grN (szI k j.H) j.TH - 1) * grN (szI k j.W) j.TW := Int.mul_le_mul_of_nonneg_right (by omega) (by omega)
    rw [Int.sub_mul, Int.one_mul, Int.mul_comm (grN (szI k j.H) j.TH)] at h3
    unfold tlI
    omega
  have hNb : (grN (szI k j.W) j.TW * grN (szI k j.H) j.TH).toNat ≤ 2000000000 := by
    obtain ⟨hW, hH, hTW, hTH⟩ := grC_zero.1 hg0
    obtain ⟨g0, g1, _⟩ := grN_bd hW hTW
    obtain ⟨g2, g3, _⟩ := grN_bd hH hTH
    have : grN (szI k j.W) j.TW * grN (szI k j.H) j.TH ≤ 36864 * 36864 := Int.mul_le_mul g1 g3 (by omega) (by omega)
    omega
  obtain ⟨tl, htle⟩ : ∃ tl : Nat, tlI (szI k j.W) j.TW j.TH x y = (tl : Int) := ⟨(tlI (szI k j.W) j.TW j.TH x y).toNat, by omega⟩
  rw [htle] at htl ⊢
  simp only [htle] at hhas
  have htl2 : tl < (grN (szI k j.W) j.TW * grN (szI k j.H) j.TH).toNat := by omega
  clear htle htl hg0 hx hy
  generalize encG (szI k j.W) (szI k j.H) j.TW j.TH (grN (szI k j.W) j.TW * grN (szI k j.H) j.TH).toNat = EL at *
  generalize (grN (szI k j.W) j.TW * grN (szI k j.H) j.TH).toNat = N at *
  generalize szI k j.W = sw at *
  generalize szI k j.H = sh at *
  have HH := Lib.hid hhas
  clear hhas
  have hSw := hSz w h
  obtain ⟨A, c, kS, ho⟩ := h.row
  go_enter Tryz.func202, Tryz.ntmps202
  go_upto_region 2 with (go_at_call 203; (with_reducible refine hSw.mono ?_); rintro e w1 ⟨rfl, hb1⟩)
  have h1 := h.nx hb1
  have k1 := kS.nx hb1
  obtain ⟨-, -, -, y13, y14, -⟩ := k1.cellS
  clear hSw hSz kS ho
  go_region_held3 (fun W => W.cell? ⟨g, 13, none⟩ = some (.int .i64 j.TW) ∧ W.cell? ⟨g, 14, none⟩ = some (.int .i64 j.TH)) (first | exact ⟨y13, y14⟩ | exact ⟨y13', y14'⟩ | go_keep)
    (first | (go_at_call 31; (with_reducible refine (hTi _).mono ?_); rintro e w2 ⟨v2, rfl, ho2, hb2⟩; obtain ⟨A2, c2, rfl, -, -, hr2, -⟩ := own_form ho2; have k2 := k1.drew.nx hb2; obtain ⟨-, -, -, y13', y14', -⟩ := k2.cellS))
  rename_i hHeld
  clear hHeld
  have hb12 : Below w1.heap.size w1 w2 := (below_drewN (Below.refl w1.heap.size w1) 1).trans (hb2.mono (Nat.le_refl _))
  have h2 := h1.nx hb12
  have hb02 := hb1.trans (hb12.mono hb1.size)
  have hrd' := Lib.hid (fun (wr : World) (hb : Below w2.heap.size w2 wr) (q : Nat) (hq : q < N) => hrd wr _ _ (hr2.below hb) q hq)
  have HN := Lib.hid hNb
  clear h h1 k1 k2 y13 y14 y13' y14' hb1 hb2 hb12 ho2 hTi hrd hr2 hNb hj hk
  go_wp2_with fail
  go_loopw [34] (fun i wr => ∃ q : Nat, q ≤ tl ∧ i = .int .i64 (q : Int) ∧ Below w2.heap.size w2 wr) (fun i _ => ((N : Int) - intOf i).toNat)
  case atStart => exact ⟨0, by omega, rfl, Below.refl _ _⟩
  case round =>
    obtain ⟨q, hq, rfl, hbel⟩ := hrel
    have hbz := hbel.size
    have hqN : q < N := by omega
    have hqN' : (q : Int) < (N : Int) := by omega
    obtain ⟨b3, o3, rfl, hb3, e0, e1, e2, e3⟩ := hrd'.out wr hbel q hqN
    have hh := HH.out q hqN
    have HQN := Lib.hid hqN
    have v1 := (lvq_fit (l := 0) (show q ≤ 2000000000 from Nat.le_trans (Nat.le_of_lt hqN) HN.out) (Nat.le_refl q) (Nat.zero_le _)).2.2
    have V1 := Lib.hid v1
    clear HH hrd' v1 hqN
    generalize min (tlX sw j.TW q + j.TW) sw = X1 at *
    generalize min (tlY sw j.TW j.TH q + j.TH) sh = Y1 at *
    generalize tlX sw j.TW q = X0 at *
    generalize tlY sw j.TW j.TH q = Y0 at *
    have HHH := Lib.hid hh
    clear hh
    have k11 := Bk.new wr 84 (rc_rectA 0 0 0 0)
    have hbA := (Below.refl wr.heap.size wr).alloc (Nat.le_refl _) (.cells (rc_rectA 0 0 0 0) 84)
    go_upto_region 5 with (refine stB (ty := 84) (cells := rc_rectA X0 Y0 X1 Y1) rfl _ _ rfl k11 rfl rfl rc_rect_size rfl (by simp [Value.oneCell']) ?_; intro w5 k5 hg5 hs5)
    have hB5 := below_of_gb hbA hg5 (Nat.le_refl _) hbA.size
    have hbel5 := hbel.trans (hB5.mono hbz)
    obtain ⟨f0, f1, f2, f3⟩ := k5.cell4
    clear k11 hbA hg5 hs5 hB5 e0 e1 e2 e3 hbel hbz
    by_cases c1 : x ≥ X0
    · by_cases c2 : x < X1
      · by_cases c3 : y ≥ Y0
        · by_cases c4 : y < Y1
          · have hqt : q = tl := by have := HHH.out.1 ⟨c1, c2, c3, c4⟩; omega
            subst hqt
            have h5 := h2.nx hbel5
            obtain ⟨A5, c5, kS5, hoS5⟩ := h5.row
            have y15 := kS5.cellS.2.2.2.2.2
            have hz5 := h5.bel.size
            have hfit := fit16' hS
            have hF := Lib.hid hfit
            clear hfit V1
            have hbw5 := hb02.trans (hbel5.mono hb02.size)
            go_wp2_with (at_builtin; refine app1 rfl _ _ _ rfl Tryz.underlying38 tile_info rfl (by decide) rfl rfl hoS5 h5.bel (Nat.le_refl _) hz5 rfl (by simp [Value.oneCell']) hF.out.1 hF.out.2 ?_; intro v' w' ho' hb' hsz' hg' _; obtain ⟨A', c', rfl, -, -, -, -⟩ := own_form ho'; have kS' := kS5.grown hg' (fun e => Bk.ne_own kS5 hoS5 (by decide) g e.symm rfl); have f15 := kS'.frozen 15; have y15' := kS'.cellS.2.2.2.2.2)
            go_returns
            have hne' : ∀ b, (Value.slice A' (S.length + 1) c').ownBlock = some b → g ≠ b := fun b e => Bk.ne_own kS' ho' (by decide) b e
            have kU := Bk.new (w'.setCell ⟨g, 15, none⟩ (.slice A' (S.length + 1) c')) 5 #[.int .u8 1]
            rw [show (w'.setCell ⟨g, 15, none⟩ (.slice A' (S.length + 1) c')).heap.size = w'.heap.size by simp] at kU
            refine ⟨_, rfl, kU, ⟨(hb'.setCell h5.lo _).alloc (by have := hb'.size; simp; omega) _, h5.lo, A', c', ?_, ?_⟩, ⟨?_, ?_⟩⟩
            · rw [List.length_append]
              exact (kS'.set 15 _).alloc _
            · rw [List.length_append, encR_append]
              exact (own_far ho' ⟨g, 15, none⟩ _ (fun b e h => hne' b e h.symm)).alloc _
            · have := hbw5.size
              simp
              omega
            · intro h t cs kk n1 n2
              have kk5 := kk.nx hbw5
              exact ((kk5.grown hg' (fun e => Bk.ne_own kk5 hoS5 n1 h e.symm rfl)).far (p := ⟨g, 15, none⟩) (fun e => (kk5.ne_Bk kS5 n2) e) _).alloc _
          · have hlt : Hid (q + 1 ≤ tl) := by
              show _ ≤ _
              have hne : ¬ (q : Int) = tl := fun e => c4 (HHH.out.2 e).2.2.2
              omega
            clear htl2 hq hqN'
            have hqN' : (q : Int) < (N : Int) := by have := HQN.out; omega
            go_wp2_with fail
            exact ⟨⟨q + 1, hlt.out, (by rw [V1.out]; simp), hbel5⟩, dec_i V1.out HQN.out⟩
        · have hlt : Hid (q + 1 ≤ tl) := by
            show _ ≤ _
            have hne : ¬ (q : Int) = tl := fun e => c3 (HHH.out.2 e).2.2.1
            omega
          clear htl2 hq hqN'
          have hqN' : (q : Int) < (N : Int) := by have := HQN.out; omega
          go_wp2_with fail
          exact ⟨⟨q + 1, hlt.out, (by rw [V1.out]; simp), hbel5⟩, dec_i V1.out HQN.out⟩
      · have hlt : Hid (q + 1 ≤ tl) := by
          show _ ≤ _
          have hne : ¬ (q : Int) = tl := fun e => c2 (HHH.out.2 e).2.1
          omega
        clear htl2 hq hqN'
        have hqN' : (q : Int) < (N : Int) := by have := HQN.out; omega
        go_wp2_with fail
        exact ⟨⟨q + 1, hlt.out, (by rw [V1.out]; simp), hbel5⟩, dec_i V1.out HQN.out⟩
    · have hlt : Hid (q + 1 ≤ tl) := by
        show _ ≤ _
        have hne : ¬ (q : Int) = tl := fun e => c1 (HHH.out.2 e).1
        omega
      clear htl2 hq hqN'
      have hqN' : (q : Int) < (N : Int) := by have := HQN.out; omega
      go_wp2_with fail
      exact ⟨⟨q + 1, hlt.out, (by rw [V1.out]; simp), hbel5⟩, dec_i V1.out HQN.out⟩
end Go.Proofs.YtibmhabipghjlaaGreat
end
