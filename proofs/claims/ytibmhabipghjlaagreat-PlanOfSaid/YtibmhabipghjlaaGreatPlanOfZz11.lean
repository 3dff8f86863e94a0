/- Several texts in one: plan and its reference: the tiles of an image, of a job that may be. plan and its reference: the checks, joined; whether a job is near; the reference's job. plan: whether a tile is in a list (after the cache's). plan.Level and plan.Of. plan: the chapter's example; lists that are alike. plan's law: whether a job is near, as a Bool; jobs as the row reads them; the law where a job may not be. plan's law: a job that may be. plan's jobs as the row reads them. -/
import Derived.Test.YtibmhabipghjlaaGreatPlanOfZz10
import Derived.Test.YtibmhabipghjlaaGreatPlanOfZz3
import Derived.Test.YtibmhabipghjlaaGreatPlanOfZz9
import Derived.Test.YtibmhabipghjlaaGreatPlanOfZz4
import Derived.Test.YtibmhabipghjlaaGreatPlanOfZz2
import Derived.Test.YtibmhabipghjlaaGreatPlanOfZz1
import Derived.Deep.QuietTactic
import Derived.BigQuiet
section
set_option linter.unusedVariables false
namespace Go.Proofs.YtibmhabipghjlaaGreat
open Go.RowKit
structure JOk (j : Jb) : Prop where
  k : 0 ≤ j.K ∧ j.K ≤ 3
  m : 0 ≤ j.mo ∧ j.mo ≤ 3
  g : grC j.W j.H j.TW j.TH = 0
  l : 1 ≤ j.L ∧ j.L ≤ cntI 15 j.W j.H
  f : inF j.U0 = true ∧ inF j.V0 = true ∧ inF j.U1 = true ∧ inF j.V1 = true
  u : j.U0 ≤ j.U1
  v : j.V0 ≤ j.V1
theorem boC_zero {m : Int} (h : boC m = 0) : 0 ≤ m ∧ m ≤ 3 := by
  unfold boC at h
  split at h <;> omega
theorem plC_zero {j : Jb} (h : plC j = 0) : JOk j := by
  rcases plC_cases j with ⟨_, e⟩ | ⟨_, _, hb, e⟩ | ⟨_, _, _, hg, e⟩ | ⟨_, _, _, _, _, e⟩ | ⟨_, _, _, _, _, _, e⟩ | ⟨h1, h2, h3, h4, h5, h6, e⟩
  · omega
  · exact absurd (e ▸ h) hb
  · exact absurd (e ▸ h) hg
  · omega
  · omega
  · rw [h] at e
    have hn : ¬ (farL j = true ∨ j.U1 < j.U0 ∨ j.V1 < j.V0) := fun hh => by rw [if_pos hh] at e; omega
    have hf : farL j = false := by
      cases hq : farL j
      · rfl
      · exact absurd (.inl hq) hn
    unfold farL at hf
    simp at hf
    exact ⟨⟨h1, h2⟩, boC_zero h3, h4, ⟨h5, h6⟩, ⟨hf.1, hf.2.1, hf.2.2.1, hf.2.2.2⟩, by omega, by omega⟩
theorem lvTo_in {u k : Int} (h : inF u = true) : inF (lvTo u k) = true := by
  rw [inF_iff] at *
  unfold lvTo
  have hp : (1 : Int) ≤ 2 ^ lvTop k := by have := p2_15 (lvTop k) (lvTop_le k); omega
  generalize (2 : Int) ^ lvTop k = p at *
  have e : (70368744177664 : Int) * p - 70368744177664 = 70368744177664 * (p - 1) := by rw [Int.mul_sub, Int.mul_one]
  constructor
  · rw [Int.le_ediv_iff_mul_le (by omega)]; omega
  · have := Int.ediv_le_ediv (a := u - 32768 * (p - 1)) (b := 70368744177664 * p) (c := p) (by omega) (by omega)
    rw [Int.mul_ediv_cancel _ (by omega)] at this
    exact this
theorem lvTo_le {u v k : Int} (h : u ≤ v) : lvTo u k ≤ lvTo v k := by
  unfold lvTo
  have hp : (1 : Int) ≤ 2 ^ lvTop k := by have := p2_15 (lvTop k) (lvTop_le k); omega
  exact Int.ediv_le_ediv (by omega) (by omega)
theorem sreach_ok {K mo lo hi n : Int} (hK : 0 ≤ K ∧ K ≤ 3) (hm : 0 ≤ mo ∧ mo ≤ 3) (hle : lo ≤ hi) (e1 : inF lo = true) (e2 : inF hi = true) (hn : 1 ≤ n ∧ n ≤ 32768) : okC mo (sreachR K lo hi).1 (sreachR K lo hi).2 n := by
  have hR : ∀ a b h : Int, reachR a b h lo hi = ((lo + h) / 65536 + a, (hi + h) / 65536 + b) := fun a b h => if_pos ⟨hle, e1, e2⟩
  rw [inF_iff] at e1 e2
  have hf : ∀ a b h : Int, 0 ≤ h ∧ h ≤ 32768 → -1 ≤ a ∧ a ≤ b ∧ b ≤ 2 → okC mo ((lo + h) / 65536 + a) ((hi + h) / 65536 + b) n := fun a b h hh hab => by
    have h1 : (lo + h) / 65536 ≤ (hi + h) / 65536 := Int.ediv_le_ediv (by omega) (by omega)
    refine ⟨by omega, hm, ⟨hn.1, by omega⟩, ?_, ?_⟩ <;> (unfold offB; simp; omega)
  unfold sreachR
  rcases (show K = 0 ∨ K = 1 ∨ K = 2 ∨ K = 3 by omega) with h | h | h | h <;> subst h
  · rw [if_pos rfl, hR]; exact hf 0 0 32768 ⟨by omega, by omega⟩ ⟨by omega, by omega, by omega⟩
  · rw [if_neg (by omega), if_pos rfl, hR]; exact hf 0 1 0 ⟨by omega, by omega⟩ ⟨by omega, by omega, by omega⟩
  · rw [if_neg (by omega), if_neg (by omega), if_pos rfl, hR]; exact hf (-1) 2 0 ⟨by omega, by omega⟩ ⟨by omega, by omega, by omega⟩
  · rw [if_neg (by omega), if_neg (by omega), if_neg (by omega), if_pos rfl, hR]; exact hf 0 1 0 ⟨by omega, by omega⟩ ⟨by omega, by omega, by omega⟩
theorem colsR_in {m lo hi n : Int} (h : okC m lo hi n) : ∀ r ∈ colsR m lo hi n, 0 ≤ r.1 ∧ r.1 < r.2 ∧ r.2 ≤ n := fun r hr => by
  have hc := (colsR_canon m lo hi n).1 r hr
  have hb : ∀ x, MemR (colsR m lo hi n) x → 0 ≤ x ∧ x < n := fun x hx => by
    obtain ⟨i, h1, h2, h3⟩ := (colsR_mem h x).1 hx
    have hi2 := off_no h.2.2.2.1
    have hi3 := off_no h.2.2.2.2
    have hq := (@idx_col m n i x h.2.1 h.2.2.1.1).1 h3
    have := @idx_bd m i n
    rw [hq] at this
    exact this rfl
  have h1 := hb r.1 ⟨r, hr, by omega, hc⟩
  have h2 := hb (r.2 - 1) ⟨r, hr, by omega, by omega⟩
  omega
/-- The columns (or rows) that are asked for, of image q. -/
def colJ (K mo lo hi : Int) (q : Nat) (n : Int) : List Rn := colsR mo (sreachR K (lvTo lo q) (lvTo hi q)).1 (sreachR K (lvTo lo q) (lvTo hi q)).2 n
noncomputable def lfJ (j : Jb) (q : Nat) : List Int := levL (szI q j.W) (szI q j.H) j.TW j.TH (colJ j.K j.mo j.U0 j.U1 q (szI q j.W)) (colJ j.K j.mo j.V0 j.V1 q (szI q j.H))
theorem cnt_le16 (a b : Int) : ∀ n, cntI n a b ≤ n + 1 ∧ 1 ≤ cntI n a b
  | 0 => ⟨by simp [cntI], by simp [cntI]⟩
  | n + 1 => by
    have := cnt_le16 ((a + 1) / 2) ((b + 1) / 2) n
    unfold cntI
    split <;> omega
theorem JOk.grq {j : Jb} (h : JOk j) (q : Nat) : grC (szI q j.W) (szI q j.H) j.TW j.TH = 0 := by
  obtain ⟨hW, hH, hTW, hTH⟩ := grC_zero.1 h.g
  exact grC_zero.2 ⟨szI_bd q hW, szI_bd q hH, hTW, hTH⟩
theorem JOk.tiles {j : Jb} (h : JOk j) (q : Nat) (hq : q ≤ 15) (w : World) :
    Calls Tryz.prog 28 #[.agg j.cells, .int .i64 q] w fun e w' => ∃ v, e = .returned v ∧ w'.ownsRow w.heap.size 3 1 v (lfJ j q).length ((lfJ j q).map (Value.int .i64)) ∧ Below w.heap.size w w' := by
  obtain ⟨hW, hH, hTW, hTH⟩ := grC_zero.1 h.g
  have hWq := szI_bd q hW
  have hHq := szI_bd q hH
  have okU := sreach_ok (n := szI q j.W) h.k h.m (lvTo_le (k := q) h.u) (lvTo_in h.f.1) (lvTo_in h.f.2.2.1) hWq
  have okV := sreach_ok (n := szI q j.H) h.k h.m (lvTo_le (k := q) h.v) (lvTo_in h.f.2.1) (lvTo_in h.f.2.2.2) hHq
  exact tiles_any j q (szI q j.W) (szI q j.H) j.TW j.TH (lvTo j.U0 q) (lvTo j.V0 q) (lvTo j.U1 q) (lvTo j.V1 q) (colJ j.K j.mo j.U0 j.U1 q (szI q j.W)) (colJ j.K j.mo j.V0 j.V1 q (szI q j.H)) w (h.grq q)
    (colsR_in okU) (colsR_in okV) (colsR_len _ _ _ _) (colsR_len _ _ _ _)
    (fun w' => jruns_any j (lvTo j.V0 q) (lvTo j.V1 q) (szI q j.H) w') (fun w' => jruns_any j (lvTo j.U0 q) (lvTo j.U1 q) (szI q j.W) w')
    (fun w' => jgrid_any j q w' hq hW hH)
    (fun w' => boxto_any j.U0 j.V0 j.U1 j.V1 q w' fun u w'' hu => to_any u q w'' (by rcases hu with e | e | e | e <;> subst e <;> first | exact (inF_iff.1 h.f.1).1 | exact (inF_iff.1 h.f.2.1).1 | exact (inF_iff.1 h.f.2.2.1).1 | exact (inF_iff.1 h.f.2.2.2).1) (by rcases hu with e | e | e | e <;> subst e <;> first | exact (inF_iff.1 h.f.1).2 | exact (inF_iff.1 h.f.2.1).2 | exact (inF_iff.1 h.f.2.2.1).2 | exact (inF_iff.1 h.f.2.2.2).2))
theorem JOk.marks {j : Jb} (h : JOk j) (lo hi : Int) (q : Nat) (n : Nat) (hn : 1 ≤ n ∧ n ≤ 32768) (hle : lo ≤ hi) (e1 : inF lo = true) (e2 : inF hi = true) (w : World) :
    Calls Tryz.prog 30 #[.agg j.cells, .int .i64 q, .int .i64 lo, .int .i64 hi, .int .i64 (n : Int)] w fun e w' => ∃ v bs, e = .returned v ∧ bs.length = n ∧ w'.ownsRow w.heap.size 4 1 v n (bs.map Value.bool) ∧ Below w.heap.size w w' ∧ Marks bs (colJ j.K j.mo lo hi q n) := by
  have f1 := lvTo_in (k := q) e1
  have f2 := lvTo_in (k := q) e2
  have b1 := inF_iff.1 f1
  have b2 := inF_iff.1 f2
  exact rmarks39 j q lo hi _ _ n w (fun u w' hu => rto_any u q w' (by rcases hu with e | e <;> subst e <;> first | exact (inF_iff.1 e1).1 | exact (inF_iff.1 e2).1) (by rcases hu with e | e <;> subst e <;> first | exact (inF_iff.1 e1).2 | exact (inF_iff.1 e2).2))
    (fun w' => rreach39 j.K (lvTo lo q) (lvTo hi q) w' h.k (lvTo_le hle) b1 b2 f1 f2) (sreach_ok h.k h.m (lvTo_le hle) f1 f2 ⟨by omega, by omega⟩) (by omega)
theorem JOk.level {j : Jb} (h : JOk j) (q : Nat) (hq : q ≤ 15) (w : World) :
    Calls Tryz.prog 12 #[.agg j.cells, .int .i64 q] w fun e w' => ∃ v, e = .returned v ∧ w'.ownsRow w.heap.size 3 1 v (lfJ j q).length ((lfJ j q).map (Value.int .i64)) ∧ Below w.heap.size w w' := by
  obtain ⟨hW, hH, hTW, hTH⟩ := grC_zero.1 h.g
  have hWq := szI_bd q hW
  have hHq := szI_bd q hH
  have hSz := fun w' => rsize_any j.W j.H q w' hq hW hH
  have hg := h.grq q
  have hM := fun lo hi n h1 h2 h3 h4 w' => h.marks lo hi q n h1 h2 h3 h4 w'
  unfold lfJ
  obtain ⟨W, hWe⟩ : ∃ W : Nat, szI q j.W = (W : Int) := ⟨(szI q j.W).toNat, by omega⟩
  obtain ⟨H, hHe⟩ : ∃ H : Nat, szI q j.H = (H : Int) := ⟨(szI q j.H).toNat, by omega⟩
  rw [hWe, hHe] at hg
  simp only [hWe, hHe] at hSz ⊢
  rw [hWe] at hWq
  rw [hHe] at hHq
  exact rlevel39 j q W H _ _ w hg (by omega) (by omega) hSz (fun w' => hM j.U0 j.U1 W ⟨by omega, by omega⟩ h.u h.f.1 h.f.2.2.1 w') (fun w' => hM j.V0 j.V1 H ⟨by omega, by omega⟩ h.v h.f.2.1 h.f.2.2.2 w')
theorem szI_le : ∀ (q : Nat) {n : Int}, 1 ≤ n → szI q n ≤ n ∧ 1 ≤ szI q n
  | 0, n, h => ⟨Int.le_refl _, h⟩
  | q + 1, n, h => by
    have h1 := szI_le q (n := (n + 1) / 2) (by omega)
    unfold szI
    omega
theorem grN_le {W T : Int} (hW : 1 ≤ W) (hT : 1 ≤ T) : grN W T ≤ W := by
  rcases Int.lt_or_le W (grN W T) with h | h
  · have h1 := (grN_lt (W := W) (T := T) (r := W) hT).1 h
    have h2 : W * 1 ≤ W * T := Int.mul_le_mul_of_nonneg_left hT (by omega)
    omega
  · exact h
theorem JOk.small {j : Jb} (h : JOk j) (hW1 : j.W ≤ 100) (hH1 : j.H ≤ 100) (q : Nat) : (lfJ j q).length ≤ 10000 := by
  obtain ⟨hW, hH, hTW, hTH⟩ := grC_zero.1 h.g
  have h1 := szI_le q hW.1
  have h2 := szI_le q hH.1
  have g1 := grN_le h1.2 hTW.1
  have g2 := grN_le h2.2 hTH.1
  have g3 := grN_bd (szI_bd q hW) hTW
  have g4 := grN_bd (szI_bd q hH) hTH
  unfold lfJ levL
  rw [List.length_map]
  refine Nat.le_trans (List.length_filter_le _ _) ?_
  rw [List.length_range]
  unfold plN
  have : grN (szI q j.W) j.TW * grN (szI q j.H) j.TH ≤ 100 * 100 := Int.mul_le_mul (by omega) (by omega) (by omega) (by omega)
  omega
end Go.Proofs.YtibmhabipghjlaaGreat
end
section
set_option linter.unusedVariables false
namespace Go.Proofs.YtibmhabipghjlaaGreat
open Go.RowKit
theorem pcheck_any (j : Jb) (w : World) : Calls Tryz.prog 7 #[.agg j.cells] w fun e w' => e = .returned (.int .i64 (plC j)) ∧ Below w.heap.size w w' := by
  by_cases hK : j.K < 0 ∨ 3 < j.K
  · have e : plC j = 10 := by unfold plC; rw [if_pos hK]
    rw [e]
    exact pchk_name j w hK
  · have e : plC j = (if boC j.mo ≠ 0 then boC j.mo else if grC j.W j.H j.TW j.TH ≠ 0 then grC j.W j.H j.TW j.TH else if j.L < 1 ∨ cntI 15 j.W j.H < j.L then 11 else if (farL j || decide (j.U0 > j.U1) || decide (j.V0 > j.V1)) = true then 11 else 0) := by
      unfold plC
      rw [if_neg hK]
      simp only [Bool.or_eq_true, decide_eq_true_eq, or_assoc, GT.gt]
    rw [e]
    refine pchk_rest j w (boC j.mo) (grC j.W j.H j.TW j.TH) (cntI 15 j.W j.H) (farL j) _ _ (nameR j.K) (nameR_some ⟨by omega, by omega⟩) rfl rfl (fun w' => name_any j.K w') (fun w' => jgrid0 j w') (fun w' => bochk_any j.mo j.c0 j.c1 j.c2 j.c3 w') (fun w' => gcheck_any j.W j.H j.TW j.TH w') (fun _ hg w' => ?_) (fun A cp w' B hR => ?_)
    · obtain ⟨hW, hH, _, _⟩ := grC_zero.1 hg
      exact mcount_any j.W j.H 15 w' (by omega) hW hH
    · exact ctf_plan (fun u => !inF u) (fun x w'' => pfar_any x w'') [j.U0, j.V0, j.U1, j.V1] A 4 cp w' rfl (by omega) hR
theorem rcheck_any (j : Jb) (w : World) : Calls Tryz.prog 6 #[.agg j.cells] w fun e w' => e = .returned (.int .i64 (plC j)) ∧ Below w.heap.size w w' := by
  by_cases hK : j.K < 0 ∨ 3 < j.K
  · have e : plC j = 10 := by unfold plC; rw [if_pos hK]
    rw [e]
    exact rchk_bad j w (by omega)
  · by_cases hm : j.mo < 0 ∨ 3 < j.mo
    · have e : plC j = 10 := by unfold plC boC; rw [if_neg hK, if_pos hm]; simp
      rw [e]
      exact rchk_bad j w (by omega)
    · have e : plC j = (if grC j.W j.H j.TW j.TH ≠ 0 then grC j.W j.H j.TW j.TH else if j.L < 1 ∨ cntI 15 j.W j.H < j.L then 11 else if farL j = true ∨ j.U1 < j.U0 ∨ j.V1 < j.V0 then 11 else 0) := by
        unfold plC boC
        rw [if_neg hK, if_neg hm]
        simp
      rw [e]
      refine rchk_ok j w (grC j.W j.H j.TW j.TH) (cntI 15 j.W j.H) (by omega) (by omega) (by omega) (by omega) (fun w' => rgcheck_any j.W j.H j.TW j.TH w') (fun hg w' => ?_)
      obtain ⟨hW, hH, _, _⟩ := grC_zero.1 hg
      exact rcount_any j.W j.H 15 w' (by omega) hW hH
def NearR (j : Jb) (w : World) (e : Ending) (w' : World) : Prop := ∃ b, e = .returned (.bool b) ∧ (b = true → j.W ≤ 100 ∧ j.H ≤ 100) ∧ Below w.heap.size w w'
set_option maxRecDepth 100000 in
set_option maxHeartbeats 4000000 in
theorem near_any (j : Jb) (w : World) : Calls Tryz.prog 8 #[.agg j.cells] w (NearR j w) := by
  have hL := (Lie.start w).alloc j.cells 31
  have k0 : Bk _ w.heap.size 31 j.cells := hL.k 0 (by simp)
  have hb0 := hL.bel
  obtain ⟨y0, y1, y2, y3, y4, y5, y6, y7, y8, y9, y10, y11, y12, y13, y14⟩ := k0.cellJ
  clear y4 y5 y6 y7 y8 y9 y12 y13 y14 hL
  by_cases h1 : j.W ≤ 100
  · by_cases h2 : j.H ≤ 100
    · have H1 := Lib.hid h1
      have H2 := Lib.hid h2
      go_enter Tryz.func8, Tryz.ntmps8
      go_wp2_with fail
      all_goals
        go_returns
        exact ⟨_, rfl, fun _ => ⟨H1.out, H2.out⟩, hb0⟩
    · go_enter Tryz.func8, Tryz.ntmps8
      go_wp2_with fail
      go_returns
      exact ⟨false, rfl, (fun e => by cases e), hb0⟩
  · go_enter Tryz.func8, Tryz.ntmps8
    go_wp2_with fail
    go_returns
    exact ⟨false, rfl, (fun e => by cases e), hb0⟩
theorem rjob_size39 : (Tryz.prog.info? 31).map (·.size) = some 15 := by kernel_rfl
set_option maxRecDepth 100000 in
set_option maxHeartbeats 4000000 in
theorem own_any (j : Jb) (w : World) : Calls Tryz.prog 5 #[.agg j.cells] w fun e w' => e = .returned (.agg j.cells) ∧ Below w.heap.size w w' := by
  have hL := ((Lie.start w).alloc j.cells 28).alloc (Jb.cells ⟨0, 0, 0, 0, 0, 0, 0, 0, 0, 0, 0, 0, 0, 0, 0⟩) 31
  simp only [World.size_alloc] at hL
  have k0 : Bk _ w.heap.size 28 j.cells := hL.k 1 (by simp)
  have k1 : Bk _ (w.heap.size + 1) 31 (Jb.cells ⟨0, 0, 0, 0, 0, 0, 0, 0, 0, 0, 0, 0, 0, 0, 0⟩) := hL.k 0 (by simp)
  have hb0 := hL.bel
  obtain ⟨y0, y1, y2, y3, y4, y5, y6, y7, y8, y9, y10, y11, y12, y13, y14⟩ := k0.cellJ
  clear hL
  go_enter Tryz.func5, Tryz.ntmps5
  go_upto_region 1 with fail
  generalize (w.alloc (.cells j.cells 28)).alloc (.cells (Jb.cells ⟨0, 0, 0, 0, 0, 0, 0, 0, 0, 0, 0, 0, 0, 0, 0⟩) 31) = w1 at *
  have kn := Bk.new w1 29 #[.int .i64 0, .int .i64 0, .int .i64 0, .int .i64 0]
  have hbA := (Below.refl w1.heap.size w1).alloc (Nat.le_refl _) (.cells #[.int .i64 0, .int .i64 0, .int .i64 0, .int .i64 0] 29)
  go_upto_region 2 with (refine stB (ty := 29) (cells := #[.int .i64 j.U0, .int .i64 j.V0, .int .i64 j.U1, .int .i64 j.V1]) rfl _ _ rfl kn rfl rfl rbox_size37 rfl (by simp [Value.oneCell']) ?_; intro w3 k3 hg3 hs3)
  have hb3 := below_of_gb hbA hg3 (Nat.le_refl _) hbA.size
  have k03 := k0.nx hb3
  have k13 := k1.nx hb3
  have hb03 := hb0.trans (hb3.mono hb0.size)
  clear y0 y1 y2 y3 y4 y5 y6 y7 y8 y9 y10 y11 y12 y13 y14 k0 k1 hb0 kn hbA hg3 hs3 hb3
  obtain ⟨y0, y1, y2, y3, y4, y5, y6, y7, y8, y9, y10, y11, y12, y13, y14⟩ := k03.cellJ
  go_wp2_with (first
    | (refine ldB rfl _ _ rfl k3 rfl Tryz.underlying29 rfl rbox_size37 ?_)
    | (refine stB (ty := 31) (cells := j.cells) rfl _ _ rfl k13 rfl rfl rjob_size39 rfl (by simp [Value.oneCell']) ?_; intro w' hK' hg' _))
  refine bodyPost_ret (res_cell rfl hK' rfl Tryz.underlying31 rfl rjob_size39) rfl ?_
  exact ⟨rfl, below_of_gb hb03 hg' (by omega) hb03.size⟩
end Go.Proofs.YtibmhabipghjlaaGreat
end
section
set_option linter.unusedVariables false
namespace Go.Proofs.YtibmhabipghjlaaGreat
open Go.RowKit
abbrev tlA (a b : Int) : Array Value := #[.int .i64 a, .int .i64 b]
theorem eq2_bool (a b c d : Int) : decide ((a, b) = (c, d)) = ((a == c) && (b == d)) := by
  by_cases h1 : a = c <;> by_cases h2 : b = d <;> simp [h1, h2]
theorem eql_tile (a b c d : Int) (w : World) : (binOp .eql 46 (.agg (tlA a b)) (.agg (tlA c d))).run Tryz.prog w = .ok (.bool (decide ((a, b) = (c, d)))) w := by
  rw [eq2_bool]
  simp [go_sem, Tryz.underlying46]
  by_cases h1 : a = c <;> by_cases h2 : b = d <;> simp [h1, h2]
set_option maxHeartbeats 4000000 in
theorem tix_any (S : List (Int × Int)) (A : Option Addr) (n c B : Nat) (t : Int × Int) (w : World) (hn : S.length = n) (hsm : n ≤ 1000000) (hr : Rd w B A (encR S)) (hB : B ≤ w.heap.size) :
    Calls Tryz.prog 52 #[.slice A n c, .agg (tlA t.1 t.2)] w fun e w' => (∃ z : Int, e = .returned (.int .i64 z) ∧ decide (z ≥ 0) = decide (t ∈ S)) ∧ Below w.heap.size w w' := by
  obtain ⟨t1, t2⟩ := t
  simp only
  have hb1 := (Below.refl w.heap.size w).alloc (Nat.le_refl _) (.cells (tlA t1 t2) 46)
  have k0 := Bk.new w 46 (tlA t1 t2)
  go_enter Tryz.func52, Tryz.ntmps52
  go_upto_region 1 with fail
  generalize hw1 : w.alloc (.cells (tlA t1 t2) 46) = w1 at *
  go_wp2_with fail
  go_loopw [8] (fun i wr => ∃ k : Nat, k ≤ n ∧ i = .int .i64 k ∧ (t1, t2) ∉ S.take k ∧ Below w1.heap.size w1 wr) (fun i _ => n - (intOf i).toNat)
  case atStart => exact ⟨0, by omega, rfl, by simp, Below.refl _ _⟩
  case round =>
    obtain ⟨k, hk, rfl, hni, hbel⟩ := hrel
    by_cases hlt : k < n
    · have hk2 : k < S.length := by omega
      have hl := encR_len S
      obtain ⟨b, o, rfl, hbB, e0⟩ := hr (k * 2) (by omega)
      obtain ⟨b', o', e', _, e1⟩ := hr (k * 2 + 1) (by omega)
      injection e' with e'; injection e' with q1 q2
      subst q1; subst q2
      obtain ⟨g0, g1⟩ := encR_get S k hk2
      rw [List.getElem?_eq_getElem (by omega)] at g0 g1
      rw [Option.some.inj g0] at e0
      rw [Option.some.inj g1] at e1
      have HT := Lib.hid (List.take_succ_eq_append_getElem hk2)
      have hm : S[k] ∈ S := List.getElem_mem hk2
      generalize S[k] = s at *
      obtain ⟨s1, s2⟩ := s
      simp only at e0 e1
      have kr := k0.nx hbel
      obtain ⟨d0, d1⟩ := kr.cell2
      have f0 := (hbel.cell (p := ⟨b, o + k * 2, none⟩) (by have := hb1.size; show b < _; omega)).trans ((hb1.cell (p := ⟨b, o + k * 2, none⟩) (by show b < _; omega)).trans e0)
      have f1 := (hbel.cell (p := ⟨b, o + (k * 2 + 1), none⟩) (by have := hb1.size; show b < _; omega)).trans ((hb1.cell (p := ⟨b, o + (k * 2 + 1), none⟩) (by show b < _; omega)).trans e1)
      rw [show o + (k * 2 + 1) = o + k * 2 + 1 by omega] at f1
      have hE := fun w => eql_tile t1 t2 s1 s2 w
      by_cases hq : (t1, t2) = (s1, s2)
      · rw [decide_eq_true hq] at hE
        have HQ := Lib.hid hq
        have HM := Lib.hid hm
        have hz := hb1.size
        clear hq hm kr k0 hr e0 e1
        go_upto_region 4 with fail
        go_quiet ((fail))
        go_wp2_with fail
        go_returns
        refine ⟨⟨k, rfl, ?_⟩, hb1.trans ((below_drewN hbel _).mono hz)⟩
        have hmem := HM.out
        rw [← HQ.out] at hmem
        simp [hmem]
      · rw [decide_eq_false hq] at hE
        have HQ := Lib.hid hq
        clear hq hm kr k0 hr e0 e1
        go_upto_region 4 with fail
        go_quiet ((fail))
        go_wp2_with fail
        refine ⟨⟨k + 1, by omega, by go_num, ?_, below_drewN hbel _⟩, by simp [intOf]; omega⟩
        rw [HT.out]
        simp only [List.mem_append, List.mem_singleton, not_or]
        exact ⟨hni, HQ.out⟩
    · obtain rfl : k = n := by omega
      rw [List.take_of_length_le (by omega)] at hni
      go_wp2_with fail
      go_returns
      exact ⟨⟨-1, rfl, by simp [hni]⟩, hb1.trans (hbel.mono (by have := hb1.size; omega))⟩
theorem tcon_any (S : List (Int × Int)) (A : Option Addr) (n c B : Nat) (t : Int × Int) (w : World) (hn : S.length = n) (hsm : n ≤ 1000000) (hr : Rd w B A (encR S)) (hB : B ≤ w.heap.size) :
    Calls Tryz.prog 33 #[.slice A n c, .agg (tlA t.1 t.2)] w fun e w' => e = .returned (.bool (decide (t ∈ S))) ∧ Below w.heap.size w w' := by
  obtain ⟨t1, t2⟩ := t
  simp only
  have hb1 := (Below.refl w.heap.size w).alloc (Nat.le_refl _) (.cells (tlA t1 t2) 46)
  have k0 := Bk.new w 46 (tlA t1 t2)
  obtain ⟨d0, d1⟩ := k0.cell2
  have hI := tix_any S A n c B (t1, t2) (w.alloc (.cells (tlA t1 t2) 46)) hn hsm (hr.keep (fun p hp => hb1.cell (by omega))) (by have := hb1.size; omega)
  simp only at hI
  generalize decide ((t1, t2) ∈ S) = bb at *
  clear k0 hr
  go_enter Tryz.func33, Tryz.ntmps33
  go_upto_region 1 with fail
  generalize w.alloc (.cells (tlA t1 t2) 46) = w1 at *
  go_wp2_with (go_at_call 52; (with_reducible refine hI.mono ?_); rintro e w2 ⟨⟨z, rfl, hz⟩, hb2⟩)
  go_returns
  exact ⟨rfl, hb1.trans (hb2.mono hb1.size)⟩
theorem phas_any (S : List (Int × Int)) (A : Option Addr) (n c B : Nat) (t : Int × Int) (w : World) (hn : S.length = n) (hsm : n ≤ 1000000) (hr : Rd w B A (encR S)) (hB : B ≤ w.heap.size) :
    Calls Tryz.prog 13 #[.slice A n c, .agg (tlA t.1 t.2)] w fun e w' => e = .returned (.bool (decide (t ∈ S))) ∧ Below w.heap.size w w' := by
  obtain ⟨t1, t2⟩ := t
  simp only
  have hb1 := (Below.refl w.heap.size w).alloc (Nat.le_refl _) (.cells (tlA t1 t2) 46)
  have k0 := Bk.new w 46 (tlA t1 t2)
  obtain ⟨d0, d1⟩ := k0.cell2
  have hI := tcon_any S A n c B (t1, t2) (w.alloc (.cells (tlA t1 t2) 46)) hn hsm (hr.keep (fun p hp => hb1.cell (by omega))) (by have := hb1.size; omega)
  simp only at hI
  generalize decide ((t1, t2) ∈ S) = bb at *
  clear k0 hr
  go_enter Tryz.func13, Tryz.ntmps13
  go_upto_region 1 with fail
  generalize w.alloc (.cells (tlA t1 t2) 46) = w1 at *
  go_wp2_with (go_at_call 33; (with_reducible refine hI.mono ?_); rintro e w2 ⟨rfl, hb2⟩)
  go_returns
  exact ⟨rfl, hb1.trans (hb2.mono hb1.size)⟩
end Go.Proofs.YtibmhabipghjlaaGreat
end
section
set_option linter.unusedVariables false
namespace Go.Proofs.YtibmhabipghjlaaGreat
open Go.RowKit
/-- The tiles of all images so far: those of images below k, and the first p of image k. -/
def accL (lf : Nat → List Int) (k p : Nat) : List Rn := ((List.range k).flatMap fun q => (lf q).map fun i => ((q : Int), i)) ++ ((lf k).take p).map fun i => ((k : Int), i)
theorem accL_0 (lf : Nat → List Int) : accL lf 0 0 = [] := by simp [accL]
theorem accL_p {lf : Nat → List Int} {k p : Nat} (hp : p < (lf k).length) : accL lf k (p + 1) = accL lf k p ++ [((k : Int), (lf k)[p])] := by
  unfold accL
  rw [List.take_succ_eq_append_getElem hp, List.map_append, List.append_assoc]
  rfl
theorem accL_k (lf : Nat → List Int) (k : Nat) : accL lf k (lf k).length = accL lf (k + 1) 0 := by
  unfold accL
  rw [List.range_succ, List.flatMap_append, List.take_length]
  simp
theorem accL_len {lf : Nat → List Int} (hlf : ∀ q, q < 16 → (lf q).length ≤ 10000) {k p : Nat} (hk : k < 16 ∨ (k ≤ 16 ∧ p = 0)) : (accL lf k p).length ≤ 170000 := by
  unfold accL
  have h1 : ∀ k, k ≤ 16 → ((List.range k).flatMap fun q => (lf q).map fun i => ((q : Int), i)).length ≤ k * 10000 := by
    intro k
    induction k with
    | zero => intro _; simp
    | succ k ih =>
      intro hk
      have := ih (by omega)
      have := hlf k (by omega)
      rw [List.range_succ, List.flatMap_append, List.length_append]
      simp only [List.flatMap_cons, List.flatMap_nil, List.append_nil, List.length_map]
      omega
  have h2 := h1 k (by omega)
  rw [List.length_append, List.length_map]
  rcases hk with hk | ⟨hk, hp⟩
  · have h3 := hlf k hk
    have h4 := List.length_take_le' p (lf k)
    omega
  · subst hp
    simp only [List.take_zero, List.length_nil, Nat.add_zero]
    omega
theorem tile_info : (Tryz.prog.info? 46).map (fun i => (i.zero, i.size, i.bytes)) = some (some (.agg #[.int .i64 0, .int .i64 0]), 2, 16) := by kernel_rfl
set_option maxRecDepth 100000 in
set_option maxHeartbeats 4000000 in
theorem plevel_bad (j : Jb) (k c : Int) (w : World) (hc : c ≠ 0) (hC : ∀ w', Calls Tryz.prog 7 #[.agg j.cells] w' fun e w'' => e = .returned (.int .i64 c) ∧ Below w'.heap.size w' w'') :
    Calls Tryz.prog 11 #[.agg j.cells, .int .i64 k] w fun e w' => e = .returned (.tuple #[.slice none 0 0, .int .i64 c]) ∧ Below w.heap.size w w' := by
  have hL := (Lie.start w).alloc j.cells 28
  have k0 : Bk _ w.heap.size 28 j.cells := hL.k 0 (by simp)
  have hb0 := hL.bel
  have hb : (c != 0) = true := by simpa using hc
  clear hL hc
  go_enter Tryz.func11, Tryz.ntmps11
  go_wp2_with (first
    | (refine ldB rfl _ _ rfl k0 rfl Tryz.underlying28 rfl job_size ?_)
    | (go_at_call 7; (with_reducible refine (hC _).mono ?_); rintro e w1 ⟨rfl, hb1⟩))
  go_returns
  exact ⟨rfl, hb0.trans (hb1.mono hb0.size)⟩
set_option maxRecDepth 100000 in
set_option maxHeartbeats 4000000 in
theorem plevel_out (j : Jb) (k : Int) (w : World) (hk : k < 0 ∨ (0 ≤ k ∧ k ≥ j.L)) (hC : ∀ w', Calls Tryz.prog 7 #[.agg j.cells] w' fun e w'' => e = .returned (.int .i64 0) ∧ Below w'.heap.size w' w'') :
    Calls Tryz.prog 11 #[.agg j.cells, .int .i64 k] w fun e w' => e = .returned (.tuple #[.slice none 0 0, .int .i64 11]) ∧ Below w.heap.size w w' := by
  have hL := (Lie.start w).alloc j.cells 28
  have k0 : Bk _ w.heap.size 28 j.cells := hL.k 0 (by simp)
  have hb0 := hL.bel
  clear hL
  rcases hk with h1 | ⟨h1, h2⟩
  all_goals
    go_enter Tryz.func11, Tryz.ntmps11
    go_wp2_with (first
      | (refine ldB rfl _ _ rfl k0 rfl Tryz.underlying28 rfl job_size ?_)
      | (go_at_call 7; (with_reducible refine (hC _).mono ?_); rintro e w1 ⟨rfl, hb1⟩; obtain ⟨-, -, -, -, -, -, -, -, -, -, -, -, y12, -, -⟩ := (k0.nx hb1).cellJ))
    go_returns
    exact ⟨rfl, hb0.trans (hb1.mono hb0.size)⟩
set_option maxRecDepth 100000 in
set_option maxHeartbeats 4000000 in
theorem plevel_in (j : Jb) (k : Int) (LL : List Int) (w : World) (h0 : 0 ≤ k) (h1 : k < j.L) (hC : ∀ w', Calls Tryz.prog 7 #[.agg j.cells] w' fun e w'' => e = .returned (.int .i64 0) ∧ Below w'.heap.size w' w'')
    (hT : ∀ w', Calls Tryz.prog 28 #[.agg j.cells, .int .i64 k] w' fun e w'' => ∃ v, e = .returned v ∧ w''.ownsRow w'.heap.size 3 1 v LL.length (LL.map (Value.int .i64)) ∧ Below w'.heap.size w' w'') :
    Calls Tryz.prog 11 #[.agg j.cells, .int .i64 k] w fun e w' => ∃ v, e = .returned (.tuple #[v, .int .i64 0]) ∧ w'.ownsRow w.heap.size 3 1 v LL.length (LL.map (Value.int .i64)) ∧ Below w.heap.size w w' := by
  have hL := (Lie.start w).alloc j.cells 28
  have k0 : Bk _ w.heap.size 28 j.cells := hL.k 0 (by simp)
  have hb0 := hL.bel
  have h2 : ¬ k < 0 := by omega
  have h3 : ¬ k ≥ j.L := by omega
  clear hL h0 h1
  go_enter Tryz.func11, Tryz.ntmps11
  go_wp2_with (first
    | (refine ldB rfl _ _ rfl k0 rfl Tryz.underlying28 rfl job_size ?_)
    | (go_at_call 7; (with_reducible refine (hC _).mono ?_); rintro e w1 ⟨rfl, hb1⟩; have k1 := k0.nx hb1; obtain ⟨-, -, -, -, -, -, -, -, -, -, -, -, y12, -, -⟩ := k1.cellJ; have hb01 := hb0.trans (hb1.mono hb0.size))
    | (refine ldB rfl _ _ rfl k1 rfl Tryz.underlying28 rfl job_size ?_)
    | (go_at_call 28; (with_reducible refine (hT _).mono ?_); rintro e w2 ⟨v, rfl, ho, hb2⟩))
  go_returns
  exact ⟨v, rfl, own_base ho hb01.size, hb01.trans (hb2.mono hb01.size)⟩
set_option maxRecDepth 100000 in
set_option maxHeartbeats 4000000 in
theorem pof_bad (j : Jb) (c : Int) (w : World) (hc : c ≠ 0) (hC : ∀ w', Calls Tryz.prog 7 #[.agg j.cells] w' fun e w'' => e = .returned (.int .i64 c) ∧ Below w'.heap.size w' w'') :
    Calls Tryz.prog 10 #[.agg j.cells] w fun e w' => e = .returned (.tuple #[.slice none 0 0, .int .i64 c]) ∧ Below w.heap.size w w' := by
  have hL := (Lie.start w).alloc j.cells 28
  have k0 : Bk _ w.heap.size 28 j.cells := hL.k 0 (by simp)
  have hb0 := hL.bel
  have hb : (c != 0) = true := by simpa using hc
  clear hL hc
  go_enter Tryz.func10, Tryz.ntmps10
  go_wp2_with (first
    | (refine ldB rfl _ _ rfl k0 rfl Tryz.underlying28 rfl job_size ?_)
    | (go_at_call 7; (with_reducible refine (hC _).mono ?_); rintro e w1 ⟨rfl, hb1⟩))
  go_returns
  exact ⟨rfl, hb0.trans (hb1.mono hb0.size)⟩
theorem fit16 {n : Nat} (h : n ≤ 170000) : (n + 1) * 16 ≤ 140737488355328 ∧ n + 1 ≤ 9223372036854775807 := ⟨by omega, by omega⟩
set_option maxRecDepth 100000 in
set_option maxHeartbeats 4000000 in
theorem pof_in (j : Jb) (n : Nat) (lf : Nat → List Int) (w : World) (hn : j.L = n) (hn16 : n ≤ 16) (hlf : ∀ q, q < 16 → (lf q).length ≤ 10000) (hC : ∀ w', Calls Tryz.prog 7 #[.agg j.cells] w' fun e w'' => e = .returned (.int .i64 0) ∧ Below w'.heap.size w' w'')
    (hT : ∀ (k : Nat) w', k < n → Calls Tryz.prog 28 #[.agg j.cells, .int .i64 k] w' fun e w'' => ∃ v, e = .returned v ∧ w''.ownsRow w'.heap.size 3 1 v (lf k).length ((lf k).map (Value.int .i64)) ∧ Below w'.heap.size w' w'') :
    Calls Tryz.prog 10 #[.agg j.cells] w fun e w' => ∃ v, e = .returned (.tuple #[v, .int .i64 0]) ∧ w'.ownsRow w.heap.size 46 2 v (accL lf n 0).length (encR (accL lf n 0)) ∧ Below w.heap.size w w' := by
  have hL := (Lie.start w).alloc j.cells 28
  have k0 : Bk _ w.heap.size 28 j.cells := hL.k 0 (by simp)
  have hb0 := hL.bel
  have hlen := fun k p h => @accL_len lf hlf k p h
  have hA0 := accL_0 lf
  have hAp := fun k p h => @accL_p lf k p h
  have hAk := accL_k lf
  generalize hT0 : accL lf = T at *
  clear hT0
  have HLn := Lib.hid hlen
  have HAp := Lib.hid hAp
  have HAk := Lib.hid hAk
  have HN := Lib.hid (And.intro hn hn16)
  have HLF := Lib.hid hlf
  have HT := Lib.hid hT
  clear hlen hAp hAk hlf hT hn hn16 hL
  go_enter Tryz.func10, Tryz.ntmps10
  go_wp2_with (first
    | (refine ldB rfl _ _ rfl k0 rfl Tryz.underlying28 rfl job_size ?_)
    | (go_at_call 7; (with_reducible refine (hC _).mono ?_); rintro e w1 ⟨rfl, hb1⟩; have k1 := k0.nx hb1; obtain ⟨-, -, -, -, -, -, -, -, -, -, -, -, y12, -, -⟩ := k1.cellJ; rw [HN.out.1] at y12; have hb01 := hb0.trans (hb1.mono hb0.size))
    | (refine ldB rfl _ _ rfl k1 rfl Tryz.underlying28 rfl job_size ?_))
  have hz1 := hb01.size
  clear k0 k1 y12 hb0 hb1 hC
  go_loopw [5, 19] (fun v i wr => ∃ q : Nat, q ≤ n ∧ i = .int .i64 (q : Int) ∧ wr.ownsRow w1.heap.size 46 2 v (T q 0).length (encR (T q 0)) ∧ Below w1.heap.size w1 wr) (fun _ i _ => (n - intOf i).toNat)
  case atStart => exact ⟨0, by omega, rfl, by rw [hA0]; simpa [encR] using World.ownsRow_nil _ _ _ _, Below.refl _ _⟩
  case round =>
    obtain ⟨q, hq, rfl, hown, hbel⟩ := hrel
    have hbz := hbel.size
    by_cases hlt : (q : Int) < (n : Int)
    · have hq1 : q < n := by omega
      have hq16 : q < 16 := Nat.lt_of_lt_of_le hq1 HN.out.2
      have hTq := fun w' => HT.out q w' hq1
      have HLq := Lib.hid (fun p => HLn.out q p (.inl hq16))
      have HAq := Lib.hid (fun p => HAp.out q p)
      have HAe := Lib.hid (HAk.out q)
      have HLl := Lib.hid (HLF.out q hq16)
      have v1 := (lvq_fit (l := 0) (show q ≤ 2000000000 from Nat.le_trans hq (Nat.le_trans HN.out.2 (by decide))) (Nat.le_refl q) (Nat.zero_le _)).2.2
      have V1 := Lib.hid v1
      have HQ1 := Lib.hid hq1
      clear v1 hq1 hq16 HLn HAp HAk HLF HT
      generalize lf q = l at *
      go_wp2_with (go_at_call 28; (with_reducible refine (hTq _).mono ?_); rintro e w6 ⟨v6, rfl, ho6, hb6⟩; obtain ⟨A6, c6, rfl, -, -, -, -⟩ := own_form ho6)
      have hown6 := own_below hown hb6 (Nat.le_refl _)
      have hbel6 := hbel.trans (hb6.mono hbz)
      have ho6 := own_base ho6 hbz
      clear hown hbel hTq hb6 hbz
      go_loopw [5, 26] (fun v i ws => ∃ p : Nat, p ≤ l.length ∧ i = .int .i64 (p : Int) ∧ ws.ownsRow w1.heap.size 46 2 v (T q p).length (encR (T q p)) ∧ ws.ownsRow w1.heap.size 3 1 (.slice A6 l.length c6) l.length (l.map (Value.int .i64)) ∧ Below w1.heap.size w1 ws) (fun _ i _ => (l.length - intOf i).toNat)
      case atStart => exact ⟨0, by omega, rfl, hown6, ho6, hbel6⟩
      case round =>
        clear hown6 ho6 hbel6
        obtain ⟨p, hp, rfl, hown, hcw, hbel⟩ := hrel
        have hbz := hbel.size
        by_cases hlt2 : (p : Int) < (l.length : Int)
        · have hp1 : p < l.length := by omega
          obtain ⟨b6, o6, rfl, hb6, e0⟩ := (Rd.of_own hcw).get p (by simpa using hp1)
          simp only [List.getElem_map] at e0
          obtain ⟨x, hx⟩ : ∃ x, x = l[p] := ⟨_, rfl⟩
          rw [← hx] at e0
          have HX := Lib.hid hx
          clear hx
          have hAp1 := HAq.out p hp1
          have hfit := fit16 (HLq.out p)
          have u1 := (lvq_fit (l := 0) (show p ≤ 2000000000 from Nat.le_trans hp (Nat.le_trans HLl.out (by decide))) (Nat.le_refl p) (Nat.zero_le _)).2.2
          have U1 := Lib.hid u1
          have HP1 := Lib.hid hp1
          have HAP1 := Lib.hid hAp1
          have hf1 := Lib.hid hfit
          generalize T q p = L0 at *
          clear hAp1 u1 hfit
          go_wp2_with (at_builtin; refine app1 rfl _ _ _ rfl Tryz.underlying38 tile_info rfl (by decide) rfl rfl hown hbel (Nat.le_refl _) hbz rfl (by simp [Value.oneCell']) hf1.out.1 hf1.out.2 ?_; intro v' w' hown' hbel' _ hg' _)
          have hcw' := own_gbr hcw hg' (own_ne_own hcw hown (by decide))
          exact ⟨⟨p + 1, HP1.out, (by rw [U1.out]; simp), (by rw [HAP1.out, ← HX.out, List.length_append, encR_append]; exact hown'), hcw', hbel'⟩, dec_i U1.out HP1.out⟩
        · have hpe : p = l.length := by omega
          subst hpe
          have hAqq := HAe.out
          go_wp2_with fail
          exact ⟨⟨q + 1, HQ1.out, (by rw [V1.out]; simp), (by rw [← hAqq]; exact hown), hbel⟩, dec_i V1.out HQ1.out⟩
    · have hqe : q = n := by omega
      subst hqe
      go_wp2_with fail
      go_returns
      exact ⟨_, rfl, own_base hown hz1, hb01.trans (hbel.mono hz1)⟩
end Go.Proofs.YtibmhabipghjlaaGreat
end
section
set_option linter.unusedVariables false
namespace Go.Proofs.YtibmhabipghjlaaGreat
open Go.RowKit
set_option maxRecDepth 100000 in
set_option maxHeartbeats 4000000 in
theorem ints_eq (l : List Int) (A A' : Option Addr) (n c c' : Nat) (w : World) {B B' : Nat} (hn : l.length = n) (hr : Rd w B A (l.map (Value.int .i64))) (hr' : Rd w B' A' (l.map (Value.int .i64))) (hb : n ≤ 1000000) :
    Calls Tryz.prog 14 #[.slice A n c, .slice A' n c'] w fun e w' => e = .returned (.bool true) ∧ Below w.heap.size w w' := by
  go_enter Tryz.func14, Tryz.ntmps14
  go_wp2_with fail
  go_loopw [5] (fun i wr => ∃ k : Nat, k ≤ n ∧ i = .int .i64 k ∧ ∃ q, wr = w.drewN q) (fun i _ => n - (intOf i).toNat)
  case atStart => exact ⟨0, by omega, rfl, 0, rfl⟩
  case round =>
    obtain ⟨k, hk, rfl, q, rfl⟩ := hrel
    by_cases hlt : k < n
    · have hk2 : k < l.length := by omega
      obtain ⟨b, o, rfl, hbb, hc0⟩ := hr.get k (by simp [hk2])
      obtain ⟨b', o', rfl, hbb', hc1⟩ := hr'.get k (by simp [hk2])
      rw [List.getElem_map] at hc0 hc1
      generalize l[k] = x at *
      go_wp2_with fail
      go_quiet ((fail))
      go_wp2_with fail
      refine ⟨⟨k + 1, by omega, by go_num, _, rfl⟩, by simp [intOf]; omega⟩
    · obtain rfl : k = n := by omega
      go_wp2_with fail
      go_returns
      exact ⟨rfl, below_drewN (Below.refl _ _) q⟩
def j39 : Jb := ⟨0, 0, 0, 0, 0, 1, 0, 0, 0, 0, 4, 4, 1, 2, 2⟩
theorem j39_ok : JOk j39 :=
  ⟨⟨by decide, by decide⟩, ⟨by decide, by decide⟩, by decide, ⟨by decide, (cnt_le16 4 4 15).2⟩, ⟨by decide, by decide, by decide, by decide⟩, by decide, by decide⟩
theorem j39_code : plC j39 = 0 := by
  have h := j39_ok
  unfold plC
  rw [if_neg (by decide), if_neg (by decide), if_neg (by decide), if_neg (by have := (cnt_le16 4 4 15).2; show ¬ ((1 : Int) < 1 ∨ cntI 15 4 4 < 1); omega), if_neg (by decide)]
theorem j39_col (x : Int) : MemR (colJ 0 1 0 0 0 4) x ↔ x = 0 := by
  unfold colJ
  rw [colsR_mem (by decide)]
  constructor
  · rintro ⟨i, h1, h2, h3⟩
    have e1 : (sreachR 0 (lvTo 0 ((0 : Nat) : Int)) (lvTo 0 ((0 : Nat) : Int))).1 = 0 := by decide
    have e2 : (sreachR 0 (lvTo 0 ((0 : Nat) : Int)) (lvTo 0 ((0 : Nat) : Int))).2 = 0 := by decide
    rw [e1] at h1
    rw [e2] at h2
    obtain rfl : i = 0 := by omega
    have : colAt 1 4 0 = some 0 := by decide
    rw [this] at h3
    injection h3 with h3
    omega
  · rintro rfl
    exact ⟨0, by decide, by decide, by decide⟩
theorem j39_hit (a b : Int) : hitB (colJ 0 1 0 0 0 4) a b = decide (a ≤ 0 ∧ 0 < b) := by
  rw [Bool.eq_iff_iff, hitB_iff, decide_eq_true_eq]
  unfold hitC
  constructor
  · rintro ⟨x, h1, h2, h3⟩
    obtain rfl := (j39_col x).1 h3
    exact ⟨h1, h2⟩
  · rintro ⟨h1, h2⟩
    exact ⟨0, h1, h2, (j39_col 0).2 rfl⟩
theorem j39_lf : lfJ j39 0 = [0] := by
  show levL 4 4 2 2 (colJ 0 1 0 0 0 4) (colJ 0 1 0 0 0 4) = [0]
  unfold levL
  rw [show plN 4 4 2 2 = 4 from by decide]
  have ht : ∀ i : Nat, tileB 4 4 2 2 (colJ 0 1 0 0 0 4) (colJ 0 1 0 0 0 4) i = (decide (tlX 4 2 i ≤ 0 ∧ 0 < min (tlX 4 2 i + 2) 4) && decide (tlY 4 2 2 i ≤ 0 ∧ 0 < min (tlY 4 2 2 i + 2) 4)) := fun i => by
    unfold tileB
    rw [j39_hit, j39_hit]
  rw [List.filter_congr (fun x _ => ht x)]
  decide
theorem j39_acc : accL (lfJ j39) 1 0 = [((0 : Int), (0 : Int))] := by
  unfold accL
  simp [List.range_succ, j39_lf]
set_option maxRecDepth 100000 in
set_option maxHeartbeats 4000000 in
theorem alive39 (w : World) : Calls Tryz.prog 9 #[] w fun e w' => e = .returned (.bool true) ∧ Below w.heap.size w w' := by
  have hO := pof_in j39 1 (lfJ j39) w rfl (by omega) (fun q _ => j39_ok.small (by decide) (by decide) q) (fun w' => by have := pcheck_any j39 w'; rw [j39_code] at this; exact this) (fun k w' hk => j39_ok.tiles k (by omega) w')
  rw [j39_acc] at hO
  change Calls _ _ #[.agg #[.int .i64 0, .int .i64 0, .int .i64 0, .int .i64 0, .int .i64 0, .int .i64 1, .int .u8 0, .int .u8 0, .int .u8 0, .int .u8 0, .int .i64 4, .int .i64 4, .int .i64 1, .int .i64 2, .int .i64 2]] _ _ at hO
  have hE := fun w => eql_tile 0 0 0 0 w
  rw [show decide (((0 : Int), (0 : Int)) = ((0 : Int), (0 : Int))) = true from rfl] at hE
  go_enter Tryz.func9, Tryz.ntmps9
  go_wp2_with (go_at_call 10; (with_reducible refine hO.mono ?_); rintro e w1 ⟨v, rfl, ho, hb⟩; obtain ⟨A, c, rfl, -, -, hr, -⟩ := own_form ho; obtain ⟨b, o, rfl, hbb, e0', e1'⟩ := rd_run hr 0 (by decide); have e0 : w1.cell? ⟨b, o, none⟩ = some (.int .i64 0) := (by simpa using e0'); have e1 : w1.cell? ⟨b, o + 1, none⟩ = some (.int .i64 0) := (by simpa using e1'); clear e0' e1')
  go_returns
  exact ⟨rfl, hb⟩
end Go.Proofs.YtibmhabipghjlaaGreat
end
section
set_option linter.unusedVariables false
namespace Go.Proofs.YtibmhabipghjlaaGreat
open Go.RowKit
def dif39 (a b : Int) : Int := wrap64 (wrap64 (Int.tdiv a 65536) - wrap64 (Int.tdiv b 65536))
def nearB (j : Jb) : Bool := decide (j.W ≤ 100 ∧ j.H ≤ 100 ∧ dif39 j.U1 j.U0 ≤ 1000 ∧ dif39 j.V1 j.V0 ≤ 1000)
set_option maxRecDepth 100000 in
set_option maxHeartbeats 4000000 in
theorem near_b (j : Jb) (w : World) : Calls Tryz.prog 8 #[.agg j.cells] w fun e w' => e = .returned (.bool (nearB j)) ∧ Below w.heap.size w w' := by
  have hL := (Lie.start w).alloc j.cells 31
  have k0 : Bk _ w.heap.size 31 j.cells := hL.k 0 (by simp)
  have hb0 := hL.bel
  obtain ⟨y0, y1, y2, y3, y4, y5, y6, y7, y8, y9, y10, y11, y12, y13, y14⟩ := k0.cellJ
  clear y4 y5 y6 y7 y8 y9 y12 y13 y14 hL
  obtain ⟨nb, hnb⟩ : ∃ nb, nearB j = nb := ⟨_, rfl⟩
  rw [hnb]
  have HN := Lib.hid hnb
  clear hnb
  by_cases h1 : j.W ≤ 100
  · by_cases h2 : j.H ≤ 100
    · by_cases h3 : dif39 j.U1 j.U0 ≤ 1000
      · by_cases h4 : dif39 j.V1 j.V0 ≤ 1000
        · have hv : Hid (nb = true) := by show _ = _; rw [← HN.out]; unfold nearB; rw [decide_eq_true ⟨h1, h2, h3, h4⟩]
          unfold dif39 at h3 h4
          go_enter Tryz.func8, Tryz.ntmps8
          go_wp2_with fail
          go_returns
          exact ⟨ret_bool hv.out.symm, hb0⟩
        · have hv : Hid (nb = false) := by show _ = _; rw [← HN.out]; unfold nearB; exact decide_eq_false (fun h => h4 h.2.2.2)
          unfold dif39 at h3 h4
          go_enter Tryz.func8, Tryz.ntmps8
          go_wp2_with fail
          go_returns
          exact ⟨ret_bool hv.out.symm, hb0⟩
      · have hv : Hid (nb = false) := by show _ = _; rw [← HN.out]; unfold nearB; exact decide_eq_false (fun h => h3 h.2.2.1)
        unfold dif39 at h3
        go_enter Tryz.func8, Tryz.ntmps8
        go_wp2_with fail
        go_returns
        exact ⟨ret_bool hv.out.symm, hb0⟩
    · have hv : Hid (nb = false) := by show _ = _; rw [← HN.out]; unfold nearB; exact decide_eq_false (fun h => h2 h.2.1)
      go_enter Tryz.func8, Tryz.ntmps8
      go_wp2_with fail
      go_returns
      exact ⟨ret_bool hv.out.symm, hb0⟩
  · have hv : Hid (nb = false) := by show _ = _; rw [← HN.out]; unfold nearB; exact decide_eq_false (fun h => h1 h.1)
    go_enter Tryz.func8, Tryz.ntmps8
    go_wp2_with fail
    go_returns
    exact ⟨ret_bool hv.out.symm, hb0⟩
set_option maxRecDepth 100000 in
set_option maxHeartbeats 8000000 in
theorem law_bad39 (j : Jb) (k c : Int) (w : World) (hc : c ≠ 0) (hR : ∀ w', Calls Tryz.prog 6 #[.agg j.cells] w' fun e w'' => e = .returned (.int .i64 c) ∧ Below w'.heap.size w' w'')
    (hP : ∀ w', Calls Tryz.prog 7 #[.agg j.cells] w' fun e w'' => e = .returned (.int .i64 c) ∧ Below w'.heap.size w' w'') :
    Calls Tryz.prog 3 #[.agg j.cells, .int .i64 k] w fun e w' => e = .returned (.bool true) ∧ Below w.heap.size w w' := by
  have hO := fun w' => own_any j w'
  have hF := fun w' => pof_bad j c w' hc hP
  have hV := fun w' => plevel_bad j k c w' hc hP
  have hA := fun w' => alive39 w'
  have hb1' : (c != 0) = true := by simpa using hc
  have hb2' : (c == 0) = false := by simpa using hc
  have hb3' : (c != c) = false := by simp
  have hb4' : (c == c) = true := by simp
  have hL := (Lie.start w).alloc j.cells 28
  have k0 : Bk _ w.heap.size 28 j.cells := hL.k 0 (by simp)
  have hb0 := hL.bel
  clear hL hc
  go_enter Tryz.func3, Tryz.ntmps3
  go_upto_region 2 with (first
    | (refine ldB rfl _ _ rfl k0 rfl Tryz.underlying28 rfl job_size ?_)
    | (go_at_call 5; (with_reducible refine (hO _).mono ?_); rintro e w1 ⟨rfl, hb1⟩; have k1 := k0.nx hb1; have hb01 := hb0.trans (hb1.mono hb0.size); have kn := Bk.new w1 31 (Jb.cells ⟨0, 0, 0, 0, 0, 0, 0, 0, 0, 0, 0, 0, 0, 0, 0⟩); have k1A := k1.alloc (.cells (Jb.cells ⟨0, 0, 0, 0, 0, 0, 0, 0, 0, 0, 0, 0, 0, 0, 0⟩) 31); have hb01A := hb01.alloc hb01.size (.cells (Jb.cells ⟨0, 0, 0, 0, 0, 0, 0, 0, 0, 0, 0, 0, 0, 0, 0⟩) 31))
    | (refine stB (ty := 31) (cells := j.cells) rfl _ _ rfl kn rfl rfl rjob_size39 rfl (by simp [Value.oneCell']) ?_; intro w2 k5 hg5 hs5))
  have k2 := k1A.grown hg5 (fun e => by injection e with e; have := k1.lt; omega)
  have hb2 := below_of_gb hb01A hg5 (hb01.size) hb01A.size
  clear k0 hb0 hb1 k1 hb01 kn k1A hb01A hg5 hs5 hO
  go_wp2_with (first
    | (refine ldB rfl _ _ rfl k5 rfl Tryz.underlying31 rfl rjob_size39 ?_)
    | (go_at_call 6; (with_reducible refine (hR _).mono ?_); rintro e w3 ⟨rfl, hb3⟩; have k3 := k2.nx hb3; have hb03 := hb2.trans (hb3.mono hb2.size))
    | (refine ldB rfl _ _ rfl k3 rfl Tryz.underlying28 rfl job_size ?_)
    | (go_at_call 7; (with_reducible refine (hP _).mono ?_); rintro e w4 ⟨rfl, hb4⟩; have k4 := k3.nx hb4; have hb04 := hb03.trans (hb4.mono hb03.size))
    | (refine ldB rfl _ _ rfl k4 rfl Tryz.underlying28 rfl job_size ?_)
    | (go_at_call 10; (with_reducible refine (hF _).mono ?_); rintro e w5 ⟨rfl, hb5⟩; have k6 := k4.nx hb5; have hb05 := hb04.trans (hb5.mono hb04.size))
    | (refine ldB rfl _ _ rfl k6 rfl Tryz.underlying28 rfl job_size ?_)
    | (go_at_call 11; (with_reducible refine (hV _).mono ?_); rintro e w6 ⟨rfl, hb6⟩; have hb06 := hb05.trans (hb6.mono hb05.size))
    | (go_at_call 9; (with_reducible refine (hA _).mono ?_); rintro e w7 ⟨rfl, hb7⟩))
  go_returns
  exact ⟨rfl, hb06.trans (hb7.mono hb06.size)⟩
end Go.Proofs.YtibmhabipghjlaaGreat
end
section
set_option linter.unusedVariables false
namespace Go.Proofs.YtibmhabipghjlaaGreat
open Go.RowKit
abbrev zj39 : Array Value := Jb.cells ⟨0, 0, 0, 0, 0, 0, 0, 0, 0, 0, 0, 0, 0, 0, 0⟩
set_option maxRecDepth 100000 in
set_option maxHeartbeats 8000000 in
theorem law_far39 (j : Jb) (k : Int) (w : World) (hR : ∀ w', Calls Tryz.prog 6 #[.agg j.cells] w' fun e w'' => e = .returned (.int .i64 0) ∧ Below w'.heap.size w' w'')
    (hP : ∀ w', Calls Tryz.prog 7 #[.agg j.cells] w' fun e w'' => e = .returned (.int .i64 0) ∧ Below w'.heap.size w' w'')
    (hN : ∀ w', Calls Tryz.prog 8 #[.agg j.cells] w' fun e w'' => e = .returned (.bool false) ∧ Below w'.heap.size w' w'') :
    Calls Tryz.prog 3 #[.agg j.cells, .int .i64 k] w fun e w' => e = .returned (.bool true) ∧ Below w.heap.size w w' := by
  have hO := fun w' => own_any j w'
  have hA := fun w' => alive39 w'
  have hL := (Lie.start w).alloc j.cells 28
  have k0 : Bk _ w.heap.size 28 j.cells := hL.k 0 (by simp)
  have hb0 := hL.bel
  clear hL
  go_enter Tryz.func3, Tryz.ntmps3
  go_upto_region 2 with (first
    | (refine ldB rfl _ _ rfl k0 rfl Tryz.underlying28 rfl job_size ?_)
    | (go_at_call 5; (with_reducible refine (hO _).mono ?_); rintro e w1 ⟨rfl, hb1⟩; have k1 := k0.nx hb1; have hb01 := hb0.trans (hb1.mono hb0.size); have kn := Bk.new w1 31 zj39; have k1A := k1.alloc (.cells zj39 31); have hb01A := hb01.alloc hb01.size (.cells zj39 31))
    | (refine stB (ty := 31) (cells := j.cells) rfl _ _ rfl kn rfl rfl rjob_size39 rfl (by simp [Value.oneCell']) ?_; intro w2 k5 hg5 hs5))
  have k2 := k1A.grown hg5 (fun e => by injection e with e; have := k1.lt; omega)
  have hb2 := below_of_gb hb01A hg5 (hb01.size) hb01A.size
  clear k0 hb0 hb1 k1 hb01 kn k1A hb01A hg5 hs5 hO
  go_wp2_with (first
    | (refine ldB rfl _ _ rfl k5 rfl Tryz.underlying31 rfl rjob_size39 ?_)
    | (go_at_call 6; (with_reducible refine (hR _).mono ?_); rintro e w3 ⟨rfl, hb3⟩; have k3 := k2.nx hb3; have k53 := k5.nx hb3; have hb03 := hb2.trans (hb3.mono hb2.size))
    | (refine ldB rfl _ _ rfl k3 rfl Tryz.underlying28 rfl job_size ?_)
    | (go_at_call 7; (with_reducible refine (hP _).mono ?_); rintro e w4 ⟨rfl, hb4⟩; have k54 := k53.nx hb4; obtain ⟨y0, y1, y2, y3, y4, y5, y6, y7, y8, y9, y10, y11, y12, y13, y14⟩ := k54.cellJ; have hb04 := hb03.trans (hb4.mono hb03.size))
    | (refine ldB rfl _ _ rfl k54 rfl Tryz.underlying31 rfl rjob_size39 ?_)
    | (go_at_call 8; (with_reducible refine (hN _).mono ?_); rintro e w5 ⟨rfl, hb5⟩; have hb05 := hb04.trans (hb5.mono hb04.size))
    | (go_at_call 9; (with_reducible refine (hA _).mono ?_); rintro e w7 ⟨rfl, hb7⟩))
  go_returns
  exact ⟨rfl, hb05.trans (hb7.mono hb05.size)⟩
theorem neq_tile (a b : Int) (w : World) : (binOp .neq 46 (.agg (tlA a b)) (.agg (tlA a b))).run Tryz.prog w = .ok (.bool false) w := by
  simp [go_sem, Tryz.underlying46]
set_option maxRecDepth 100000 in
set_option maxHeartbeats 8000000 in
theorem law_near39 (j : Jb) (k f : Int) (n : Nat) (lf : Nat → List Int) (L9 : List Int) (w : World) (hn : j.L = n) (hn16 : n ≤ 16) (hlf : ∀ q, q < 16 → (lf q).length ≤ 10000)
    (hR : ∀ w', Calls Tryz.prog 6 #[.agg j.cells] w' fun e w'' => e = .returned (.int .i64 0) ∧ Below w'.heap.size w' w'')
    (hP : ∀ w', Calls Tryz.prog 7 #[.agg j.cells] w' fun e w'' => e = .returned (.int .i64 0) ∧ Below w'.heap.size w' w'')
    (hN : ∀ w', Calls Tryz.prog 8 #[.agg j.cells] w' fun e w'' => e = .returned (.bool true) ∧ Below w'.heap.size w' w'')
    (hF : ∀ w', Calls Tryz.prog 10 #[.agg j.cells] w' fun e w'' => ∃ v, e = .returned (.tuple #[v, .int .i64 0]) ∧ w''.ownsRow w'.heap.size 46 2 v (accL lf n 0).length (encR (accL lf n 0)) ∧ Below w'.heap.size w' w'')
    (hV : ∀ w', Calls Tryz.prog 11 #[.agg j.cells, .int .i64 k] w' fun e w'' => ∃ v, e = .returned (.tuple #[v, .int .i64 f]) ∧ w''.ownsRow w'.heap.size 3 1 v L9.length (L9.map (Value.int .i64)) ∧ Below w'.heap.size w' w'')
    (hLv : ∀ (q : Nat) w', q < n → Calls Tryz.prog 12 #[.agg j.cells, .int .i64 q] w' fun e w'' => ∃ v, e = .returned v ∧ w''.ownsRow w'.heap.size 3 1 v (lf q).length ((lf q).map (Value.int .i64)) ∧ Below w'.heap.size w' w'')
    (hkk : (k < 0 ∧ f = 11 ∧ L9 = []) ∨ (0 ≤ k ∧ k ≥ j.L ∧ f = 11 ∧ L9 = []) ∨ (0 ≤ k ∧ k < j.L ∧ f = 0 ∧ L9 = lf k.toNat)) :
    Calls Tryz.prog 3 #[.agg j.cells, .int .i64 k] w fun e w' => e = .returned (.bool true) ∧ Below w.heap.size w w' := by
  have hO := fun w' => own_any j w'
  have hA := fun w' => alive39 w'
  have hL := (Lie.start w).alloc j.cells 28
  have k0 : Bk _ w.heap.size 28 j.cells := hL.k 0 (by simp)
  have hb0 := hL.bel
  have hlen := fun k p h => @accL_len lf hlf k p h
  have hA0 := accL_0 lf
  have hAp := fun k p h => @accL_p lf k p h
  have hAk := accL_k lf
  have hneg : ((-1 : Int), (0 : Int)) ∉ accL lf n 0 := by
    unfold accL
    simp only [List.take_zero, List.map_nil, List.append_nil, List.mem_flatMap, List.mem_range, List.mem_map, Prod.mk.injEq]
    rintro ⟨q, _, i, _, h, _⟩
    omega
  generalize hT0 : accL lf = T at *
  clear hT0
  have HLn := Lib.hid hlen
  have HAp := Lib.hid hAp
  have HAk := Lib.hid hAk
  have HN := Lib.hid (And.intro hn hn16)
  have HLF := Lib.hid hlf
  have HLV := Lib.hid hLv
  have HKK := Lib.hid hkk
  have HNG := Lib.hid hneg
  clear hlen hAp hAk hlf hLv hn hn16 hL hkk hneg
  go_enter Tryz.func3, Tryz.ntmps3
  go_upto_region 2 with (first
    | (refine ldB rfl _ _ rfl k0 rfl Tryz.underlying28 rfl job_size ?_)
    | (go_at_call 5; (with_reducible refine (hO _).mono ?_); rintro e w1 ⟨rfl, hb1⟩; have k1 := k0.nx hb1; have hb01 := hb0.trans (hb1.mono hb0.size); have kn := Bk.new w1 31 zj39; have k1A := k1.alloc (.cells zj39 31); have hb01A := hb01.alloc hb01.size (.cells zj39 31))
    | (refine stB (ty := 31) (cells := j.cells) rfl _ _ rfl kn rfl rfl rjob_size39 rfl (by simp [Value.oneCell']) ?_; intro w2 k5 hg5 hs5))
  have k2 := k1A.grown hg5 (fun e => by injection e with e; have := k1.lt; omega)
  have hb2 := below_of_gb hb01A hg5 (hb01.size) hb01A.size
  generalize w1.heap.size = g5 at *
  clear k0 hb0 hb1 k1 hb01 kn k1A hb01A hg5 hs5 hO
  go_upto_region 13 with (first
    | (refine ldB rfl _ _ rfl k5 rfl Tryz.underlying31 rfl rjob_size39 ?_)
    | (go_at_call 6; (with_reducible refine (hR _).mono ?_); rintro e w3 ⟨rfl, hb3⟩; have k3 := k2.nx hb3; have k53 := k5.nx hb3; have hb03 := hb2.trans (hb3.mono hb2.size))
    | (refine ldB rfl _ _ rfl k3 rfl Tryz.underlying28 rfl job_size ?_)
    | (go_at_call 7; (with_reducible refine (hP _).mono ?_); rintro e w4 ⟨rfl, hb4⟩; have k4 := k3.nx hb4; have k54 := k53.nx hb4; obtain ⟨y0, y1, y2, y3, y4, y5, y6, y7, y8, y9, y10, y11, y12, y13, y14⟩ := k54.cellJ; have hb04 := hb03.trans (hb4.mono hb03.size))
    | (refine ldB rfl _ _ rfl k54 rfl Tryz.underlying31 rfl rjob_size39 ?_)
    | (go_at_call 8; (with_reducible refine (hN _).mono ?_); rintro e w5 ⟨rfl, hb5⟩; have k45 := k4.nx hb5; have k55 := k54.nx hb5; have hb05 := hb04.trans (hb5.mono hb04.size))
    | (refine ldB rfl _ _ rfl k45 rfl Tryz.underlying28 rfl job_size ?_)
    | (go_at_call 10; (with_reducible refine (hF _).mono ?_); rintro e w6 ⟨v7, rfl, ho7, hb6⟩; obtain ⟨A7, c7, rfl, -, -, hr7, -⟩ := own_form ho7; have k46 := k45.nx hb6; have k56 := k55.nx hb6; have hb06 := hb05.trans (hb6.mono hb05.size))
    | (refine ldB rfl _ _ rfl k46 rfl Tryz.underlying28 rfl job_size ?_)
    | (go_at_call 11; (with_reducible refine (hV _).mono ?_); rintro e w8 ⟨v9, rfl, ho9, hb8⟩; obtain ⟨A9, c9, rfl, -, -, hr9, -⟩ := own_form ho9; have k48 := k46.nx hb8; have k58 := k56.nx hb8; have hb08 := hb06.trans (hb8.mono hb06.size); have hr78 := hr7.below hb8; have hz78 := hb8.size))
  clear y0 y1 y2 y3 y4 y5 y6 y7 y8 y9 y10 y11 y12 y13 y14 k2 k5 hb2 hb3 k3 k53 hb03 hb4 k4 k54 hb04 hb5 k45 k55 hb05 ho7 hr7 hb6 k46 k56 hb06 ho9 hb8 hR hP hN hF hV
  have hz8 := hb08.size
  go_wp2_with fail
  go_loopw [11, 12] (fun v i wr => ∃ q : Nat, q ≤ n ∧ i = .int .i64 (q : Int) ∧ wr.ownsRow w8.heap.size 46 2 v (T q 0).length (encR (T q 0)) ∧ Below w8.heap.size w8 wr) (fun _ i _ => (n - intOf i).toNat)
  case atStart => exact ⟨0, by omega, rfl, by rw [hA0]; simpa [encR] using World.ownsRow_nil _ _ _ _, Below.refl _ _⟩
  case round =>
    obtain ⟨q, hq, rfl, hown, hbel⟩ := hrel
    have hbz := hbel.size
    have k4r := k48.nx hbel
    have y12 := k4r.cellJ.2.2.2.2.2.2.2.2.2.2.2.2.1
    rw [HN.out.1] at y12
    have k5r := k58.nx hbel
    by_cases hlt : (q : Int) < (n : Int)
    · have hq1 : q < n := by omega
      have hq16 : q < 16 := Nat.lt_of_lt_of_le hq1 HN.out.2
      have hTq := fun w' => HLV.out q w' hq1
      have HLq := Lib.hid (fun p => HLn.out q p (.inl hq16))
      have HAq := Lib.hid (fun p => HAp.out q p)
      have HAe := Lib.hid (HAk.out q)
      have HLl := Lib.hid (HLF.out q hq16)
      have v1 := (lvq_fit (l := 0) (show q ≤ 2000000000 from Nat.le_trans hq (Nat.le_trans HN.out.2 (by decide))) (Nat.le_refl q) (Nat.zero_le _)).2.2
      have V1 := Lib.hid v1
      have HQ1 := Lib.hid hq1
      clear v1 hq1 hq16 HLn HAp HAk HLF HLV HKK hA HNG
      generalize lf q = l at *
      go_wp2_with (first
        | (refine ldB rfl _ _ rfl k5r rfl Tryz.underlying31 rfl rjob_size39 ?_)
        | (go_at_call 12; (with_reducible refine (hTq _).mono ?_); rintro e wa ⟨va, rfl, hoa, hba⟩; obtain ⟨Aa, ca, rfl, -, -, -, -⟩ := own_form hoa))
      have hown6 := own_below hown hba (Nat.le_refl _)
      have hbel6 := hbel.trans (hba.mono hbz)
      have hoa6 := own_base hoa hbz
      clear hown hbel hTq hba hbz hoa y12 k4r k5r
      go_loopw [11, 74] (fun v i ws => ∃ p : Nat, p ≤ l.length ∧ i = .int .i64 (p : Int) ∧ ws.ownsRow w8.heap.size 46 2 v (T q p).length (encR (T q p)) ∧ ws.ownsRow w8.heap.size 3 1 (.slice Aa l.length ca) l.length (l.map (Value.int .i64)) ∧ Below w8.heap.size w8 ws) (fun _ i _ => (l.length - intOf i).toNat)
      case atStart => exact ⟨0, by omega, rfl, hown6, hoa6, hbel6⟩
      case round =>
        clear hown6 hoa6 hbel6
        obtain ⟨p, hp, rfl, hown, hcw, hbel⟩ := hrel
        have hbz := hbel.size
        by_cases hlt2 : (p : Int) < (l.length : Int)
        · have hp1 : p < l.length := by omega
          obtain ⟨b6, o6, rfl, hb6, e0⟩ := (Rd.of_own hcw).get p (by simpa using hp1)
          simp only [List.getElem_map] at e0
          obtain ⟨x, hx⟩ : ∃ x, x = l[p] := ⟨_, rfl⟩
          rw [← hx] at e0
          have HX := Lib.hid hx
          clear hx
          have hAp1 := HAq.out p hp1
          have hfit := fit16 (HLq.out p)
          have u1 := (lvq_fit (l := 0) (show p ≤ 2000000000 from Nat.le_trans hp (Nat.le_trans HLl.out (by decide))) (Nat.le_refl p) (Nat.zero_le _)).2.2
          have U1 := Lib.hid u1
          have HP1 := Lib.hid hp1
          have HAP1 := Lib.hid hAp1
          have hf1 := Lib.hid hfit
          generalize T q p = L0 at *
          clear hAp1 u1 hfit
          go_wp2_with (at_builtin; refine app1 rfl _ _ _ rfl Tryz.underlying38 tile_info rfl (by decide) rfl rfl hown hbel (Nat.le_refl _) hbz rfl (by simp [Value.oneCell']) hf1.out.1 hf1.out.2 ?_; intro v' w' hown' hbel' _ hg' _)
          have hcw' := own_gbr hcw hg' (own_ne_own hcw hown (by decide))
          exact ⟨⟨p + 1, HP1.out, (by rw [U1.out]; simp), (by rw [HAP1.out, ← HX.out, List.length_append, encR_append]; exact hown'), hcw', hbel'⟩, dec_i U1.out HP1.out⟩
        · have hpe : p = l.length := by omega
          subst hpe
          have hAqq := HAe.out
          go_wp2_with fail
          exact ⟨⟨q + 1, HQ1.out, (by rw [V1.out]; simp), (by rw [← hAqq]; exact hown), hbel⟩, dec_i V1.out HQ1.out⟩
    · have hqe : q = n := by omega
      subst hqe
      obtain ⟨A1, c1, rfl, -, -, hr1, -⟩ := own_form hown
      have hNN := Lib.hid (HLn.out q 0 (.inr ⟨HN.out.2, rfl⟩))
      have hr7 := hr78.below' hbel (by have := hz78; exact this)
      have hr9' := hr9.below hbel
      have hzq : w6.heap.size ≤ wr.heap.size := Nat.le_trans hz78 hbel.size
      have hzq8 := hbel.size
      have hbw := hb08.trans (hbel.mono hz8)
      generalize T q 0 = TT at *
      have HLFk := HLF
      clear hr78 hr9 hown HLn HAp HAk HLF k48 k58 hbel hb08 hA0 hbz hz8
      obtain ⟨wq, hwq⟩ : ∃ wq : World, wq = wr := ⟨_, rfl⟩
      rw [← hwq] at hr1 hr7 hr9' hbw k4r k5r y12 hzq hzq8 ⊢
      clear hwq
      have hzw := hbw.size
      have hNN1 : TT.length ≤ 1000000 := Nat.le_trans hNN.out (by decide)
      have HNN1 := Lib.hid hNN1
      clear hNN1 hNN hlt hq
      go_wp2_with fail
      go_loopw [15] (fun i ws => ∃ p : Nat, p ≤ TT.length ∧ i = .int .i64 (p : Int) ∧ Below wq.heap.size wq ws) (fun i _ => (TT.length - intOf i).toNat)
      case atStart => exact ⟨0, by omega, rfl, Below.refl _ _⟩
      case round =>
        obtain ⟨p, hp, rfl, hbel⟩ := hrel
        have hbz := hbel.size
        have h7 := hr7.below' hbel hzq
        have h1 := hr1.below hbel
        by_cases hlt : (p : Int) < (TT.length : Int)
        · have hp1 : p < TT.length := by omega
          obtain ⟨b7, o7, rfl, hb7, e0, e1⟩ := rd_run h7 p hp1
          obtain ⟨b1, o1, rfl, hb1, d0, d1⟩ := rd_run h1 p hp1
          have hmem : TT[p] ∈ TT := List.getElem_mem hp1
          have hH := fun (d : Nat) (os : Array Obj) => phas_any TT (some ⟨b7, o7, none⟩) TT.length c7 w6.heap.size TT[p] (Go.Sort.grow (redrawn wr d) os) rfl HNN1.out (h7.below' (below_regrown wr d os) (Nat.le_trans hzq hbz)) (Nat.le_trans (Nat.le_trans hzq hbz) (below_regrown wr d os).size)
          rw [decide_eq_true hmem] at hH
          have HP1 := Lib.hid hp1
          generalize TT[p] = t at *
          obtain ⟨t1, t2⟩ := t
          simp only at hH e0 e1 d0 d1
          have hnq := fun w => neq_tile t1 t2 w
          have z0 := fun (n : Nat) (os : Array Obj) => cell_regrown e0 n os
          have z1 := fun (n : Nat) (os : Array Obj) => cell_regrown e1 n os
          have z2 := fun (n : Nat) (os : Array Obj) => cell_regrown d0 n os
          have z3 := fun (n : Nat) (os : Array Obj) => cell_regrown d1 n os
          have v1 := (lvq_fit (l := 0) (show p ≤ 2000000000 from Nat.le_trans hp (Nat.le_trans HNN1.out (by decide))) (Nat.le_refl p) (Nat.zero_le _)).2.2
          have V1 := Lib.hid v1
          clear hmem v1 hp
          go_upto_region 27 with fail
          refine wp_region_quiet_below (by kernel_rfl) (by kernel_rfl) ?_
          repeat (first
            | go_big_quiet_step ((with_reducible exact quiet_below (hH _ _)))
            | quiet_step ((with_reducible exact quiet_below (hH _ _))))
          refine wpQuiet_nil ?_
          intro _ hw'
          obtain ⟨⟨d9, os⟩, hw''⟩ := hw'
          subst hw''
          have hbx := hbel.trans ((below_regrown wr d9 os).mono hbz)
          generalize Go.Sort.grow (redrawn wr d9) os = w9 at *
          clear hH hnq z0 z1 z2 z3 e0 e1 d0 d1 h7 h1 hbel hbz
          go_wp2_with fail
          exact ⟨⟨p + 1, HP1.out, (by rw [V1.out]; simp), hbx⟩, dec_i V1.out HP1.out⟩
        · have hpe : p = TT.length := by omega
          subst hpe
          have hneg := phas_any TT A7 TT.length c7 w6.heap.size (-1, 0) wr rfl HNN1.out h7 (Nat.le_trans hzq hbz)
          rw [decide_eq_false HNG.out] at hneg
          simp only at hneg
          have h9 := hr9'.below' hbel hzq8
          have hbw9 := hbw.trans (hbel.mono hzw)
          have k49 := k4r.nx hbel
          have k59 := k5r.nx hbel
          clear hr7 hr1 hr9' h7 h1 y12 k4r k5r hbw hbel HNG
          rcases HKK.out with ⟨q1, q2, q3⟩ | ⟨q0, q1, q2, q3⟩ | ⟨q0, q1, q2, q3⟩
          · subst q2; subst q3
            go_wp2_with (first
              | (go_at_call 13; (with_reducible refine hneg.mono ?_); rintro e wb ⟨rfl, hbb⟩; have hbb9 := hbw9.trans (hbb.mono hbw9.size))
              | (go_at_call 9; (with_reducible refine (hA _).mono ?_); rintro e wd ⟨rfl, hbd⟩))
            go_returns
            exact ⟨rfl, hbb9.trans (hbd.mono hbb9.size)⟩
          · subst q2; subst q3
            have q0' : ¬ k < 0 := by omega
            go_wp2_with (first
              | (go_at_call 13; (with_reducible refine hneg.mono ?_); rintro e wb ⟨rfl, hbb⟩; have hbb9 := hbw9.trans (hbb.mono hbw9.size); have k4b := k49.nx hbb; have y12 := k4b.cellJ.2.2.2.2.2.2.2.2.2.2.2.2.1)
              | (go_at_call 9; (with_reducible refine (hA _).mono ?_); rintro e wd ⟨rfl, hbd⟩))
            go_returns
            exact ⟨rfl, hbb9.trans (hbd.mono hbb9.size)⟩
          · subst q2
            have q0' : ¬ k < 0 := by omega
            have q1' : ¬ k ≥ j.L := by omega
            have hkn : ((k.toNat : Nat) : Int) = k := by omega
            have hkq : k.toNat < q := by have := HN.out.1; omega
            have hLV := fun w' => HLV.out k.toNat w' hkq
            rw [hkn] at hLV
            rw [← q3] at hLV
            have hl9 : L9.length ≤ 1000000 := by rw [q3]; exact Nat.le_trans (HLFk.out k.toNat (Nat.lt_of_lt_of_le hkq HN.out.2)) (by decide)
            have HL9 := Lib.hid hl9
            clear hkn hkq q0 q1 q3 hl9
            go_wp2_with (first
              | (go_at_call 13; (with_reducible refine hneg.mono ?_); rintro e wb ⟨rfl, hbb⟩; have hbb9 := hbw9.trans (hbb.mono hbw9.size); have k4b := k49.nx hbb; have k5b := k59.nx hbb; have h9b := h9.below' hbb (Nat.le_trans hzq8 hbz); obtain ⟨y0, y1, y2, y3, y4, y5, y6, y7, y8, y9, y10, y11, y12', y13, y14⟩ := k5b.cellJ; have y12 := k4b.cellJ.2.2.2.2.2.2.2.2.2.2.2.2.1)
              | (go_at_call 12; (with_reducible refine (hLV _).mono ?_); rintro e wc ⟨vc, rfl, hoc, hbc⟩; obtain ⟨Ac, cc, rfl, -, -, hrc, -⟩ := own_form hoc; have hbc9 := hbb9.trans (hbc.mono hbb9.size); have h9c := h9b.below' hbc (Nat.le_trans hzq8 (Nat.le_trans hbz hbb.size)))
              | (go_at_call 14; (with_reducible refine (ints_eq L9 A9 Ac L9.length c9 cc _ rfl h9c hrc HL9.out).mono ?_); rintro e we ⟨rfl, hbe⟩; have hbe9 := hbc9.trans (hbe.mono hbc9.size))
              | (go_at_call 9; (with_reducible refine (hA _).mono ?_); rintro e wd ⟨rfl, hbd⟩))
            go_returns
            exact ⟨rfl, hbe9.trans (hbd.mono hbe9.size)⟩
end Go.Proofs.YtibmhabipghjlaaGreat
end
section
set_option linter.unusedVariables false
namespace Go.Proofs.YtibmhabipghjlaaGreat
open Go.RowKit
theorem co_int39 : Tryz.prog.cellsOf 3 = 1 := by kernel_rfl
theorem co_i6439 : Tryz.prog.cellsOf 2 = 1 := by kernel_rfl
theorem co_u839 : Tryz.prog.cellsOf 5 = 1 := by kernel_rfl
theorem co_4b39 : Tryz.prog.cellsOf 24 = 4 := by kernel_rfl
theorem co_box39 : Tryz.prog.cellsOf 23 = 4 := by kernel_rfl
theorem co_bord39 : Tryz.prog.cellsOf 26 = 5 := by kernel_rfl
theorem co_job39 : Tryz.prog.cellsOf 28 = 15 := by kernel_rfl
set_option maxRecDepth 100000 in
theorem open_4b39 {w : World} {cs : List Value} (h : Rv Tryz.prog w 24 cs) : ∃ a b c d : Int, cs = [.int .u8 a, .int .u8 b, .int .u8 c, .int .u8 d] := by
  obtain ⟨hl, hel⟩ := rv_array Tryz.underlying24 h
  rw [co_4b39] at hl
  match cs, hl with
  | [v0, v1, v2, v3], _ =>
    rw [co_u839] at hel
    obtain ⟨a, e0, i0⟩ := rv_int Tryz.underlying5 (hel 0 (by omega))
    obtain ⟨b, e1, i1⟩ := rv_int Tryz.underlying5 (hel 1 (by omega))
    obtain ⟨c, e2, i2⟩ := rv_int Tryz.underlying5 (hel 2 (by omega))
    obtain ⟨d, e3, i3⟩ := rv_int Tryz.underlying5 (hel 3 (by omega))
    simp at e0 e1 e2 e3
    subst e0 e1 e2 e3
    exact ⟨a, b, c, d, rfl⟩
set_option maxRecDepth 100000 in
theorem open_box39 {w : World} {cs : List Value} (h : Rv Tryz.prog w 23 cs) : ∃ a b c d : Int, cs = [.int .i64 a, .int .i64 b, .int .i64 c, .int .i64 d] := by
  obtain ⟨hl, hf⟩ := rv_struct Tryz.underlying23 h
  rw [co_box39] at hl
  match cs, hl with
  | [v0, v1, v2, v3], _ =>
    have g0 : Rv Tryz.prog w 2 (([v0, v1, v2, v3].drop 0).take (Tryz.prog.cellsOf 2)) := hf 0 _ rfl
    have g1 : Rv Tryz.prog w 2 (([v0, v1, v2, v3].drop 1).take (Tryz.prog.cellsOf 2)) := hf 1 _ rfl
    have g2 : Rv Tryz.prog w 2 (([v0, v1, v2, v3].drop 2).take (Tryz.prog.cellsOf 2)) := hf 2 _ rfl
    have g3 : Rv Tryz.prog w 2 (([v0, v1, v2, v3].drop 3).take (Tryz.prog.cellsOf 2)) := hf 3 _ rfl
    rw [co_i6439] at g0 g1 g2 g3
    obtain ⟨a, e0, _⟩ := rv_int Tryz.underlying2 g0
    obtain ⟨b, e1, _⟩ := rv_int Tryz.underlying2 g1
    obtain ⟨c, e2, _⟩ := rv_int Tryz.underlying2 g2
    obtain ⟨d, e3, _⟩ := rv_int Tryz.underlying2 g3
    simp at e0 e1 e2 e3
    subst e0 e1 e2 e3
    exact ⟨a, b, c, d, rfl⟩
set_option maxRecDepth 100000 in
theorem open_bord39 {w : World} {cs : List Value} (h : Rv Tryz.prog w 26 cs) : ∃ m a b c d : Int, cs = [.int .i64 m, .int .u8 a, .int .u8 b, .int .u8 c, .int .u8 d] := by
  obtain ⟨hl, hf⟩ := rv_struct Tryz.underlying26 h
  rw [co_bord39] at hl
  match cs, hl with
  | [v0, v1, v2, v3, v4], _ =>
    have g0 : Rv Tryz.prog w 3 (([v0, v1, v2, v3, v4].drop 0).take (Tryz.prog.cellsOf 3)) := hf 0 _ rfl
    have g1 : Rv Tryz.prog w 24 (([v0, v1, v2, v3, v4].drop 1).take (Tryz.prog.cellsOf 24)) := hf 1 _ rfl
    rw [co_int39] at g0
    rw [co_4b39] at g1
    obtain ⟨m, e0, _⟩ := rv_int Tryz.underlying3 g0
    obtain ⟨a, b, c, d, e1⟩ := open_4b39 g1
    simp at e0 e1
    obtain ⟨e1, e2, e3, e4⟩ := e1
    subst e0 e1 e2 e3 e4
    exact ⟨m, a, b, c, d, rfl⟩
set_option maxRecDepth 100000 in
set_option maxHeartbeats 1000000 in
theorem open_job39 {w : World} {cs : List Value} (h : Rv Tryz.prog w 28 cs) : ∃ j : Jb, cs = j.cells.toList := by
  obtain ⟨hl, hf⟩ := rv_struct Tryz.underlying28 h
  rw [co_job39] at hl
  match cs, hl with
  | [v0, v1, v2, v3, v4, v5, v6, v7, v8, v9, v10, v11, v12, v13, v14], _ =>
    have g0 : Rv Tryz.prog w 23 (([v0, v1, v2, v3, v4, v5, v6, v7, v8, v9, v10, v11, v12, v13, v14].drop 0).take (Tryz.prog.cellsOf 23)) := hf 0 _ rfl
    have g4 : Rv Tryz.prog w 3 (([v0, v1, v2, v3, v4, v5, v6, v7, v8, v9, v10, v11, v12, v13, v14].drop 4).take (Tryz.prog.cellsOf 3)) := hf 1 _ rfl
    have g5 : Rv Tryz.prog w 26 (([v0, v1, v2, v3, v4, v5, v6, v7, v8, v9, v10, v11, v12, v13, v14].drop 5).take (Tryz.prog.cellsOf 26)) := hf 2 _ rfl
    have g10 : Rv Tryz.prog w 3 (([v0, v1, v2, v3, v4, v5, v6, v7, v8, v9, v10, v11, v12, v13, v14].drop 10).take (Tryz.prog.cellsOf 3)) := hf 3 _ rfl
    have g11 : Rv Tryz.prog w 3 (([v0, v1, v2, v3, v4, v5, v6, v7, v8, v9, v10, v11, v12, v13, v14].drop 11).take (Tryz.prog.cellsOf 3)) := hf 4 _ rfl
    have g12 : Rv Tryz.prog w 3 (([v0, v1, v2, v3, v4, v5, v6, v7, v8, v9, v10, v11, v12, v13, v14].drop 12).take (Tryz.prog.cellsOf 3)) := hf 5 _ rfl
    have g13 : Rv Tryz.prog w 3 (([v0, v1, v2, v3, v4, v5, v6, v7, v8, v9, v10, v11, v12, v13, v14].drop 13).take (Tryz.prog.cellsOf 3)) := hf 6 _ rfl
    have g14 : Rv Tryz.prog w 3 (([v0, v1, v2, v3, v4, v5, v6, v7, v8, v9, v10, v11, v12, v13, v14].drop 14).take (Tryz.prog.cellsOf 3)) := hf 7 _ rfl
    rw [co_box39] at g0
    rw [co_bord39] at g5
    rw [co_int39] at g4 g10 g11 g12 g13 g14
    obtain ⟨a, b, c, d, e0⟩ := open_box39 g0
    obtain ⟨K, e4, _⟩ := rv_int Tryz.underlying3 g4
    obtain ⟨m, p, q, r, s, e5⟩ := open_bord39 g5
    obtain ⟨x10, e10, _⟩ := rv_int Tryz.underlying3 g10
    obtain ⟨x11, e11, _⟩ := rv_int Tryz.underlying3 g11
    obtain ⟨x12, e12, _⟩ := rv_int Tryz.underlying3 g12
    obtain ⟨x13, e13, _⟩ := rv_int Tryz.underlying3 g13
    obtain ⟨x14, e14, _⟩ := rv_int Tryz.underlying3 g14
    simp at e0 e4 e5 e10 e11 e12 e13 e14
    obtain ⟨f0, f1, f2, f3⟩ := e0
    obtain ⟨f5, f6, f7, f8, f9⟩ := e5
    subst f0 f1 f2 f3 e4 f5 f6 f7 f8 f9 e10 e11 e12 e13 e14
    exact ⟨⟨a, b, c, d, K, m, p, q, r, s, x10, x11, x12, x13, x14⟩, rfl⟩
end Go.Proofs.YtibmhabipghjlaaGreat
end
