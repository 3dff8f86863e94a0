/- Matrices: determinants. -/
import Derived.Test.YtlbiiljncacdoaaGreatMt1
set_option linter.unusedVariables false
namespace Go.Proofs.YtlbiiljncacdoaaGreat
open Go.RowKit
def detS (m : Nat → Int) : Nat → Int
  | 0 => 0
  | k + 1 => detS m k + cof m 0 k * m k
theorem cof_bd {m : Nat → Int} (hm : ∀ i, i < 9 → M31 (m i)) (r c : Int) : -9223372036854775808 ≤ cof m r c ∧ cof m r c ≤ 9223372036854775808 := by
  have h1 := prod31 (mAt_bd hm (r + 1) (c + 1)) (mAt_bd hm (r + 2) (c + 2))
  have h2 := prod31 (mAt_bd hm (r + 1) (c + 2)) (mAt_bd hm (r + 2) (c + 1))
  unfold cof; omega
theorem term_bd {m : Nat → Int} (hm : ∀ i, i < 9 → M31 (m i)) (k : Nat) (hk : k < 9) : -19807040628566084398385987584 ≤ cof m 0 k * m k ∧ cof m 0 k * m k ≤ 19807040628566084398385987584 ∧ ab (cof m 0 k) * ab (m k) ≤ 19807040628566084398385987584 ∧ 0 ≤ ab (cof m 0 k) * ab (m k) := by
  have h1 := cof_bd hm 0 k
  have h2 := hm k hk
  unfold M31 at h2
  have h := Nat.mul_le_mul (show (cof m 0 k).natAbs ≤ 9223372036854775808 by omega) (show (m k).natAbs ≤ 2147483648 by omega)
  rw [← Int.natAbs_mul] at h
  have e : ab (cof m 0 k) * ab (m k) = ((cof m 0 k * m k).natAbs : Int) := by
    rw [Int.natAbs_mul, Int.natCast_mul]
    congr 1 <;> (unfold ab; split <;> omega)
  rw [e]
  omega
theorem detS_bd {m : Nat → Int} (hm : ∀ i, i < 9 → M31 (m i)) : ∀ k : Nat, k ≤ 3 → -19807040628566084398385987584 * (k : Int) ≤ detS m k ∧ detS m k ≤ 19807040628566084398385987584 * (k : Int) := by
  intro k
  induction k with
  | zero => intro _; simp [detS]
  | succ k ih =>
    intro hk
    have h1 := ih (by omega)
    have h2 := term_bd hm k (by omega)
    show _ ≤ detS m k + cof m 0 k * m k ∧ detS m k + cof m 0 k * m k ≤ _
    rw [Int.natCast_succ]; omega
set_option maxRecDepth 100000 in
set_option maxHeartbeats 8000000 in
theorem mdet_any (m : Nat → Int) (w : World) (hm : ∀ i, i < 9 → M31 (m i)) :
    Calls Tryz.prog 253 #[.agg (mA m)] w fun e w' => e = .returned (.tuple #[WV (detS m 3), .int .i64 0]) ∧ Below w.heap.size w w' := by
  have HM := Lib.hid hm
  have hR := fun w' => mright_any m w' hm
  have hL := ((Lie.start w).alloc (mA m) 296).alloc #[.int .i64 0, .int .u64 0] 261
  simp only [World.size_alloc] at hL
  clear hm
  go_enter Tryz.func253, Tryz.ntmps253
  go_wp2_with fail
  refine (hR _).mono ?_
  rintro e w1 ⟨rfl, hb1⟩
  replace hL := (hL.nx hb1).alloc #[.int .i64 0, .int .u64 0] 261
  obtain ⟨g4, hg4⟩ : ∃ g, g = w1.heap.size := ⟨_, rfl⟩
  have hz1 : w.heap.size + 1 < w1.heap.size := by have := hb1.size; simp at this; omega
  go_wp2_with fail
  rw [← wd0] at hL
  clear hb1
  go_loopw [5, 12] (fun _ kv wr => ∃ k : Nat, k ≤ 3 ∧ kv = .int .i64 k ∧ Lie w [(w1.heap.size, 261, wdA (detS m k)), (w.heap.size + 1, 261, #[.int .i64 0, .int .u64 0]), (w.heap.size, 296, mA m)] wr) (fun _ kv _ => 3 - (intOf kv).toNat)
  case atStart => exact ⟨0, by omega, rfl, hL⟩
  case round =>
    clear hL
    obtain ⟨k, hk, rfl, hL⟩ := hrel
    by_cases hlt : k < 3
    · have hcof := fun w' => cof_any m 0 k w' HM.out (by omega) (by omega) (by omega) (by omega)
      have htb := term_bd HM.out k (by omega)
      have hcb := cof_bd HM.out 0 k
      have hdb := detS_bd HM.out k hk
      have hdb1 := detS_bd HM.out (k + 1) (by omega)
      have hSc := fun w' => wscale_any (cof m 0 k) (m k) w' (by unfold Wd; omega) (m31_j (HM.out k (by omega))) (by unfold Wd; omega)
      have hAd := fun w' => wadd_any (detS m k) (cof m 0 k * m k) w' (by unfold Wd; omega) (by unfold Wd; omega) (by show Wd (detS m (k + 1)); unfold Wd; omega)
      have HD := Lib.hid (show detS m (k + 1) = detS m k + cof m 0 k * m k from rfl)
      rw [← HD.out] at hAd
      clear htb hcb hdb hdb1 HD
      generalize hdn : detS m (k + 1) = dn at *
      have HDN := Lib.hid hdn
      clear hdn
      generalize hdk : detS m k = dk at *
      generalize hck : cof m 0 k * m k = pk at *
      clear hdk hck
      have k0 : Bk wr w.heap.size 296 (mA m) := hL.k 2 (by simp)
      have hlt0 := k0.lt
      have hcx := mA_at k0 k (by omega)
      have hRg := k0.range
      have hu := Tryz.underlying296
      have hi : (Tryz.prog.info? 296).map (·.size) = some (mA m).toList.length := m_info
      go_upto_region 7 with fail
      have hk0 : (0 : Int) ≤ k := by omega
      have hk9 : (k : Int) < 9 := by omega
      go_cut [6] (fun p wx => ∃ g : Nat, p = .pointer (some ⟨g, 0, none⟩) ∧ wr.heap.size ≤ g ∧ Bk wx g 261 (wdA pk) ∧ Below wr.heap.size wr wx)
      case first =>
        go_region_held3 (fun w' => w'.rangeAt w.heap.size 0 (mA m).toList ∧ w'.cell? ⟨w.heap.size, k, none⟩ = some (.int .i64 (m k)) ∧ Below wr.heap.size wr w')
          (first
            | with_reducible exact ⟨(range_below hRg hlt0 hbl).1, (hbl.cell (p := ⟨w.heap.size, k, none⟩) hlt0).trans hcx, hbl⟩
            | (refine (fun hb => ⟨(range_below hRg hlt0 hb).1, (hb.cell (p := ⟨w.heap.size, k, none⟩) hlt0).trans hcx, hb⟩) ?_; first | with_reducible exact Below.alloc hbl hbl.size _ | with_reducible exact below_of_gb hbl (gb2 wm wr.heap.size _ _) (Nat.le_refl _) hbl.size | with_reducible exact below_of_gb hbl (gb2 wm wl.heap.size _ _) hll hbl.size | go_grown))
          (first
            | (go_at_call 275; (with_reducible refine (hcof _).mono ?_); rintro e wl ⟨rfl, hbl'⟩; have hbl : Below wr.heap.size wr wl := (by first | exact hbl' | exact Below.trans (by first | exact Below.alloc hbl hbl.size _ | exact hbl | go_grown) (hbl'.mono (by first | exact hbl.size | exact Nat.le_refl _ | (simp; done) | (simp; omega)))); have hll := hbl.size; have hcl := (bcell hbl').1; have hfl := (bcell hbl').2)
            | (go_at_call 274; (with_reducible refine (hSc _).mono ?_); rintro e wm ⟨rfl, hbm'⟩; have hbm : Below wr.heap.size wr wm := (by first | exact Below.trans (by first | exact hbl | exact Below.alloc hbl hbl.size _) (hbm'.mono (by first | exact hbl.size | (have := hbl.size; simp; done) | (have := hbl.size; simp; omega)))); have hcm := (bcell hbm').1; have hfm := (bcell hbm').2; (try (have hs1 : wr.heap.size < wl.heap.size := by have := hbl'.size; simp at this; omega)); (try (have hs2 : wl.heap.size < wm.heap.size := by have := hbm'.size; simp at this; omega)); have hbl := hbm))
        all_goals
          go_wp2_with fail
          go_meet
          first
            | exact ⟨wm.heap.size, rfl, hbm.size, Bk.new wm _ _, Below.alloc hbm hbm.size _⟩
            | exact ⟨wl.heap.size, rfl, hll, ((Bk.new wl 261 #[.int .i64 0, .int .u64 0]).nx hbm').set2 _ _, below_of_gb hbm (gb2 wm wl.heap.size _ _) hll hbm.size⟩
            | exact ⟨wr.heap.size, rfl, Nat.le_refl _, (((Bk.new wr.drew 261 #[.int .i64 0, .int .u64 0]).nx hbl').nx hbm').set2 _ _, below_of_gb hbm (gb2 wm wr.heap.size _ _) (Nat.le_refl _) hbm.size⟩
      case rest =>
        obtain ⟨g, rfl, hgr, k6, hbx⟩ := hcut
        have hLx := hL.nx hbx
        have k4 : Bk wc w1.heap.size 261 (wdA dk) := hLx.k 0 (by simp)
        obtain ⟨a0, a1⟩ := k4.cell2
        obtain ⟨b0, b1⟩ := k6.cell2
        go_wp2_with (first
          | (go_at_call 251; (with_reducible refine (hAd _).mono ?_); rintro e w5 ⟨rfl, hb5⟩; have hL5 := hLx.nx hb5; have k45 := k4.nx hb5)
          | (refine stWd rfl _ _ rfl k45 rfl rfl rfl ?_; intro w6 k46 hg6 hs6))
        have hL6 := hL5.set hg6 k46 (by omega) (by intro x hx; simp at hx; rcases hx with rfl | rfl <;> simp <;> omega)
        exact ⟨⟨k + 1, by omega, by go_num, by rw [HDN.out]; exact hL6⟩, by simp [intOf]; omega⟩
    · obtain rfl : k = 3 := by omega
      have k4 : Bk wr w1.heap.size 261 (wdA (detS m 3)) := hL.k 0 (by simp)
      have k1 : Bk wr (w.heap.size + 1) 261 #[.int .i64 0, .int .u64 0] := hL.k 1 (by simp)
      obtain ⟨a0, a1⟩ := k4.cell2
      go_wp2_with (refine stWd rfl _ _ rfl k1 rfl rfl rfl ?_; intro w6 k16 hg6 hs6)
      refine bodyPost_ret (res_wd_tmp rfl k16 rfl) rfl ?_
      exact ⟨rfl, below_of_gb hL.bel hg6 (by omega) hL.sz⟩
end Go.Proofs.YtlbiiljncacdoaaGreat
