/- Maps of straight lines: asked backwards. -/
import Derived.Test.YtlbiiljncacdoaaGreatHm2
import Derived.Laws.Cover3
set_option linter.unusedVariables false
namespace Go.Proofs.YtlbiiljncacdoaaGreat
open Go.RowKit
def cf (l : List Int) (i : Nat) : Int := l.getD i 0
structure CfOk (l : List Int) : Prop where
  len : l.length = 9
  rg : rgB l = true
theorem CfOk.bd {l : List Int} (h : CfOk l) (i : Nat) (hi : i < 9) : -most i ≤ cf l i ∧ cf l i ≤ most i := inH_iff.1 (rgB_iff.1 h.rg i hi)
theorem CfOk.m31 {l : List Int} (h : CfOk l) (i : Nat) (hi : i < 9) : M31 (cf l i) := by
  have h1 := h.bd i hi
  have h2 := most_bd i
  unfold M31; omega
theorem CfOk.prod {l : List Int} (h : CfOk l) (i j : Nat) (hi : i < 9) (hj : j < 9) (k : Int) (hk : most i * most j ≤ k) : -k ≤ cf l i * cf l j ∧ cf l i * cf l j ≤ k := by
  have h1 := h.bd i hi
  have h2 := h.bd j hj
  have m1 := most_bd i
  have m2 := most_bd j
  have hm := Nat.mul_le_mul (show (cf l i).natAbs ≤ (most i).toNat by omega) (show (cf l j).natAbs ≤ (most j).toNat by omega)
  rw [← Int.natAbs_mul] at hm
  have e : (((most i).toNat * (most j).toNat : Nat) : Int) = most i * most j := by rw [Int.natCast_mul, Int.toNat_of_nonneg m1.1, Int.toNat_of_nonneg m2.1]
  omega
theorem ad_0 (m : Nat → Int) : adK m 9 0 = m 4 * m 8 - m 5 * m 7 := rfl
theorem adb_0 {l : List Int} (h : CfOk l) : J64 (adK (cf l) 9 0) := by
  have h1 := h.prod 4 8 (by decide) (by decide) 36028797018963968 (by decide)
  have h2 := h.prod 5 7 (by decide) (by decide) 36028797018963968 (by decide)
  rw [ad_0]; unfold J64; omega
theorem ad_1 (m : Nat → Int) : adK m 9 1 = m 7 * m 2 - m 8 * m 1 := rfl
theorem adb_1 {l : List Int} (h : CfOk l) : J64 (adK (cf l) 9 1) := by
  have h1 := h.prod 7 2 (by decide) (by decide) 36028797018963968 (by decide)
  have h2 := h.prod 8 1 (by decide) (by decide) 36028797018963968 (by decide)
  rw [ad_1]; unfold J64; omega
theorem ad_2 (m : Nat → Int) : adK m 9 2 = m 1 * m 5 - m 2 * m 4 := rfl
theorem adb_2 {l : List Int} (h : CfOk l) : J64 (adK (cf l) 9 2) := by
  have h1 := h.prod 1 5 (by decide) (by decide) 36028797018963968 (by decide)
  have h2 := h.prod 2 4 (by decide) (by decide) 36028797018963968 (by decide)
  rw [ad_2]; unfold J64; omega
theorem ad_3 (m : Nat → Int) : adK m 9 3 = m 5 * m 6 - m 3 * m 8 := rfl
theorem adb_3 {l : List Int} (h : CfOk l) : J64 (adK (cf l) 9 3) := by
  have h1 := h.prod 5 6 (by decide) (by decide) 36028797018963968 (by decide)
  have h2 := h.prod 3 8 (by decide) (by decide) 36028797018963968 (by decide)
  rw [ad_3]; unfold J64; omega
theorem ad_4 (m : Nat → Int) : adK m 9 4 = m 8 * m 0 - m 6 * m 2 := rfl
theorem adb_4 {l : List Int} (h : CfOk l) : J64 (adK (cf l) 9 4) := by
  have h1 := h.prod 8 0 (by decide) (by decide) 36028797018963968 (by decide)
  have h2 := h.prod 6 2 (by decide) (by decide) 36028797018963968 (by decide)
  rw [ad_4]; unfold J64; omega
theorem ad_5 (m : Nat → Int) : adK m 9 5 = m 2 * m 3 - m 0 * m 5 := rfl
theorem adb_5 {l : List Int} (h : CfOk l) : J64 (adK (cf l) 9 5) := by
  have h1 := h.prod 2 3 (by decide) (by decide) 36028797018963968 (by decide)
  have h2 := h.prod 0 5 (by decide) (by decide) 36028797018963968 (by decide)
  rw [ad_5]; unfold J64; omega
theorem ad_6 (m : Nat → Int) : adK m 9 6 = m 3 * m 7 - m 4 * m 6 := rfl
theorem adb_6 {l : List Int} (h : CfOk l) : J64 (adK (cf l) 9 6) := by
  have h1 := h.prod 3 7 (by decide) (by decide) 36028797018963968 (by decide)
  have h2 := h.prod 4 6 (by decide) (by decide) 36028797018963968 (by decide)
  rw [ad_6]; unfold J64; omega
theorem ad_7 (m : Nat → Int) : adK m 9 7 = m 6 * m 1 - m 7 * m 0 := rfl
theorem adb_7 {l : List Int} (h : CfOk l) : J64 (adK (cf l) 9 7) := by
  have h1 := h.prod 6 1 (by decide) (by decide) 36028797018963968 (by decide)
  have h2 := h.prod 7 0 (by decide) (by decide) 36028797018963968 (by decide)
  rw [ad_7]; unfold J64; omega
theorem ad_8 (m : Nat → Int) : adK m 9 8 = m 0 * m 4 - m 1 * m 3 := rfl
theorem adb_8 {l : List Int} (h : CfOk l) : J64 (adK (cf l) 9 8) := by
  have h1 := h.prod 0 4 (by decide) (by decide) 36028797018963968 (by decide)
  have h2 := h.prod 1 3 (by decide) (by decide) 36028797018963968 (by decide)
  rw [ad_8]; unfold J64; omega
theorem mget {l : List Int} {w : World} {B : Nat} {A : Option Addr} (hl : l.length = 9) (hr : Rd w B A (l.map (Value.int .i64))) : ∃ b o, A = some ⟨b, o, none⟩ ∧ b < B ∧ ∀ i, i < 9 → w.cell? ⟨b, o + i, none⟩ = some (.int .i64 (cf l i)) := by
  obtain ⟨b, o, e, hb, _⟩ := hr.get 0 (by rw [List.length_map]; omega)
  refine ⟨b, o, e, hb, fun i hi => ?_⟩
  obtain ⟨b2, o2, e2, _, hc⟩ := hr.get i (by rw [List.length_map]; omega)
  rw [e] at e2
  injection e2 with e2
  injection e2 with e3 e4
  subst e3 e4
  rw [hc, List.getElem_map]
  unfold cf
  rw [List.getD_eq_getElem?_getD, List.getElem?_eq_getElem (by omega)]
  rfl
set_option maxRecDepth 100000 in
set_option maxHeartbeats 8000000 in
theorem back_any (l : List Int) (A : Option Addr) (cp : Nat) (w : World) {B : Nat} (hc : CfOk l) (hr : Rd w B A (l.map (Value.int .i64))) (hB : B ≤ w.heap.size) (hcp : 9 ≤ cp) :
    Calls Tryz.prog 222 #[.slice A 9 cp] w fun e w' => ∃ g, e = .returned (.tuple #[.pointer (some ⟨g, 0, none⟩), .bool (decide (detS (cf l) 3 ≠ 0))]) ∧ w.heap.size ≤ g ∧ Bk w' g 268 (mA (adK (cf l) 9)) ∧ Below w.heap.size w w' := by
  obtain ⟨b, o, rfl, hb, hcl⟩ := mget hc.len hr
  have HC := Lib.hid hc
  have c0 := hcl 0 (by decide)
  have c1 := hcl 1 (by decide)
  have c2 := hcl 2 (by decide)
  have c3 := hcl 3 (by decide)
  have c4 := hcl 4 (by decide)
  have c5 := hcl 5 (by decide)
  have c6 := hcl 6 (by decide)
  have c7 := hcl 7 (by decide)
  have c8 := hcl 8 (by decide)
  rw [Nat.add_zero] at c0
  have hbw : b < w.heap.size := by omega
  have hDt := fun w' => mdet_any (cf l) w' hc.m31
  have hAj := fun w' => madj_any (cf l) w' hc.m31
  clear hcl hc hr
  go_enter Tryz.func222, Tryz.ntmps222
  have hat : ∀ w' : World, (Instr.arrayAt 296 (.slice (some ⟨b, o, none⟩) 9 cp)).run Tryz.prog w' = .ok (.pointer (some ⟨b, o, none⟩)) w' := fun w' => run_arrayAt w' 296 2 9 (some ⟨b, o, none⟩) 9 cp Tryz.underlying296 (by decide)
  have hL := (Lie.start w).alloc (mA (cf l)) 296
  have hthr := fun (w' : World) (g7 : Nat) (hk : Bk w' g7 300 (wAd (adK (cf l) 9))) => three_any g7 0 9 (adK (cf l) 9 0) (adK (cf l) 9 1) (adK (cf l) 9 2) w' hk.lt (adb_0 HC.out) (adb_1 HC.out) (adb_2 HC.out) (by rw [hk.cell]; rfl) (by rw [hk.cell]; rfl) (by rw [hk.cell]; rfl) (by rw [hk.cell]; rfl) (by rw [hk.cell]; rfl) (by rw [hk.cell]; rfl)
  have hthr2 := fun (w' : World) (g7 : Nat) (hk : Bk w' g7 300 (wAd (adK (cf l) 9))) => three_any g7 6 6 (adK (cf l) 9 3) (adK (cf l) 9 4) (adK (cf l) 9 5) w' hk.lt (adb_3 HC.out) (adb_4 HC.out) (adb_5 HC.out) (by rw [hk.cell]; rfl) (by rw [hk.cell]; rfl) (by rw [hk.cell]; rfl) (by rw [hk.cell]; rfl) (by rw [hk.cell]; rfl) (by rw [hk.cell]; rfl)
  have hthr3 := fun (w' : World) (g7 : Nat) (hk : Bk w' g7 300 (wAd (adK (cf l) 9))) => three_any g7 12 3 (adK (cf l) 9 6) (adK (cf l) 9 7) (adK (cf l) 9 8) w' hk.lt (adb_6 HC.out) (adb_7 HC.out) (adb_8 HC.out) (by rw [hk.cell]; rfl) (by rw [hk.cell]; rfl) (by rw [hk.cell]; rfl) (by rw [hk.cell]; rfl) (by rw [hk.cell]; rfl) (by rw [hk.cell]; rfl)
  obtain ⟨sg, hsg⟩ : ∃ sg, sgn (detS (cf l) 3) = sg := ⟨_, rfl⟩
  have hsd : Hid ((!(sg == 0)) = decide (detS (cf l) 3 ≠ 0)) := by
    show _ = _
    rw [← hsg]; unfold sgn
    by_cases h1 : detS (cf l) 3 < 0
    · rw [if_pos h1, decide_eq_true (by omega)]; rfl
    · rw [if_neg h1]
      by_cases h2 : detS (cf l) 3 = 0
      · rw [if_pos h2, decide_eq_false (by omega)]; rfl
      · rw [if_neg h2, decide_eq_true h2]; rfl
  have hSg := fun w' => wsign_any (detS (cf l) 3) w'
  rw [hsg] at hSg
  clear hsg
  generalize hdet : detS (cf l) 3 = det at *
  generalize adK (cf l) 9 = ad at *
  clear hdet
  go_wp2_with fail
  refine (hDt _).mono ?_
  rintro e w1 ⟨rfl, hb1⟩
  replace hL := (hL.nx hb1).alloc (wdA det) 261
  have k0 : Bk _ w.heap.size 296 (mA (cf l)) := hL.k 1 (by simp)
  obtain ⟨m0, m1, m2, m3, m4, m5, m6, m7, m8⟩ := k0.cell9
  clear c0 c1 c2 c3 c4 c5 c6 c7 c8 hb1
  go_wp2_with fail
  refine (hAj _).mono ?_
  rintro e w2 ⟨rfl, hb2⟩
  replace hL := (hL.nx hb2).alloc (wAd ad) 300
  clear m0 m1 m2 m3 m4 m5 m6 m7 m8 hb2 k0
  go_upto_region 4 with fail
  generalize w2.alloc (.cells (wAd ad) 300) = wz at *
  have k5 : Bk wz w1.heap.size 261 (wdA det) := hL.k 1 (by simp)
  have k7 : Bk wz w2.heap.size 300 (wAd ad) := hL.k 0 (by simp)
  have l5 := k5.lt
  have l7 := k7.lt
  obtain ⟨d0, d1⟩ := k5.cell2
  have hb0 : Below wz.heap.size wz wz.drew := below_drewN (Below.refl _ _) 1
  go_cut [2, 3] (fun p q wx => ∃ g : Nat, p = .pointer (some ⟨g, 0, none⟩) ∧ q = .bool (decide (det ≠ 0)) ∧ wz.heap.size ≤ g ∧ Bk wx g 268 (mA ad) ∧ Below wz.heap.size wz wx)
  case first =>
    go_region_held3 (fun w' => w'.cell? ⟨w1.heap.size, 0, none⟩ = some (.int .i64 (hi6 det)) ∧ w'.cell? ⟨w1.heap.size, 1, none⟩ = some (.int .u64 (lo6 det)) ∧ Below wz.heap.size wz w')
      (first | with_reducible exact wd2_keep ⟨d0, d1⟩ l5 hbl | (refine wd2_keep ⟨d0, d1⟩ l5 ?_; first | with_reducible exact Below.alloc hbl hbl.size _ | go_grown))
      (first
        | ((with_reducible refine (hthr _ _ (by exact k7.below (by first | exact hbl | exact hb0) l7)).mono ?_); rintro e wa ⟨rfl, hbl'⟩; have hbl : Below wz.heap.size wz wa := hb0.trans (hbl'.mono (by exact Nat.le_refl _)))
        | ((with_reducible refine (hthr2 _ _ (by exact k7.below hbl l7)).mono ?_); rintro e wb ⟨rfl, hbl2⟩; have hbl := hbl.trans (hbl2.mono hbl.size))
        | ((with_reducible refine (hthr3 _ _ (by exact k7.below hbl l7)).mono ?_); rintro e wd ⟨rfl, hbl3⟩; have hbd := hbl.trans (hbl3.mono hbl.size); have hbl := hbd)
        | (go_at_call 256; (with_reducible refine (hSg _).mono ?_); rintro e we ⟨rfl, hbl4⟩; have hbl : Below wz.heap.size wz we := Below.trans (by first | exact hbd | exact Below.alloc hbd hbd.size _) (hbl4.mono (by first | exact hbd.size | (have := hbd.size; simp; omega)))))
    all_goals
      go_wp2_with fail
      go_meet
      have hq : Value.bool (sg != 0) = .bool (decide (det ≠ 0)) := congrArg Value.bool (by rw [← hsd.out]; rfl)
      first
        | exact ⟨wd.heap.size, rfl, hq, hbd.size, (Bk.new wd 268 (mA ad)).nx hbl4, hbl⟩
        | exact ⟨we.heap.size, rfl, hq, hbl.size, Bk.new we 268 (mA ad), Below.alloc hbl hbl.size _⟩
  case rest =>
    obtain ⟨g, rfl, rfl, hg, k9, hbx⟩ := hcut
    go_wp2_with fail
    go_returns
    exact ⟨g, rfl, by have := hL.sz; omega, k9, hL.bel.trans (hbx.mono hL.sz)⟩
end Go.Proofs.YtlbiiljncacdoaaGreat
