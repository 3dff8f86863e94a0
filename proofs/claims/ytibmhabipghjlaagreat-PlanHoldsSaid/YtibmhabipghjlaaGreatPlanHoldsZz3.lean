/- Several texts in one: The reference: all tiles of a grid, one row of them behind the other. plan: the rising list of an image's tiles that have a marked column and a marked row. plan: the tiles of a grid that have a place of a rectangle. plan: a job's grids. plan's reference: numbers in whole pixels; which columns a kernel asks for. Kernels: their table, names and reaches. plan's reference: which columns a kernel asks for. plan: whether a number of a box is far. plan: small contracts of the checks; what is wrong with a job. plan.Check: what is wrong with a job (the ways that end ahead of the last region). -/
import Derived.Test.YtibmhabipghjlaaGreatPlanHoldsZz2
import Derived.Test.YtibmhabipghjlaaGreatPlanHoldsZz1
import Derived.Lib.QuietBelow
import Derived.Deep.QuietTactic
section
set_option linter.unusedVariables false
namespace Go.Proofs.YtibmhabipghjlaaGreat
open Go.RowKit
theorem rect_info9 : (Tryz.prog.info? 84).map (fun i => (i.zero, i.size, i.bytes)) = some (some (.agg #[.int .i64 0, .int .i64 0, .int .i64 0, .int .i64 0]), 4, 32) := by kernel_rfl
def tlR (W H TW TH i : Int) : Array Value := rc_rectA (tlX W TW i) (tlY W TW TH i) (min (tlX W TW i + TW) W) (min (tlY W TW TH i + TH) H)
def encG (W H TW TH : Int) (N : Nat) : List Value := (List.range N).flatMap fun (i : Nat) => (tlR W H TW TH i).toList
theorem encG_succ (W H TW TH : Int) (N : Nat) : encG W H TW TH (N + 1) = encG W H TW TH N ++ (tlR W H TW TH N).toList := by
  unfold encG
  rw [List.range_succ, List.flatMap_append]
  simp
theorem grN_lt {W T r : Int} (hT : 1 ≤ T) : r < grN W T ↔ r * T < W := by
  unfold grN
  rw [Int.lt_iff_add_one_le, Int.le_ediv_iff_mul_le (by omega), Int.add_mul]
  omega
theorem tlR_at {W H TW TH : Int} {gx q r : Nat} (hg : grN W TW = (gx : Int)) (hq : q < gx) : tlR W H TW TH ((r * gx + q : Nat) : Int) = rc_rectA ((q : Int) * TW) ((r : Int) * TH) (min ((q : Int) * TW + TW) W) (min ((r : Int) * TH + TH) H) := by
  have e1 : ((r * gx + q : Nat) : Int) % (gx : Int) = q := by
    rw [← Int.natCast_emod, Nat.mul_comm, Nat.mul_add_mod, Nat.mod_eq_of_lt hq]
  have e2 : ((r * gx + q : Nat) : Int) / (gx : Int) = r := by
    rw [← Int.natCast_ediv, Nat.mul_comm, Nat.mul_add_div (by omega), Nat.div_eq_of_lt hq, Nat.add_zero]
  unfold tlR tlX tlY
  rw [hg, e1, e2]
attribute [local go_sem high] run_maxM run_minM
set_option maxRecDepth 100000 in
set_option maxHeartbeats 8000000 in
theorem rtiles_any (W H TW TH : Int) (w : World) (h0 : grC W H TW TH = 0) :
    Calls Tryz.prog 31 #[grV W H TW TH] w fun e w' => ∃ v, e = .returned v ∧ w'.ownsRow w.heap.size 84 4 v (grN W TW * grN H TH).toNat (encG W H TW TH (grN W TW * grN H TH).toNat) ∧ Below w.heap.size w w' := by
  obtain ⟨hW, hH, hTW, hTH⟩ := grC_zero.1 h0
  obtain ⟨n0, n1, _⟩ := grN_bd hW hTW
  obtain ⟨m0, m1, _⟩ := grN_bd hH hTH
  have hq0 := fun q : Int => grN_lt (W := W) (r := q) hTW.1
  have hr0 := fun q : Int => grN_lt (W := H) (r := q) hTH.1
  obtain ⟨gx, hgx⟩ : ∃ gx : Nat, grN W TW = (gx : Int) := ⟨(grN W TW).toNat, by omega⟩
  obtain ⟨gy, hgy⟩ : ∃ gy : Nat, grN H TH = (gy : Int) := ⟨(grN H TH).toNat, by omega⟩
  have htl := fun q r => tlR_at (W := W) (H := H) (TW := TW) (TH := TH) (gx := gx) (q := q) (r := r) hgx
  rw [hgx] at hq0 n0 n1 ⊢
  rw [hgy] at hr0 m0 m1 ⊢
  rw [show ((gx : Int) * (gy : Int)).toNat = gy * gx by rw [← Int.natCast_mul, Int.toNat_natCast, Nat.mul_comm]]
  have hxy : gy * gx ≤ 36864 * 36864 := Nat.mul_le_mul (by omega) (by omega)
  have k0 := Bk.new w 65 (grA W H TW TH)
  have hb1 := (Below.refl w.heap.size w).alloc (Nat.le_refl _) (.cells (grA W H TW TH) 65)
  obtain ⟨w1, hw1⟩ : ∃ w1, w.alloc (.cells (grA W H TW TH) 65) = w1 := ⟨_, rfl⟩
  rw [hw1] at k0 hb1
  have HW1 := Lib.hid hw1
  obtain ⟨g0, hg0⟩ : ∃ g0, w.heap.size = g0 := ⟨_, rfl⟩
  have hz1 := k0.lt
  rw [hg0] at k0 hz1
  have HG0 := Lib.hid hg0
  obtain ⟨hW1, hW2⟩ := hW
  obtain ⟨hH1, hH2⟩ := hH
  obtain ⟨hTW1, hTW2⟩ := hTW
  obtain ⟨hTH1, hTH2⟩ := hTH
  clear hgx hgy hw1 hg0 h0
  go_enter Tryz.func31, Tryz.ntmps31
  go_upto_region 1 with fail
  rw [HW1.out, HG0.out]
  go_wp2_with fail
  go_loopw [3, 4] (fun v y wr => ∃ r : Nat, r ≤ gy ∧ y = .int .i64 ((r : Int) * TH) ∧ wr.ownsRow w1.heap.size 84 4 v (r * gx) (encG W H TW TH (r * gx)) ∧ Below w1.heap.size w1 wr) (fun _ y _ => (H - intOf y).toNat)
  case atStart => exact ⟨0, by omega, by simp, by simpa [encG] using World.ownsRow_nil _ _ _ _, Below.refl _ _⟩
  case round =>
    obtain ⟨r, hr, rfl, hown, hbel⟩ := hrel
    have hrH := hr0 (r : Int)
    have kr := k0.below hbel hz1
    obtain ⟨c0, c1, c2, c3⟩ := kr.cell4
    by_cases hlt : r < gy
    · have hyH : (r : Int) * TH < H := hrH.1 (by omega)
      have hy0 : 0 ≤ (r : Int) * TH := Int.mul_nonneg (by omega) (by omega)
      have hye : ((r + 1 : Nat) : Int) * TH = (r : Int) * TH + TH := by rw [Int.natCast_add, Int.add_mul]; simp
      obtain ⟨y, hy⟩ : ∃ y, (r : Int) * TH = y := ⟨_, rfl⟩
      have hty := fun q (hq : q < gx) => htl q r hq
      simp only [hy] at hty
      rw [hy] at hyH hy0 hye ⊢
      have v1 : wrap64 (y + TH) = y + TH := IntWalk.wrap64_in _ ⟨by omega, by omega⟩
      have HY := Lib.hid hy
      have hrg : r * gx + gx = (r + 1) * gx := by rw [Nat.add_mul, Nat.one_mul]
      have hrm : (r + 1) * gx ≤ gy * gx := Nat.mul_le_mul_right _ hlt
      clear hy hrH htl
      go_upto_region 5 with fail
      go_wp2_with fail
      go_loopw [3, 5] (fun v x ws => ∃ q : Nat, q ≤ gx ∧ x = .int .i64 ((q : Int) * TW) ∧ ws.ownsRow w1.heap.size 84 4 v (r * gx + q) (encG W H TW TH (r * gx + q)) ∧ Below w1.heap.size w1 ws) (fun _ x _ => (W - intOf x).toNat)
      case atStart => exact ⟨0, by omega, by simp, hown, hbel⟩
      case round =>
        clear hown hbel c0 c1 c2 c3 kr
        obtain ⟨q, hq, rfl, hown, hbel⟩ := hrel
        have hqW := hq0 (q : Int)
        have kr := k0.below hbel hz1
        obtain ⟨c0, c1, c2, c3⟩ := kr.cell4
        by_cases hlq : q < gx
        · have hxW : (q : Int) * TW < W := hqW.1 (by omega)
          have hx0 : 0 ≤ (q : Int) * TW := Int.mul_nonneg (by omega) (by omega)
          have hxe : ((q + 1 : Nat) : Int) * TW = (q : Int) * TW + TW := by rw [Int.natCast_add, Int.add_mul]; simp
          have hE := hty q hlq
          have hS := encG_succ W H TW TH (r * gx + q)
          obtain ⟨x, hx⟩ : ∃ x, (q : Int) * TW = x := ⟨_, rfl⟩
          rw [hx] at hxW hx0 hxe hE ⊢
          rw [hE] at hS
          have v2 : wrap64 (x + TW) = x + TW := IntWalk.wrap64_in _ ⟨by omega, by omega⟩
          have HX := Lib.hid hx
          have HS := Lib.hid hS
          have HXE := Lib.hid hxe
          have hz := hbel.size
          clear hx hE hqW hS hxe
          generalize encG W H TW TH (r * gx + q) = L at *
          go_wp2_with (at_builtin; refine app1 rfl _ _ _ rfl Tryz.underlying81 rect_info9 rfl (by omega) rfl rfl hown hbel (Nat.le_refl _) hz rfl (by simp [Value.oneCell']) (by omega) (by omega) ?_; intro v' w' hown' hbel' _ _ _; clear hown c0 c1 c2 c3; obtain ⟨c0, c1, c2, c3⟩ := (k0.below hbel' hz1).cell4)
          refine ⟨⟨q + 1, by omega, by rw [HXE.out], ?_, hbel'⟩, by simp [intOf]; omega⟩
          rw [← Nat.add_assoc, HS.out]
          exact hown'
        · obtain rfl : q = gx := by omega
          have hxW : ¬ (q : Int) * TW < W := fun e => hlq (by have := hqW.2 e; omega)
          obtain ⟨x, hx⟩ : ∃ x, (q : Int) * TW = x := ⟨_, rfl⟩
          rw [hx] at hxW ⊢
          clear hqW hx
          go_wp2_with fail
          refine ⟨⟨r + 1, by omega, by rw [hye], ?_, hbel⟩, by simp [intOf]; omega⟩
          rw [← hrg]
          exact hown
    · obtain rfl : r = gy := by omega
      have hyH : ¬ (r : Int) * TH < H := fun e => hlt (by have := hrH.2 e; omega)
      obtain ⟨y, hy⟩ : ∃ y, (r : Int) * TH = y := ⟨_, rfl⟩
      rw [hy] at hyH ⊢
      clear hrH hy
      go_wp2_with fail
      go_returns
      exact ⟨_, rfl, own_base hown (by have := HG0.out; omega), hb1.trans (hbel.mono hb1.size)⟩
end Go.Proofs.YtibmhabipghjlaaGreat
end
section
set_option linter.unusedVariables false
namespace Go.Proofs.YtibmhabipghjlaaGreat
open Go.RowKit
def hitC (cs : List Rn) (a b : Int) : Prop := ∃ x, a ≤ x ∧ x < b ∧ MemR cs x
noncomputable def hitB (cs : List Rn) (a b : Int) : Bool := @decide (hitC cs a b) (Classical.propDecidable _)
theorem hitB_iff (cs : List Rn) (a b : Int) : hitB cs a b = true ↔ hitC cs a b := by unfold hitB; simp
def plN (W H TW TH : Int) : Nat := (grN W TW * grN H TH).toNat
noncomputable def tileB (W H TW TH : Int) (cs rs : List Rn) (i : Nat) : Bool := hitB cs (tlX W TW i) (min (tlX W TW i + TW) W) && hitB rs (tlY W TW TH i) (min (tlY W TW TH i + TH) H)
noncomputable def levL (W H TW TH : Int) (cs rs : List Rn) : List Int := ((List.range (plN W H TW TH)).filter (tileB W H TW TH cs rs)).map fun (i : Nat) => (i : Int)
theorem range_rise (n : Nat) : (List.range n).Pairwise (· < ·) := List.pairwise_lt_range
theorem levL_rise (W H TW TH : Int) (cs rs : List Rn) : (levL W H TW TH cs rs).Pairwise (· < ·) := by
  unfold levL
  rw [List.pairwise_map]
  exact ((range_rise _).filter _).imp fun h => by omega
theorem lev_mem {W H TW TH : Int} (h0 : grC W H TW TH = 0) {cs rs : List Rn} (hc : ∀ r ∈ cs, 0 ≤ r.1 ∧ r.1 < r.2 ∧ r.2 ≤ W) (hr : ∀ r ∈ rs, 0 ≤ r.1 ∧ r.1 < r.2 ∧ r.2 ≤ H) (i : Int) : i ∈ allT (grN W TW) TW TH cs rs ↔ i ∈ levL W H TW TH cs rs := by
  obtain ⟨hW, hH, hTW, hTH⟩ := grC_zero.1 h0
  obtain ⟨n0, n1, _⟩ := grN_bd hW hTW
  obtain ⟨m0, m1, _⟩ := grN_bd hH hTH
  rw [allT_mem (g := grN W TW) (W := W) (H := H) hTW.1 hTH.1 rfl hc hr]
  unfold levL
  simp only [List.mem_map, List.mem_filter, List.mem_range]
  constructor
  · rintro ⟨hi, ⟨x, x1, x2, x3⟩, ⟨y, y1, y2, y3⟩⟩
    have hq : i / grN W TW < grN H TH := (grN_lt hTH.1).2 (by omega)
    have hlt : i < grN W TW * grN H TH := by
      have h1 := Int.mul_ediv_add_emod i (grN W TW)
      have h2 := Int.emod_lt_of_pos i (show 0 < grN W TW by omega)
      have h3 : grN W TW * (i / grN W TW) ≤ grN W TW * (grN H TH - 1) := Int.mul_le_mul_of_nonneg_left (by omega) (by omega)
      rw [Int.mul_sub, Int.mul_one] at h3
      omega
    refine ⟨i.toNat, ⟨by unfold plN; omega, ?_⟩, by omega⟩
    unfold tileB
    rw [show (i.toNat : Int) = i by omega, Bool.and_eq_true, hitB_iff, hitB_iff]
    exact ⟨⟨x, x1, x2, x3⟩, ⟨y, y1, y2, y3⟩⟩
  · rintro ⟨k, ⟨hk, hb⟩, rfl⟩
    unfold tileB at hb
    rw [Bool.and_eq_true, hitB_iff, hitB_iff] at hb
    exact ⟨by omega, hb.1, hb.2⟩
theorem lev_eq {W H TW TH : Int} (h0 : grC W H TW TH = 0) {cs rs : List Rn} (hc : ∀ r ∈ cs, 0 ≤ r.1 ∧ r.1 < r.2 ∧ r.2 ≤ W) (hr : ∀ r ∈ rs, 0 ≤ r.1 ∧ r.1 < r.2 ∧ r.2 ≤ H) {F : List Int} (hF : F.Pairwise (· < ·)) (hm : ∀ i, i ∈ F ↔ i ∈ allT (grN W TW) TW TH cs rs) : F = levL W H TW TH cs rs :=
  rise_ext hF (levL_rise _ _ _ _ _ _) fun i => (hm i).trans (lev_mem h0 hc hr i)
theorem cmp_eq {W H TW TH : Int} (h0 : grC W H TW TH = 0) {cs rs : List Rn} (hc : ∀ r ∈ cs, 0 ≤ r.1 ∧ r.1 < r.2 ∧ r.2 ≤ W) (hr : ∀ r ∈ rs, 0 ≤ r.1 ∧ r.1 < r.2 ∧ r.2 ≤ H) {S : List Int} (hS : S.Pairwise (· ≤ ·)) (hm : ∀ i, i ∈ S ↔ i ∈ allT (grN W TW) TW TH cs rs) : cmpL S = levL W H TW TH cs rs :=
  lev_eq h0 hc hr (cmpL_rise hS) fun i => (cmpL_mem S i).trans (hm i)
end Go.Proofs.YtibmhabipghjlaaGreat
end
section
set_option linter.unusedVariables false
namespace Go.Proofs.YtibmhabipghjlaaGreat
open Go.RowKit
theorem plboth_in {a b c d W H : Int} (hW : 1 ≤ W ∧ W ≤ 32768) (hH : 1 ≤ H ∧ H ≤ 32768) (ha : 0 ≤ a ∧ a < c) (hc : c ≤ W) (hb : 0 ≤ b ∧ b < d) (hd : d ≤ H) : bothR a b c d 0 0 W H = (a, b, c, d) ∧ ¬ rc_emptyR a b c d := by
  have h1 : ¬ rc_emptyR a b c d := by
    intro h
    rcases h with h | h | h
    · exact h ⟨⟨by omega, by omega⟩, ⟨by omega, by omega⟩, ⟨by omega, by omega⟩, ⟨by omega, by omega⟩⟩
    · omega
    · omega
  have h2 : ¬ rc_emptyR 0 0 W H := by
    intro h
    rcases h with h | h | h
    · exact h ⟨⟨by omega, by omega⟩, ⟨by omega, by omega⟩, ⟨by omega, by omega⟩, ⟨by omega, by omega⟩⟩
    · omega
    · omega
  refine ⟨?_, h1⟩
  unfold bothR
  rw [show max a 0 = a by omega, show max b 0 = b by omega, show min c W = c by omega, show min d H = d by omega, if_neg (fun h => by rcases h with h | h | h <;> first | exact h1 h | exact h2 h)]
theorem int_infoP : (Tryz.prog.info? 3).map (fun i => (i.zero, i.size, i.bytes)) = some (some (.int .i64 0), 1, 8) := by kernel_rfl
theorem tl_parts {W H TW TH x y : Int} (h0 : grC W H TW TH = 0) (hx : 0 ≤ x ∧ x < W) (hy : 0 ≤ y ∧ y < H) : Int.tdiv (tlI W TW TH x y) (grN W TW) = y / TH ∧ Int.tmod (tlI W TW TH x y) (grN W TW) = x / TW := by
  obtain ⟨⟨a0, a1⟩, ⟨b0, b1⟩, c0, c1⟩ := tl_bd h0 hx hy
  unfold tlI
  have hn : 0 ≤ y / TH * grN W TW + x / TW := by omega
  rw [Int.tdiv_eq_ediv_of_nonneg hn, Int.tmod_eq_emod_of_nonneg hn]
  constructor
  · rw [Int.add_comm, Int.add_mul_ediv_right _ _ (by omega), Int.ediv_eq_zero_of_lt a0 a1]; omega
  · rw [Int.add_comm, Int.add_mul_emod_self_right]; exact Int.emod_eq_of_lt a0 a1
theorem ovL_row (g r0 c0 : Int) (a nc : Nat) : ovL g r0 c0 (a + 1) nc = ovL g r0 c0 a nc ++ (List.range nc).map fun (b : Nat) => (r0 + a) * g + (c0 + b) := by
  unfold ovL
  rw [List.range_succ, List.flatMap_append]
  simp
set_option maxRecDepth 100000 in
set_option maxHeartbeats 8000000 in
theorem gover_in (W H TW TH x0 y0 x1 y1 : Int) (w : World) (h0 : grC W H TW TH = 0) (hx : 0 ≤ x0 ∧ x0 < x1 ∧ x1 ≤ W) (hy : 0 ≤ y0 ∧ y0 < y1 ∧ y1 ≤ H) :
    Calls Tryz.prog 46 #[grV W H TW TH, rc_rect4 x0 y0 x1 y1] w fun e w' => ∃ v, e = .returned v ∧ w'.ownsRow w.heap.size 3 1 v (ovR (grN W TW) TW TH x0 y0 x1 y1).length ((ovR (grN W TW) TW TH x0 y0 x1 y1).map (Value.int .i64)) ∧ Below w.heap.size w w' := by
  obtain ⟨hW, hH, hTW, hTH⟩ := grC_zero.1 h0
  obtain ⟨n0, n1, _⟩ := grN_bd hW hTW
  obtain ⟨m0, m1, _⟩ := grN_bd hH hTH
  obtain ⟨⟨a0, a1⟩, ⟨b0, b1⟩, _, _⟩ := tl_bd h0 (x := x0) (y := y0) ⟨by omega, by omega⟩ ⟨by omega, by omega⟩
  obtain ⟨⟨a2, a3⟩, ⟨b2, b3⟩, _, _⟩ := tl_bd h0 (x := x1 - 1) (y := y1 - 1) ⟨by omega, by omega⟩ ⟨by omega, by omega⟩
  obtain ⟨p1, p2⟩ := tl_parts h0 (x := x0) (y := y0) ⟨by omega, by omega⟩ ⟨by omega, by omega⟩
  obtain ⟨p3, p4⟩ := tl_parts h0 (x := x1 - 1) (y := y1 - 1) ⟨by omega, by omega⟩ ⟨by omega, by omega⟩
  have ale : x0 / TW ≤ (x1 - 1) / TW := Int.ediv_le_ediv (by omega) (by omega)
  have ble : y0 / TH ≤ (y1 - 1) / TH := Int.ediv_le_ediv (by omega) (by omega)
  obtain ⟨eb, ene⟩ := plboth_in (a := x0) (b := y0) (c := x1) (d := y1) hW hH ⟨hx.1, hx.2.1⟩ hx.2.2 ⟨hy.1, hy.2.1⟩ hy.2.2
  have hR := fun w' => gright_any W H TW TH w'
  rw [show (grC W H TW TH == 0) = true by simpa using h0] at hR
  have hWh := fun w' => gwhole_any W H TW TH w'
  have hBo := fun w' => both_any x0 y0 x1 y1 0 0 W H w'
  rw [eb] at hBo
  dsimp only [rcv] at hBo
  have hE := fun w' => rc_empty_any x0 y0 x1 y1 w'
  rw [decide_eq_false ene] at hE
  have hO1 := fun w' => gof_in W H TW TH x0 y0 w' h0 ⟨by omega, by omega⟩ ⟨by omega, by omega⟩
  have hO2 := fun w' => gof_in W H TW TH (x1 - 1) (y1 - 1) w' h0 ⟨by omega, by omega⟩ ⟨by omega, by omega⟩
  have hC := fun w' => gcols_any W H TW TH w' h0
  have v1 : wrap64 (x1 - 1) = x1 - 1 := IntWalk.wrap64_in _ ⟨by omega, by omega⟩
  have v2 : wrap64 (y1 - 1) = y1 - 1 := IntWalk.wrap64_in _ ⟨by omega, by omega⟩
  have hL := ((Lie.start w).alloc (grA W H TW TH) 71).alloc (rc_rectA x0 y0 x1 y1) 84
  simp only [World.size_alloc] at hL
  have k0 : Bk _ w.heap.size 71 (grA W H TW TH) := hL.k 1 (by simp)
  have k1 : Bk _ (w.heap.size + 1) 84 (rc_rectA x0 y0 x1 y1) := hL.k 0 (by simp)
  unfold ovR
  generalize tlI W TW TH x0 y0 = F at *
  generalize tlI W TW TH (x1 - 1) (y1 - 1) = L at *
  generalize x0 / TW = c0 at *
  generalize y0 / TH = r0 at *
  generalize (x1 - 1) / TW = c1 at *
  generalize (y1 - 1) / TH = r1 at *
  generalize grN H TH = gy at *
  generalize grN W TW = g at *
  clear h0 hW hH hTW hTH eb ene hx hy
  obtain ⟨nc, hnc⟩ : ∃ nc : Nat, (nc : Int) = c1 - c0 + 1 := ⟨(c1 - c0 + 1).toNat, by omega⟩
  obtain ⟨nr, hnr⟩ : ∃ nr : Nat, (nr : Int) = r1 - r0 + 1 := ⟨(r1 - r0 + 1).toNat, by omega⟩
  rw [show (r1 - r0 + 1).toNat = nr by omega, show (c1 - c0 + 1).toNat = nc by omega]
  have hnr1 : nr ≤ 36864 := by omega
  have hnc1 : nc ≤ 36864 := by omega
  have hnc2 : (nc : Int) ≤ c1 - c0 + 1 := by omega
  have hnc3 : c1 - c0 + 1 ≤ (nc : Int) := by omega
  have hnr2 : (nr : Int) ≤ r1 - r0 + 1 := by omega
  have hnr3 : r1 - r0 + 1 ≤ (nr : Int) := by omega
  clear hnc hnr
  have hb0 := hL.bel
  clear hL
  go_enter Tryz.func46, Tryz.ntmps46
  go_upto_region 3 with (first
    | (refine ldB rfl _ _ rfl k0 rfl Tryz.underlying71 rfl gr_size ?_)
    | (go_at_call 64; (with_reducible refine (hR _).mono ?_); rintro e w1 ⟨rfl, hb1⟩))
  have k01 := k0.nx hb1
  have k11 := k1.nx hb1
  have hb01 := hb0.trans (hb1.mono hb0.size)
  have x0' := fun (n : Nat) (os : Array Obj) => cell_regrown (k01.cell4.1) n os
  have x1' := fun (n : Nat) (os : Array Obj) => cell_regrown (k01.cell4.2.1) n os
  have x2' := fun (n : Nat) (os : Array Obj) => cell_regrown (k01.cell4.2.2.1) n os
  have x3' := fun (n : Nat) (os : Array Obj) => cell_regrown (k01.cell4.2.2.2) n os
  have y0' := fun (n : Nat) (os : Array Obj) => cell_regrown (k11.cell4.1) n os
  have y1' := fun (n : Nat) (os : Array Obj) => cell_regrown (k11.cell4.2.1) n os
  have y2' := fun (n : Nat) (os : Array Obj) => cell_regrown (k11.cell4.2.2.1) n os
  have y3' := fun (n : Nat) (os : Array Obj) => cell_regrown (k11.cell4.2.2.2) n os
  clear k0 k1 hb0 hb1 hR
  refine wp_region_quiet_tail 4 (by kernel_rfl) (by kernel_rfl) ?_
  simp only [List.take_succ_cons, List.take_zero, List.drop_succ_cons, List.drop_zero]
  repeat (first
    | go_big_quiet_step ((first | with_reducible exact quiet_below (hWh _) | with_reducible exact quiet_below (hBo _)))
    | quiet_step ((first | with_reducible exact quiet_below (hWh _) | with_reducible exact quiet_below (hBo _))))
  refine wpQuiet_nil ?_
  intro _ hw'
  obtain ⟨⟨d9, os⟩, hw''⟩ := hw'
  subst hw''
  have hbx := below_regrown w1 d9 os
  have k02 := k01.nx hbx
  have k12 := k11.nx hbx
  have hb02 := hb01.trans (hbx.mono hb01.size)
  clear x0' x1' x2' x3' y0' y1' y2' y3' k01 k11 hb01 hbx hWh hBo
  generalize Go.Sort.grow (redrawn w1 d9) os = w2 at *
  go_upto_region 4 with (refine stB (ty := 84) (cells := rc_rectA x0 y0 x1 y1) rfl _ _ rfl k12 rfl rfl rc_rect_size rfl (by simp [Value.oneCell']) ?_; intro w3 k13 hg3 hs3)
  have k03 := k02.grown hg3 (by simp)
  have hb03 : Below w.heap.size w w3 := below_of_gb hb02 hg3 (by omega) hb02.size
  clear k02 k12 hg3 hs3 hb02
  go_upto_region 6 with (first
    | (refine ldB rfl _ _ rfl k13 rfl Tryz.underlying84 rfl rc_rect_size ?_)
    | (go_at_call 67; (with_reducible refine (hE _).mono ?_); rintro e w4 ⟨rfl, hb4⟩))
  have k04 := k03.nx hb4
  have k14 := k13.nx hb4
  have hb04 := hb03.trans (hb4.mono hb03.size)
  obtain ⟨y0', y1', y2', y3'⟩ := k14.cell4
  clear k03 k13 hb4 hb03 hE
  go_upto_region 7 with (first
    | (refine ldB rfl _ _ rfl k04 rfl Tryz.underlying71 rfl gr_size ?_)
    | (go_at_call 68; (with_reducible refine (hO1 _).mono ?_); rintro e w5 ⟨rfl, hb5⟩))
  have k05 := k04.nx hb5
  have k15 := k14.nx hb5
  have hb05 := hb04.trans (hb5.mono hb04.size)
  clear y0' y1' y2' y3' k04 k14 hb5 hb04 hO1
  obtain ⟨y0', y1', y2', y3'⟩ := k15.cell4
  go_upto_region 8 with (first
    | (refine ldB rfl _ _ rfl k05 rfl Tryz.underlying71 rfl gr_size ?_)
    | (go_at_call 68; (with_reducible refine (hO2 _).mono ?_); rintro e w6 ⟨rfl, hb6⟩))
  have k06 := k05.nx hb6
  have hb06 := hb05.trans (hb6.mono hb05.size)
  clear y0' y1' y2' y3' k05 k15 hb6 hb05 hO2
  go_upto_region 10 with (first
    | (refine ldB rfl _ _ rfl k06 rfl Tryz.underlying71 rfl gr_size ?_)
    | (go_at_call 69; (with_reducible refine (hC _).mono ?_); rintro e w7 ⟨rfl, hb7⟩))
  have hb07 := hb06.trans (hb7.mono hb06.size)
  clear k06 hb7 hb06 hC
  have q1 : ¬ (g = 0) := by omega
  have q3 : (g == -1) = false := by simp; omega
  have q5 : (g == 0) = false := by simp; omega
  have v3 : wrap64 r0 = r0 := IntWalk.wrap64_in _ ⟨by omega, by omega⟩
  have v4 : wrap64 r1 = r1 := IntWalk.wrap64_in _ ⟨by omega, by omega⟩
  have v5 : wrap64 c0 = c0 := IntWalk.wrap64_in _ ⟨by omega, by omega⟩
  have v6 : wrap64 c1 = c1 := IntWalk.wrap64_in _ ⟨by omega, by omega⟩
  have hrow := ovL_row g r0 c0
  have HROW := Lib.hid hrow
  have hz7 := hb07.size
  clear hrow
  go_wp2_with fail
  go_loopw [10, 11] (fun v r wr => ∃ a : Nat, a ≤ nr ∧ r = .int .i64 (r0 + a) ∧ wr.ownsRow w7.heap.size 3 1 v (ovL g r0 c0 a nc).length ((ovL g r0 c0 a nc).map (Value.int .i64)) ∧ (ovL g r0 c0 a nc).length ≤ a * 36864 ∧ Below w7.heap.size w7 wr) (fun _ r _ => (r1 + 1 - intOf r).toNat)
  case atStart => exact ⟨0, by omega, by go_num, by simpa [ovL] using World.ownsRow_nil _ _ _ _, by simp [ovL], Below.refl _ _⟩
  case round =>
    obtain ⟨a, ha, rfl, hown, hlen, hbel⟩ := hrel
    by_cases hlt : a < nr
    · have hle : r0 + (a : Int) ≤ r1 := by omega
      have hR1 := Lib.hid (HROW.out a nc)
      obtain ⟨r, hr⟩ : ∃ r, r0 + (a : Int) = r := ⟨_, rfl⟩
      have hr0 : 0 ≤ r ∧ r < 36864 := by omega
      have HRR := Lib.hid hr
      rw [hr] at hle hR1 ⊢
      have hrg : r * g ≤ 36864 * 36864 := Int.mul_le_mul (by omega) n1 (by omega) (by omega)
      have hrg0 : 0 ≤ r * g := Int.mul_nonneg (by omega) (by omega)
      obtain ⟨rg, hrge⟩ : ∃ rg, r * g = rg := ⟨_, rfl⟩
      rw [hrge] at hrg hrg0 hR1
      have v7 : wrap64 rg = rg := IntWalk.wrap64_in _ ⟨by omega, by omega⟩
      have v8 : wrap64 (r + 1) = r + 1 := IntWalk.wrap64_in _ ⟨by omega, by omega⟩
      have hlen2 : (ovL g r0 c0 a nc).length ≤ 36864 * 36864 := Nat.le_trans hlen (Nat.mul_le_mul_right _ (by omega))
      have hRl : Hid ((ovL g r0 c0 (a + 1) nc).length ≤ (a + 1) * 36864) := by
        show _ ≤ _
        rw [hR1.out, List.length_append, List.length_map, List.length_range]; omega
      generalize ovL g r0 c0 a nc = L0 at *
      clear hr
      go_upto_region 13 with fail
      go_wp2_with fail
      go_loopw [10, 12] (fun v cc ws => ∃ b : Nat, b ≤ nc ∧ cc = .int .i64 (c0 + b) ∧ ws.ownsRow w7.heap.size 3 1 v (L0 ++ (List.range b).map fun (b : Nat) => rg + (c0 + b)).length ((L0 ++ (List.range b).map fun (b : Nat) => rg + (c0 + b)).map (Value.int .i64)) ∧ Below w7.heap.size w7 ws) (fun _ cc _ => (c1 + 1 - intOf cc).toNat)
      case atStart => exact ⟨0, by omega, by go_num, by simpa using hown, hbel⟩
      case round =>
        clear hown hbel
        obtain ⟨b, hb, rfl, hown, hbel⟩ := hrel
        by_cases hlb : b < nc
        · have hlc : c0 + (b : Int) ≤ c1 := by omega
          obtain ⟨cc, hcc⟩ : ∃ cc, c0 + (b : Int) = cc := ⟨_, rfl⟩
          have HCC := Lib.hid hcc
          have v9 : wrap64 (rg + cc) = rg + cc := IntWalk.wrap64_in _ ⟨by omega, by omega⟩
          have v10 : wrap64 (cc + 1) = cc + 1 := IntWalk.wrap64_in _ ⟨by omega, by omega⟩
          have hll : (L0 ++ (List.range b).map fun (b : Nat) => rg + (c0 + b)).length ≤ 36864 * 36864 + 36864 := by rw [List.length_append, List.length_map, List.length_range]; omega
          have hsn : (L0 ++ (List.range (b + 1)).map fun (b : Nat) => rg + (c0 + (b : Int))) = (L0 ++ (List.range b).map fun (b : Nat) => rg + (c0 + (b : Int))) ++ [rg + (c0 + (b : Int))] := by rw [List.range_succ, List.map_append, List.append_assoc]; rfl
          have HSN := Lib.hid hsn
          have hbz := hbel.size
          rw [hcc] at hlc ⊢
          clear hcc hsn
          generalize (L0 ++ (List.range b).map fun (b : Nat) => rg + (c0 + b)) = L1 at *
          go_wp2_with (at_builtin; refine app1 rfl _ _ _ rfl Tryz.underlying41 int_infoP rfl (by omega) rfl rfl hown hbel (Nat.le_refl _) hbz rfl (by simp [Value.oneCell']) (by omega) (by omega) ?_; intro v' w' hown' hbel' _ _ _; clear hown)
          have hfin : w'.ownsRow w7.heap.size 3 1 v' (L0 ++ (List.range (b + 1)).map fun (b : Nat) => rg + (c0 + b)).length ((L0 ++ (List.range (b + 1)).map fun (b : Nat) => rg + (c0 + b)).map (Value.int .i64)) := by
            rw [HSN.out, HCC.out, List.length_append, List.map_append]
            exact hown'
          have hcn : cc + 1 = c0 + ((b + 1 : Nat) : Int) := by have := HCC.out; omega
          first
            | exact ⟨⟨b + 1, by omega, by first | rw [v10, hcn] | rw [hcn]; done | go_num, hfin, hbel'⟩, by simp [intOf]; omega⟩
            | exact ⟨⟨b + 1, by omega, by first | rw [v10, hcn] | rw [hcn]; done | go_num, hfin⟩, by simp [intOf]; omega⟩
        · obtain rfl : b = nc := by omega
          have hlc : ¬ c0 + (b : Int) ≤ c1 := by omega
          rw [← hR1.out] at hown
          have hrn : r + 1 = r0 + ((a + 1 : Nat) : Int) := by have := HRR.out; omega
          go_wp2_with fail
          exact ⟨⟨a + 1, by omega, by first | (rw [hrn]; done) | go_num, hown, hRl.out, hbel⟩, by simp [intOf]; omega⟩
    · obtain rfl : a = nr := by omega
      have hle : ¬ r0 + (a : Int) ≤ r1 := by omega
      go_wp2_with fail
      go_returns
      exact ⟨_, rfl, own_base hown hz7, hb07.trans (hbel.mono hz7)⟩
end Go.Proofs.YtibmhabipghjlaaGreat
end
section
set_option linter.unusedVariables false
namespace Go.Proofs.YtibmhabipghjlaaGreat
open Go.RowKit
/-- A job, plain. -/
structure Jb where
  U0 : Int
  V0 : Int
  U1 : Int
  V1 : Int
  K : Int
  mo : Int
  c0 : Int
  c1 : Int
  c2 : Int
  c3 : Int
  W : Int
  H : Int
  L : Int
  TW : Int
  TH : Int
abbrev Jb.cells (j : Jb) : Array Value := #[.int .i64 j.U0, .int .i64 j.V0, .int .i64 j.U1, .int .i64 j.V1, .int .i64 j.K, .int .i64 j.mo, .int .u8 j.c0, .int .u8 j.c1, .int .u8 j.c2, .int .u8 j.c3, .int .i64 j.W, .int .i64 j.H, .int .i64 j.L, .int .i64 j.TW, .int .i64 j.TH]
theorem job_size : (Tryz.prog.info? 28).map (·.size) = some 15 := by kernel_rfl
theorem Bk.cellJ {w : World} {g : Nat} {t : TypeId} {j : Jb} (h : Bk w g t j.cells) : w.cell? ⟨g, 0, none⟩ = some (.int .i64 j.U0) ∧ w.cell? ⟨g, 1, none⟩ = some (.int .i64 j.V0) ∧ w.cell? ⟨g, 2, none⟩ = some (.int .i64 j.U1) ∧ w.cell? ⟨g, 3, none⟩ = some (.int .i64 j.V1) ∧ w.cell? ⟨g, 4, none⟩ = some (.int .i64 j.K) ∧ w.cell? ⟨g, 5, none⟩ = some (.int .i64 j.mo) ∧ w.cell? ⟨g, 6, none⟩ = some (.int .u8 j.c0) ∧ w.cell? ⟨g, 7, none⟩ = some (.int .u8 j.c1) ∧ w.cell? ⟨g, 8, none⟩ = some (.int .u8 j.c2) ∧ w.cell? ⟨g, 9, none⟩ = some (.int .u8 j.c3) ∧ w.cell? ⟨g, 10, none⟩ = some (.int .i64 j.W) ∧ w.cell? ⟨g, 11, none⟩ = some (.int .i64 j.H) ∧ w.cell? ⟨g, 12, none⟩ = some (.int .i64 j.L) ∧ w.cell? ⟨g, 13, none⟩ = some (.int .i64 j.TW) ∧ w.cell? ⟨g, 14, none⟩ = some (.int .i64 j.TH) :=
  ⟨h.cell 0, h.cell 1, h.cell 2, h.cell 3, h.cell 4, h.cell 5, h.cell 6, h.cell 7, h.cell 8, h.cell 9, h.cell 10, h.cell 11, h.cell 12, h.cell 13, h.cell 14⟩
set_option maxRecDepth 100000 in
set_option maxHeartbeats 4000000 in
theorem jgrid_any (j : Jb) (k : Nat) (w : World) (hk : k ≤ 15) (hW : 1 ≤ j.W ∧ j.W ≤ 32768) (hH : 1 ≤ j.H ∧ j.H ≤ 32768) : Calls Tryz.prog 24 #[.agg j.cells, .int .i64 k] w fun e w' => e = .returned (grV (szI k j.W) (szI k j.H) j.TW j.TH) ∧ Below w.heap.size w w' := by
  have hM := fun w' => msize_any j.W j.H k w' hk hW hH
  have hL := ((Lie.start w).alloc j.cells 28).alloc (grA 0 0 0 0) 71
  simp only [World.size_alloc] at hL
  have k0 : Bk _ w.heap.size 28 j.cells := hL.k 1 (by simp)
  have k1 : Bk _ (w.heap.size + 1) 71 (grA 0 0 0 0) := hL.k 0 (by simp)
  have hb0 := hL.bel
  obtain ⟨y0, y1, y2, y3, y4, y5, y6, y7, y8, y9, y10, y11, y12, y13, y14⟩ := k0.cellJ
  clear y0 y1 y2 y3 y4 y5 y6 y7 y8 y9 y12 hL
  by_cases hk0 : k = 0
  · subst hk0
    have hz : ¬ ((0 : Nat) : Int) > 0 := by omega
    simp only [szI]
    clear hM
    go_enter Tryz.func24, Tryz.ntmps24
    go_upto_region 1 with fail
    go_quiet ((fail))
    have k1d : Bk _ (w.heap.size + 1) 71 (grA 0 0 0 0) := k1.nx (below_drewN (Below.refl _ _) nq)
    have hbd := hb0.trans ((below_drewN (Below.refl _ _) nq).mono hb0.size)
    go_wp2_with (refine stB (ty := 71) (cells := grA j.W j.H j.TW j.TH) rfl _ _ rfl k1d rfl rfl gr_size rfl (by simp [Value.oneCell']) ?_; intro w' hK' hg' _)
    refine bodyPost_ret (res_cell rfl hK' rfl Tryz.underlying71 rfl gr_size) rfl ?_
    exact ⟨rfl, below_of_gb hbd hg' (by omega) hbd.size⟩
  · have hz : (k : Int) > 0 := by omega
    generalize szI k j.W = sw at *
    generalize szI k j.H = sh at *
    go_enter Tryz.func24, Tryz.ntmps24
    go_upto_region 1 with fail
    go_quiet ((fail))
    have k1d : Bk _ (w.heap.size + 1) 71 (grA 0 0 0 0) := k1.nx (below_drewN (Below.refl _ _) nq)
    have hbd := hb0.trans ((below_drewN (Below.refl _ _) nq).mono hb0.size)
    go_wp2_with (first
      | (go_at_call 41; (with_reducible refine (hM _).mono ?_); rintro e w3 ⟨rfl, rfl⟩)
      | (refine stB (ty := 71) (cells := grA sw sh j.TW j.TH) rfl _ _ rfl k1d rfl rfl gr_size rfl (by simp [Value.oneCell']) ?_; intro w' hK' hg' _))
    refine bodyPost_ret (res_cell rfl hK' rfl Tryz.underlying71 rfl gr_size) rfl ?_
    exact ⟨rfl, below_of_gb hbd hg' (by omega) hbd.size⟩
end Go.Proofs.YtibmhabipghjlaaGreat
end
section
set_option linter.unusedVariables false
namespace Go.Proofs.YtibmhabipghjlaaGreat
open Go.RowKit
theorem tdiv_floor (u : Int) : (Int.tmod u 65536 < 0 → Int.tdiv u 65536 - 1 = u / 65536) ∧ (¬ Int.tmod u 65536 < 0 → Int.tdiv u 65536 = u / 65536) := by
  rcases Int.lt_or_le u 0 with h | h
  · obtain ⟨v, rfl⟩ : ∃ v, u = -v := ⟨-u, by omega⟩
    have e1 : Int.tdiv (-v) 65536 = -(v / 65536) := by rw [Int.neg_tdiv, Int.tdiv_eq_ediv_of_nonneg (by omega)]
    have e2 : Int.tmod (-v) 65536 = -(v % 65536) := by rw [Int.neg_tmod, Int.tmod_eq_emod_of_nonneg (by omega)]
    rw [e1, e2]
    constructor <;> intro h2 <;> omega
  · have e1 : Int.tdiv u 65536 = u / 65536 := Int.tdiv_eq_ediv_of_nonneg h
    have e2 : Int.tmod u 65536 = u % 65536 := Int.tmod_eq_emod_of_nonneg h
    rw [e1, e2]
    constructor <;> intro h2 <;> omega
theorem rdown39 (u : Int) (w : World) (hu : -4611686018427387904 ≤ u ∧ u ≤ 4611686018427387904) : Calls Tryz.prog 73 #[.int .i64 u] w fun e w' => e = .returned (.int .i64 (u / 65536)) ∧ w = w' := by
  obtain ⟨h1, h2⟩ := tdiv_floor u
  by_cases hm : Int.tmod u 65536 < 0
  · have hd := h1 hm
    obtain ⟨q, hq⟩ : ∃ q, Int.tdiv u 65536 = q := ⟨_, rfl⟩
    obtain ⟨m, hmm⟩ : ∃ m, Int.tmod u 65536 = m := ⟨_, rfl⟩
    rw [hmm] at hm
    rw [hq] at hd
    have v1 : wrap64 q = q := IntWalk.wrap64_in _ ⟨by omega, by omega⟩
    have v2 : wrap64 (q - 1) = q - 1 := IntWalk.wrap64_in _ ⟨by omega, by omega⟩
    have v3 : wrap64 m = m := by rw [← hmm]; exact IntWalk.wrap64_in _ ⟨by have := Int.lt_tmod_of_pos u (show (0 : Int) < 65536 by omega); omega, by omega⟩
    have HD := Lib.hid hd
    clear h1 h2 hd
    go_enter Tryz.func73, Tryz.ntmps73
    go_wp2
    go_returns
    exact ⟨by show Ending.returned (Value.int .i64 (wrap64 (q - 1))) = _; rw [v2, HD.out], rfl⟩
  · have hd := h2 hm
    obtain ⟨q, hq⟩ : ∃ q, Int.tdiv u 65536 = q := ⟨_, rfl⟩
    obtain ⟨m, hmm⟩ : ∃ m, Int.tmod u 65536 = m := ⟨_, rfl⟩
    rw [hmm] at hm
    rw [hq] at hd
    have v1 : wrap64 q = q := IntWalk.wrap64_in _ ⟨by omega, by omega⟩
    have v3 : wrap64 m = m := by rw [← hmm]; exact IntWalk.wrap64_in _ ⟨by omega, by have := Int.tmod_lt_of_pos u (show (0 : Int) < 65536 by omega); omega⟩
    have HD := Lib.hid hd
    clear h1 h2 hd
    go_enter Tryz.func73, Tryz.ntmps73
    go_wp2
    go_returns
    exact ⟨by show Ending.returned (Value.int .i64 q) = _; rw [HD.out], rfl⟩
end Go.Proofs.YtibmhabipghjlaaGreat
end
section
set_option linter.unusedVariables false
namespace Go.Proofs.YtibmhabipghjlaaGreat
open Go.RowKit
def sNear : ByteArray := ⟨#[110, 101, 97, 114]⟩
def sLinear : ByteArray := ⟨#[108, 105, 110, 101, 97, 114]⟩
def sCubic : ByteArray := ⟨#[99, 117, 98, 105, 99]⟩
def sSuper : ByteArray := ⟨#[115, 117, 112, 101, 114]⟩
abbrev kerA : Array Value := #[.string sNear, .func (.func 53) #[] #[], .func (.func 54) #[] #[],
  .string sLinear, .func (.func 55) #[] #[], .func (.func 56) #[] #[],
  .string sCubic, .func (.func 57) #[] #[], .func (.func 58) #[] #[],
  .string sSuper, .func (.func 55) #[] #[], .func (.func 56) #[] #[]]
theorem ker_size : (Tryz.prog.info? 93).map (·.size) = some 12 := by kernel_rfl
theorem kernels_any (w : World) : Calls Tryz.prog 35 #[] w fun e w' => e = .returned (.agg kerA) ∧ Below w.heap.size w w' := by
  have hbz := (Below.refl w.heap.size w).alloc (Nat.le_refl _) (.cells #[.string ⟨#[]⟩, .nilFunc, .nilFunc, .string ⟨#[]⟩, .nilFunc, .nilFunc, .string ⟨#[]⟩, .nilFunc, .nilFunc, .string ⟨#[]⟩, .nilFunc, .nilFunc] 93)
  have hK := Bk.new w 93 #[.string ⟨#[]⟩, .nilFunc, .nilFunc, .string ⟨#[]⟩, .nilFunc, .nilFunc, .string ⟨#[]⟩, .nilFunc, .nilFunc, .string ⟨#[]⟩, .nilFunc, .nilFunc]
  go_enter Tryz.func35, Tryz.ntmps35
  go_wp2_with (refine stB (ty := 93) (cells := kerA) rfl _ _ rfl hK rfl rfl ker_size rfl (by simp [Value.oneCell']) ?_; intro w' hK' hg' _)
  refine bodyPost_ret (res_cell rfl hK' rfl Tryz.underlying93 rfl ker_size) rfl ?_
  exact ⟨rfl, below_of_gb hbz hg' (Nat.le_refl _) hbz.size⟩
theorem is_any (k : Int) (w : World) : Calls Tryz.prog 40 #[.int .i64 k] w fun e w' => e = .returned (.bool (decide (0 ≤ k ∧ k ≤ 3))) ∧ w = w' := by
  by_cases h : 0 ≤ k
  all_goals
    go_enter Tryz.func40, Tryz.ntmps40
    go_wp2
    go_returns
    exact ⟨ret_bool (by simp <;> omega), rfl⟩
theorem shr16' (x : Int) (s : Nat) (hs : s = 16) : x >>> s = x / 65536 := by
  subst hs; rw [Int.shiftRight_eq_div_pow]; rfl
def inF (u : Int) : Bool := decide (-70368744177664 ≤ u ∧ u ≤ 70368744177664)
theorem inF_eq (u : Int) : inF u = (decide (-70368744177664 ≤ u) && decide (u ≤ 70368744177664)) := by unfold inF; simp
theorem inF_iff {u : Int} : inF u = true ↔ (-70368744177664 ≤ u ∧ u ≤ 70368744177664) := by unfold inF; exact decide_eq_true_iff
def reachR (a b h lo hi : Int) : Int × Int := if lo ≤ hi ∧ inF lo = true ∧ inF hi = true then ((lo + h) / 65536 + a, (hi + h) / 65536 + b) else (0, 0)
theorem near_in (u : Int) (w : World) : Calls Tryz.prog 83 #[.int .i64 u] w fun e w' => e = .returned (.bool (inF u)) ∧ w = w' := by
  by_cases h1 : -70368744177664 ≤ u
  all_goals
    go_enter Tryz.func83, Tryz.ntmps83
    go_wp2
    go_ret
    exact ⟨ret_bool (by rw [inF_eq]; simp <;> omega), rfl⟩
theorem linear_in (u : Int) (w : World) : Calls Tryz.prog 85 #[.int .i64 u] w fun e w' => e = .returned (.bool (inF u)) ∧ w = w' := by
  by_cases h1 : -70368744177664 ≤ u
  all_goals
    go_enter Tryz.func85, Tryz.ntmps85
    go_wp2
    go_ret
    exact ⟨ret_bool (by rw [inF_eq]; simp <;> omega), rfl⟩
theorem cubic_in (u : Int) (w : World) : Calls Tryz.prog 89 #[.int .i64 u] w fun e w' => e = .returned (.bool (inF u)) ∧ w = w' := by
  by_cases h1 : -70368744177664 ≤ u
  all_goals
    go_enter Tryz.func89, Tryz.ntmps89
    go_wp2
    go_ret
    exact ⟨ret_bool (by rw [inF_eq]; simp <;> omega), rfl⟩
theorem near_index (u : Int) (w : World) (h1 : -70368744177664 ≤ u) (h2 : u ≤ 70368744177664) : Calls Tryz.prog 84 #[.int .i64 u] w fun e w' => e = .returned (.int .i64 ((u + 32768) / 65536)) ∧ w = w' := by
  go_enter Tryz.func84, Tryz.ntmps84
  go_wp2
  go_ret
  exact ⟨ret_int (by first | rfl | (simp [shr16'])), rfl⟩
theorem split_any (u : Int) (w : World) : Calls Tryz.prog 88 #[.int .i64 u] w fun e w' => (∃ r, e = .returned (.tuple #[.int .i64 (u / 65536), .int .i64 r])) ∧ w = w' := by
  go_enter Tryz.func88, Tryz.ntmps88
  go_wp2
  go_returns
  exact ⟨⟨_, by first | rfl | (rw [shr16' _ _ rfl])⟩, rfl⟩
set_option maxHeartbeats 1000000 in
theorem near_reach (lo hi : Int) (w : World) : Calls Tryz.prog 54 #[.int .i64 lo, .int .i64 hi] w fun e w' => e = .returned (.tuple #[.int .i64 (reachR 0 0 32768 lo hi).1, .int .i64 (reachR 0 0 32768 lo hi).2]) ∧ w = w' := by
  by_cases h0 : lo ≤ hi
  · cases h1 : inF lo
    · have HR : Hid (reachR 0 0 32768 lo hi = (0, 0)) := by show _ = _; unfold reachR; rw [if_neg (by rw [h1]; simp)]
      go_enter Tryz.func54, Tryz.ntmps54
      go_wp2_with (go_at_call 83; (with_reducible refine (near_in _ _).mono ?_); rintro e w' ⟨rfl, rfl⟩)
      go_returns
      exact ⟨by rw [HR.out]; rfl, rfl⟩
    · cases h2 : inF hi
      · have HR : Hid (reachR 0 0 32768 lo hi = (0, 0)) := by show _ = _; unfold reachR; rw [if_neg (by rw [h2]; simp)]
        go_enter Tryz.func54, Tryz.ntmps54
        go_wp2_with (go_at_call 83; (with_reducible refine (near_in _ _).mono ?_); rintro e w' ⟨rfl, rfl⟩)
        go_returns
        exact ⟨by rw [HR.out]; rfl, rfl⟩
      · have HR : Hid (reachR 0 0 32768 lo hi = ((lo + 32768) / 65536 + 0, (hi + 32768) / 65536 + 0)) := by show _ = _; unfold reachR; rw [if_pos ⟨h0, h1, h2⟩]
        have k1 := inF_iff.1 h1
        have k2 := inF_iff.1 h2
        obtain ⟨k1, k1'⟩ := k1
        obtain ⟨k2, k2'⟩ := k2
        have m1 : -1073741824 ≤ lo / 65536 := by omega
        have m2 : lo / 65536 ≤ 1073741824 := by omega
        have m3 : -1073741824 ≤ hi / 65536 := by omega
        have m4 : hi / 65536 ≤ 1073741824 := by omega
        go_enter Tryz.func54, Tryz.ntmps54
        go_wp2_with (first
          | (go_at_call 83; (with_reducible refine (near_in _ _).mono ?_); rintro e w' ⟨rfl, rfl⟩)
          | (go_at_call 84; (with_reducible refine (near_index _ _ (by omega) (by omega)).mono ?_); rintro e w' ⟨rfl, rfl⟩))
        go_returns
        exact ⟨by rw [HR.out]; first | rfl | (refine ret_t2 ?_ ?_ <;> (simp <;> omega)), rfl⟩
  · have HR : Hid (reachR 0 0 32768 lo hi = (0, 0)) := by show _ = _; unfold reachR; rw [if_neg (fun h => h0 h.1)]
    go_enter Tryz.func54, Tryz.ntmps54
    go_wp2_with (go_at_call 83; (with_reducible refine (near_in _ _).mono ?_); rintro e w' ⟨rfl, rfl⟩)
    go_returns
    exact ⟨by rw [HR.out]; rfl, rfl⟩
set_option maxHeartbeats 1000000 in
theorem linear_reach (lo hi : Int) (w : World) : Calls Tryz.prog 56 #[.int .i64 lo, .int .i64 hi] w fun e w' => e = .returned (.tuple #[.int .i64 (reachR 0 1 0 lo hi).1, .int .i64 (reachR 0 1 0 lo hi).2]) ∧ w = w' := by
  by_cases h0 : lo ≤ hi
  · cases h1 : inF lo
    · have HR : Hid (reachR 0 1 0 lo hi = (0, 0)) := by show _ = _; unfold reachR; rw [if_neg (by rw [h1]; simp)]
      go_enter Tryz.func56, Tryz.ntmps56
      go_wp2_with (go_at_call 85; (with_reducible refine (linear_in _ _).mono ?_); rintro e w' ⟨rfl, rfl⟩)
      go_returns
      exact ⟨by rw [HR.out]; rfl, rfl⟩
    · cases h2 : inF hi
      · have HR : Hid (reachR 0 1 0 lo hi = (0, 0)) := by show _ = _; unfold reachR; rw [if_neg (by rw [h2]; simp)]
        go_enter Tryz.func56, Tryz.ntmps56
        go_wp2_with (go_at_call 85; (with_reducible refine (linear_in _ _).mono ?_); rintro e w' ⟨rfl, rfl⟩)
        go_returns
        exact ⟨by rw [HR.out]; rfl, rfl⟩
      · have HR : Hid (reachR 0 1 0 lo hi = ((lo + 0) / 65536 + 0, (hi + 0) / 65536 + 1)) := by show _ = _; unfold reachR; rw [if_pos ⟨h0, h1, h2⟩]
        have k1 := inF_iff.1 h1
        have k2 := inF_iff.1 h2
        obtain ⟨k1, k1'⟩ := k1
        obtain ⟨k2, k2'⟩ := k2
        have m1 : -1073741824 ≤ lo / 65536 := by omega
        have m2 : lo / 65536 ≤ 1073741824 := by omega
        have m3 : -1073741824 ≤ hi / 65536 := by omega
        have m4 : hi / 65536 ≤ 1073741824 := by omega
        go_enter Tryz.func56, Tryz.ntmps56
        go_wp2_with (first
          | (go_at_call 85; (with_reducible refine (linear_in _ _).mono ?_); rintro e w' ⟨rfl, rfl⟩)
          | (go_at_call 88; (with_reducible refine (split_any _ _).mono ?_); rintro e w' ⟨⟨r, rfl⟩, rfl⟩))
        go_returns
        exact ⟨by rw [HR.out]; first | rfl | (refine ret_t2 ?_ ?_ <;> (simp <;> omega)), rfl⟩
  · have HR : Hid (reachR 0 1 0 lo hi = (0, 0)) := by show _ = _; unfold reachR; rw [if_neg (fun h => h0 h.1)]
    go_enter Tryz.func56, Tryz.ntmps56
    go_wp2_with (go_at_call 85; (with_reducible refine (linear_in _ _).mono ?_); rintro e w' ⟨rfl, rfl⟩)
    go_returns
    exact ⟨by rw [HR.out]; rfl, rfl⟩
set_option maxHeartbeats 1000000 in
theorem cubic_reach (lo hi : Int) (w : World) : Calls Tryz.prog 58 #[.int .i64 lo, .int .i64 hi] w fun e w' => e = .returned (.tuple #[.int .i64 (reachR (-1) 2 0 lo hi).1, .int .i64 (reachR (-1) 2 0 lo hi).2]) ∧ w = w' := by
  by_cases h0 : lo ≤ hi
  · cases h1 : inF lo
    · have HR : Hid (reachR (-1) 2 0 lo hi = (0, 0)) := by show _ = _; unfold reachR; rw [if_neg (by rw [h1]; simp)]
      go_enter Tryz.func58, Tryz.ntmps58
      go_wp2_with (go_at_call 89; (with_reducible refine (cubic_in _ _).mono ?_); rintro e w' ⟨rfl, rfl⟩)
      go_returns
      exact ⟨by rw [HR.out]; rfl, rfl⟩
    · cases h2 : inF hi
      · have HR : Hid (reachR (-1) 2 0 lo hi = (0, 0)) := by show _ = _; unfold reachR; rw [if_neg (by rw [h2]; simp)]
        go_enter Tryz.func58, Tryz.ntmps58
        go_wp2_with (go_at_call 89; (with_reducible refine (cubic_in _ _).mono ?_); rintro e w' ⟨rfl, rfl⟩)
        go_returns
        exact ⟨by rw [HR.out]; rfl, rfl⟩
      · have HR : Hid (reachR (-1) 2 0 lo hi = ((lo + 0) / 65536 + (-1), (hi + 0) / 65536 + 2)) := by show _ = _; unfold reachR; rw [if_pos ⟨h0, h1, h2⟩]
        have k1 := inF_iff.1 h1
        have k2 := inF_iff.1 h2
        obtain ⟨k1, k1'⟩ := k1
        obtain ⟨k2, k2'⟩ := k2
        have m1 : -1073741824 ≤ lo / 65536 := by omega
        have m2 : lo / 65536 ≤ 1073741824 := by omega
        have m3 : -1073741824 ≤ hi / 65536 := by omega
        have m4 : hi / 65536 ≤ 1073741824 := by omega
        go_enter Tryz.func58, Tryz.ntmps58
        go_wp2_with (first
          | (go_at_call 89; (with_reducible refine (cubic_in _ _).mono ?_); rintro e w' ⟨rfl, rfl⟩)
          | (go_at_call 88; (with_reducible refine (split_any _ _).mono ?_); rintro e w' ⟨⟨r, rfl⟩, rfl⟩))
        go_returns
        exact ⟨by rw [HR.out]; first | rfl | (refine ret_t2 ?_ ?_ <;> (simp <;> omega)), rfl⟩
  · have HR : Hid (reachR (-1) 2 0 lo hi = (0, 0)) := by show _ = _; unfold reachR; rw [if_neg (fun h => h0 h.1)]
    go_enter Tryz.func58, Tryz.ntmps58
    go_wp2_with (go_at_call 89; (with_reducible refine (cubic_in _ _).mono ?_); rintro e w' ⟨rfl, rfl⟩)
    go_returns
    exact ⟨by rw [HR.out]; rfl, rfl⟩
theorem ker_ix0 (w : World) : (Instr.index 93 (.agg kerA) (.int .i64 0)).run Tryz.prog w = .ok (.agg #[.string sNear, .func (.func 53) #[] #[], .func (.func 54) #[] #[]]) w := by kernel_rfl
theorem ker_ix1 (w : World) : (Instr.index 93 (.agg kerA) (.int .i64 1)).run Tryz.prog w = .ok (.agg #[.string sLinear, .func (.func 55) #[] #[], .func (.func 56) #[] #[]]) w := by kernel_rfl
theorem ker_ix2 (w : World) : (Instr.index 93 (.agg kerA) (.int .i64 2)).run Tryz.prog w = .ok (.agg #[.string sCubic, .func (.func 57) #[] #[], .func (.func 58) #[] #[]]) w := by kernel_rfl
theorem ker_ix3 (w : World) : (Instr.index 93 (.agg kerA) (.int .i64 3)).run Tryz.prog w = .ok (.agg #[.string sSuper, .func (.func 55) #[] #[], .func (.func 56) #[] #[]]) w := by kernel_rfl
theorem ker_f0 (a b c : Value) (w : World) : (Instr.field 92 (.agg #[a, b, c]) 0).run Tryz.prog w = .ok a w := by kernel_rfl
theorem ker_f2 (a b c : Value) (w : World) : (Instr.field 92 (.agg #[a, b, c]) 2).run Tryz.prog w = .ok c w := by kernel_rfl
def nameR (k : Int) : ByteArray := if k = 0 then sNear else if k = 1 then sLinear else if k = 2 then sCubic else if k = 3 then sSuper else ⟨#[]⟩
set_option maxHeartbeats 1000000 in
theorem name_any (k : Int) (w : World) : Calls Tryz.prog 21 #[.int .i64 k] w fun e w' => e = .returned (.string (nameR k)) ∧ Below w.heap.size w w' := by
  by_cases h : 0 ≤ k ∧ k ≤ 3
  · have hd : decide (0 ≤ k ∧ k ≤ 3) = true := decide_eq_true h
    have h4 : k = 0 ∨ k = 1 ∨ k = 2 ∨ k = 3 := by omega
    clear h
    rcases h4 with rfl | rfl | rfl | rfl
    · have hi := ker_ix0
      have hf := ker_f0
      go_enter Tryz.func21, Tryz.ntmps21
      go_wp2_with (first
        | (go_at_call 40; (with_reducible refine (is_any _ _).mono ?_); rintro e w' ⟨rfl, rfl⟩; rw [hd])
        | (go_at_call 35; (with_reducible refine (kernels_any _).mono ?_); rintro e w1 ⟨rfl, hb1⟩))
      go_returns
      exact ⟨rfl, hb1⟩
    · have hi := ker_ix1
      have hf := ker_f0
      go_enter Tryz.func21, Tryz.ntmps21
      go_wp2_with (first
        | (go_at_call 40; (with_reducible refine (is_any _ _).mono ?_); rintro e w' ⟨rfl, rfl⟩; rw [hd])
        | (go_at_call 35; (with_reducible refine (kernels_any _).mono ?_); rintro e w1 ⟨rfl, hb1⟩))
      go_returns
      exact ⟨rfl, hb1⟩
    · have hi := ker_ix2
      have hf := ker_f0
      go_enter Tryz.func21, Tryz.ntmps21
      go_wp2_with (first
        | (go_at_call 40; (with_reducible refine (is_any _ _).mono ?_); rintro e w' ⟨rfl, rfl⟩; rw [hd])
        | (go_at_call 35; (with_reducible refine (kernels_any _).mono ?_); rintro e w1 ⟨rfl, hb1⟩))
      go_returns
      exact ⟨rfl, hb1⟩
    · have hi := ker_ix3
      have hf := ker_f0
      go_enter Tryz.func21, Tryz.ntmps21
      go_wp2_with (first
        | (go_at_call 40; (with_reducible refine (is_any _ _).mono ?_); rintro e w' ⟨rfl, rfl⟩; rw [hd])
        | (go_at_call 35; (with_reducible refine (kernels_any _).mono ?_); rintro e w1 ⟨rfl, hb1⟩))
      go_returns
      exact ⟨rfl, hb1⟩
  · have hd : decide (0 ≤ k ∧ k ≤ 3) = false := decide_eq_false h
    have HN : Hid (nameR k = ⟨#[]⟩) := by show _ = _; unfold nameR; rw [if_neg (by omega), if_neg (by omega), if_neg (by omega), if_neg (by omega)]
    clear h
    go_enter Tryz.func21, Tryz.ntmps21
    go_wp2_with (go_at_call 40; (with_reducible refine (is_any _ _).mono ?_); rintro e w' ⟨rfl, rfl⟩; rw [hd])
    go_returns
    exact ⟨by rw [HN.out]; rfl, Below.refl _ _⟩
def sreachR (k lo hi : Int) : Int × Int := if k = 0 then reachR 0 0 32768 lo hi else if k = 1 then reachR 0 1 0 lo hi else if k = 2 then reachR (-1) 2 0 lo hi else if k = 3 then reachR 0 1 0 lo hi else (0, 0)
set_option maxHeartbeats 1000000 in
theorem sreach_any (k lo hi : Int) (w : World) : Calls Tryz.prog 62 #[.int .i64 k, .int .i64 lo, .int .i64 hi] w fun e w' => e = .returned (.tuple #[.int .i64 (sreachR k lo hi).1, .int .i64 (sreachR k lo hi).2]) ∧ Below w.heap.size w w' := by
  by_cases h : 0 ≤ k ∧ k ≤ 3
  · have hd : decide (0 ≤ k ∧ k ≤ 3) = true := decide_eq_true h
    have h4 : k = 0 ∨ k = 1 ∨ k = 2 ∨ k = 3 := by omega
    clear h
    rcases h4 with rfl | rfl | rfl | rfl
    · have hi' := ker_ix0
      have hf := ker_f2
      go_enter Tryz.func62, Tryz.ntmps62
      go_wp2_with (first
        | (go_at_call 40; (with_reducible refine (is_any _ _).mono ?_); rintro e w' ⟨rfl, rfl⟩; rw [hd])
        | (go_at_call 35; (with_reducible refine (kernels_any _).mono ?_); rintro e w1 ⟨rfl, hb1⟩)
        | ((with_reducible refine (near_reach _ _ _).mono ?_); rintro e w' ⟨rfl, rfl⟩))
      go_returns
      exact ⟨rfl, hb1⟩
    · have hi' := ker_ix1
      have hf := ker_f2
      go_enter Tryz.func62, Tryz.ntmps62
      go_wp2_with (first
        | (go_at_call 40; (with_reducible refine (is_any _ _).mono ?_); rintro e w' ⟨rfl, rfl⟩; rw [hd])
        | (go_at_call 35; (with_reducible refine (kernels_any _).mono ?_); rintro e w1 ⟨rfl, hb1⟩)
        | ((with_reducible refine (linear_reach _ _ _).mono ?_); rintro e w' ⟨rfl, rfl⟩))
      go_returns
      exact ⟨rfl, hb1⟩
    · have hi' := ker_ix2
      have hf := ker_f2
      go_enter Tryz.func62, Tryz.ntmps62
      go_wp2_with (first
        | (go_at_call 40; (with_reducible refine (is_any _ _).mono ?_); rintro e w' ⟨rfl, rfl⟩; rw [hd])
        | (go_at_call 35; (with_reducible refine (kernels_any _).mono ?_); rintro e w1 ⟨rfl, hb1⟩)
        | ((with_reducible refine (cubic_reach _ _ _).mono ?_); rintro e w' ⟨rfl, rfl⟩))
      go_returns
      exact ⟨rfl, hb1⟩
    · have hi' := ker_ix3
      have hf := ker_f2
      go_enter Tryz.func62, Tryz.ntmps62
      go_wp2_with (first
        | (go_at_call 40; (with_reducible refine (is_any _ _).mono ?_); rintro e w' ⟨rfl, rfl⟩; rw [hd])
        | (go_at_call 35; (with_reducible refine (kernels_any _).mono ?_); rintro e w1 ⟨rfl, hb1⟩)
        | ((with_reducible refine (linear_reach _ _ _).mono ?_); rintro e w' ⟨rfl, rfl⟩))
      go_returns
      exact ⟨rfl, hb1⟩
  · have hd : decide (0 ≤ k ∧ k ≤ 3) = false := decide_eq_false h
    have HN : Hid (sreachR k lo hi = (0, 0)) := by show _ = _; unfold sreachR; rw [if_neg (by omega), if_neg (by omega), if_neg (by omega), if_neg (by omega)]
    clear h
    go_enter Tryz.func62, Tryz.ntmps62
    go_wp2_with (go_at_call 40; (with_reducible refine (is_any _ _).mono ?_); rintro e w' ⟨rfl, rfl⟩; rw [hd])
    go_returns
    exact ⟨by rw [HN.out]; rfl, Below.refl _ _⟩
end Go.Proofs.YtibmhabipghjlaaGreat
end
section
set_option linter.unusedVariables false
namespace Go.Proofs.YtibmhabipghjlaaGreat
open Go.RowKit
theorem rnearest39 (u : Int) (w : World) (hu : -4611686018427355136 ≤ u ∧ u ≤ 4611686018427355136) : Calls Tryz.prog 72 #[.int .i64 u] w fun e w' => e = .returned (.int .i64 ((u + 32768) / 65536)) ∧ w = w' := by
  have hD := rdown39 (u + 32768) w ⟨by omega, by omega⟩
  have v1 : wrap64 (u + 32768) = u + 32768 := IntWalk.wrap64_in _ ⟨by omega, by omega⟩
  generalize (u + 32768) / 65536 = q at *
  go_enter Tryz.func72, Tryz.ntmps72
  go_wp2_with (go_at_call 73; (with_reducible refine hD.mono ?_); rintro e w1 ⟨rfl, rfl⟩)
  go_returns
  exact ⟨rfl, rfl⟩
theorem rreach39 (k lo hi : Int) (w : World) (hk : 0 ≤ k ∧ k ≤ 3) (hle : lo ≤ hi) (hl : -70368744177664 ≤ lo ∧ lo ≤ 70368744177664) (hh : -70368744177664 ≤ hi ∧ hi ≤ 70368744177664) (e1 : inF lo = true) (e2 : inF hi = true) :
    Calls Tryz.prog 49 #[.int .i64 k, .int .i64 lo, .int .i64 hi] w fun e w' => e = .returned (.tuple #[.int .i64 (sreachR k lo hi).1, .int .i64 (sreachR k lo hi).2]) ∧ w = w' := by
  have hN1 := rnearest39 lo w ⟨by omega, by omega⟩
  have hN2 := rnearest39 hi w ⟨by omega, by omega⟩
  have hD1 := rdown39 lo w ⟨by omega, by omega⟩
  have hD2 := rdown39 hi w ⟨by omega, by omega⟩
  have hR : ∀ a b h : Int, reachR a b h lo hi = ((lo + h) / 65536 + a, (hi + h) / 65536 + b) := fun a b h => if_pos ⟨hle, e1, e2⟩
  unfold sreachR
  simp only [hR]
  rcases (show k = 0 ∨ k = 2 ∨ k = 1 ∨ k = 3 by omega) with rfl | rfl | rfl | rfl
  · simp only [if_true, Int.add_zero]
    generalize (lo + 32768) / 65536 = p at *
    generalize (hi + 32768) / 65536 = q at *
    clear hR e1 e2
    go_enter Tryz.func49, Tryz.ntmps49
    go_wp2_with (first
      | (go_at_call 72; (with_reducible refine hN1.mono ?_); rintro e w1 ⟨rfl, rfl⟩)
      | (go_at_call 72; (with_reducible refine hN2.mono ?_); rintro e w1 ⟨rfl, rfl⟩))
    go_returns
    exact ⟨rfl, rfl⟩
  all_goals
    simp only [Int.add_zero, show ¬ (2 : Int) = 0 by omega, show ¬ (2 : Int) = 1 by omega, show ¬ (1 : Int) = 0 by omega, show ¬ (3 : Int) = 0 by omega, show ¬ (3 : Int) = 1 by omega, show ¬ (3 : Int) = 2 by omega, if_true, if_false]
    have b1 : -1073741824 ≤ lo / 65536 ∧ lo / 65536 ≤ 1073741824 := by omega
    have b2 : -1073741824 ≤ hi / 65536 ∧ hi / 65536 ≤ 1073741824 := by omega
    generalize lo / 65536 = p at *
    generalize hi / 65536 = q at *
    have v1 : wrap64 (p - 1) = p - 1 := IntWalk.wrap64_in _ ⟨by omega, by omega⟩
    have v2 : wrap64 (q + 2) = q + 2 := IntWalk.wrap64_in _ ⟨by omega, by omega⟩
    have v3 : wrap64 (q + 1) = q + 1 := IntWalk.wrap64_in _ ⟨by omega, by omega⟩
    clear hR e1 e2 hN1 hN2
    go_enter Tryz.func49, Tryz.ntmps49
    go_wp2_with (first
      | (go_at_call 73; (with_reducible refine hD1.mono ?_); rintro e w1 ⟨rfl, rfl⟩)
      | (go_at_call 73; (with_reducible refine hD2.mono ?_); rintro e w1 ⟨rfl, rfl⟩))
    go_returns
    exact ⟨by first | rfl | (simp; omega), rfl⟩
end Go.Proofs.YtibmhabipghjlaaGreat
end
section
set_option linter.unusedVariables false
namespace Go.Proofs.YtibmhabipghjlaaGreat
open Go.RowKit
theorem pfar_any (u : Int) (w : World) : Calls Tryz.prog 27 #[.int .i64 u] w fun e w' => e = .returned (.bool (!inF u)) ∧ w = w' := by
  by_cases h1 : u < -70368744177664
  · have HF : Hid (inF u = false) := by show _ = _; unfold inF; simp; omega
    go_enter Tryz.func27, Tryz.ntmps27
    go_wp2
    go_returns
    exact ⟨ret_bool (by rw [HF.out]; rfl), rfl⟩
  · by_cases h2 : u > 70368744177664
    · have HF : Hid (inF u = false) := by show _ = _; unfold inF; simp; omega
      go_enter Tryz.func27, Tryz.ntmps27
      go_wp2
      go_returns
      exact ⟨ret_bool (by rw [HF.out]; rfl), rfl⟩
    · have HF : Hid (inF u = true) := by show _ = _; unfold inF; simp; omega
      go_enter Tryz.func27, Tryz.ntmps27
      go_wp2
      go_returns
      exact ⟨ret_bool (by rw [HF.out]; rfl), rfl⟩
set_option maxHeartbeats 4000000 in
theorem ixf_plan (p : Int → Bool) (hF : ∀ x w', Calls Tryz.prog 27 #[.int .i64 x] w' fun e w'' => e = .returned (.bool (p x)) ∧ w' = w'') (l : List Int) (A : Option Addr) (n cp : Nat) (w : World) {B : Nat} (hl : l.length = n) (hn : n ≤ 100000) (hr : Rd w B A (l.map (Value.int .i64))) :
    Calls Tryz.prog 43 #[.slice A n cp, .func (.func 27) #[] #[]] w fun e w' => (∃ r, e = .returned (.int .i64 r) ∧ decide (0 ≤ r) = l.any p) ∧ w = w' := by
  have HL := Lib.hid hl
  clear hl
  go_enter Tryz.func43, Tryz.ntmps43
  go_wp2_with fail
  go_loop [5, 8] (fun _ kv => ∃ k : Nat, k ≤ n ∧ kv = .int .i64 k ∧ Hid ((l.take k).any p = false)) (fun _ kv => n - (intOf kv).toNat)
  case atStart => exact ⟨0, by omega, rfl, by simp [Hid]⟩
  case round =>
    obtain ⟨k, hk, rfl, hall⟩ := hrel
    by_cases hlt : k < n
    · obtain ⟨b, o, rfl, hb, hc⟩ := hr.get k (by rw [List.length_map, HL.out]; exact hlt)
      have hx : (l.map (Value.int .i64))[k]'(by rw [List.length_map, HL.out]; exact hlt) = .int .i64 (l.getD k 0) := by
        rw [List.getElem_map, List.getD_eq_getElem?_getD, List.getElem?_eq_getElem (by rw [HL.out]; exact hlt)]; rfl
      rw [hx] at hc
      clear hx
      have hS : Hid (l.take (k + 1) = l.take k ++ [l.getD k 0]) := by
        show _ = _
        rw [List.take_succ_eq_append_getElem (by rw [HL.out]; exact hlt), List.getD_eq_getElem?_getD, List.getElem?_eq_getElem (by rw [HL.out]; exact hlt)]; rfl
      cases hp : p (l.getD k 0)
      · have HN : Hid ((l.take (k + 1)).any p = false) := by
          show _ = _
          rw [hS.out, List.any_append, hall.out]; simp only [List.any_cons, List.any_nil, hp, Bool.or_false]
        generalize l.getD k 0 = x at *
        have hFx := hF x
        rw [hp] at hFx
        clear hF hS
        go_wp2_with fail
        refine (hFx _).mono ?_
        rintro e w' ⟨rfl, rfl⟩
        go_wp2_with fail
        exact ⟨⟨k + 1, by omega, by go_num, HN⟩, by simp [intOf]; omega⟩
      · have HN : Hid (l.any p = true) := by
          show _ = _
          rw [← List.take_append_drop (k + 1) l, List.any_append, hS.out, List.any_append]; simp only [List.any_cons, List.any_nil, hp, Bool.or_false, Bool.or_true, Bool.true_or]
        generalize l.getD k 0 = x at *
        have hFx := hF x
        rw [hp] at hFx
        clear hF hS
        go_wp2_with fail
        refine (hFx _).mono ?_
        rintro e w' ⟨rfl, rfl⟩
        go_wp2_with fail
        go_returns
        exact ⟨⟨_, rfl, by rw [HN.out]; simp⟩, rfl⟩
    · obtain rfl : k = n := by omega
      have HN : Hid (l.any p = false) := by
        have := hall.out
        rw [List.take_of_length_le (by rw [HL.out]; exact Nat.le_refl _)] at this
        exact this
      clear hF
      go_wp2_with fail
      go_returns
      exact ⟨⟨_, rfl, by rw [HN.out]; simp⟩, rfl⟩
set_option maxHeartbeats 1000000 in
theorem ctf_plan (p : Int → Bool) (hF : ∀ x w', Calls Tryz.prog 27 #[.int .i64 x] w' fun e w'' => e = .returned (.bool (p x)) ∧ w' = w'') (l : List Int) (A : Option Addr) (n cp : Nat) (w : World) {B : Nat} (hl : l.length = n) (hn : n ≤ 100000) (hr : Rd w B A (l.map (Value.int .i64))) :
    Calls Tryz.prog 26 #[.slice A n cp, .func (.func 27) #[] #[]] w fun e w' => e = .returned (.bool (l.any p)) ∧ w = w' := by
  have hI := ixf_plan p hF l A n cp w hl hn hr
  clear hF hl hr
  generalize l.any p = bb at *
  go_enter Tryz.func26, Tryz.ntmps26
  go_wp2_with fail
  refine hI.mono ?_
  rintro e w1 ⟨⟨r, rfl, hb⟩, rfl⟩
  have HB := Lib.hid hb
  clear hb hI
  go_wp2_with fail
  go_ret
  exact ⟨ret_bool HB.out, rfl⟩
end Go.Proofs.YtibmhabipghjlaaGreat
end
section
set_option linter.unusedVariables false
namespace Go.Proofs.YtibmhabipghjlaaGreat
open Go.RowKit
set_option maxRecDepth 100000 in
set_option maxHeartbeats 4000000 in
theorem jgrid0 (j : Jb) (w : World) : Calls Tryz.prog 24 #[.agg j.cells, .int .i64 0] w fun e w' => e = .returned (grV j.W j.H j.TW j.TH) ∧ Below w.heap.size w w' := by
  have hL := ((Lie.start w).alloc j.cells 28).alloc (grA 0 0 0 0) 71
  simp only [World.size_alloc] at hL
  have k0 : Bk _ w.heap.size 28 j.cells := hL.k 1 (by simp)
  have k1 : Bk _ (w.heap.size + 1) 71 (grA 0 0 0 0) := hL.k 0 (by simp)
  have hb0 := hL.bel
  obtain ⟨y0, y1, y2, y3, y4, y5, y6, y7, y8, y9, y10, y11, y12, y13, y14⟩ := k0.cellJ
  clear y0 y1 y2 y3 y4 y5 y6 y7 y8 y9 y12 hL
  have hz : ¬ (0 : Int) > 0 := by omega
  go_enter Tryz.func24, Tryz.ntmps24
  go_upto_region 1 with fail
  go_quiet ((fail))
  have k1d : Bk _ (w.heap.size + 1) 71 (grA 0 0 0 0) := k1.nx (below_drewN (Below.refl _ _) nq)
  have hbd := hb0.trans ((below_drewN (Below.refl _ _) nq).mono hb0.size)
  go_wp2_with (refine stB (ty := 71) (cells := grA j.W j.H j.TW j.TH) rfl _ _ rfl k1d rfl rfl gr_size rfl (by simp [Value.oneCell']) ?_; intro w' hK' hg' _)
  refine bodyPost_ret (res_cell rfl hK' rfl Tryz.underlying71 rfl gr_size) rfl ?_
  exact ⟨rfl, below_of_gb hbd hg' (by omega) hbd.size⟩
abbrev boA (mo c0 c1 c2 c3 : Int) : Array Value := #[.int .i64 mo, .int .u8 c0, .int .u8 c1, .int .u8 c2, .int .u8 c3]
abbrev boV (mo c0 c1 c2 c3 : Int) : Value := .agg (boA mo c0 c1 c2 c3)
def boC (mo : Int) : Int := if mo < 0 ∨ 3 < mo then 10 else 0
set_option maxHeartbeats 1000000 in
theorem bochk_any (mo c0 c1 c2 c3 : Int) (w : World) : Calls Tryz.prog 22 #[boV mo c0 c1 c2 c3] w fun e w' => e = .returned (.int .i64 (boC mo)) ∧ Below w.heap.size w w' := by
  have hb := (Below.refl w.heap.size w).alloc (Nat.le_refl _) (.cells (boA mo c0 c1 c2 c3) 26)
  have hc : (mo < 0 ∧ Hid (boC mo = 10)) ∨ (0 ≤ mo ∧ 3 < mo ∧ Hid (boC mo = 10)) ∨ (0 ≤ mo ∧ mo ≤ 3 ∧ Hid (boC mo = 0)) := by unfold boC Hid; by_cases h1 : mo < 0 <;> by_cases h2 : 3 < mo <;> simp [h1, h2] <;> omega
  rcases hc with ⟨h1, HE⟩ | ⟨h1, h2, HE⟩ | ⟨h1, h2, HE⟩
  all_goals
    go_enter Tryz.func22, Tryz.ntmps22
    go_wp2_with fail
    go_returns
    exact ⟨by rw [HE.out]; rfl, hb⟩
theorem rin18 (a : Int) (w : World) : Calls Tryz.prog 16 #[.int .i64 a, .int .i64 70368744177664] w fun e w' => e = .returned (.bool (inF a)) ∧ Below w.heap.size w w' := by
  have HI := Lib.hid (show inF a = decide (-70368744177664 ≤ a ∧ a ≤ 70368744177664) from rfl)
  by_cases h1 : -70368744177664 ≤ a
  all_goals
    go_enter Tryz.func16, Tryz.ntmps16
    go_wp2
    go_returns
    exact ⟨ret_bool (by rw [HI.out]; simp [h1] <;> omega), by first | exact Below.refl _ _ | go_grown⟩
def farL (j : Jb) : Bool := [j.U0, j.V0, j.U1, j.V1].any fun u => !inF u
/-- What is wrong with a job. -/
def plC (j : Jb) : Int :=
  if j.K < 0 ∨ 3 < j.K then 10 else if boC j.mo ≠ 0 then boC j.mo else if grC j.W j.H j.TW j.TH ≠ 0 then grC j.W j.H j.TW j.TH
  else if j.L < 1 ∨ cntI 15 j.W j.H < j.L then 11 else if farL j = true ∨ j.U1 < j.U0 ∨ j.V1 < j.V0 then 11 else 0
theorem plC_cases (j : Jb) : ((j.K < 0 ∨ 3 < j.K) ∧ plC j = 10) ∨ (0 ≤ j.K ∧ j.K ≤ 3 ∧ boC j.mo ≠ 0 ∧ plC j = boC j.mo) ∨ (0 ≤ j.K ∧ j.K ≤ 3 ∧ boC j.mo = 0 ∧ grC j.W j.H j.TW j.TH ≠ 0 ∧ plC j = grC j.W j.H j.TW j.TH)
    ∨ (0 ≤ j.K ∧ j.K ≤ 3 ∧ boC j.mo = 0 ∧ grC j.W j.H j.TW j.TH = 0 ∧ j.L < 1 ∧ plC j = 11) ∨ (0 ≤ j.K ∧ j.K ≤ 3 ∧ boC j.mo = 0 ∧ grC j.W j.H j.TW j.TH = 0 ∧ 1 ≤ j.L ∧ cntI 15 j.W j.H < j.L ∧ plC j = 11)
    ∨ (0 ≤ j.K ∧ j.K ≤ 3 ∧ boC j.mo = 0 ∧ grC j.W j.H j.TW j.TH = 0 ∧ 1 ≤ j.L ∧ j.L ≤ cntI 15 j.W j.H ∧ plC j = if farL j = true ∨ j.U1 < j.U0 ∨ j.V1 < j.V0 then 11 else 0) := by
  unfold plC
  by_cases h1 : j.K < 0 ∨ 3 < j.K
  · exact .inl ⟨h1, by rw [if_pos h1]⟩
  · have h1a : 0 ≤ j.K := by omega
    have h1b : j.K ≤ 3 := by omega
    rw [if_neg h1]
    by_cases h2 : boC j.mo ≠ 0
    · exact .inr (.inl ⟨h1a, h1b, h2, by rw [if_pos h2]⟩)
    · rw [if_neg h2]
      have h2' : boC j.mo = 0 := Decidable.not_not.1 h2
      by_cases h3 : grC j.W j.H j.TW j.TH ≠ 0
      · exact .inr (.inr (.inl ⟨h1a, h1b, h2', h3, by rw [if_pos h3]⟩))
      · rw [if_neg h3]
        have h3' := Decidable.not_not.1 h3
        by_cases h4 : j.L < 1
        · exact .inr (.inr (.inr (.inl ⟨h1a, h1b, h2', h3', h4, by rw [if_pos (.inl h4)]⟩)))
        · by_cases h5 : cntI 15 j.W j.H < j.L
          · exact .inr (.inr (.inr (.inr (.inl ⟨h1a, h1b, h2', h3', by omega, h5, by rw [if_pos (.inr h5)]⟩))))
          · exact .inr (.inr (.inr (.inr (.inr ⟨h1a, h1b, h2', h3', by omega, by omega, by rw [if_neg (by omega)]⟩))))
theorem nameR_some {k : Int} (h : 0 ≤ k ∧ k ≤ 3) : (nameR k).toList.isEmpty = false := by
  have h4 : k = 0 ∨ k = 1 ∨ k = 2 ∨ k = 3 := by omega
  rcases h4 with h | h | h | h <;> subst h <;> decide +kernel
theorem nameR_none {k : Int} (h : k < 0 ∨ 3 < k) : nameR k = ⟨#[]⟩ := by
  unfold nameR; rw [if_neg (by omega), if_neg (by omega), if_neg (by omega), if_neg (by omega)]
end Go.Proofs.YtibmhabipghjlaaGreat
end
section
set_option linter.unusedVariables false
namespace Go.Proofs.YtibmhabipghjlaaGreat
open Go.RowKit
set_option maxRecDepth 100000 in
set_option maxHeartbeats 4000000 in
theorem pchk_name (j : Jb) (w : World) (h : j.K < 0 ∨ 3 < j.K) : Calls Tryz.prog 7 #[.agg j.cells] w fun e w' => e = .returned (.int .i64 10) ∧ Below w.heap.size w w' := by
  have hN := fun w' => name_any j.K w'
  rw [nameR_none h] at hN
  have hL := (Lie.start w).alloc j.cells 28
  have k0 : Bk _ w.heap.size 28 j.cells := hL.k 0 (by simp)
  have hb0 := hL.bel
  obtain ⟨y0, y1, y2, y3, y4, y5, y6, y7, y8, y9, y10, y11, y12, y13, y14⟩ := k0.cellJ
  clear y0 y1 y2 y3 y5 y6 y7 y8 y9 y10 y11 y12 y13 y14 hL h
  go_enter Tryz.func7, Tryz.ntmps7
  go_wp2_with (go_at_call 21; (with_reducible refine (hN _).mono ?_); rintro e w1 ⟨rfl, hb1⟩)
  go_returns
  exact ⟨rfl, hb0.trans (hb1.mono hb0.size)⟩
end Go.Proofs.YtibmhabipghjlaaGreat
end
