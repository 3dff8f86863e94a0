/- Several texts in one: The cache's reference: tiles without one; whether one is of some; tiles alike. The reference: all tiles of a grid, one row of them behind the other. The cache's reference: a tile used. -/
import Derived.Test.YtahiaeaobbofbaaGreatC12
import Derived.Test.YtahiaeaobbofbaaGreatApp
import Derived.Test.YtahiaeaobbofbaaGreatGr
import Derived.Test.YtahiaeaobbofbaaGreatC1
import Derived.Test.YtahiaeaobbofbaaGreatKA
import Derived.Deep.RegionWith
import Derived.StillTailTactics
section
set_option linter.unusedVariables false
namespace Go.Proofs.YtahiaeaobbofbaaGreat
open Go.RowKit
theorem neq_tile (a b c d : Int) (w : World) : (binOp .neq 48 (.agg (tiA a b)) (.agg (tiA c d))).run Tryz.prog w = .ok (.bool (!decide ((a, b) = (c, d)))) w := by
  rw [eq2_bool]
  simp [go_sem, Tryz.underlying48]
  by_cases h1 : a = c <;> by_cases h2 : b = d <;> simp [h1, h2]
/-- A tile of a list in memory. -/
theorem rd_tile {w : World} {B : Nat} {A : Option Addr} {S : List (Int × Int)} (hr : Rd w B A (encT S)) (k : Nat) (hk : k < S.length) : ∃ b o, A = some ⟨b, o, none⟩ ∧ b < B ∧ w.cell? ⟨b, o + k * 2, none⟩ = some (.int .i64 S[k].1) ∧ w.cell? ⟨b, o + k * 2 + 1, none⟩ = some (.int .i64 S[k].2) := by
  have hl := encT_len S
  obtain ⟨b, o, rfl, hbB, e0⟩ := hr (k * 2) (by omega)
  obtain ⟨b', o', e', _, e1⟩ := hr (k * 2 + 1) (by omega)
  injection e' with e'; injection e' with q1 q2
  subst q1; subst q2
  obtain ⟨g0, g1⟩ := encT_get S k hk
  rw [List.getElem?_eq_getElem (by omega)] at g0 g1
  rw [Option.some.inj g0] at e0
  rw [Option.some.inj g1] at e1
  exact ⟨b, o, rfl, hbB, e0, by rw [Nat.add_assoc]; exact e1⟩
def woT (S : List (Int × Int)) (t : Int × Int) : List (Int × Int) := S.filter (· ≠ t)
theorem woT_snoc (S : List (Int × Int)) (t : Int × Int) (k : Nat) (hk : k < S.length) : woT (S.take (k + 1)) t = if S[k] = t then woT (S.take k) t else woT (S.take k) t ++ [S[k]] := by
  unfold woT
  rw [List.take_succ_eq_append_getElem hk, List.filter_append]
  by_cases h : S[k] = t <;> simp [h]
/-- What a function that makes a list of tiles leaves. -/
def OwnT (S : List (Int × Int)) (w : World) (e : Ending) (w' : World) : Prop := ∃ v, e = .returned v ∧ w'.ownsRow w.heap.size 48 2 v S.length (encT S) ∧ Below w.heap.size w w'
set_option maxRecDepth 100000 in
set_option maxHeartbeats 4000000 in
theorem without_t (S : List (Int × Int)) (A : Option Addr) (n c : Nat) (t : Int × Int) (w : World) {B : Nat} (hn : S.length = n) (hr : Rd w B A (encT S)) (hB : B ≤ w.heap.size) (hb : n ≤ 1000000) :
    Calls Tryz.prog 41 #[.slice A n c, .agg (tiA t.1 t.2)] w (OwnT (woT S t) w) := by
  obtain ⟨t1, t2⟩ := t
  simp only
  have hb1 := (Below.refl w.heap.size w).alloc (Nat.le_refl _) (.cells (tiA t1 t2) 48)
  have k0 := Bk.new w 48 (tiA t1 t2)
  go_enter Tryz.func41, Tryz.ntmps41
  go_upto_region 1 with fail
  generalize hw1 : w.alloc (.cells (tiA t1 t2) 48) = w1 at *
  have hz1 : w.heap.size < w1.heap.size := k0.lt
  obtain ⟨g0, hg0⟩ : ∃ g0, w.heap.size = g0 := ⟨_, rfl⟩
  go_wp2_with fail
  go_loopw [5, 6] (fun v i wr => ∃ k : Nat, k ≤ n ∧ i = .int .i64 k ∧ wr.ownsRow w1.heap.size 48 2 v (woT (S.take k) (t1, t2)).length (encT (woT (S.take k) (t1, t2))) ∧ Below w1.heap.size w1 wr) (fun _ i _ => n - (intOf i).toNat)
  case atStart => exact ⟨0, by omega, rfl, by simpa [woT, encT] using World.ownsRow_nil _ _ _ _, Below.refl _ _⟩
  case round =>
    obtain ⟨k, hk, rfl, hown, hbel⟩ := hrel
    by_cases hlt : k < n
    · have hk2 : k < S.length := by omega
      have hsn := Lib.hid (woT_snoc S (t1, t2) k hk2)
      have hfl2 : (woT (S.take k) (t1, t2)).length ≤ k := Nat.le_trans (List.length_filter_le _ _) (by simp; omega)
      obtain ⟨b, o, rfl, hbb, hc0, hc1⟩ := rd_tile ((hr.below' hb1 hB).below' hbel (by omega)) k hk2
      have hEq : ∀ h, S[k]'h = S[k] := fun _ => rfl
      obtain ⟨⟨s1, s2⟩, hs⟩ : ∃ s, S[k] = s := ⟨_, rfl⟩
      rw [hs] at hc0 hc1 hsn
      dsimp only at hc0 hc1
      clear hEq hs
      have hbw := hbel.size
      obtain ⟨L, hL⟩ : ∃ L, woT (S.take k) (t1, t2) = L := ⟨_, rfl⟩
      rw [hL] at hown hfl2 hsn
      clear hL
      have kr := k0.below hbel hz1
      obtain ⟨d0, d1⟩ := kr.cell2
      rw [hg0] at d0 d1
      have hE := fun w => neq_tile s1 s2 t1 t2 w
      by_cases hxy : (s1, s2) = (t1, t2)
      · rw [decide_eq_true hxy] at hE
        have HX := Lib.hid hxy
        clear hxy
        go_upto_region 5 with fail
        go_quiet ((fail))
        go_wp2_with fail
        refine ⟨⟨k + 1, by omega, by go_num, ?_, below_drewN hbel _⟩, by simp [intOf]; omega⟩
        rw [hsn.out, if_pos HX.out]
        exact own_below hown (below_drewN (Below.refl _ _) _) (Nat.le_refl _)
      · rw [decide_eq_false hxy] at hE
        have HX := Lib.hid hxy
        clear hxy
        go_upto_region 5 with fail
        go_quiet ((fail))
        have hbd := below_drewN hbel nq
        have hownd := own_below hown (below_drewN (Below.refl _ wr) nq) (Nat.le_refl _)
        have hzd : wr.heap.size ≤ (wr.drewN nq).heap.size := by simp
        have hc0' : (wr.drewN nq).cell? ⟨b, o + k * 2, none⟩ = some (.int .i64 s1) := by simpa using hc0
        have hc1' : (wr.drewN nq).cell? ⟨b, o + k * 2 + 1, none⟩ = some (.int .i64 s2) := by simpa using hc1
        generalize wr.drewN nq = wq at *
        clear hown hbel
        go_wp2_with (at_builtin; refine app1 rfl _ _ _ rfl Tryz.underlying35 ti_info rfl (by omega) rfl rfl hownd hbd (Nat.le_refl _) (by omega) rfl (by simp [Value.oneCell']) (by omega) (by omega) ?_; intro v' w' hown' hbel' _ _ _; clear hownd)
        have hfin : w'.ownsRow w1.heap.size 48 2 v' (woT (S.take (k + 1)) (t1, t2)).length (encT (woT (S.take (k + 1)) (t1, t2))) := by
          rw [hsn.out, if_neg HX.out, List.length_append, encT_app]
          exact hown'
        refine ⟨⟨k + 1, by omega, by go_num, ?_⟩, by simp [intOf]; omega⟩
        exact hfin
    · obtain rfl : k = n := by omega
      rw [List.take_of_length_le (by omega)] at hown
      go_wp2_with fail
      go_returns
      exact ⟨_, rfl, own_base hown (by omega), hb1.trans (hbel.mono (by omega))⟩
theorem woT_lt (S : List (Int × Int)) (t : Int × Int) : decide (((woT S t).length : Int) < (S.length : Int)) = decide (t ∈ S) := by
  unfold woT
  have h := List.length_filter_lt_length_iff_exists (p := fun x => decide (x ≠ t)) (l := S)
  have e : ((S.filter fun x => decide (x ≠ t)).length : Int) < (S.length : Int) ↔ t ∈ S := by
    rw [Int.ofNat_lt, h]
    simp
  exact decide_eq_decide.2 e
theorem rhas_t (S : List (Int × Int)) (A : Option Addr) (n c : Nat) (t : Int × Int) (w : World) {B : Nat} (hn : S.length = n) (hr : Rd w B A (encT S)) (hB : B ≤ w.heap.size) (hb : n ≤ 1000000) :
    Calls Tryz.prog 20 #[.slice A n c, .agg (tiA t.1 t.2)] w fun e w' => e = .returned (.bool (decide (t ∈ S))) ∧ Below w.heap.size w w' := by
  have hW := woT_lt S t
  rw [hn] at hW
  rw [← hW]
  obtain ⟨t1, t2⟩ := t
  simp only
  have hb1 := (Below.refl w.heap.size w).alloc (Nat.le_refl _) (.cells (tiA t1 t2) 48)
  have k0 := Bk.new w 48 (tiA t1 t2)
  have hWo := without_t S A n c (t1, t2) (w.alloc (.cells (tiA t1 t2) 48)) hn (hr.below' hb1 hB) (by have := hb1.size; omega) hb
  simp only at hWo
  have HS := Lib.hid hn
  clear hn hW
  generalize woT S (t1, t2) = L at *
  go_enter Tryz.func20, Tryz.ntmps20
  go_wp2_with (go_at_call 41; (with_reducible refine hWo.mono ?_); rintro e w1 ⟨v1, rfl, ho1, hbw⟩; obtain ⟨A1, c1, rfl, _⟩ := own_form ho1)
  go_returns
  exact ⟨ret_bool (by simp), hb1.trans (hbw.mono hb1.size)⟩
set_option maxHeartbeats 4000000 in
theorem rsame_t (S : List (Int × Int)) (A A' : Option Addr) (n c c' : Nat) (w : World) {B B' : Nat} (hn : S.length = n) (hr : Rd w B A (encT S)) (hr' : Rd w B' A' (encT S)) (hB : B ≤ w.heap.size) (hB' : B' ≤ w.heap.size) (hb : n ≤ 1000000) :
    Calls Tryz.prog 46 #[.slice A n c, .slice A' n c'] w fun e w' => e = .returned (.bool true) ∧ Below w.heap.size w w' := by
  go_enter Tryz.func46, Tryz.ntmps46
  go_wp2_with fail
  go_loopw [5] (fun i wr => ∃ k : Nat, k ≤ n ∧ i = .int .i64 k ∧ Below w.heap.size w wr) (fun i _ => n - (intOf i).toNat)
  case atStart => exact ⟨0, by omega, rfl, Below.refl _ _⟩
  case round =>
    obtain ⟨k, hk, rfl, hbel⟩ := hrel
    by_cases hlt : k < n
    · have hk2 : k < S.length := by omega
      obtain ⟨b, o, rfl, hbb, hc0, hc1⟩ := rd_tile (hr.below' hbel hB) k hk2
      obtain ⟨b', o', rfl, hbb', hd0, hd1⟩ := rd_tile (hr'.below' hbel hB') k hk2
      obtain ⟨⟨s1, s2⟩, hs⟩ : ∃ s, S[k] = s := ⟨_, rfl⟩
      rw [hs] at hc0 hc1 hd0 hd1
      dsimp only at hc0 hc1 hd0 hd1
      clear hs
      have hE := fun w => neq_tile s1 s2 s1 s2 w
      rw [decide_eq_true rfl] at hE
      go_upto_region 6 with fail
      go_quiet ((fail))
      go_wp2_with fail
      exact ⟨⟨k + 1, by omega, by go_num, below_drewN hbel _⟩, by simp [intOf]; omega⟩
    · obtain rfl : k = n := by omega
      go_wp2_with fail
      go_returns
      exact ⟨rfl, hbel⟩
end Go.Proofs.YtahiaeaobbofbaaGreat
end
section
set_option linter.unusedVariables false
namespace Go.Proofs.YtahiaeaobbofbaaGreat
open Go.RowKit
theorem rect_info9 : (Tryz.prog.info? 59).map (fun i => (i.zero, i.size, i.bytes)) = some (some (.agg #[.int .i64 0, .int .i64 0, .int .i64 0, .int .i64 0]), 4, 32) := by kernel_rfl
def tlR (W H TW TH i : Int) : Array Value := rc_rectA (tlX W TW i) (tlY W TW TH i) (min (tlX W TW i + TW) W) (min (tlY W TW TH i + TH) H)
def encG (W H TW TH : Int) (N : Nat) : List Value := (List.range N).flatMap fun (i : Nat) => (tlR W H TW TH i).toList
theorem encG_succ (W H TW TH : Int) (N : Nat) : encG W H TW TH (N + 1) = encG W H TW TH N ++ (tlR W H TW TH N).toList := by
  unfold encG
  rw [List.range_succ, List.flatMap_append]
  simp
theorem grN_lt {W T r : Int} (hT : 1 ≤ T) : r < grN W T ↔ r * T < W := by
  unfold grN
  rw [Int.lt_iff_add_one_le, Int.le_ediv_iff_mul_le (by omega), Int.add_mul]
  omega
theorem tlR_at {W H TW TH : Int} {gx q r : Nat} (hg : grN W TW = (gx : Int)) (hq : q < gx) : tlR W H TW TH ((r * gx + q : Nat) : Int) = rc_rectA ((q : Int) * TW) ((r : Int) * TH) (min ((q : Int) * TW + TW) W) (min ((r : Int) * TH + TH) H) := by
  have e1 : ((r * gx + q : Nat) : Int) % (gx : Int) = q := by
    rw [← Int.natCast_emod, Nat.mul_comm, Nat.mul_add_mod, Nat.mod_eq_of_lt hq]
  have e2 : ((r * gx + q : Nat) : Int) / (gx : Int) = r := by
    rw [← Int.natCast_ediv, Nat.mul_comm, Nat.mul_add_div (by omega), Nat.div_eq_of_lt hq, Nat.add_zero]
  unfold tlR tlX tlY
  rw [hg, e1, e2]
attribute [local go_sem high] run_maxM run_minM
set_option maxRecDepth 100000 in
set_option maxHeartbeats 8000000 in
theorem rtiles_any (W H TW TH : Int) (w : World) (h0 : grC W H TW TH = 0) :
    Calls Tryz.prog 58 #[grV W H TW TH] w fun e w' => ∃ v, e = .returned v ∧ w'.ownsRow w.heap.size 59 4 v (grN W TW * grN H TH).toNat (encG W H TW TH (grN W TW * grN H TH).toNat) ∧ Below w.heap.size w w' := by
  obtain ⟨hW, hH, hTW, hTH⟩ := grC_zero.1 h0
  obtain ⟨n0, n1, _⟩ := grN_bd hW hTW
  obtain ⟨m0, m1, _⟩ := grN_bd hH hTH
  have hq0 := fun q : Int => grN_lt (W := W) (r := q) hTW.1
  have hr0 := fun q : Int => grN_lt (W := H) (r := q) hTH.1
  obtain ⟨gx, hgx⟩ : ∃ gx : Nat, grN W TW = (gx : Int) := ⟨(grN W TW).toNat, by omega⟩
  obtain ⟨gy, hgy⟩ : ∃ gy : Nat, grN H TH = (gy : Int) := ⟨(grN H TH).toNat, by omega⟩
  have htl := fun q r => tlR_at (W := W) (H := H) (TW := TW) (TH := TH) (gx := gx) (q := q) (r := r) hgx
  rw [hgx] at hq0 n0 n1 ⊢
  rw [hgy] at hr0 m0 m1 ⊢
  rw [show ((gx : Int) * (gy : Int)).toNat = gy * gx by rw [← Int.natCast_mul, Int.toNat_natCast, Nat.mul_comm]]
  have hxy : gy * gx ≤ 36864 * 36864 := Nat.mul_le_mul (by omega) (by omega)
  have k0 := Bk.new w 116 (grA W H TW TH)
  have hb1 := (Below.refl w.heap.size w).alloc (Nat.le_refl _) (.cells (grA W H TW TH) 116)
  obtain ⟨w1, hw1⟩ : ∃ w1, w.alloc (.cells (grA W H TW TH) 116) = w1 := ⟨_, rfl⟩
  rw [hw1] at k0 hb1
  have HW1 := Lib.hid hw1
  obtain ⟨g0, hg0⟩ : ∃ g0, w.heap.size = g0 := ⟨_, rfl⟩
  have hz1 := k0.lt
  rw [hg0] at k0 hz1
  have HG0 := Lib.hid hg0
  obtain ⟨hW1, hW2⟩ := hW
  obtain ⟨hH1, hH2⟩ := hH
  obtain ⟨hTW1, hTW2⟩ := hTW
  obtain ⟨hTH1, hTH2⟩ := hTH
  clear hgx hgy hw1 hg0 h0
  go_enter Tryz.func58, Tryz.ntmps58
  go_upto_region 1 with fail
  rw [HW1.out, HG0.out]
  go_wp2_with fail
  go_loopw [3, 4] (fun v y wr => ∃ r : Nat, r ≤ gy ∧ y = .int .i64 ((r : Int) * TH) ∧ wr.ownsRow w1.heap.size 59 4 v (r * gx) (encG W H TW TH (r * gx)) ∧ Below w1.heap.size w1 wr) (fun _ y _ => (H - intOf y).toNat)
  case atStart => exact ⟨0, by omega, by simp, by simpa [encG] using World.ownsRow_nil _ _ _ _, Below.refl _ _⟩
  case round =>
    obtain ⟨r, hr, rfl, hown, hbel⟩ := hrel
    have hrH := hr0 (r : Int)
    have kr := k0.below hbel hz1
    obtain ⟨c0, c1, c2, c3⟩ := kr.cell4
    by_cases hlt : r < gy
    · have hyH : (r : Int) * TH < H := hrH.1 (by omega)
      have hy0 : 0 ≤ (r : Int) * TH := Int.mul_nonneg (by omega) (by omega)
      have hye : ((r + 1 : Nat) : Int) * TH = (r : Int) * TH + TH := by rw [Int.natCast_add, Int.add_mul]; simp
      obtain ⟨y, hy⟩ : ∃ y, (r : Int) * TH = y := ⟨_, rfl⟩
      have hty := fun q (hq : q < gx) => htl q r hq
      simp only [hy] at hty
      rw [hy] at hyH hy0 hye ⊢
      have v1 : wrap64 (y + TH) = y + TH := IntWalk.wrap64_in _ ⟨by omega, by omega⟩
      have HY := Lib.hid hy
      have hrg : r * gx + gx = (r + 1) * gx := by rw [Nat.add_mul, Nat.one_mul]
      have hrm : (r + 1) * gx ≤ gy * gx := Nat.mul_le_mul_right _ hlt
      clear hy hrH htl
      go_upto_region 5 with fail
      go_wp2_with fail
      go_loopw [3, 5] (fun v x ws => ∃ q : Nat, q ≤ gx ∧ x = .int .i64 ((q : Int) * TW) ∧ ws.ownsRow w1.heap.size 59 4 v (r * gx + q) (encG W H TW TH (r * gx + q)) ∧ Below w1.heap.size w1 ws) (fun _ x _ => (W - intOf x).toNat)
      case atStart => exact ⟨0, by omega, by simp, hown, hbel⟩
      case round =>
        clear hown hbel c0 c1 c2 c3 kr
        obtain ⟨q, hq, rfl, hown, hbel⟩ := hrel
        have hqW := hq0 (q : Int)
        have kr := k0.below hbel hz1
        obtain ⟨c0, c1, c2, c3⟩ := kr.cell4
        by_cases hlq : q < gx
        · have hxW : (q : Int) * TW < W := hqW.1 (by omega)
          have hx0 : 0 ≤ (q : Int) * TW := Int.mul_nonneg (by omega) (by omega)
          have hxe : ((q + 1 : Nat) : Int) * TW = (q : Int) * TW + TW := by rw [Int.natCast_add, Int.add_mul]; simp
          have hE := hty q hlq
          have hS := encG_succ W H TW TH (r * gx + q)
          obtain ⟨x, hx⟩ : ∃ x, (q : Int) * TW = x := ⟨_, rfl⟩
          rw [hx] at hxW hx0 hxe hE ⊢
          rw [hE] at hS
          have v2 : wrap64 (x + TW) = x + TW := IntWalk.wrap64_in _ ⟨by omega, by omega⟩
          have HX := Lib.hid hx
          have HS := Lib.hid hS
          have HXE := Lib.hid hxe
          have hz := hbel.size
          clear hx hE hqW hS hxe
          generalize encG W H TW TH (r * gx + q) = L at *
          go_wp2_with (at_builtin; refine app1 rfl _ _ _ rfl Tryz.underlying90 rect_info9 rfl (by omega) rfl rfl hown hbel (Nat.le_refl _) hz rfl (by simp [Value.oneCell']) (by omega) (by omega) ?_; intro v' w' hown' hbel' _ _ _; clear hown c0 c1 c2 c3; obtain ⟨c0, c1, c2, c3⟩ := (k0.below hbel' hz1).cell4)
          refine ⟨⟨q + 1, by omega, by rw [HXE.out], ?_, hbel'⟩, by simp [intOf]; omega⟩
          rw [← Nat.add_assoc, HS.out]
          exact hown'
        · obtain rfl : q = gx := by omega
          have hxW : ¬ (q : Int) * TW < W := fun e => hlq (by have := hqW.2 e; omega)
          obtain ⟨x, hx⟩ : ∃ x, (q : Int) * TW = x := ⟨_, rfl⟩
          rw [hx] at hxW ⊢
          clear hqW hx
          go_wp2_with fail
          refine ⟨⟨r + 1, by omega, by rw [hye], ?_, hbel⟩, by simp [intOf]; omega⟩
          rw [← hrg]
          exact hown
    · obtain rfl : r = gy := by omega
      have hyH : ¬ (r : Int) * TH < H := fun e => hlt (by have := hrH.2 e; omega)
      obtain ⟨y, hy⟩ : ∃ y, (r : Int) * TH = y := ⟨_, rfl⟩
      rw [hy] at hyH ⊢
      clear hrH hy
      go_wp2_with fail
      go_returns
      exact ⟨_, rfl, own_base hown (by have := HG0.out; omega), hb1.trans (hbel.mono hb1.size)⟩
end Go.Proofs.YtahiaeaobbofbaaGreat
end
section
set_option linter.unusedVariables false
namespace Go.Proofs.YtahiaeaobbofbaaGreat
open Go.RowKit
attribute [local go_sem high] run_maxM run_minM
structure MS where
  L : List (Int × Int)
  hits : Int
  loads : Int
  drops : Int
  high : Int
def useM (most : Int) (m : MS) (t : Int × Int) : MS :=
  if t ∈ m.L then ⟨woT m.L t ++ [t], m.hits + 1, m.loads, m.drops, max m.high (woT m.L t ++ [t]).length⟩
  else if (m.L.length : Int) = most then ⟨woT (woT m.L (m.L.headD (0, 0))) t ++ [t], m.hits, m.loads + 1, m.drops + 1, max m.high (woT (woT m.L (m.L.headD (0, 0))) t ++ [t]).length⟩
  else ⟨woT m.L t ++ [t], m.hits, m.loads + 1, m.drops, max m.high (woT m.L t ++ [t]).length⟩
abbrev caM (M : Int) (v : Value) (h l d g : Int) : Array Value := #[.int .i64 M, v, .int .i64 h, .int .i64 l, .int .i64 d, .int .i64 g]
theorem cm_size : (Tryz.prog.info? 55).map (·.size) = some 6 := by kernel_rfl
theorem Bk.cell6' {w : World} {g : Nat} {t : TypeId} {v0 v1 v2 v3 v4 v5 : Value} (h : Bk w g t #[v0, v1, v2, v3, v4, v5]) : w.cell? ⟨g, 0, none⟩ = some v0 ∧ w.cell? ⟨g, 1, none⟩ = some v1 ∧ w.cell? ⟨g, 2, none⟩ = some v2 ∧ w.cell? ⟨g, 3, none⟩ = some v3 ∧ w.cell? ⟨g, 4, none⟩ = some v4 ∧ w.cell? ⟨g, 5, none⟩ = some v5 :=
  ⟨h.cell 0, h.cell 1, h.cell 2, h.cell 3, h.cell 4, h.cell 5⟩
structure UW (w0 w : World) (g : Nat) (cs os : Array Value) (t1 t2 : Int) : Prop where
  bel : Below w0.heap.size w0 w
  hg : w0.heap.size = g
  kc : Bk w g 55 cs
  kt : Bk w (g + 1) 48 (tiA t1 t2)
  kr : Bk w (g + 2) 55 (caM 0 (.slice none 0 0) 0 0 0 0)
  ko : Bk w (g + 3) 55 os
section
variable {w0 w w' : World} {g : Nat} {cs os : Array Value} {t1 t2 : Int}
theorem UW.nx (h : UW w0 w g cs os t1 t2) (hb : Below w.heap.size w w') : UW w0 w' g cs os t1 t2 :=
  ⟨h.bel.trans (hb.mono h.bel.size), h.hg, h.kc.nx hb, h.kt.nx hb, h.kr.nx hb, h.ko.nx hb⟩
theorem UW.set (h : UW w0 w g cs os t1 t2) (j : Nat) (v : Value) : UW w0 (w.setCell ⟨g + 3, j, none⟩ v) g cs (os.setIfInBounds j v) t1 t2 :=
  ⟨h.bel.setCell (by have := h.hg; simp; omega) v, h.hg, h.kc.far (by simp) v, h.kt.far (by simp) v, h.kr.far (by simp) v, h.ko.set j v⟩
theorem UW.gr {row : Option Nat} (h : UW w0 w g cs os t1 t2) (hg : w.grownBy w' row) (hb : Below w0.heap.size w0 w') (hne : ∀ b, row = some b → g + 4 ≤ b) : UW w0 w' g cs os t1 t2 :=
  ⟨hb, h.hg, h.kc.grown hg (fun e => by have := hne _ e.symm; omega), h.kt.grown hg (fun e => by have := hne _ e.symm; omega), h.kr.grown hg (fun e => by have := hne _ e.symm; omega), h.ko.grown hg (fun e => by have := hne _ e.symm; omega)⟩
end
theorem OwnT.rd {S : List (Int × Int)} {w w' : World} {v : Value} (h : w'.ownsRow w.heap.size 48 2 v S.length (encT S)) : ∃ A c, v = .slice A S.length c ∧ Rd w' w'.heap.size A (encT S) := by
  obtain ⟨A, c, rfl, _⟩ := own_form h
  exact ⟨A, c, rfl, Rd.of_own h⟩
set_option maxRecDepth 100000 in
set_option maxHeartbeats 8000000 in
theorem ruse_t (m : MS) (most : Int) (A : Option Addr) (n c : Nat) (t : Int × Int) (w : World) {B : Nat} (hn : m.L.length = n) (hr : Rd w B A (encT m.L)) (hB : B ≤ w.heap.size) (hb : n ≤ 100000) (hm : 1 ≤ most ∧ most ≤ 65536)
    (h1 : 0 ≤ m.hits ∧ m.hits ≤ 100000) (h2 : 0 ≤ m.loads ∧ m.loads ≤ 100000) (h3 : 0 ≤ m.drops ∧ m.drops ≤ 100000) (h4 : 0 ≤ m.high ∧ m.high ≤ 100000) :
    Calls Tryz.prog 16 #[.agg (caM most (.slice A n c) m.hits m.loads m.drops m.high), .agg (tiA t.1 t.2)] w fun e w' => ∃ A' c', e = .returned (.agg (caM most (.slice A' (useM most m t).L.length c') (useM most m t).hits (useM most m t).loads (useM most m t).drops (useM most m t).high)) ∧ RdL w' w.heap.size A' (encT (useM most m t).L) ∧ Below w.heap.size w w' := by
  obtain ⟨S, hits, loads, drops, high⟩ := m
  obtain ⟨t1, t2⟩ := t
  simp only at *
  obtain ⟨mm, hmm⟩ : ∃ mm, useM most ⟨S, hits, loads, drops, high⟩ (t1, t2) = mm := ⟨_, rfl⟩
  rw [hmm]
  have HMM := Lib.hid hmm
  clear hmm
  have hL := (((Lie.start w).alloc (caM most (.slice A n c) hits loads drops high) 55).alloc (tiA t1 t2) 48).alloc (caM 0 (.slice none 0 0) 0 0 0 0) 55
  simp only [World.size_alloc] at hL
  have kc := hL.k 2 (by simp)
  have kt := hL.k 1 (by simp)
  have kr := hL.k 0 (by simp)
  simp only [List.getElem_cons_zero, List.getElem_cons_succ] at kc kt kr
  have hb3 := hL.bel
  obtain ⟨w3, hw3⟩ : ∃ w3, (((w.alloc (.cells (caM most (.slice A n c) hits loads drops high) 55)).alloc (.cells (tiA t1 t2) 48)).alloc (.cells (caM 0 (.slice none 0 0) 0 0 0 0) 55)) = w3 := ⟨_, rfl⟩
  have hz3 : w3.heap.size = w.heap.size + 3 := by rw [← hw3]; simp
  rw [hw3] at kc kt kr hb3
  have HW3 := Lib.hid hw3
  obtain ⟨g, hg⟩ : ∃ g, w.heap.size = g := ⟨_, rfl⟩
  rw [hg] at kc kt kr hz3
  have HG := Lib.hid hg
  have HZ3 := Lib.hid hz3
  clear hw3 hL hg hz3
  go_enter Tryz.func16, Tryz.ntmps16
  go_upto_region 1 with fail
  simp only [HW3.out, HG.out]
  go_upto_region 2 with (first
    | (refine ldB rfl _ _ rfl kc rfl Tryz.underlying55 rfl cm_size ?_; have kN := Bk.new w3 55 (caM 0 (.slice none 0 0) 0 0 0 0))
    | (refine stB (ty := 55) (cells := caM most (.slice A n c) hits loads drops high) rfl _ _ rfl kN rfl rfl cm_size rfl (by simp [Value.oneCell']) ?_; intro w4 k4 hg4 hs4))
  have hb34 : Below w3.heap.size w3 w4 := below_grown ((Below.refl _ _).alloc (Nat.le_refl _) _) hg4 (Nat.le_refl _) (by simp)
  have hU : UW w w4 g (caM most (.slice A n c) hits loads drops high) (caM most (.slice A n c) hits loads drops high) t1 t2 := by
    refine ⟨hb3.trans (hb34.mono hb3.size), HG.out, kc.nx hb34, kt.nx hb34, kr.nx hb34, ?_⟩
    rw [← HZ3.out]
    exact k4
  simp only [HZ3.out] at hg4 hs4 ⊢
  clear hg4 hs4 kc kt kr hb34 hb3 k4 kN
  have hr4 := hr.below' hU.bel hB
  have hz4 : B ≤ w4.heap.size := Nat.le_trans hB hU.bel.size
  have hHas := rhas_t S A n c (t1, t2) w4 hn hr4 hz4 (by omega)
  simp only at hHas
  clear hr
  have v1 : wrap64 (hits + 1) = hits + 1 := IntWalk.wrap64_in _ ⟨by omega, by omega⟩
  have v2 : wrap64 (loads + 1) = loads + 1 := IntWalk.wrap64_in _ ⟨by omega, by omega⟩
  have v3 : wrap64 (drops + 1) = drops + 1 := IntWalk.wrap64_in _ ⟨by omega, by omega⟩
  have HN := Lib.hid hn
  have HHI := Lib.hid h4
  clear h1 h2 h3 h4
  have kt4 := hU.kt
  obtain ⟨p0, p1, p2, p3, p4, p5⟩ := hU.kc.cell6'
  by_cases hmem : (t1, t2) ∈ S
  · rw [decide_eq_true hmem] at hHas
    have HF : Hid (mm = ⟨woT S (t1, t2) ++ [(t1, t2)], hits + 1, loads, drops, max high (woT S (t1, t2) ++ [(t1, t2)]).length⟩) := by
      rw [← HMM.out]; unfold useM; simp only; rw [if_pos hmem]; rfl
    clear hmem hn
    go_upto_region 3 with (first
      | (refine ldB rfl _ _ rfl kt4 rfl Tryz.underlying48 rfl ti_size ?_)
      | (go_at_call 20; (with_reducible refine hHas.mono ?_); rintro e w5 ⟨rfl, hb5⟩))
    have hU5 := hU.nx hb5
    obtain ⟨q0, q1, q2, q3, q4, q5⟩ := hU5.ko.cell6'
    have f2 := hU5.ko.frozen 2
    go_upto_region 8 with fail
    have hU6 := hU5.set 2 (.int .i64 (hits + 1))
    simp only [List.setIfInBounds_toArray, List.set_cons_zero, List.set_cons_succ] at hU6
    obtain ⟨w6, hw6⟩ : ∃ w6, w5.setCell ⟨g + 3, 2, none⟩ (.int .i64 (hits + 1)) = w6 := ⟨_, rfl⟩
    rw [hw6] at hU6 ⊢
    have hb46 : Below w.heap.size w w6 := hU6.bel
    obtain ⟨h1, eh1⟩ : ∃ h1, hits + 1 = h1 := ⟨_, rfl⟩
    obtain ⟨l1, el1⟩ : ∃ l1, loads = l1 := ⟨_, rfl⟩
    obtain ⟨d1, ed1⟩ : ∃ d1, drops = d1 := ⟨_, rfl⟩
    rw [eh1, el1, ed1] at hU6
    rw [eh1, el1, ed1] at HF
    have hr6 := hr4.below' (hb5.mono (Nat.le_refl _)) hz4
    have hr66 : Rd w6 B A (encT S) := by rw [← hw6]; exact hr6.setCell (by have := hU.hg; simp; omega) _
    obtain ⟨S1, hS1⟩ : ∃ S1, S1 = S := ⟨_, rfl⟩
    have hWo := without_t S A n c (t1, t2) w6 HN.out hr66 (Nat.le_trans hB hb46.size) (by omega)
    have hS1n : S1.length ≤ 100000 := by rw [hS1, HN.out]; exact hb
    rw [← hS1] at hWo
    rw [show woT S (t1, t2) = woT S1 (t1, t2) by rw [hS1]] at HF
    simp only at hWo
    clear eh1 el1 ed1 hr6 hr66 hw6 hU5 hHas hr4 q0 q1 q2 q3 q4 q5 f2 hS1 kt4 hU
    obtain ⟨L1, hL1⟩ : ∃ L1, woT S1 (t1, t2) = L1 := ⟨_, rfl⟩
    rw [hL1] at hWo HF
    have hl1 : L1.length ≤ S1.length := by rw [← hL1]; exact List.length_filter_le _ _
    have kt6 := hU6.kt
    obtain ⟨_, q1, _, _, _, q5⟩ := hU6.ko.cell6'
    clear hL1 p0 p1 p2 p3 p4 p5
    go_upto_region 9 with (first
      | (refine ldB rfl _ _ rfl kt6 rfl Tryz.underlying48 rfl ti_size ?_)
      | (go_at_call 41; (with_reducible refine hWo.mono ?_); rintro e w7 ⟨v7, rfl, ho7, hb7⟩))
    have hU7 := hU6.nx hb7
    have hzw6 : w.heap.size ≤ w6.heap.size := hU6.bel.size
    have hz67 : w6.heap.size ≤ w7.heap.size := hb7.size
    have hgz : g + 4 ≤ w6.heap.size := by have := hU6.ko.lt; omega
    have kt7 := hU7.kt
    have c0 := kt7.cell2
    obtain ⟨y0, y1⟩ := c0
    have hne3 : ∀ b, v7.ownBlock = some b → g + 4 ≤ b := fun b hb => by have := (ho7.lt b hb).1; have := hU6.ko.lt; omega
    clear q1 hWo hU6 kt6
    go_upto_region 10 with (first
      | (refine ldB rfl _ _ rfl kt7 rfl Tryz.underlying48 rfl ti_size ?_)
      | (at_builtin; refine app1 rfl _ _ _ rfl Tryz.underlying35 ti_info rfl (by omega) rfl rfl ho7 hU7.bel hzw6 hz67 rfl (by simp [Value.oneCell']) (by omega) (by omega) ?_; intro v8 w8 ho8 hb8 hz8 hg8 hv8; clear hv8; obtain ⟨A8, c8, rfl, _⟩ := own_form ho8; have hU8 := hU7.gr hg8 hb8 hne3; have f1 := hU8.ko.frozen 1; have x1 := hU8.ko.cell6'.2.1))
    have hU9 := hU8.set 1 (.slice A8 (L1.length + 1) c8)
    simp only [List.setIfInBounds_toArray, List.set_cons_zero, List.set_cons_succ] at hU9
    have ho9 := (own_far ho8 ⟨g + 3, 1, none⟩ (.slice A8 (L1.length + 1) c8) (fun b hb e => by have := (ho8.lt b hb).1; simp at e; omega))
    obtain ⟨w9, hw9⟩ : ∃ w9, w8.setCell ⟨g + 3, 1, none⟩ (.slice A8 (L1.length + 1) c8) = w9 := ⟨_, rfl⟩
    have hz89 : w8.heap.size ≤ w9.heap.size := by rw [← hw9]; simp
    rw [hw9] at hU9 ho9 ⊢
    obtain ⟨q0, q1, q2, q3, q4, q5⟩ := hU9.ko.cell6'
    have f5 := hU9.ko.frozen 5
    clear f1 x1 hU8 ho8 hg8 hb8 hz8 hw9 hU7 ho7 y0 y1 kt7 hne3
    obtain ⟨hh, hhE⟩ : ∃ hh, max high ((L1.length : Int) + 1) = hh := ⟨_, rfl⟩
    go_upto_region 11 with fail
    have hU10 := hU9.set 5 (.int .i64 hh)
    simp only [List.setIfInBounds_toArray, List.set_cons_zero, List.set_cons_succ] at hU10
    have ho10 := own_far ho9 ⟨g + 3, 5, none⟩ (.int .i64 hh) (fun b hb e => by have := (ho9.lt b hb).1; simp at e; omega)
    obtain ⟨wA, hwA⟩ : ∃ wA, w9.setCell ⟨g + 3, 5, none⟩ (.int .i64 hh) = wA := ⟨_, rfl⟩
    have hzA : w9.heap.size ≤ wA.heap.size := by rw [← hwA]; simp
    have HHE := Lib.hid hhE
    rw [hwA] at hU10 ho10 ⊢
    clear hhE
    have kA := hU10.ko
    have kr := hU10.kr
    clear f5 q0 q1 q2 q3 q4 q5 hwA hU9 ho9
    go_wp2_with (first
      | (refine ldB rfl _ _ rfl kA rfl Tryz.underlying55 rfl cm_size ?_)
      | (refine stB (ty := 55) (cells := caM most (.slice A8 (L1.length + 1) c8) h1 l1 d1 hh) rfl _ _ rfl kr rfl rfl cm_size rfl (by simp [Value.oneCell']) ?_; intro wB kB hgB hsB))
    refine bodyPost_ret (res_cell rfl kB rfl Tryz.underlying55 rfl cm_size) rfl ?_
    have hoB := ho10.kept hgB (.inr (fun e => by have := (ho10.lt _ e).1; omega))
    rw [HF.out]
    simp only [List.length_append, List.length_singleton]
    refine ⟨A8, ⟨c8, ?_⟩, ?_, ?_⟩
    · rw [← HHE.out]; rfl
    · rw [encT_app]; exact (RdL.of_own hoB).less hzw6
    · exact below_grown hU10.bel hgB (by have := hU10.hg; omega) (by have := hU10.bel.size; omega)
  · rw [decide_eq_false hmem] at hHas
    have HNM := Lib.hid hmem
    clear hmem hn
    by_cases hfull : (n : Int) = most
    · have HF : Hid (mm = ⟨woT (woT S (S.headD (0, 0))) (t1, t2) ++ [(t1, t2)], hits, loads + 1, drops + 1, max high (woT (woT S (S.headD (0, 0))) (t1, t2) ++ [(t1, t2)]).length⟩) := by
        have h9 : ((S.length : Nat) : Int) = most := by rw [HN.out]; exact hfull
        rw [← HMM.out]; unfold useM; simp only; rw [if_neg HNM.out, if_pos h9]; rfl
      have hfb : ((n : Int) == most) = true := by simpa using hfull
      have hn1 : 0 < S.length := by rw [HN.out]; omega
      have hn1' : (0 : Int) < (n : Int) := by omega
      have hn0 : 0 < n := by omega
      obtain ⟨b0, o0, rfl, hbb0, e0, e1⟩ := rd_tile hr4 0 hn1
      have hS0 : S[0] = S.headD (0, 0) := by cases S with | nil => simp at hn1 | cons a l => rfl
      rw [hS0] at e0 e1
      obtain ⟨⟨s1, s2⟩, hs⟩ : ∃ s, S.headD (0, 0) = s := ⟨_, rfl⟩
      rw [hs] at e0 e1 HF
      simp only [Nat.zero_mul, Nat.add_zero] at e0 e1
      have HS0 := Lib.hid (hS0.trans hs)
      clear hs hS0 hfull e0 e1
      go_upto_region 4 with (first
        | (refine ldB rfl _ _ rfl kt4 rfl Tryz.underlying48 rfl ti_size ?_)
        | (go_at_call 20; (with_reducible refine hHas.mono ?_); rintro e w5 ⟨rfl, hb5⟩))
      have hU5 := hU.nx hb5
      have hr5 := hr4.below' (hb5.mono (Nat.le_refl _)) hz4
      obtain ⟨_, _, _, q3, _, _⟩ := hU5.ko.cell6'
      obtain ⟨p0, p1, _, _, _, _⟩ := hU5.kc.cell6'
      have f3 := hU5.ko.frozen 3
      go_upto_region 5 with fail
      have hU6 := hU5.set 3 (.int .i64 (loads + 1))
      simp only [List.setIfInBounds_toArray, List.set_cons_zero, List.set_cons_succ] at hU6
      have hr6 : Rd _ B (some ⟨b0, o0, none⟩) (encT S) := hr5.setCell (p := ⟨g + 3, 3, none⟩) (by have := hU.hg; simp; omega) (.int .i64 (loads + 1))
      obtain ⟨w6, hw6⟩ : ∃ w6, w5.setCell ⟨g + 3, 3, none⟩ (.int .i64 (loads + 1)) = w6 := ⟨_, rfl⟩
      rw [hw6] at hU6 hr6 ⊢
      clear hw6 hU5 hU hHas hr4 hr5 q3 f3 kt4 p0 p1
      obtain ⟨p0, p1, _, _, _, _⟩ := hU6.kc.cell6'
      obtain ⟨_, _, _, _, q4, _⟩ := hU6.ko.cell6'
      have f4 := hU6.ko.frozen 4
      go_upto_region 7 with fail
      have hU7 := hU6.set 4 (.int .i64 (drops + 1))
      simp only [List.setIfInBounds_toArray, List.set_cons_zero, List.set_cons_succ] at hU7
      have hr7 : Rd _ B (some ⟨b0, o0, none⟩) (encT S) := hr6.setCell (p := ⟨g + 3, 4, none⟩) (by have := hU6.hg; simp; omega) (.int .i64 (drops + 1))
      obtain ⟨w7, hw7⟩ : ∃ w7, w6.setCell ⟨g + 3, 4, none⟩ (.int .i64 (drops + 1)) = w7 := ⟨_, rfl⟩
      rw [hw7] at hU7 hr7 ⊢
      clear hw7 hU6 hr6 p0 p1 q4 f4
      obtain ⟨p0, p1, _, _, _, _⟩ := hU7.kc.cell6'
      obtain ⟨b0', o0', e9, _, e0, e1⟩ := rd_tile hr7 0 hn1
      injection e9 with e9; injection e9 with e91 e92
      subst e91; subst e92
      rw [HS0.out] at e0 e1
      simp only [Nat.zero_mul, Nat.add_zero] at e0 e1
      have hW0 := without_t S (some ⟨b0, o0, none⟩) n c (s1, s2) w7.drew HN.out hr7.drew (by have := hU7.bel.size; simp; omega) (by omega)
      have hs1l : (woT S (s1, s2)).length ≤ n := by rw [← HN.out]; exact List.length_filter_le _ _
      obtain ⟨S1, hS1⟩ : ∃ S1, woT S (s1, s2) = S1 := ⟨_, rfl⟩
      rw [hS1] at HF hs1l
      simp only [hS1] at hW0
      have hU7d := hU7.nx (Below.refl _ w7).drew
      clear HS0 hS1 hr7 hn1 hU7
      go_still_tail 6, (by kernel_rfl)
      go_upto_region 8 with (go_at_call 41; (with_reducible refine hW0.mono ?_); rintro e w8 ⟨v8, rfl, ho8, hb8⟩; have hU8 := hU7d.nx hb8; obtain ⟨A1, c1, rfl, _⟩ := own_form ho8; have x1 := hU8.ko.cell6'.2.1; have f1 := hU8.ko.frozen 1)
      have hU9 := hU8.set 1 (.slice A1 S1.length c1)
      simp only [List.setIfInBounds_toArray, List.set_cons_zero, List.set_cons_succ] at hU9
      have ho9 := own_far ho8 ⟨g + 3, 1, none⟩ (.slice A1 S1.length c1) (fun b hb e => by have := (ho8.lt b hb).1; have := hU7d.ko.lt; simp at e; omega)
      obtain ⟨w6, hw6⟩ : ∃ w6, w8.setCell ⟨g + 3, 1, none⟩ (.slice A1 S1.length c1) = w6 := ⟨_, rfl⟩
      rw [hw6] at hU9 ho9 ⊢
      have hr66 := Rd.of_own ho9
      have hS1n : S1.length ≤ 100000 := by omega
      have hWo := without_t S1 A1 S1.length c1 (t1, t2) w6 rfl hr66 (Nat.le_refl _) (by omega)
      simp only at hWo
      have hb46 : Below w.heap.size w w6 := hU9.bel
      have hU6 := hU9
      obtain ⟨h1, eh1⟩ : ∃ h1, hits = h1 := ⟨_, rfl⟩
      obtain ⟨l1, el1⟩ : ∃ l1, loads + 1 = l1 := ⟨_, rfl⟩
      obtain ⟨d1, ed1⟩ : ∃ d1, drops + 1 = d1 := ⟨_, rfl⟩
      rw [eh1, el1, ed1] at hU6
      rw [eh1, el1, ed1] at HF
      clear eh1 el1 ed1 hU9 ho9 ho8 hU8 hU7d x1 f1 hW0 e0 e1 p0 p1 hw6 hr66
      obtain ⟨L1, hL1⟩ : ∃ L1, woT S1 (t1, t2) = L1 := ⟨_, rfl⟩
      rw [hL1] at hWo HF
      have hl1 : L1.length ≤ S1.length := by rw [← hL1]; exact List.length_filter_le _ _
      have kt6 := hU6.kt
      obtain ⟨_, q1, _, _, _, q5⟩ := hU6.ko.cell6'
      clear hL1
      go_upto_region 9 with (first
        | (refine ldB rfl _ _ rfl kt6 rfl Tryz.underlying48 rfl ti_size ?_)
        | (go_at_call 41; (with_reducible refine hWo.mono ?_); rintro e w7 ⟨v7, rfl, ho7, hb7⟩))
      have hU7 := hU6.nx hb7
      have hzw6 : w.heap.size ≤ w6.heap.size := hU6.bel.size
      have hz67 : w6.heap.size ≤ w7.heap.size := hb7.size
      have hgz : g + 4 ≤ w6.heap.size := by have := hU6.ko.lt; omega
      have kt7 := hU7.kt
      have c0 := kt7.cell2
      obtain ⟨y0, y1⟩ := c0
      have hne3 : ∀ b, v7.ownBlock = some b → g + 4 ≤ b := fun b hb => by have := (ho7.lt b hb).1; have := hU6.ko.lt; omega
      clear q1 hWo hU6 kt6
      go_upto_region 10 with (first
        | (refine ldB rfl _ _ rfl kt7 rfl Tryz.underlying48 rfl ti_size ?_)
        | (at_builtin; refine app1 rfl _ _ _ rfl Tryz.underlying35 ti_info rfl (by omega) rfl rfl ho7 hU7.bel hzw6 hz67 rfl (by simp [Value.oneCell']) (by omega) (by omega) ?_; intro v8 w8 ho8 hb8 hz8 hg8 hv8; clear hv8; obtain ⟨A8, c8, rfl, _⟩ := own_form ho8; have hU8 := hU7.gr hg8 hb8 hne3; have f1 := hU8.ko.frozen 1; have x1 := hU8.ko.cell6'.2.1))
      have hU9 := hU8.set 1 (.slice A8 (L1.length + 1) c8)
      simp only [List.setIfInBounds_toArray, List.set_cons_zero, List.set_cons_succ] at hU9
      have ho9 := (own_far ho8 ⟨g + 3, 1, none⟩ (.slice A8 (L1.length + 1) c8) (fun b hb e => by have := (ho8.lt b hb).1; simp at e; omega))
      obtain ⟨w9, hw9⟩ : ∃ w9, w8.setCell ⟨g + 3, 1, none⟩ (.slice A8 (L1.length + 1) c8) = w9 := ⟨_, rfl⟩
      have hz89 : w8.heap.size ≤ w9.heap.size := by rw [← hw9]; simp
      rw [hw9] at hU9 ho9 ⊢
      obtain ⟨q0, q1, q2, q3, q4, q5⟩ := hU9.ko.cell6'
      have f5 := hU9.ko.frozen 5
      clear f1 x1 hU8 ho8 hg8 hb8 hz8 hw9 hU7 ho7 y0 y1 kt7 hne3
      obtain ⟨hh, hhE⟩ : ∃ hh, max high ((L1.length : Int) + 1) = hh := ⟨_, rfl⟩
      go_upto_region 11 with fail
      have hU10 := hU9.set 5 (.int .i64 hh)
      simp only [List.setIfInBounds_toArray, List.set_cons_zero, List.set_cons_succ] at hU10
      have ho10 := own_far ho9 ⟨g + 3, 5, none⟩ (.int .i64 hh) (fun b hb e => by have := (ho9.lt b hb).1; simp at e; omega)
      obtain ⟨wA, hwA⟩ : ∃ wA, w9.setCell ⟨g + 3, 5, none⟩ (.int .i64 hh) = wA := ⟨_, rfl⟩
      have hzA : w9.heap.size ≤ wA.heap.size := by rw [← hwA]; simp
      have HHE := Lib.hid hhE
      rw [hwA] at hU10 ho10 ⊢
      clear hhE
      have kA := hU10.ko
      have kr := hU10.kr
      clear f5 q0 q1 q2 q3 q4 q5 hwA hU9 ho9
      go_wp2_with (first
        | (refine ldB rfl _ _ rfl kA rfl Tryz.underlying55 rfl cm_size ?_)
        | (refine stB (ty := 55) (cells := caM most (.slice A8 (L1.length + 1) c8) h1 l1 d1 hh) rfl _ _ rfl kr rfl rfl cm_size rfl (by simp [Value.oneCell']) ?_; intro wB kB hgB hsB))
      refine bodyPost_ret (res_cell rfl kB rfl Tryz.underlying55 rfl cm_size) rfl ?_
      have hoB := ho10.kept hgB (.inr (fun e => by have := (ho10.lt _ e).1; omega))
      rw [HF.out]
      simp only [List.length_append, List.length_singleton]
      refine ⟨A8, ⟨c8, ?_⟩, ?_, ?_⟩
      · rw [← HHE.out]; rfl
      · rw [encT_app]; exact (RdL.of_own hoB).less hzw6
      · exact below_grown hU10.bel hgB (by have := hU10.hg; omega) (by have := hU10.bel.size; omega)
    · have HF : Hid (mm = ⟨woT S (t1, t2) ++ [(t1, t2)], hits, loads + 1, drops, max high (woT S (t1, t2) ++ [(t1, t2)]).length⟩) := by
        have h9 : ¬ ((S.length : Nat) : Int) = most := by rw [HN.out]; exact hfull
        rw [← HMM.out]; unfold useM; simp only; rw [if_neg HNM.out, if_neg h9]; rfl
      have hfb : ((n : Int) == most) = false := by simpa using hfull
      go_upto_region 4 with (first
        | (refine ldB rfl _ _ rfl kt4 rfl Tryz.underlying48 rfl ti_size ?_)
        | (go_at_call 20; (with_reducible refine hHas.mono ?_); rintro e w5 ⟨rfl, hb5⟩))
      have hU5 := hU.nx hb5
      have hr5 := hr4.below' (hb5.mono (Nat.le_refl _)) hz4
      obtain ⟨_, _, _, q3, _, _⟩ := hU5.ko.cell6'
      obtain ⟨p0, p1, _, _, _, _⟩ := hU5.kc.cell6'
      have f3 := hU5.ko.frozen 3
      go_upto_region 5 with fail
      have hU6 := hU5.set 3 (.int .i64 (loads + 1))
      simp only [List.setIfInBounds_toArray, List.set_cons_zero, List.set_cons_succ] at hU6
      have hr6 : Rd _ B A (encT S) := hr5.setCell (p := ⟨g + 3, 3, none⟩) (by have := hU.hg; simp; omega) (.int .i64 (loads + 1))
      obtain ⟨w6, hw6⟩ : ∃ w6, w5.setCell ⟨g + 3, 3, none⟩ (.int .i64 (loads + 1)) = w6 := ⟨_, rfl⟩
      rw [hw6] at hU6 hr6 ⊢
      have hb46 : Below w.heap.size w w6 := hU6.bel
      obtain ⟨S1, hS1⟩ : ∃ S1, S1 = S := ⟨_, rfl⟩
      have hWo := without_t S A n c (t1, t2) w6 HN.out hr6 (Nat.le_trans hB hb46.size) (by omega)
      have hS1n : S1.length ≤ 100000 := by rw [hS1, HN.out]; exact hb
      rw [← hS1] at hWo
      rw [show woT S (t1, t2) = woT S1 (t1, t2) by rw [hS1]] at HF
      simp only at hWo
      obtain ⟨h1, eh1⟩ : ∃ h1, hits = h1 := ⟨_, rfl⟩
      obtain ⟨l1, el1⟩ : ∃ l1, loads + 1 = l1 := ⟨_, rfl⟩
      obtain ⟨d1, ed1⟩ : ∃ d1, drops = d1 := ⟨_, rfl⟩
      rw [eh1, el1, ed1] at hU6
      rw [eh1, el1, ed1] at HF
      clear eh1 el1 ed1 hw6 hU5 hU hHas hr4 hr5 q3 f3 kt4 p0 p1 hr6 hS1
      obtain ⟨p0, p1, _, _, _, _⟩ := hU6.kc.cell6'
      go_upto_region 8 with fail
      clear p0 p1
      obtain ⟨L1, hL1⟩ : ∃ L1, woT S1 (t1, t2) = L1 := ⟨_, rfl⟩
      rw [hL1] at hWo HF
      have hl1 : L1.length ≤ S1.length := by rw [← hL1]; exact List.length_filter_le _ _
      have kt6 := hU6.kt
      obtain ⟨_, q1, _, _, _, q5⟩ := hU6.ko.cell6'
      clear hL1
      go_upto_region 9 with (first
        | (refine ldB rfl _ _ rfl kt6 rfl Tryz.underlying48 rfl ti_size ?_)
        | (go_at_call 41; (with_reducible refine hWo.mono ?_); rintro e w7 ⟨v7, rfl, ho7, hb7⟩))
      have hU7 := hU6.nx hb7
      have hzw6 : w.heap.size ≤ w6.heap.size := hU6.bel.size
      have hz67 : w6.heap.size ≤ w7.heap.size := hb7.size
      have hgz : g + 4 ≤ w6.heap.size := by have := hU6.ko.lt; omega
      have kt7 := hU7.kt
      have c0 := kt7.cell2
      obtain ⟨y0, y1⟩ := c0
      have hne3 : ∀ b, v7.ownBlock = some b → g + 4 ≤ b := fun b hb => by have := (ho7.lt b hb).1; have := hU6.ko.lt; omega
      clear q1 hWo hU6 kt6
      go_upto_region 10 with (first
        | (refine ldB rfl _ _ rfl kt7 rfl Tryz.underlying48 rfl ti_size ?_)
        | (at_builtin; refine app1 rfl _ _ _ rfl Tryz.underlying35 ti_info rfl (by omega) rfl rfl ho7 hU7.bel hzw6 hz67 rfl (by simp [Value.oneCell']) (by omega) (by omega) ?_; intro v8 w8 ho8 hb8 hz8 hg8 hv8; clear hv8; obtain ⟨A8, c8, rfl, _⟩ := own_form ho8; have hU8 := hU7.gr hg8 hb8 hne3; have f1 := hU8.ko.frozen 1; have x1 := hU8.ko.cell6'.2.1))
      have hU9 := hU8.set 1 (.slice A8 (L1.length + 1) c8)
      simp only [List.setIfInBounds_toArray, List.set_cons_zero, List.set_cons_succ] at hU9
      have ho9 := (own_far ho8 ⟨g + 3, 1, none⟩ (.slice A8 (L1.length + 1) c8) (fun b hb e => by have := (ho8.lt b hb).1; simp at e; omega))
      obtain ⟨w9, hw9⟩ : ∃ w9, w8.setCell ⟨g + 3, 1, none⟩ (.slice A8 (L1.length + 1) c8) = w9 := ⟨_, rfl⟩
      have hz89 : w8.heap.size ≤ w9.heap.size := by rw [← hw9]; simp
      rw [hw9] at hU9 ho9 ⊢
      obtain ⟨q0, q1, q2, q3, q4, q5⟩ := hU9.ko.cell6'
      have f5 := hU9.ko.frozen 5
      clear f1 x1 hU8 ho8 hg8 hb8 hz8 hw9 hU7 ho7 y0 y1 kt7 hne3
      obtain ⟨hh, hhE⟩ : ∃ hh, max high ((L1.length : Int) + 1) = hh := ⟨_, rfl⟩
      go_upto_region 11 with fail
      have hU10 := hU9.set 5 (.int .i64 hh)
      simp only [List.setIfInBounds_toArray, List.set_cons_zero, List.set_cons_succ] at hU10
      have ho10 := own_far ho9 ⟨g + 3, 5, none⟩ (.int .i64 hh) (fun b hb e => by have := (ho9.lt b hb).1; simp at e; omega)
      obtain ⟨wA, hwA⟩ : ∃ wA, w9.setCell ⟨g + 3, 5, none⟩ (.int .i64 hh) = wA := ⟨_, rfl⟩
      have hzA : w9.heap.size ≤ wA.heap.size := by rw [← hwA]; simp
      have HHE := Lib.hid hhE
      rw [hwA] at hU10 ho10 ⊢
      clear hhE
      have kA := hU10.ko
      have kr := hU10.kr
      clear f5 q0 q1 q2 q3 q4 q5 hwA hU9 ho9
      go_wp2_with (first
        | (refine ldB rfl _ _ rfl kA rfl Tryz.underlying55 rfl cm_size ?_)
        | (refine stB (ty := 55) (cells := caM most (.slice A8 (L1.length + 1) c8) h1 l1 d1 hh) rfl _ _ rfl kr rfl rfl cm_size rfl (by simp [Value.oneCell']) ?_; intro wB kB hgB hsB))
      refine bodyPost_ret (res_cell rfl kB rfl Tryz.underlying55 rfl cm_size) rfl ?_
      have hoB := ho10.kept hgB (.inr (fun e => by have := (ho10.lt _ e).1; omega))
      rw [HF.out]
      simp only [List.length_append, List.length_singleton]
      refine ⟨A8, ⟨c8, ?_⟩, ?_, ?_⟩
      · rw [← HHE.out]; rfl
      · rw [encT_app]; exact (RdL.of_own hoB).less hzw6
      · exact below_grown hU10.bel hgB (by have := hU10.hg; omega) (by have := hU10.bel.size; omega)
end Go.Proofs.YtahiaeaobbofbaaGreat
end
