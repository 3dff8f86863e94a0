/- The windows of what is right. -/
import Derived.Test.YtpcjoalbhicccaaTh7
import Derived.Deep.DeepCutAuto
import Derived.Deep.RegionHeld3
import Derived.Deep.RegionWith
import Derived.RegionTactic
import Derived.IntWalk
set_option linter.unusedVariables false
namespace Go.Proofs.Ytpcjoalbhicccaa
open Go.RowKit
abbrev tslA (b x y : Int) : Array Value := #[.int .i64 b, .int .i64 x, .int .i64 y]
theorem sl_size : (Try.prog.info? 59).map (·.size) = some 3 := by kernel_rfl
theorem keep4 {w w' : World} {B b o : Nat} {u v x y : Value} (h1 : w.cell? ⟨b, o, none⟩ = some u) (h2 : w.cell? ⟨b, o + 1, none⟩ = some v) (h3 : w.cell? ⟨b, o + 2, none⟩ = some x) (h4 : w.cell? ⟨b, o + 3, none⟩ = some y) (hb : b < B) (h : Below B w w') :
    (w'.cell? ⟨b, o, none⟩ = some u ∧ w'.cell? ⟨b, o + 1, none⟩ = some v ∧ w'.cell? ⟨b, o + 2, none⟩ = some x ∧ w'.cell? ⟨b, o + 3, none⟩ = some y) ∧ Below B w w' :=
  ⟨⟨(h.cell (by exact hb)).trans h1, (h.cell (by exact hb)).trans h2, (h.cell (by exact hb)).trans h3, (h.cell (by exact hb)).trans h4⟩, h⟩
theorem keep3 {w w' : World} {B b : Nat} {u v x : Value} (h1 : w.cell? ⟨b, 0, none⟩ = some u) (h2 : w.cell? ⟨b, 1, none⟩ = some v) (h3 : w.cell? ⟨b, 2, none⟩ = some x) (hb : b < B) (h : Below B w w') :
    (w'.cell? ⟨b, 0, none⟩ = some u ∧ w'.cell? ⟨b, 1, none⟩ = some v ∧ w'.cell? ⟨b, 2, none⟩ = some x) ∧ Below B w w' :=
  ⟨⟨(h.cell (by exact hb)).trans h1, (h.cell (by exact hb)).trans h2, (h.cell (by exact hb)).trans h3⟩, h⟩
theorem Bk.far4 {w : World} {g b : Nat} {t : TypeId} {cs : Array Value} (h : Bk w g t cs) (hg : g ≠ b) (x y z u : Value) : Bk ((((w.setCell ⟨b, 0, none⟩ x).setCell ⟨b, 1, none⟩ y).setCell ⟨b, 2, none⟩ z).setCell ⟨b, 3, none⟩ u) g t cs :=
  (((h.far (p := ⟨b, 0, none⟩) hg x).far (p := ⟨b, 1, none⟩) hg y).far (p := ⟨b, 2, none⟩) hg z).far (p := ⟨b, 3, none⟩) hg u
theorem res_rrt {fn : Func} {p q r : Tmp} (h : fn.results = #[.cell p 26, .cell q 26, .tmp r]) {tmps : Array Value} {w : World} {g g' : Nat} {a b c d a' b' c' d' : Int} (hK : Bk w g 26 (rectA a b c d)) (hK' : Bk w g' 26 (rectA a' b' c' d'))
    (hp : tmps.getD p undef = .pointer (some ⟨g, 0, none⟩)) (hq : tmps.getD q undef = .pointer (some ⟨g', 0, none⟩)) : (results fn tmps).run Try.prog w = .ok (.tuple #[rect4 a b c d, rect4 a' b' c' d', tmps.getD r undef]) w := by
  have hp' : tmps[p]?.getD undef = .pointer (some ⟨g, 0, none⟩) := by simpa using hp
  have hq' : tmps[q]?.getD undef = .pointer (some ⟨g', 0, none⟩) := by simpa using hq
  simp [results, h, hp', hq', asAddr, run_loadVar_row w g 26 26 _ (0, 0) _ hK Try.underlying26 rfl rect_size, run_loadVar_row w g' 26 26 _ (0, 0) _ hK' Try.underlying26 rfl rect_size]
theorem keep5 {w w' : World} {B b : Nat} {u v : Value} {S : Prop} (h1 : w.cell? ⟨b, 0, none⟩ = some u) (h2 : w.cell? ⟨b, 2, none⟩ = some v) (hb : b < B) (h : S ∧ Below B w w') :
    (S ∧ Below B w w') ∧ w'.cell? ⟨b, 0, none⟩ = some u ∧ w'.cell? ⟨b, 2, none⟩ = some v :=
  ⟨h, (h.2.cell (by exact hb)).trans h1, (h.2.cell (by exact hb)).trans h2⟩
theorem mvs {b c x y : Int} (hb : bdI 262144 b) (hc : bdI 32768 c) (hx : bdI 32768 x) (hy : bdI 32768 y) : bdI 262145 (loW b c x y) ∧ bdI 262145 (hiW b c x y) := by
  have h1 := mulb hb.1 hb.2 (show -(65536:Int) ≤ x - c by omega) (show x - c ≤ 65536 by omega)
  have h2 := mulb hb.1 hb.2 (show -(65536:Int) ≤ y - c by omega) (show y - c ≤ 65536 by omega)
  unfold loW hiW mv rnd
  omega
set_option maxRecDepth 100000 in
set_option maxHeartbeats 2000000 in
theorem win_ok (A : Option Addr) (c : Nat) (p q r s W H X0 X1 Y0 Y1 : Int) (w : World) {B : Nat} (h : C4 w B A p q r s) (hB : B ≤ w.heap.size) (hok : ¬ winBad 4 p q r s W H) (hw : Win p q r s W H X0 X1 Y0 Y1) :
    Calls Try.prog 14 #[.slice A 4 c, .int .i64 W, .int .i64 H] w fun e w' => e = .returned (winV X0 0 X1 H X0 Y0 X1 Y1 true) ∧ Below w.heap.size w w' := by
  have h0 : slC 4 p q r s = 0 := by
    by_cases h0 : slC 4 p q r s = 0
    · exact h0
    · exact absurd (.inl h0) hok
  have hb0 : (slC 4 p q r s != 0) = false := by simpa using h0
  have hW : 1 ≤ W ∧ W ≤ 32768 ∧ 1 ≤ H ∧ H ≤ 32768 := by unfold winBad at hok; omega
  obtain ⟨hW1, hW2, hH1, hH2⟩ := hW
  have hsl : sl4B p q r s = true := by
    unfold slC at h0
    rw [if_neg (by omega)] at h0
    split at h0
    · assumption
    · omega
  obtain ⟨kp, kq, kr, ks⟩ := sl4B_iff.1 hsl
  clear hok h0 hsl
  have HC := h
  obtain ⟨b, o, rfl, hlt, g0, g1, g2, g3⟩ := h
  go_enter Try.func14, Try.ntmps14
  go_upto_region 3 with (go_at_call 34; (with_reducible refine (scheck_any _ 4 c p q r s _ (B := B) (by intro e; exact HC.below ((((Below.refl w.heap.size w).alloc (Nat.le_refl _) _).alloc (by simp) _)) hB)).mono ?_); rintro e w' ⟨rfl, rfl⟩)
  have hbz : Below w.heap.size w ((w.alloc (.cells (rectA 0 0 0 0) 26)).alloc (.cells (rectA 0 0 0 0) 26)) := by go_grown
  have hK6 := (Bk.new w 26 (rectA 0 0 0 0)).alloc (.cells (rectA 0 0 0 0) 26)
  have hK7 := Bk.new (w.alloc (.cells (rectA 0 0 0 0) 26)) 26 (rectA 0 0 0 0)
  have HC2 := HC.below hbz hB
  have hz : w.heap.size + 2 = ((w.alloc (.cells (rectA 0 0 0 0) 26)).alloc (.cells (rectA 0 0 0 0) 26)).heap.size := by simp
  simp only [World.size_alloc] at hK7
  clear g0 g1 g2 g3 HC
  generalize hW1 : (w.alloc (.cells (rectA 0 0 0 0) 26)).alloc (.cells (rectA 0 0 0 0) 26) = w1 at *
  clear hW1
  obtain ⟨b', o', e', hlt', g0, g1, g2, g3⟩ := HC2
  obtain ⟨rfl, rfl⟩ : b' = b ∧ o' = o := by injection e' with e'; injection e' with e1 e2; exact ⟨e1.symm, e2.symm⟩
  have hlt2 : b' < w.heap.size + 2 := by omega
  clear e' hlt'
  have hz1 := Nat.le_of_eq hz
  have hz2 := Nat.le_of_eq hz.symm
  clear hz
  go_cut [9, 10] (fun u v wx => ∃ g g', u = .pointer (some ⟨g, 0, none⟩) ∧ v = .pointer (some ⟨g', 0, none⟩) ∧ g ≠ g' ∧ Bk wx g 59 (tslA p r s) ∧ Bk wx g' 59 (tslA q r s) ∧ Below (w.heap.size + 2) w1 wx)
  case first =>
    go_region_held3 (fun w' => (w'.cell? ⟨b', o', none⟩ = some (.int .i64 p) ∧ w'.cell? ⟨b', o' + 1, none⟩ = some (.int .i64 q) ∧ w'.cell? ⟨b', o' + 2, none⟩ = some (.int .i64 r) ∧ w'.cell? ⟨b', o' + 3, none⟩ = some (.int .i64 s)) ∧ Below (w.heap.size + 2) w1 w')
      ((refine keep4 g0 g1 g2 g3 hlt2 ?_; go_grown)) (fail)
    · rename_i hHeld
      have hbx := hHeld.2
      clear hHeld
      go_wp2_with fail
      go_meet
      refine ⟨_, _, rfl, rfl, by omega, ((Bk.new w1 59 (tslA p r s)).alloc _).drew, ?_, hbx⟩
      simpa using (Bk.new (w1.alloc (.cells (tslA p r s) 59)) 59 (tslA q r s)).drew
    · rename_i hHeld
      have hbx := hHeld.2
      clear hHeld
      go_wp2_with fail
      go_meet
      refine ⟨_, _, rfl, rfl, by omega, ?_, ((Bk.new w1 59 (tslA q r s)).alloc _).drew, hbx⟩
      simpa using (Bk.new (w1.alloc (.cells (tslA q r s) 59)) 59 (tslA p r s)).drew
  case rest =>
    obtain ⟨g, g', rfl, rfl, hne, hG, hG', hbx⟩ := hcut
    have hl9 := hG.lt
    have hl10 := hG'.lt
    obtain ⟨c0, c1, c2⟩ := hG.cell3
    have hBd : bdI 4294967296 (H - 1) := by omega
    have h00 : bdI 4294967296 0 := by omega
    have whh : wrap64 (H - 1) = H - 1 := IntWalk.wrap64_in _ ⟨by omega, by omega⟩
    have wh2 : IntKind.i64.wrap (H - 1) = H - 1 := IntWalk.i64_in _ (by omega)
    have hK6c := hK6.below hbx (by omega)
    have hK7c := hK7.below hbx (by omega)
    have hbzc := hbz.trans (hbx.mono (by omega))
    have hzc := hbx.size
    clear hK6 hK7 hbz hbx g0 g1 g2 g3
    go_upto_region 4 with fail
    go_cut [11, 12] (fun u v wx => u = .int .i64 X0 ∧ v = .int .i64 (X1 - W) ∧ Below wc.heap.size wc wx)
    case first =>
      go_region_held3 (fun w' => (w'.cell? ⟨g, 0, none⟩ = some (.int .i64 p) ∧ w'.cell? ⟨g, 1, none⟩ = some (.int .i64 r) ∧ w'.cell? ⟨g, 2, none⟩ = some (.int .i64 s)) ∧ Below wc.heap.size wc w')
        (first
          | exact keep3 c0 c1 c2 hl9 hbb
          | exact keep3 c0 c1 c2 hl9 hba
          | (refine keep3 c0 c1 c2 hl9 ?_; go_grown))
        (first
          | (go_at_call 36; (with_reducible refine (across_any _ _ _ _ _ kp ks h00).mono ?_); rintro e wa ⟨rfl, hba'⟩; have hba : Below wc.heap.size wc wa := Below.trans (by first | exact hbb | go_grown) (hba'.mono (by first | exact hbb.size | exact Nat.le_refl _)))
          | (go_at_call 36; (with_reducible refine (across_any _ _ _ _ _ kp ks hBd).mono ?_); rintro e wb ⟨rfl, hbb'⟩; have hbb : Below wc.heap.size wc wb := Below.trans (by first | exact hba | go_grown) (hbb'.mono (by first | exact hba.size | exact Nat.le_refl _)))
          | (go_at_call 35; (with_reducible refine (ends_any _ _ _).mono ?_); rintro e w' ⟨rfl, rfl⟩))
      all_goals
        go_wp2_with fail
        go_meet
        exact ⟨val_int (by rw [hw.x0]; rfl), val_int (by have h1 := hw.x1; unfold hiW at h1; omega), by first | exact hbb | exact hba⟩
    case rest =>
      obtain ⟨rfl, rfl, hbx⟩ := hcut
      have hG'd := hG'.below hbx hl10
      have hK6d := hK6c.below hbx hK6c.lt
      have hK7d := hK7c.below hbx hK7c.lt
      have hbzd := hbzc.trans (hbx.mono (by omega))
      have hzd := hbx.size
      have hbd1 := mvs kp ks (x := 0) (y := H - 1) ⟨by omega, by omega⟩ ⟨by omega, by omega⟩
      have hbd2 : bdI 262145 X0 := by have := hw.x0; omega
      have hbd3 : bdI 262145 (X1 - W) := by have := hw.x1; omega
      have wx1 : wrap64 (X1 - W + W) = X1 := by rw [show X1 - W + W = X1 by omega]; exact IntWalk.wrap64_in _ ⟨by omega, by omega⟩
      clear hG hl9 c0 c1 c2 hG' hK6c hK7c hbzc hbx hbd1
      go_upto_region 6 with fail
      have hKd := Bk.new wc 26 (rectA X0 0 X1 H)
      have hld := hKd.lt
      obtain ⟨d0, _, d2, _⟩ := hKd.cell4
      have hGd := hG'd.alloc (.cells (rectA X0 0 X1 H) 26)
      have hlgd := hGd.lt
      obtain ⟨c0, c1, c2⟩ := hGd.cell3
      have hK6e := hK6d.alloc (.cells (rectA X0 0 X1 H) 26)
      have hK7e := hK7d.alloc (.cells (rectA X0 0 X1 H) 26)
      have hbze := hbzd.alloc hbzd.size (.cells (rectA X0 0 X1 H) 26)
      have hneg : g' ≠ wc.heap.size := by have := hG'd.lt; omega
      have hltw := hK7d.lt
      have wy1 : IntKind.i64.wrap (X1 - 1) = X1 - 1 := IntWalk.i64_in _ (by omega)
      have wy2 : wrap64 (X1 - 1) = X1 - 1 := IntWalk.wrap64_in _ ⟨by omega, by omega⟩
      have hbX : bdI 4294967296 X0 := by omega
      have hbY : bdI 4294967296 (X1 - 1) := by omega
      have hbw := mvb kq kr hbX hbY
      have hbd4 : bdI 17180000300 Y0 := by have := hw.y0; omega
      have hbd5 : bdI 17180000300 (Y1 - H) := by have := hw.y1; omega
      clear hbw hG'd hK6d hK7d hbzd
      generalize hW2 : wc.alloc (.cells (rectA X0 0 X1 H) 26) = w2 at *
      clear hW2
      generalize wc.heap.size = gd at *
      go_cut [11, 12] (fun u v wx => u = .int .i64 Y0 ∧ v = .int .i64 (Y1 - H) ∧ Below w2.heap.size w2 wx)
      case first =>
        go_region_held3 (fun w' => ((w'.cell? ⟨g', 0, none⟩ = some (.int .i64 q) ∧ w'.cell? ⟨g', 1, none⟩ = some (.int .i64 r) ∧ w'.cell? ⟨g', 2, none⟩ = some (.int .i64 s)) ∧ Below w2.heap.size w2 w') ∧ w'.cell? ⟨gd, 0, none⟩ = some (.int .i64 X0) ∧ w'.cell? ⟨gd, 2, none⟩ = some (.int .i64 X1))
          (first
            | exact keep5 d0 d2 hld (keep3 c0 c1 c2 hlgd hbb)
            | exact keep5 d0 d2 hld (keep3 c0 c1 c2 hlgd hba)
            | (refine keep5 d0 d2 hld (keep3 c0 c1 c2 hlgd ?_); go_grown))
          (first
            | (go_at_call 37; (with_reducible refine (along_any _ _ _ _ _ kq kr hbX).mono ?_); rintro e wa ⟨rfl, hba'⟩; have hba : Below w2.heap.size w2 wa := Below.trans (by first | exact hbb | go_grown) (hba'.mono (by first | exact hbb.size | exact Nat.le_refl _)))
            | (go_at_call 37; (with_reducible refine (along_any _ _ _ _ _ kq kr hbY).mono ?_); rintro e wb ⟨rfl, hbb'⟩; have hbb : Below w2.heap.size w2 wb := Below.trans (by first | exact hba | go_grown) (hbb'.mono (by first | exact hba.size | exact Nat.le_refl _)))
            | (go_at_call 35; (with_reducible refine (ends_any _ _ _).mono ?_); rintro e w' ⟨rfl, rfl⟩))
        all_goals
          go_wp2_with fail
          go_meet
          exact ⟨val_int (by rw [hw.y0]; rfl), val_int (by have h1 := hw.y1; unfold hiW at h1; omega), by first | exact hbb | exact hba⟩
      case rest =>
        obtain ⟨rfl, rfl, hbx⟩ := hcut
        have hKf := hKd.below hbx hld
        have hK6f := hK6e.below hbx hK6e.lt
        have hK7f := hK7e.below hbx hK7e.lt
        have hbzf := hbze.trans (hbx.mono (by have := hbze.size; omega))
        have wz1 : wrap64 (Y1 - H + H) = Y1 := by rw [show Y1 - H + H = Y1 by omega]; exact IntWalk.wrap64_in _ ⟨by omega, by omega⟩
        have wz3 : IntKind.i64.wrap Y1 = Y1 := IntWalk.i64_in _ (by omega)
        have wz2 : IntKind.i64.wrap (Y1 - H + H) = Y1 := by rw [show Y1 - H + H = Y1 by omega]; exact IntWalk.i64_in _ (by omega)
        clear hKd hK6e hK7e hbze hbx d0 d2 c0 c1 c2
        go_upto_region 7 with fail
        have hKfd := hKf.drew
        have hK6g := hK6f.drew
        have hK7g := hK7f.drew
        obtain ⟨a0, a1, a2, a3⟩ := hK6f.cell4
        have f0 := hK6f.frozen 0
        have f1 := hK6f.frozen 1
        have f2 := hK6f.frozen 2
        have f3 := hK6f.frozen 3
        obtain ⟨b0, b1, b2, b3⟩ := hK7f.cell4
        have k0 := hK7f.frozen 0
        have k1 := hK7f.frozen 1
        have k2 := hK7f.frozen 2
        have k3 := hK7f.frozen 3
        have hgd6 : gd ≠ w.heap.size := by omega
        have hgd7 : gd ≠ w.heap.size + 1 := by omega
        go_region_held3 (fun w' => w'.cell? ⟨gd, 0, none⟩ = some (.int .i64 X0) ∧ w'.cell? ⟨gd, 1, none⟩ = some (.int .i64 0) ∧ w'.cell? ⟨gd, 2, none⟩ = some (.int .i64 X1) ∧ w'.cell? ⟨gd, 3, none⟩ = some (.int .i64 H))
          (first
            | with_reducible exact hKf.drew.cell4
            | with_reducible exact (hKf.far4 hgd6 _ _ _ _).drew.cell4
            | with_reducible exact ((hKf.far4 hgd6 _ _ _ _).drew.far4 hgd7 _ _ _ _).drew.cell4
            | with_reducible exact ((hKf.far4 hgd6 _ _ _ _).far4 hgd7 _ _ _ _).drew.cell4
            | with_reducible exact ((hKf.far4 hgd6 _ _ _ _).far4 hgd7 _ _ _ _).cell4)
          (fail)
        rename_i hHeld
        clear hHeld
        have hK6e := (hK6f.set4 (.int .i64 X0) (.int .i64 0) (.int .i64 X1) (.int .i64 H)).far4 (b := w.heap.size + 1) (by omega) (.int .i64 X0) (.int .i64 Y0) (.int .i64 X1) (.int .i64 Y1)
        have hK7e := (hK7f.far4 (b := w.heap.size) (by omega) (.int .i64 X0) (.int .i64 0) (.int .i64 X1) (.int .i64 H)).set4 (.int .i64 X0) (.int .i64 Y0) (.int .i64 X1) (.int .i64 Y1)
        have hbe := below_drewN (below_set4 (below_set4 hbzf (Nat.le_refl _) (.int .i64 X0) (.int .i64 0) (.int .i64 X1) (.int .i64 H)) (Nat.le_succ _) (.int .i64 X0) (.int .i64 Y0) (.int .i64 X1) (.int .i64 Y1)) 1
        clear a0 a1 a2 a3 f0 f1 f2 f3 b0 b1 b2 b3 k0 k1 k2 k3 hKfd hKf hK6f hK7f hbzf
        go_wp2_with fail
        refine bodyPost_ret (res_rrt rfl hK6e.drew hK7e.drew rfl rfl) rfl ?_
        exact ⟨rfl, hbe⟩
end Go.Proofs.Ytpcjoalbhicccaa
