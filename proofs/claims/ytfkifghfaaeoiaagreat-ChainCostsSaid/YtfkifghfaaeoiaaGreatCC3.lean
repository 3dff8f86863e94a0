/- chain.Run of no warps; chain: the chapter's example. -/
import Derived.Test.YtfkifghfaaeoiaaGreatNP
import Derived.Test.YtfkifghfaaeoiaaGreatImg07
import Derived.Test.YtfkifghfaaeoiaaGreatKS
import Derived.BigRegion
import Derived.RegionTactic
import Derived.Deep.RegionWith
import Derived.Deep.RegionHeld3
import Derived.Deep.Cut
import Derived.Deep.DeepCutAuto
import Derived.Test.YtfkifghfaaeoiaaGreatLie
set_option linter.unusedVariables false
namespace Go.Proofs.YtfkifghfaaeoiaaGreat
open Go.RowKit
theorem rs_size : (Tryz.prog.info? 48).map (·.size) = some 7 := by kernel_rfl
theorem wy_size : (Tryz.prog.info? 53).map (·.size) = some 4 := by kernel_rfl
set_option maxRecDepth 100000 in
set_option maxHeartbeats 4000000 in
theorem usual_any (w : World) : Calls Tryz.prog 13 #[] w fun e w' => e = .returned (.agg #[.int .i64 64, .int .i64 64, .int .i64 16, .slice none 0 0]) ∧ Below w.heap.size w w' := by
  have hb := (Below.refl w.heap.size w).alloc (Nat.le_refl _) (.cells #[.int .i64 0, .int .i64 0, .int .i64 0, .slice none 0 0] 53)
  have hK := Bk.new w 53 #[.int .i64 0, .int .i64 0, .int .i64 0, .slice none 0 0]
  go_enter Tryz.func13, Tryz.ntmps13
  go_wp2_with (refine stB (ty := 53) (cells := #[.int .i64 64, .int .i64 64, .int .i64 16, .slice none 0 0]) rfl _ _ rfl hK rfl rfl wy_size rfl (by simp [Value.oneCell']) ?_; intro w' hK' hg' _)
  refine bodyPost_ret (res_cell rfl hK' rfl Tryz.underlying53 rfl wy_size) rfl ?_
  exact ⟨rfl, below_of_gb hb hg' (Nat.le_refl _) hb.size⟩
theorem icheck48 (W H C : Int) (A : Option Addr) (n c : Nat) (w : World) (hf : fitsC W H C = 0) (hn : (n : Int) = W * H * C) :
    Calls Tryz.prog 23 #[.agg #[.int .i64 W, .int .i64 H, .int .i64 C, .slice A n c]] w fun e w' => e = .returned (.int .i64 0) ∧ Below w.heap.size w w' := by
  obtain ⟨hc, hw1, hw2, hh1, hh2, hp⟩ := fitsC_ok hf
  have hp0 := mul_bd W H (by omega) (by omega) hw2 hh2
  have hp3 := mul3_bd W H C (by omega) hp (by omega) (by omega)
  have hfb : (fitsC W H C != 0) = false := by simpa using hf
  have HF := Lib.hid hf
  clear hf hc
  go_enter Tryz.func23, Tryz.ntmps23
  go_wp2_with (go_at_call 38; refine (fits_any _ _ _ _).mono ?_; rintro e w' ⟨rfl, rfl⟩)
  go_returns
  exact ⟨rfl, by go_grown⟩
theorem keep48 {w1 w' : World} {g h : Nat} {t t' : TypeId} {a b c d a' b' c' d' : Value} (k : Bk w1 g t #[a, b, c, d]) (k' : Bk w1 h t' #[a', b', c', d']) (hb : Below w1.heap.size w1 w') :
    (w'.cell? ⟨g, 0, none⟩ = some a ∧ w'.cell? ⟨g, 1, none⟩ = some b ∧ w'.cell? ⟨g, 2, none⟩ = some c ∧ w'.cell? ⟨g, 3, none⟩ = some d) ∧ (w'.cell? ⟨h, 0, none⟩ = some a' ∧ w'.cell? ⟨h, 1, none⟩ = some b' ∧ w'.cell? ⟨h, 2, none⟩ = some c' ∧ w'.cell? ⟨h, 3, none⟩ = some d') ∧ Below w1.heap.size w1 w' :=
  ⟨(k.nx hb).cell4, (k'.nx hb).cell4, hb⟩
set_option maxRecDepth 100000 in
set_option maxHeartbeats 8000000 in
theorem crun_none (W H C : Int) (A : Option Addr) (n c : Nat) (a b d most : Int) (w : World) (hf : fitsC W H C = 0) (hn : (n : Int) = W * H * C) :
    Calls Tryz.prog 12 #[.agg #[.int .i64 W, .int .i64 H, .int .i64 C, .slice A n c], .slice none 0 0, .agg #[.int .i64 a, .int .i64 b, .int .i64 d, .slice none 0 0], .int .i64 most] w fun e w' => e = .returned (.tuple #[.agg #[.int .i64 W, .int .i64 H, .int .i64 C, .slice A n c, .int .i64 0, .int .i64 0, .slice none 0 0], .int .i64 0]) ∧ Below w.heap.size w w' := by
  have hI := fun w' => icheck48 W H C A n c w' hf hn
  have hM : ∀ w' : World, Calls Tryz.prog 24 #[.int .i64 most] w' fun e w'' => ∃ g, e = .returned (.pointer (some ⟨g, 0, none⟩)) ∧ Below w'.heap.size w' w'' := fun w' => (mnew_any most w').mono fun e w'' ⟨h1, h2⟩ => ⟨_, h1, by rw [← h2]; exact (Below.refl _ _).alloc (Nat.le_refl _) _⟩
  have hL := (((Lie.start w).alloc #[.int .i64 W, .int .i64 H, .int .i64 C, .slice A n c] 45).alloc #[.int .i64 a, .int .i64 b, .int .i64 d, .slice none 0 0] 53).alloc #[.int .i64 0, .int .i64 0, .int .i64 0, .slice none 0 0, .int .i64 0, .int .i64 0, .slice none 0 0] 48
  simp only [World.size_alloc] at hL
  clear hf hn
  go_enter Tryz.func12, Tryz.ntmps12
  go_upto_region 4 with (go_at_call 23; (with_reducible refine (hI _).mono ?_); rintro e w1 ⟨rfl, hb1⟩)
  have hL1 := hL.nx hb1
  have k1 : Bk w1 w.heap.size 45 _ := hL1.k 2 (by simp)
  have k2 : Bk w1 (w.heap.size + 1) 53 _ := hL1.k 1 (by simp)
  have k3 : Bk w1 (w.heap.size + 1 + 1) 48 _ := hL1.k 0 (by simp)
  obtain ⟨a0, a1, a2, a3⟩ := k1.cell4
  obtain ⟨b0, b1, b2, b3⟩ := k2.cell4
  have hl1 := k3.lt
  have hl0 := k1.lt
  have hl2 := k2.lt
  go_region_held3 (fun w' => (w'.cell? ⟨w.heap.size, 0, none⟩ = some (.int .i64 W) ∧ w'.cell? ⟨w.heap.size, 1, none⟩ = some (.int .i64 H) ∧ w'.cell? ⟨w.heap.size, 2, none⟩ = some (.int .i64 C) ∧ w'.cell? ⟨w.heap.size, 3, none⟩ = some (.slice A n c)) ∧ (w'.cell? ⟨w.heap.size + 1, 0, none⟩ = some (.int .i64 a) ∧ w'.cell? ⟨w.heap.size + 1, 1, none⟩ = some (.int .i64 b) ∧ w'.cell? ⟨w.heap.size + 1, 2, none⟩ = some (.int .i64 d) ∧ w'.cell? ⟨w.heap.size + 1, 3, none⟩ = some (.slice none 0 0)) ∧ Below w1.heap.size w1 w')
    (first
      | exact keep48 k1 k2 hBm
      | exact keep48 k1 k2 (hBm.alloc hBm.size _)
      | exact keep48 k1 k2 ((Below.refl _ _).drew)
      | (refine keep48 k1 k2 ?_; go_grown))
    (first | (go_at_call 24; (with_reducible refine (hM _).mono ?_); rintro e wm ⟨gm, rfl, hbm⟩; have hBm : Below w1.heap.size w1 wm := (by first | exact hbm | exact Below.trans (by go_grown) hbm)))
  all_goals
    rename_i hHeld
    clear hHeld
    have hLm := (hL1.nx hBm).alloc #[.int .i64 W, .int .i64 H, .int .i64 C, .slice A n c, .int .i64 0, .int .i64 0, .slice none 0 0, .int .i64 a, .int .i64 b, .int .i64 d, .slice none 0 0, .pointer (some ⟨gm, 0, none⟩)] 63
    go_wp2_with fail
    clear hI hM hL hL1 hb1 k1 k2 k3 a0 a1 a2 a3 b0 b1 b2 b3 hl1 hl0 hl2
    have hbm2 := hBm
    generalize hgm : wm.heap.size = gr at *
    generalize wm.alloc (.cells #[.int .i64 W, .int .i64 H, .int .i64 C, .slice A n c, .int .i64 0, .int .i64 0, .slice none 0 0, .int .i64 a, .int .i64 b, .int .i64 d, .slice none 0 0, .pointer (some ⟨gm, 0, none⟩)] 63) = w5 at *
    clear hbm2 hBm hbm
    go_loopw [33] (fun iv wr => iv = .int .i64 0 ∧ wr = w5) (fun _ _ => 0)
    case atStart => exact ⟨rfl, rfl⟩
    case round =>
      obtain ⟨rfl, rfl⟩ := hrel
      have kr : Bk wr gr 63 _ := hLm.k 0 (by simp)
      have k8 : Bk wr (w.heap.size + 1 + 1) 48 _ := hLm.k 1 (by simp)
      have d0 := (kr.cell 0).trans (show _ = some (.int .i64 W) from rfl)
      have d1 := (kr.cell 1).trans (show _ = some (.int .i64 H) from rfl)
      have d2 := (kr.cell 2).trans (show _ = some (.int .i64 C) from rfl)
      have d3 := (kr.cell 3).trans (show _ = some (.slice A n c) from rfl)
      have d4 := (kr.cell 4).trans (show _ = some (.int .i64 0) from rfl)
      have d5 := (kr.cell 5).trans (show _ = some (.int .i64 0) from rfl)
      have d6 := (kr.cell 6).trans (show _ = some (.slice none 0 0) from rfl)
      have hbz := hLm.bel
      go_wp2_with (refine stB (ty := 48) (cells := #[.int .i64 W, .int .i64 H, .int .i64 C, .slice A n c, .int .i64 0, .int .i64 0, .slice none 0 0]) rfl _ _ rfl k8 rfl rfl rs_size rfl (by simp [Value.oneCell']) ?_; intro w6 k66 hg6 hs6)
      refine bodyPost_ret (res_cell_tmp rfl k66 rfl Tryz.underlying48 rfl rs_size) rfl ?_
      exact ⟨rfl, below_of_gb hbz hg6 (by omega) hbz.size⟩
abbrev z7 : Array Value := #[.int .i64 0, .int .i64 0, .int .i64 0, .slice none 0 0, .int .i64 0, .int .i64 0, .slice none 0 0]
theorem Bk.cell7 {w : World} {g : Nat} {t : TypeId} {v0 v1 v2 v3 v4 v5 v6 : Value} (h : Bk w g t #[v0, v1, v2, v3, v4, v5, v6]) : w.cell? ⟨g, 0, none⟩ = some v0 ∧ w.cell? ⟨g, 1, none⟩ = some v1 ∧ w.cell? ⟨g, 2, none⟩ = some v2 ∧ w.cell? ⟨g, 3, none⟩ = some v3 ∧ w.cell? ⟨g, 4, none⟩ = some v4 ∧ w.cell? ⟨g, 5, none⟩ = some v5 ∧ w.cell? ⟨g, 6, none⟩ = some v6 :=
  ⟨by rw [h.cell]; rfl, by rw [h.cell]; rfl, by rw [h.cell]; rfl, by rw [h.cell]; rfl, by rw [h.cell]; rfl, by rw [h.cell]; rfl, by rw [h.cell]; rfl⟩
theorem Bk.set7 {w : World} {g : Nat} {t : TypeId} (h : Bk w g t z7) (a b c d e f i : Value) : Bk (((((((w.setCell ⟨g, 0, none⟩ a).setCell ⟨g, 1, none⟩ b).setCell ⟨g, 2, none⟩ c).setCell ⟨g, 3, none⟩ d).setCell ⟨g, 4, none⟩ e).setCell ⟨g, 5, none⟩ f).setCell ⟨g, 6, none⟩ i) g t #[a, b, c, d, e, f, i] := by
  simpa using ((((((h.set 0 a).set 1 b).set 2 c).set 3 d).set 4 e).set 5 f).set 6 i
theorem below7 {B g : Nat} {w0 w : World} (h : Below B w0 w) (hg : B ≤ g) (a b c d e f i : Value) : Below B w0 (((((((w.setCell ⟨g, 0, none⟩ a).setCell ⟨g, 1, none⟩ b).setCell ⟨g, 2, none⟩ c).setCell ⟨g, 3, none⟩ d).setCell ⟨g, 4, none⟩ e).setCell ⟨g, 5, none⟩ f).setCell ⟨g, 6, none⟩ i) :=
  ((((((h.setCell hg a).setCell hg b).setCell hg c).setCell hg d).setCell hg e).setCell hg f).setCell hg i
theorem keep4b {w1 w' : World} {g : Nat} {t : TypeId} {a b c d : Value} (k : Bk w1 g t #[a, b, c, d]) (hb : Below w1.heap.size w1 w') :
    (w'.cell? ⟨g, 0, none⟩ = some a ∧ w'.cell? ⟨g, 1, none⟩ = some b ∧ w'.cell? ⟨g, 2, none⟩ = some c ∧ w'.cell? ⟨g, 3, none⟩ = some d) ∧ Below w1.heap.size w1 w' := ⟨(k.nx hb).cell4, hb⟩
set_option maxRecDepth 100000 in
set_option maxHeartbeats 8000000 in
theorem alive48 (w : World) : Calls Tryz.prog 6 #[] w fun e w' => e = .returned (.bool true) ∧ Below w.heap.size w w' := by
  have hR := fun (A : Option Addr) (w' : World) => crun_none 1 1 1 A 1 1 64 64 16 0 w' (by decide) (by decide)
  go_enter Tryz.func6, Tryz.ntmps6
  go_upto_region 2 with fail
  have hL := ((Lie.start w).alloc #[.int .u8 7] 5).alloc #[.int .i64 1, .int .i64 1, .int .i64 1, .slice (some ⟨w.heap.size, 0, none⟩) 1 1] 45
  simp only [World.size_alloc] at hL
  obtain ⟨g1, hg1⟩ : ∃ g1, w.heap.size + 1 = g1 := ⟨_, rfl⟩
  rw [hg1] at hL
  simp only [hg1]
  generalize (w.alloc (.cells #[.int .u8 7] 5)).alloc (.cells #[.int .i64 1, .int .i64 1, .int .i64 1, .slice (some ⟨w.heap.size, 0, none⟩) 1 1] 45) = w2 at *
  have k1 : Bk w2 g1 45 #[.int .i64 1, .int .i64 1, .int .i64 1, .slice (some ⟨w.heap.size, 0, none⟩) 1 1] := hL.k 0 (by simp)
  have k0 : Bk w2 w.heap.size 5 #[.int .u8 7] := hL.k 1 (by simp)
  have hl1 := k1.lt
  clear hg1
  obtain ⟨c0, c1, c2, c3⟩ := k1.cell4
  have hU := fun w' => usual_any w'
  have hR1 := hR (some ⟨w.heap.size, 0, none⟩)
  clear hR
  go_cut [2, 3] (fun p q wx => ∃ g, p = .pointer (some ⟨g, 0, none⟩) ∧ q = .int .i64 0 ∧ w2.heap.size ≤ g ∧ Bk wx g 48 #[.int .i64 1, .int .i64 1, .int .i64 1, .slice (some ⟨w.heap.size, 0, none⟩) 1 1, .int .i64 0, .int .i64 0, .slice none 0 0] ∧ Below w2.heap.size w2 wx)
  case first =>
    go_region_held3 (fun w' => (w'.cell? ⟨g1, 0, none⟩ = some (.int .i64 1) ∧ w'.cell? ⟨g1, 1, none⟩ = some (.int .i64 1) ∧ w'.cell? ⟨g1, 2, none⟩ = some (.int .i64 1) ∧ w'.cell? ⟨g1, 3, none⟩ = some (.slice (some ⟨w.heap.size, 0, none⟩) 1 1)) ∧ Below w2.heap.size w2 w')
      (first
        | with_reducible exact keep4b k1 hBr
        | with_reducible exact keep4b k1 hBu
        | (refine keep4b k1 ?_; (first | with_reducible exact below7 hBr hzr _ _ _ _ _ _ _ | with_reducible exact Below.alloc hBr hBr.size _ | with_reducible exact Below.alloc hBu hBu.size _ | go_grown)))
      (first
        | (go_at_call 13; (with_reducible refine (hU _).mono ?_); rintro e wu ⟨rfl, hbu⟩; have hBu : Below w2.heap.size w2 wu := (by first | exact hbu | exact Below.trans (by go_grown) (hbu.mono (by simp))); (try (have hKu : Bk wu w2.heap.size 48 z7 := (Bk.new w2.drew 48 z7).nx hbu)))
        | (go_at_call 12; (with_reducible refine (hR1 _).mono ?_); rintro e wr ⟨rfl, hbr⟩; have hBr : Below w2.heap.size w2 wr := (by first | exact hBu.trans (hbr.mono hBu.size) | exact (hBu.alloc hBu.size _).trans (hbr.mono (hBu.alloc hBu.size _).size)); (try (have hKr : Bk wr w2.heap.size 48 z7 := hKu.nx hbr; have hzr : w2.heap.size ≤ w2.heap.size := Nat.le_refl _; obtain ⟨s0, s1, s2, s3, s4, s5, s6⟩ := hKr.cell7; have f0 := hKr.frozen 0; have f1 := hKr.frozen 1; have f2 := hKr.frozen 2; have f3 := hKr.frozen 3; have f4 := hKr.frozen 4; have f5 := hKr.frozen 5; have f6 := hKr.frozen 6)); (try (have hKr : Bk wr wu.heap.size 48 z7 := (Bk.new wu 48 z7).nx hbr; have hzr : w2.heap.size ≤ wu.heap.size := hBu.size; obtain ⟨s0, s1, s2, s3, s4, s5, s6⟩ := hKr.cell7; have f0 := hKr.frozen 0; have f1 := hKr.frozen 1; have f2 := hKr.frozen 2; have f3 := hKr.frozen 3; have f4 := hKr.frozen 4; have f5 := hKr.frozen 5; have f6 := hKr.frozen 6))))
    all_goals
      rename_i hHeld
      clear hHeld
      go_wp2_with fail
      go_meet
      first
        | exact ⟨_, rfl, rfl, hBr.size, Bk.new wr _ _, Below.alloc hBr hBr.size _⟩
        | exact ⟨_, rfl, rfl, hzr, hKr.set7 _ _ _ _ _ _ _, below7 hBr hzr _ _ _ _ _ _ _⟩
  case rest =>
    obtain ⟨g, rfl, rfl, hg, hK, hB⟩ := hcut
    have k1x := k1.nx hB
    have k0x := k0.nx hB
    have hr : Rd wc wc.heap.size (some ⟨w.heap.size, 0, none⟩) [Value.int .u8 7] := fun k hk => by
      obtain rfl : k = 0 := by simpa using hk
      exact ⟨_, 0, rfl, k0x.lt, k0x.cell1⟩
    have hS := same_yes 1 1 1 (some ⟨w.heap.size, 0, none⟩) (some ⟨w.heap.size, 0, none⟩) 1 1 1 [Value.int .u8 7] wc hr hr rfl (fun v hv => ⟨7, by simpa using hv⟩) (by omega)
    obtain ⟨c0, c1, c2, c3⟩ := k1x.cell4
    obtain ⟨s0, s1, s2, s3, s4, s5, s6⟩ := hK.cell7
    have hbz := hL.bel.trans (hB.mono hL.sz)
    clear hr k0x k0 k1 hL hB hU hR1
    go_wp2_with (go_at_call 14; (with_reducible refine hS.mono ?_); rintro e wz ⟨rfl, hbz2⟩)
    go_returns
    exact ⟨rfl, hbz.trans (hbz2.mono hbz.size)⟩
end Go.Proofs.YtfkifghfaaeoiaaGreat
