/- Commands as texts: a warp's commands. -/
import Derived.Test.YtencbfmcmpmdnaaGreatDoorSH5
import Derived.Test.YtencbfmcmpmdnaaGreatDoorSSB
import Derived.Test.YtencbfmcmpmdnaaGreatDoorKS
import Derived.Deep.RegionHeld3
import Derived.Deep.RegionWith
set_option linter.unusedVariables false
namespace Go.Proofs.YtencbfmcmpmdnaaGreatDoor
open Go.RowKit
theorem lit_own {w : World} {base : Nat} (hb : base ≤ w.heap.size) : (w.alloc (.cells #[] 2)).ownsRow base 2 1 (.slice (some ⟨w.heap.size, 0, none⟩) 0 0) 0 [] := World.ownsRow_lit w #[] 0 hb (by simp) rfl
theorem keep51 {w1 w' : World} {g : Nat} {t : TypeId} {k W H kn n mo c0 c1 c2 c3 mi : Int} {A : Option Addr} {sn cp : Nat} (k1 : Bk w1 g t (wrA k A sn cp W H kn n mo c0 c1 c2 c3 mi)) (hb : Below w1.heap.size w1 w') :
    (w'.cell? ⟨g, 0, none⟩ = some (.int .i64 k) ∧ w'.cell? ⟨g, 1, none⟩ = some (.slice A sn cp)) ∧ Below w1.heap.size w1 w' := ⟨⟨(k1.nx hb).cell 0, (k1.nx hb).cell 1⟩, hb⟩
theorem rd_set3 {w : World} {base n G : Nat} {t : TypeId} {cs : Array Value} {A : Option Addr} {c : Nat} {l : List Int} (h : w.ownsRow base 2 1 (.slice A (0 + n) c) (0 + n) ([] ++ l.map (Value.int .i64))) (k : Bk w G t cs) (hne : t ≠ 2) (x y z : Value) :
    Rd (((w.setCell ⟨G, 0, none⟩ x).setCell ⟨G, 1, none⟩ y).setCell ⟨G, 2, none⟩ z) (((w.setCell ⟨G, 0, none⟩ x).setCell ⟨G, 1, none⟩ y).setCell ⟨G, 2, none⟩ z).heap.size A (l.map (Value.int .i64)) := by
  have hf := k.ne_own h hne
  have h8 := own_far (own_far (own_far h ⟨G, 0, none⟩ x (fun b hb e => hf b hb e.symm)) ⟨G, 1, none⟩ y (fun b hb e => hf b hb e.symm)) ⟨G, 2, none⟩ z (fun b hb e => hf b hb e.symm)
  simpa using Rd.of_own h8
theorem keep6 {w1 w' : World} {g a b d : Nat} {t : TypeId} {k W H kn n mo c0 c1 c2 c3 mi : Int} {A : Option Addr} {sn cp : Nat} {x0 x1 x2 y0 y1 y2 z0 z1 z2 : Value} (k1 : Bk w1 g 29 (wrA k A sn cp W H kn n mo c0 c1 c2 c3 mi)) (ka : Bk w1 a t #[x0, x1, x2]) (kb : Bk w1 b t #[y0, y1, y2]) (kd : Bk w1 d t #[z0, z1, z2]) (hb : Below w1.heap.size w1 w') :
    (w'.cell? ⟨g, 0, none⟩ = some (.int .i64 k) ∧ w'.cell? ⟨g, 1, none⟩ = some (.slice A sn cp) ∧ w'.cell? ⟨g, 2, none⟩ = some (.int .i64 W) ∧ w'.cell? ⟨g, 3, none⟩ = some (.int .i64 H) ∧ w'.cell? ⟨g, 4, none⟩ = some (.int .i64 kn) ∧ w'.cell? ⟨g, 5, none⟩ = some (.int .i64 n) ∧ w'.cell? ⟨g, 6, none⟩ = some (.int .i64 mo) ∧ w'.cell? ⟨g, 7, none⟩ = some (.int .u8 c0) ∧ w'.cell? ⟨g, 8, none⟩ = some (.int .u8 c1) ∧ w'.cell? ⟨g, 9, none⟩ = some (.int .u8 c2) ∧ w'.cell? ⟨g, 10, none⟩ = some (.int .u8 c3) ∧ w'.cell? ⟨g, 11, none⟩ = some (.int .i64 mi)) ∧
    (w'.cell? ⟨a, 0, none⟩ = some x0 ∧ w'.cell? ⟨a, 1, none⟩ = some x1 ∧ w'.cell? ⟨a, 2, none⟩ = some x2) ∧ (w'.cell? ⟨b, 0, none⟩ = some y0 ∧ w'.cell? ⟨b, 1, none⟩ = some y1 ∧ w'.cell? ⟨b, 2, none⟩ = some y2) ∧ (w'.cell? ⟨d, 0, none⟩ = some z0 ∧ w'.cell? ⟨d, 1, none⟩ = some z1 ∧ w'.cell? ⟨d, 2, none⟩ = some z2) := by
  have k2 := k1.nx hb
  exact ⟨⟨k2.cell 0, k2.cell 1, k2.cell 2, k2.cell 3, k2.cell 4, k2.cell 5, k2.cell 6, k2.cell 7, k2.cell 8, k2.cell 9, k2.cell 10, k2.cell 11⟩, (ka.nx hb).cell3, (kb.nx hb).cell3, (kd.nx hb).cell3⟩
set_option maxRecDepth 100000 in
set_option maxHeartbeats 16000000 in
theorem sof_ok (k : Int) (A : Option Addr) (sn cp : Nat) (l : List Int) (W H kn n mo c0 c1 c2 c3 mi : Int) (w : World) (hl : l.length = sn) (hr : Rd w w.heap.size A (l.map (Value.int .i64))) (hsn : sn ≤ 100000)
    (hM : ∀ w', Below w.heap.size w w' → Calls Tryz.prog 9 #[.agg (wrA k A sn cp W H kn n mo c0 c1 c2 c3 mi)] w' fun e w'' => e = .returned (.int .i64 0) ∧ Below w'.heap.size w' w'') :
    Calls Tryz.prog 4 #[.agg (wrA k A sn cp W H kn n mo c0 c1 c2 c3 mi)] w fun e w' => ∃ g A1 A2 c2' A3 A4 A5 c5, e = .returned (.tuple #[.slice (some ⟨g, 0, none⟩) 5 5, .bool true]) ∧
      Bk w' g 41 (cmA 3 kn A1 (kL kn n).length (kL kn n).length ++ cmA 4 mo A2 (bL mo c0 c1 c2 c3).length c2' ++ cmA 5 0 A3 1 1 ++ cmA 2 0 A4 2 2 ++ cmA 9 k A5 sn c5) ∧
      Rd w' w'.heap.size A1 ((kL kn n).map (Value.int .i64)) ∧ Rd w' w'.heap.size A2 ((bL mo c0 c1 c2 c3).map (Value.int .i64)) ∧ Rd w' w'.heap.size A3 [.int .i64 mi] ∧ Rd w' w'.heap.size A4 [.int .i64 W, .int .i64 H] ∧ Rd w' w'.heap.size A5 (l.map (Value.int .i64)) ∧ Below w.heap.size w w' := by
  have hL := (Lie.start w).alloc (wrA k A sn cp W H kn n mo c0 c1 c2 c3 mi) 29
  have k0 : Bk _ w.heap.size 29 (wrA k A sn cp W H kn n mo c0 c1 c2 c3 mi) := hL.k 0 (by simp)
  have hM1 := hM _ hL.bel
  go_enter Tryz.func4, Tryz.ntmps4
  go_upto_region 3 with (first
    | (refine ldB rfl _ _ rfl k0 rfl Tryz.underlying29 rfl wr_size ?_)
    | (go_at_call 9; (with_reducible refine hM1.mono ?_); rintro e w1 ⟨rfl, hb1⟩))
  have hL1 := hL.nx hb1
  clear hL k0 hM1 hM hb1
  have k1 : Bk w1 w.heap.size 29 (wrA k A sn cp W H kn n mo c0 c1 c2 c3 mi) := hL1.k 0 (by simp)
  have y11 := (k1.cell 11).trans (show _ = some (.int .i64 mi) from rfl)
  have hz1 := k1.lt
  have hA1 := (hL1.alloc #[.int .i64 mi] 2).alloc cm0 41
  simp only [World.size_alloc] at hA1
  have kA : Bk _ (w1.heap.size + 1) 41 cm0 := hA1.k 0 (by simp)
  go_upto_region 4 with (refine stB (ty := 41) (cells := cmA 5 0 (some ⟨w1.heap.size, 0, none⟩) 1 1) rfl _ _ rfl kA rfl rfl cm50_size rfl (by simp [Value.oneCell']) ?_; intro w2 hK2 hg2 hs2)
  have hL2 := hA1.set hg2 hK2 (by omega) (by simp; omega)
  have hs2' : w1.heap.size + 1 < w2.heap.size := by simp at hs2; omega
  clear hA1 kA hL1 y11 hg2 hs2 hK2
  have k2 : Bk w2 w.heap.size 29 (wrA k A sn cp W H kn n mo c0 c1 c2 c3 mi) := hL2.k 2 (by simp)
  have y2 := (k2.cell 2).trans (show _ = some (.int .i64 W) from rfl)
  have y3 := (k2.cell 3).trans (show _ = some (.int .i64 H) from rfl)
  have hA2 := (hL2.alloc #[.int .i64 W, .int .i64 H] 2).alloc cm0 41
  simp only [World.size_alloc] at hA2
  have kA : Bk _ (w2.heap.size + 1) 41 cm0 := hA2.k 0 (by simp)
  go_upto_region 5 with (refine stB (ty := 41) (cells := cmA 2 0 (some ⟨w2.heap.size, 0, none⟩) 2 2) rfl _ _ rfl kA rfl rfl cm50_size rfl (by simp [Value.oneCell']) ?_; intro w3 hK3 hg3 hs3)
  have hL3 := hA2.set hg3 hK3 (by omega) (by simp; omega)
  have hs3' : w2.heap.size + 1 < w3.heap.size := by simp at hs3; omega
  clear hA2 kA hL2 y2 y3 hg3 hs3 hK3 k1 k2
  obtain ⟨g1, hg1⟩ : ∃ g1, w1.heap.size = g1 := ⟨_, rfl⟩
  obtain ⟨g2, hg2⟩ : ∃ g2, w2.heap.size = g2 := ⟨_, rfl⟩
  simp only [hg1, hg2] at hL3 hs2' hs3' hz1 ⊢
  have hr3 := hL3.rd hr (Nat.le_refl _)
  have k3 : Bk w3 w.heap.size 29 (wrA k A sn cp W H kn n mo c0 c1 c2 c3 mi) := hL3.k 4 (by simp)
  have x0 := (k3.cell 0).trans (show _ = some (.int .i64 k) from rfl)
  have x1 := (k3.cell 1).trans (show _ = some (.slice A sn cp) from rfl)
  have hz3 := hL3.sz
  clear hg1 hg2
  simp only [Act.put]
  go_cut [6] (fun p wx => ∃ g A' c', p = .pointer (some ⟨g, 0, none⟩) ∧ w3.heap.size ≤ g ∧ Bk wx g 41 (cmA 9 k A' sn c') ∧ Rd wx wx.heap.size A' (l.map (Value.int .i64)) ∧ Below w3.heap.size w3 wx)
  case first =>
    have hz4 := k3.lt
    clear hL3 hs2' hs3' hz1
    go_region_held3 (fun w' => (w'.cell? ⟨w.heap.size, 0, none⟩ = some (.int .i64 k) ∧ w'.cell? ⟨w.heap.size, 1, none⟩ = some (.slice A sn cp)) ∧ Below w3.heap.size w3 w')
      (first
        | exact keep51 k3 hB7
        | exact keep51 k3 (hB7.alloc hB7.size _)
        | exact keep51 k3 (((hB7.setCell (by simp) _).setCell (by simp) _).setCell (by simp) _)
        | (refine keep51 k3 ?_; go_grown))
      (first
        | ((refine stepR (by rfl) _ _ _ (by rfl) Tryz.underlying22 i64_info51 rfl (by omega) (W := w3) (B := w3.heap.size) (base := w3.heap.size) (n := 0) (xs := [])
              (by first | exact lit_own (w := w3.drew) (Nat.le_refl _) | exact (lit_own (w := w3.drew) (Nat.le_refl _)).alloc _ | (have h9 := lit_own (base := w3.heap.size) (w := w3.alloc (.cells cm0 41)) (by simp); simp only [World.size_alloc] at h9; exact h9))
              (by rfl) (by rfl) (by go_grown) (Nat.le_refl _) (by simp; try omega) (by exact hr3.below' (B' := w3.heap.size) (by go_grown) (by omega)) (by simp [hl]) (intsL l) (by omega) (by omega) ?_); intro v7 w7 ho7 hB7 hs7 hg7 hn7; obtain ⟨A7, c7, rfl, _, _, hR7, _⟩ := own_form ho7; (try (have kz7 : Bk w7 (w3.heap.size + 1) 41 cm0 := gb_far (w := (w3.drew.alloc (.cells #[] 2)).alloc (.cells cm0 41)) (by simpa using Bk.new (w3.drew.alloc (.cells #[] 2)) 41 cm0) hg7 (fun b hb e => by simp [Value.ownBlock] at hb; omega); obtain ⟨s0, s1, s2⟩ := kz7.cell3; have f0 := kz7.frozen 0; have f1 := kz7.frozen 1; have f2 := kz7.frozen 2)); (try (have kz7 : Bk w7 w3.heap.size 41 cm0 := gb_far (w := (w3.drew.alloc (.cells cm0 41)).alloc (.cells #[] 2)) (by simpa using (Bk.new w3.drew 41 cm0).alloc (.cells #[] 2)) hg7 (fun b hb e => by simp [Value.ownBlock] at hb; omega); obtain ⟨s0, s1, s2⟩ := kz7.cell3; have f0 := kz7.frozen 0; have f1 := kz7.frozen 1; have f2 := kz7.frozen 2))))
    all_goals
      rename_i hHeld
      clear hHeld
      go_wp2_with fail
      go_meet
      first
        | exact ⟨_, A7, c7, rfl, hB7.size, Bk.new w7 _ _, ((by simpa using hR7 : Rd w7 w7.heap.size A7 (l.map (Value.int .i64))).alloc (Nat.le_refl _) _).more (by simp), Below.alloc hB7 hB7.size _⟩
        | exact ⟨_, A7, c7, rfl, by simp, kz7.set3 _ _ _, rd_set3 ho7 kz7 (by decide) _ _ _, ((hB7.setCell (by simp) _).setCell (by simp) _).setCell (by simp) _⟩
  case rest =>
    obtain ⟨g, A', c', rfl, hg, hKx, hrx, hbx⟩ := hcut
    have hLx := hL3.nx hbx
    have kx : Bk wc w.heap.size 29 (wrA k A sn cp W H kn n mo c0 c1 c2 c3 mi) := hLx.k 4 (by simp)
    have ka : Bk wc (g1 + 1) 41 (cmA 5 0 (some ⟨g1, 0, none⟩) 1 1) := hLx.k 2 (by simp)
    have kb : Bk wc (g2 + 1) 41 (cmA 2 0 (some ⟨g2, 0, none⟩) 2 2) := hLx.k 0 (by simp)
    have ka0 : Bk wc g1 2 #[.int .i64 mi] := hLx.k 3 (by simp)
    have kb0 : Bk wc g2 2 #[.int .i64 W, .int .i64 H] := hLx.k 1 (by simp)
    have hbw := hLx.bel
    have hk := fun w' => skernel_any k A sn cp W H kn n mo c0 c1 c2 c3 mi w'
    have hbo := fun w' => sborder_any k A sn cp W H kn n mo c0 c1 c2 c3 mi w'
    have hfin : ∀ (w6 : World) (A1 A2 : Option Addr) (c2' : Nat), RdL w6 wc.heap.size A1 ((kL kn n).map (Value.int .i64)) → RdL w6 wc.heap.size A2 ((bL mo c0 c1 c2 c3).map (Value.int .i64)) → Below wc.heap.size wc w6 → True := fun _ _ _ _ _ _ _ => trivial
    clear hL3 hLx hs2' hs3' hz1 hr3 k3 x0 x1 hz3 hr hl hfin
    go_upto_region 6 with fail
    have hB0 : Below wc.heap.size wc wc.drew := (Below.refl _ _).drew
    obtain ⟨⟨s0, s1, s2, s3, s4, s5, s6, s7, s8, s9, s10, s11⟩, ⟨a0, a1, a2⟩, ⟨b0, b1, b2⟩, ⟨d0, d1, d2⟩⟩ := keep6 kx ka kb hKx (Below.refl _ _)
    go_region_held3 (fun w' => (w'.cell? ⟨w.heap.size, 0, none⟩ = some (.int .i64 k) ∧ w'.cell? ⟨w.heap.size, 1, none⟩ = some (.slice A sn cp) ∧ w'.cell? ⟨w.heap.size, 2, none⟩ = some (.int .i64 W) ∧ w'.cell? ⟨w.heap.size, 3, none⟩ = some (.int .i64 H) ∧ w'.cell? ⟨w.heap.size, 4, none⟩ = some (.int .i64 kn) ∧ w'.cell? ⟨w.heap.size, 5, none⟩ = some (.int .i64 n) ∧ w'.cell? ⟨w.heap.size, 6, none⟩ = some (.int .i64 mo) ∧ w'.cell? ⟨w.heap.size, 7, none⟩ = some (.int .u8 c0) ∧ w'.cell? ⟨w.heap.size, 8, none⟩ = some (.int .u8 c1) ∧ w'.cell? ⟨w.heap.size, 9, none⟩ = some (.int .u8 c2) ∧ w'.cell? ⟨w.heap.size, 10, none⟩ = some (.int .u8 c3) ∧ w'.cell? ⟨w.heap.size, 11, none⟩ = some (.int .i64 mi)) ∧
        (w'.cell? ⟨g1 + 1, 0, none⟩ = some (.int .i64 5) ∧ w'.cell? ⟨g1 + 1, 1, none⟩ = some (.int .i64 0) ∧ w'.cell? ⟨g1 + 1, 2, none⟩ = some (.slice (some ⟨g1, 0, none⟩) 1 1)) ∧ (w'.cell? ⟨g2 + 1, 0, none⟩ = some (.int .i64 2) ∧ w'.cell? ⟨g2 + 1, 1, none⟩ = some (.int .i64 0) ∧ w'.cell? ⟨g2 + 1, 2, none⟩ = some (.slice (some ⟨g2, 0, none⟩) 2 2)) ∧ (w'.cell? ⟨g, 0, none⟩ = some (.int .i64 9) ∧ w'.cell? ⟨g, 1, none⟩ = some (.int .i64 k) ∧ w'.cell? ⟨g, 2, none⟩ = some (.slice A' sn c')))
      (first
        | exact keep6 kx ka kb hKx hB0
        | exact keep6 kx ka kb hKx hB7
        | exact keep6 kx ka kb hKx (hB7.alloc hB7.size _)
        | exact keep6 kx ka kb hKx hB6
        | (refine keep6 kx ka kb hKx ?_; go_grown))
      (first
        | (go_at_call 10; (with_reducible refine (hk _).mono ?_); rintro e w6 ⟨A6, rfl, hr6, hb6⟩; have hB6 : Below wc.heap.size wc w6 := (by first | exact Below.trans hB7 (hb6.mono hB7.size) | exact Below.trans (by go_grown) hb6))
        | (go_at_call 11; (with_reducible refine (hbo _).mono ?_); rintro e w7 ⟨A7, c7, rfl, hr7, hb7⟩; have hB7 : Below wc.heap.size wc w7 := (by first | exact Below.trans hB6 (hb7.mono hB6.size) | exact Below.trans (by go_grown) hb7)))
    rename_i hHeld
    clear hHeld
    have o15 : Obj := .cells #[.int .i64 3, .int .i64 kn, .slice A6 (kL kn n).length (kL kn n).length, .int .i64 4, .int .i64 mo, .slice A7 (bL mo c0 c1 c2 c3).length c7, .int .i64 5, .int .i64 0, .slice (some ⟨g1, 0, none⟩) 1 1, .int .i64 2, .int .i64 0, .slice (some ⟨g2, 0, none⟩) 2 2, .int .i64 9, .int .i64 k, .slice A' sn c'] 41
    have r6 := fun (o : Obj) => ((((hr6.rd).below hb7).more hb7.size).alloc (Nat.le_refl _) o).more (B' := (w7.alloc o).heap.size) (by simp)
    have r7 := fun (o : Obj) => ((hr7.rd).alloc (Nat.le_refl _) o).more (B' := (w7.alloc o).heap.size) (by simp)
    have r3 := fun (o : Obj) => ((Bk.rdl (l := [Value.int .i64 mi]) (ka0.nx hB7)).alloc (Nat.le_refl _) o).more (B' := (w7.alloc o).heap.size) (by simp)
    have r4 := fun (o : Obj) => ((Bk.rdl (l := [Value.int .i64 W, .int .i64 H]) (kb0.nx hB7)).alloc (Nat.le_refl _) o).more (B' := (w7.alloc o).heap.size) (by simp)
    have r5 := fun (o : Obj) => (((hrx.below hB7).more hB7.size).alloc (Nat.le_refl _) o).more (B' := (w7.alloc o).heap.size) (by simp)
    have hbz := fun (o : Obj) => (hbw.trans (hB7.mono hbw.size)).alloc (Nat.le_trans hbw.size hB7.size) o
    clear hk hbo hr6 hr7 hrx o15
    go_wp2_with fail
    go_returns
    exact ⟨_, A6, A7, c7, some ⟨g1, 0, none⟩, some ⟨g2, 0, none⟩, A', c', rfl, Bk.new w7 _ _, r6 _, r7 _, r3 _, r4 _, r5 _, hbz _⟩
end Go.Proofs.YtencbfmcmpmdnaaGreatDoor
