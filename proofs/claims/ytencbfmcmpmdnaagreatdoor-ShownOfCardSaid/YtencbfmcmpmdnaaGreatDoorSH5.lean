/- Commands as texts: a warp's kernel and border as commands. -/
import Derived.Test.YtencbfmcmpmdnaaGreatDoorSH3
import Derived.Test.YtencbfmcmpmdnaaGreatDoorKS
import Derived.Test.YtencbfmcmpmdnaaGreatDoorK3
import Derived.Deep.Cut
import Derived.Deep.DeepCutAuto
set_option linter.unusedVariables false
namespace Go.Proofs.YtencbfmcmpmdnaaGreatDoor
open Go.RowKit
def kL (kn n : Int) : List Int := if kn = 3 then [n] else []
theorem Bk.cell12' {w : World} {g : Nat} {t : TypeId} {v0 v1 v2 v3 v4 v5 v6 v7 v8 v9 v10 v11 : Value} (h : Bk w g t #[v0, v1, v2, v3, v4, v5, v6, v7, v8, v9, v10, v11]) : w.cell? ⟨g, 4, none⟩ = some v4 ∧ w.cell? ⟨g, 5, none⟩ = some v5 ∧ w.cell? ⟨g, 6, none⟩ = some v6 ∧ w.cell? ⟨g, 7, none⟩ = some v7 ∧ w.cell? ⟨g, 8, none⟩ = some v8 ∧ w.cell? ⟨g, 9, none⟩ = some v9 ∧ w.cell? ⟨g, 10, none⟩ = some v10 :=
  ⟨by rw [h.cell]; rfl, by rw [h.cell]; rfl, by rw [h.cell]; rfl, by rw [h.cell]; rfl, by rw [h.cell]; rfl, by rw [h.cell]; rfl, by rw [h.cell]; rfl⟩
set_option maxRecDepth 100000 in
set_option maxHeartbeats 8000000 in
theorem skernel_any (k : Int) (A : Option Addr) (sn cp : Nat) (W H kn n mo c0 c1 c2 c3 mi : Int) (w : World) :
    Calls Tryz.prog 10 #[.agg (wrA k A sn cp W H kn n mo c0 c1 c2 c3 mi)] w fun e w' => ∃ A', e = .returned (.agg (cmA 3 kn A' (kL kn n).length (kL kn n).length)) ∧ RdL w' w.heap.size A' ((kL kn n).map (Value.int .i64)) ∧ Below w.heap.size w w' := by
  have hL := (((Lie.start w).alloc (wrA k A sn cp W H kn n mo c0 c1 c2 c3 mi) 29).alloc cm0 41).alloc cm0 41
  simp only [World.size_alloc] at hL
  have k0 : Bk _ w.heap.size 29 (wrA k A sn cp W H kn n mo c0 c1 c2 c3 mi) := hL.k 2 (by simp)
  have k3 : Bk _ (w.heap.size + 1 + 1) 41 cm0 := hL.k 0 (by simp)
  have k00 : Bk _ w.heap.size 29 (wrA k A sn cp W H kn n mo c0 c1 c2 c3 mi) := ((Lie.start w).alloc (wrA k A sn cp W H kn n mo c0 c1 c2 c3 mi) 29).alloc cm0 41 |>.k 1 (by simp)
  obtain ⟨x4, x5, _⟩ := k00.cell12'
  by_cases h : kn = 3
  · subst h
    go_enter Tryz.func10, Tryz.ntmps10
    go_upto_region 2 with (refine stB (ty := 41) (cells := cmA 3 3 none 0 0) rfl _ _ rfl k3 rfl rfl cm50_size rfl (by simp [Value.oneCell']) ?_; intro w3 hK3 hg3 hs3)
    have hL3 := hL.set hg3 hK3 (by omega) (by simp; omega)
    clear x4 x5 k0 k3 k00 hL hg3 hs3
    have k0 : Bk w3 w.heap.size 29 (wrA k A sn cp W H 3 n mo c0 c1 c2 c3 mi) := hL3.k 2 (by simp)
    obtain ⟨x4, x5, _⟩ := k0.cell12'
    have hLs := hL3.alloc #[.int .i64 n] 2
    have hLs2 : Bk _ (w.heap.size + 1) 41 cm0 := hLs.k 2 (by simp)
    have hLs0 : Bk _ w3.heap.size 2 #[.int .i64 n] := hLs.k 0 (by simp)
    have hKs : Bk _ (w.heap.size + 1 + 1) 41 (cmA 3 3 none 0 0) := hLs.k 1 (by simp)
    obtain ⟨d0, d1, d2⟩ := hKs.cell3
    have f2 := hKs.frozen 2
    go_upto_region 4 with fail
    have hz3 := hK3.lt
    have hb1 := hLs.bel.setCell (p := ⟨w.heap.size + 1 + 1, 2, none⟩) (by show _ ≤ w.heap.size + 1 + 1; omega) (.slice (some ⟨w3.heap.size, 0, none⟩) 1 1)
    have k3 := hKs.set 2 (.slice (some ⟨w3.heap.size, 0, none⟩) 1 1)
    have k2 : Bk _ (w.heap.size + 1) 41 cm0 := hLs2.far (p := ⟨w.heap.size + 1 + 1, 2, none⟩) (by simp) (.slice (some ⟨w3.heap.size, 0, none⟩) 1 1)
    have kn' : Bk _ w3.heap.size 2 #[.int .i64 n] := hLs0.far (p := ⟨w.heap.size + 1 + 1, 2, none⟩) (by simp; omega) (.slice (some ⟨w3.heap.size, 0, none⟩) 1 1)
    simp only [List.setIfInBounds_toArray, List.set_cons_zero, List.set_cons_succ] at k3
    go_wp2_with (first
      | (refine ldB rfl _ _ rfl k3 rfl Tryz.underlying41 rfl cm50_size ?_)
      | (refine stB (ty := 41) (cells := cmA 3 3 (some ⟨w3.heap.size, 0, none⟩) 1 1) rfl _ _ rfl k2 rfl rfl cm50_size rfl (by simp [Value.oneCell']) ?_; intro w5 hK5 hg5 hs5))
    refine bodyPost_ret (res_cell rfl hK5 rfl Tryz.underlying41 rfl cm50_size) rfl ?_
    have hk5 : Bk w5 w3.heap.size 2 #[.int .i64 n] := (hg5.block _ kn'.lt (by simp; omega)).trans kn'
    refine ⟨_, rfl, fun i hi => ?_, below_of_gb hb1 hg5 (by omega) hb1.size⟩
    obtain rfl : i = 0 := by simpa [kL] using hi
    exact ⟨_, 0, rfl, by omega, hk5.lt, hk5.cell 0⟩
  · have h3 : (kn == 3) = false := by simp [h]
    have HK : Hid (kL kn n = []) := by show _ = _; unfold kL; rw [if_neg h]
    clear h
    go_enter Tryz.func10, Tryz.ntmps10
    go_upto_region 2 with (refine stB (ty := 41) (cells := cmA 3 kn none 0 0) rfl _ _ rfl k3 rfl rfl cm50_size rfl (by simp [Value.oneCell']) ?_; intro w3 hK3 hg3 hs3)
    have hL3 := hL.set hg3 hK3 (by omega) (by simp; omega)
    clear x4 x5 k0 k3 k00 hL hg3 hs3
    have k0 : Bk w3 w.heap.size 29 (wrA k A sn cp W H kn n mo c0 c1 c2 c3 mi) := hL3.k 2 (by simp)
    have k2 : Bk w3 (w.heap.size + 1) 41 cm0 := hL3.k 1 (by simp)
    obtain ⟨x4, x5, _⟩ := k0.cell12'
    go_wp2_with (first
      | (refine ldB rfl _ _ rfl hK3 rfl Tryz.underlying41 rfl cm50_size ?_)
      | (refine stB (ty := 41) (cells := cmA 3 kn none 0 0) rfl _ _ rfl k2 rfl rfl cm50_size rfl (by simp [Value.oneCell']) ?_; intro w5 hK5 hg5 hs5))
    refine bodyPost_ret (res_cell rfl hK5 rfl Tryz.underlying41 rfl cm50_size) rfl ?_
    refine ⟨none, by rw [HK.out]; rfl, ?_, below_of_gb hL3.bel hg5 (by omega) hL3.sz⟩
    rw [HK.out]
    exact fun i hi => absurd hi (by simp)
def bL (mo c0 c1 c2 c3 : Int) : List Int := if mo = 0 then [wrap64 c0, wrap64 c1, wrap64 c2, wrap64 c3] else []
theorem i64_info51 : (Tryz.prog.info? 2).map (fun i => (i.zero, i.size, i.bytes)) = some (some (.int .i64 0), 1, 8) := by kernel_rfl
theorem u8_size51 : (Tryz.prog.info? 5).map (·.size) = some 1 := by kernel_rfl
theorem idx4u (a b c d : Value) (w : World) : (Instr.index 25 (.agg #[a, b, c, d]) (.int .i64 0)).run Tryz.prog w = .ok a w ∧ (Instr.index 25 (.agg #[a, b, c, d]) (.int .i64 1)).run Tryz.prog w = .ok b w ∧ (Instr.index 25 (.agg #[a, b, c, d]) (.int .i64 2)).run Tryz.prog w = .ok c w ∧ (Instr.index 25 (.agg #[a, b, c, d]) (.int .i64 3)).run Tryz.prog w = .ok d w :=
  ⟨run_idx14 (P := Tryz.prog) (j := 0) Tryz.underlying25 Tryz.underlying5 rfl u8_size51 _ _ (by decide) _ rfl w,
   run_idx14 (P := Tryz.prog) (j := 1) Tryz.underlying25 Tryz.underlying5 rfl u8_size51 _ _ (by decide) _ rfl w,
   run_idx14 (P := Tryz.prog) (j := 2) Tryz.underlying25 Tryz.underlying5 rfl u8_size51 _ _ (by decide) _ rfl w,
   run_idx14 (P := Tryz.prog) (j := 3) Tryz.underlying25 Tryz.underlying5 rfl u8_size51 _ _ (by decide) _ rfl w⟩
theorem gb_far {w w' : World} {g : Nat} {row : Option Nat} {t : TypeId} {cs : Array Value} (h : Bk w g t cs) (hg : w.grownBy w' row) (hr : ∀ b, row = some b → b ≠ g) : Bk w' g t cs := (hg.block g h.lt (fun e => hr _ e.symm rfl)).trans h
theorem own_gb51 {w w' : World} {base : Nat} {e : TypeId} {size n : Nat} {v : Value} {xs : List Value} {row : Option Nat} (h : w.ownsRow base e size v n xs) (hg : w.grownBy w' row) (hne : ∀ b, v.ownBlock = some b → some b ≠ row) : w'.ownsRow base e size v n xs := by
  rcases h.2 with ⟨h1, h2⟩ | ⟨g, cap, cur, hv, h0, hh, h1, h2, h3, hx⟩
  · exact ⟨h.1, .inl ⟨h1, h2⟩⟩
  · refine ⟨h.1, .inr ⟨g, cap, cur, hv, h0, ?_, h1, h2, h3, hx⟩⟩
    have hlt : g < w.heap.size := by
      rcases Nat.lt_or_ge g w.heap.size with hl | hl
      · exact hl
      · rw [Array.getElem?_eq_none hl] at hh; cases hh
    rw [hg.block g hlt (hne g (by subst hv; rfl))]; exact hh
set_option maxRecDepth 100000 in
set_option maxHeartbeats 8000000 in
theorem sborder_any (k : Int) (A : Option Addr) (sn cp : Nat) (W H kn n mo c0 c1 c2 c3 mi : Int) (w : World) :
    Calls Tryz.prog 11 #[.agg (wrA k A sn cp W H kn n mo c0 c1 c2 c3 mi)] w fun e w' => ∃ A' c', e = .returned (.agg (cmA 4 mo A' (bL mo c0 c1 c2 c3).length c')) ∧ RdL w' w.heap.size A' ((bL mo c0 c1 c2 c3).map (Value.int .i64)) ∧ Below w.heap.size w w' := by
  have hL := (((Lie.start w).alloc (wrA k A sn cp W H kn n mo c0 c1 c2 c3 mi) 29).alloc cm0 41).alloc cm0 41
  simp only [World.size_alloc] at hL
  have k0 : Bk _ w.heap.size 29 (wrA k A sn cp W H kn n mo c0 c1 c2 c3 mi) := hL.k 2 (by simp)
  have k3 : Bk _ (w.heap.size + 1 + 1) 41 cm0 := hL.k 0 (by simp)
  have k00 : Bk _ w.heap.size 29 (wrA k A sn cp W H kn n mo c0 c1 c2 c3 mi) := ((Lie.start w).alloc (wrA k A sn cp W H kn n mo c0 c1 c2 c3 mi) 29).alloc cm0 41 |>.k 1 (by simp)
  obtain ⟨_, _, x6, _⟩ := k00.cell12'
  by_cases h : mo = 0
  · subst h
    go_enter Tryz.func11, Tryz.ntmps11
    go_upto_region 2 with (refine stB (ty := 41) (cells := cmA 4 0 none 0 0) rfl _ _ rfl k3 rfl rfl cm50_size rfl (by simp [Value.oneCell']) ?_; intro w3 hK3 hg3 hs3)
    have hL3 := hL.set hg3 hK3 (by omega) (by simp; omega)
    clear x6 k0 k3 k00 hL hg3 hs3
    have k0 : Bk w3 w.heap.size 29 (wrA k A sn cp W H kn n 0 c0 c1 c2 c3 mi) := hL3.k 2 (by simp)
    have kr3 : Bk w3 (w.heap.size + 1) 41 cm0 := hL3.k 1 (by simp)
    obtain ⟨_, _, x6, x7, x8, x9, x10⟩ := k0.cell12'
    have hb3 := hL3.bel
    have hz3 := hK3.lt
    go_upto_region 5 with fail
    have hq := fun w' => idx4u (.int .u8 c0) (.int .u8 c1) (.int .u8 c2) (.int .u8 c3) w'
    have hown0 := World.ownsRow_nil w3 (w.heap.size + 1 + 1 + 1) 2 1
    clear hL3 k0 x6 x7 x8 x9 x10
    go_loopw [18] (fun i wr => ∃ (j : Nat) (A' : Option Addr) (c' : Nat), j ≤ 4 ∧ i = .int .i64 j ∧ wr.ownsRow (w.heap.size + 1 + 1 + 1) 2 1 (.slice A' j c') j ((([wrap64 c0, wrap64 c1, wrap64 c2, wrap64 c3].take j)).map (Value.int .i64)) ∧ Bk wr (w.heap.size + 1 + 1) 41 (cmA 4 0 A' j c') ∧ Bk wr (w.heap.size + 1) 41 cm0 ∧ Below w.heap.size w wr) (fun i _ => 4 - (intOf i).toNat)
    case atStart => exact ⟨0, none, 0, by omega, rfl, hown0, hK3, kr3, hb3⟩
    case round =>
      clear hown0 hK3 kr3 hb3 hz3
      obtain ⟨j, A', c', hj, rfl, hown, kt, kr, hb⟩ := hrel
      have htz := kt.lt
      have hrz := kr.lt
      obtain ⟨d0, d1, d2⟩ := kt.cell3
      rcases (show j = 0 ∨ j = 1 ∨ j = 2 ∨ j = 3 ∨ j = 4 by omega) with rfl | rfl | rfl | rfl | rfl
      · obtain ⟨q0, q1, q2, q3⟩ := hq wr
        go_wp2_with (at_builtin; refine app1 rfl _ _ _ rfl Tryz.underlying22 i64_info51 rfl (by decide) rfl rfl hown hb (by omega) (by omega) rfl (by simp [Value.oneCell']) (by omega) (by omega) ?_; intro v9 w9 hown9 hb9 hz9 hg9 _; have kt9 := gb_far kt hg9 (fun b hb e => by have := own_ge hown b hb; omega); have kr9 := gb_far kr hg9 (fun b hb e => by have := own_ge hown b hb; omega); obtain ⟨e0, e1, e2⟩ := kt9.cell3; have f2 := kt9.frozen 2; obtain ⟨A9, c9, rfl, _⟩ := own_form hown9)
        have kt8 := kt9.set 2 (.slice A9 1 c9)
        simp only [List.setIfInBounds_toArray, List.set_cons_zero, List.set_cons_succ] at kt8
        exact ⟨⟨1, A9, c9, by omega, by go_num, own_far hown9 _ _ (fun b hb e => by have := own_ge hown9 b hb; simp at e; omega), kt8, kr9.far (by simp) _, hb9.setCell (by simp; omega) _⟩, by simp [intOf]⟩
      · obtain ⟨q0, q1, q2, q3⟩ := hq wr
        go_wp2_with (at_builtin; refine app1 rfl _ _ _ rfl Tryz.underlying22 i64_info51 rfl (by decide) rfl rfl hown hb (by omega) (by omega) rfl (by simp [Value.oneCell']) (by omega) (by omega) ?_; intro v9 w9 hown9 hb9 hz9 hg9 _; have kt9 := gb_far kt hg9 (fun b hb e => by have := own_ge hown b hb; omega); have kr9 := gb_far kr hg9 (fun b hb e => by have := own_ge hown b hb; omega); obtain ⟨e0, e1, e2⟩ := kt9.cell3; have f2 := kt9.frozen 2; obtain ⟨A9, c9, rfl, _⟩ := own_form hown9)
        have kt8 := kt9.set 2 (.slice A9 2 c9)
        simp only [List.setIfInBounds_toArray, List.set_cons_zero, List.set_cons_succ] at kt8
        exact ⟨⟨2, A9, c9, by omega, by go_num, own_far hown9 _ _ (fun b hb e => by have := own_ge hown9 b hb; simp at e; omega), kt8, kr9.far (by simp) _, hb9.setCell (by simp; omega) _⟩, by simp [intOf]⟩
      · obtain ⟨q0, q1, q2, q3⟩ := hq wr
        go_wp2_with (at_builtin; refine app1 rfl _ _ _ rfl Tryz.underlying22 i64_info51 rfl (by decide) rfl rfl hown hb (by omega) (by omega) rfl (by simp [Value.oneCell']) (by omega) (by omega) ?_; intro v9 w9 hown9 hb9 hz9 hg9 _; have kt9 := gb_far kt hg9 (fun b hb e => by have := own_ge hown b hb; omega); have kr9 := gb_far kr hg9 (fun b hb e => by have := own_ge hown b hb; omega); obtain ⟨e0, e1, e2⟩ := kt9.cell3; have f2 := kt9.frozen 2; obtain ⟨A9, c9, rfl, _⟩ := own_form hown9)
        have kt8 := kt9.set 2 (.slice A9 3 c9)
        simp only [List.setIfInBounds_toArray, List.set_cons_zero, List.set_cons_succ] at kt8
        exact ⟨⟨3, A9, c9, by omega, by go_num, own_far hown9 _ _ (fun b hb e => by have := own_ge hown9 b hb; simp at e; omega), kt8, kr9.far (by simp) _, hb9.setCell (by simp; omega) _⟩, by simp [intOf]⟩
      · obtain ⟨q0, q1, q2, q3⟩ := hq wr
        go_wp2_with (at_builtin; refine app1 rfl _ _ _ rfl Tryz.underlying22 i64_info51 rfl (by decide) rfl rfl hown hb (by omega) (by omega) rfl (by simp [Value.oneCell']) (by omega) (by omega) ?_; intro v9 w9 hown9 hb9 hz9 hg9 _; have kt9 := gb_far kt hg9 (fun b hb e => by have := own_ge hown b hb; omega); have kr9 := gb_far kr hg9 (fun b hb e => by have := own_ge hown b hb; omega); obtain ⟨e0, e1, e2⟩ := kt9.cell3; have f2 := kt9.frozen 2; obtain ⟨A9, c9, rfl, _⟩ := own_form hown9)
        have kt8 := kt9.set 2 (.slice A9 4 c9)
        simp only [List.setIfInBounds_toArray, List.set_cons_zero, List.set_cons_succ] at kt8
        exact ⟨⟨4, A9, c9, by omega, by go_num, own_far hown9 _ _ (fun b hb e => by have := own_ge hown9 b hb; simp at e; omega), kt8, kr9.far (by simp) _, hb9.setCell (by simp; omega) _⟩, by simp [intOf]⟩
      · go_wp2_with (first
          | (refine ldB rfl _ _ rfl kt rfl Tryz.underlying41 rfl cm50_size ?_)
          | (refine stB (ty := 41) (cells := cmA 4 0 A' 4 c') rfl _ _ rfl kr rfl rfl cm50_size rfl (by simp [Value.oneCell']) ?_; intro w5 hK5 hg5 hs5))
        refine bodyPost_ret (res_cell rfl hK5 rfl Tryz.underlying41 rfl cm50_size) rfl ?_
        have hge := own_ge hown
        have ho5 := (own_gb51 hown hg5 (fun b hb e => by have := hge b hb; injection e with e; omega))
        exact ⟨A', c', rfl, (RdL.of_own ho5).less (by omega), below_of_gb hb hg5 (by omega) hb.size⟩
  · have h3 : (mo != 0) = true := by simp [h]
    have HK : Hid (bL mo c0 c1 c2 c3 = []) := by show _ = _; unfold bL; rw [if_neg h]
    clear h
    go_enter Tryz.func11, Tryz.ntmps11
    go_upto_region 2 with (refine stB (ty := 41) (cells := cmA 4 mo none 0 0) rfl _ _ rfl k3 rfl rfl cm50_size rfl (by simp [Value.oneCell']) ?_; intro w3 hK3 hg3 hs3)
    have hL3 := hL.set hg3 hK3 (by omega) (by simp; omega)
    clear x6 k0 k3 k00 hL hg3 hs3
    have k0 : Bk w3 w.heap.size 29 (wrA k A sn cp W H kn n mo c0 c1 c2 c3 mi) := hL3.k 2 (by simp)
    have k2 : Bk w3 (w.heap.size + 1) 41 cm0 := hL3.k 1 (by simp)
    obtain ⟨_, _, x6, _⟩ := k0.cell12'
    go_wp2_with (first
      | (refine ldB rfl _ _ rfl hK3 rfl Tryz.underlying41 rfl cm50_size ?_)
      | (refine stB (ty := 41) (cells := cmA 4 mo none 0 0) rfl _ _ rfl k2 rfl rfl cm50_size rfl (by simp [Value.oneCell']) ?_; intro w5 hK5 hg5 hs5))
    refine bodyPost_ret (res_cell rfl hK5 rfl Tryz.underlying41 rfl cm50_size) rfl ?_
    refine ⟨none, 0, by rw [HK.out]; rfl, ?_, below_of_gb hL3.bel hg5 (by omega) hL3.sz⟩
    rw [HK.out]
    exact fun i hi => absurd hi (by simp)
end Go.Proofs.YtencbfmcmpmdnaaGreatDoor
