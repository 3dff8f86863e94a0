/- sample: what stands at a place. (Printed by wip/tools/gensp14.py.) -/
import Derived.Test.YthgcfahacoonaaaGreatS12
import Derived.Test.YthgcfahacoonaaaGreatLv
import Derived.Deep.RegionHeld3
set_option linter.unusedVariables false
namespace Go.Proofs.YthgcfahacoonaaaGreat
open Go.RowKit
theorem lvTo_bd {u : Int} (k : Int) (h : -70368744177664 ≤ u ∧ u ≤ 70368744177664) : -70368744177664 ≤ lvTo u k ∧ lvTo u k ≤ 70368744177664 := by
  unfold lvTo
  have hp := p2_15 (lvTop k) (lvTop_le k)
  generalize (2 : Int) ^ lvTop k = p at *
  obtain ⟨h1, h2⟩ := hp
  constructor
  · refine Int.le_ediv_of_mul_le (by omega) ?_
    have : 70368744177664 * 1 ≤ 70368744177664 * p := Int.mul_le_mul_of_nonneg_left h1 (by omega)
    have e : -70368744177664 * p = -(70368744177664 * p) := Int.neg_mul _ _
    rw [e]
    rcases Int.lt_or_le 1 p with hp2 | hp2
    · have : 70368744177664 * 2 ≤ 70368744177664 * p := Int.mul_le_mul_of_nonneg_left (by omega) (by omega)
      omega
    · obtain rfl : p = 1 := by omega
      omega
  · have h3 : (u - 32768 * (p - 1)) / p ≤ 70368744177664 := by
      refine Int.le_of_lt_add_one (Int.ediv_lt_of_lt_mul (by omega) ?_)
      have : 70368744177665 * 1 ≤ (70368744177664 + 1) * p := Int.mul_le_mul_of_nonneg_left h1 (by omega)
      omega
    exact h3
theorem far_any (u : Int) (w : World) : Calls Tryz.prog 25 #[.int .i64 u] w fun e w' => e = .returned (.bool (!inF u)) ∧ w = w' := by
  by_cases h1 : u < -70368744177664
  · have HF : Hid ((!inF u) = true) := by show _ = _; unfold inF; simp; omega
    go_enter Tryz.func25, Tryz.ntmps25
    go_wp2
    go_ret
    exact ⟨by rw [HF.out]; rfl, rfl⟩
  · by_cases h2 : 70368744177664 < u
    · have HF : Hid ((!inF u) = true) := by show _ = _; unfold inF; simp; omega
      go_enter Tryz.func25, Tryz.ntmps25
      go_wp2
      go_ret
      exact ⟨by rw [HF.out]; rfl, rfl⟩
    · have HF : Hid ((!inF u) = false) := by show _ = _; unfold inF; simp; omega
      go_enter Tryz.func25, Tryz.ntmps25
      go_wp2
      go_ret
      exact ⟨by rw [HF.out]; rfl, rfl⟩
theorem smat_nil (k u v : Int) (w : World) : Calls Tryz.prog 10 #[.pointer none, .int .i64 k, .int .i64 u, .int .i64 v] w fun e w' => e = .returned (.tuple #[.slice none 0 0, .int .i64 10]) ∧ w = w' := by
  go_enter Tryz.func10, Tryz.ntmps10
  go_wp2_with fail
  go_returns
  exact ⟨rfl, rfl⟩
set_option maxRecDepth 100000 in
set_option maxHeartbeats 8000000 in
theorem smat_out {ims : List Im} {A : Option Addr} {n c lo g : Nat} {w : World} (nm fb fr : Value) (nn : Int) (sup : Bool) (mo c0 c1 c2 c3 u v : Int) (hK : Bk w g 74 (samA (.slice A n c) nm fb fr nn sup mo c0 c1 c2 c3)) (k : Int) (h : k < 0 ∨ (n : Int) ≤ k) :
    Calls Tryz.prog 10 #[.pointer (some ⟨g, 0, none⟩), .int .i64 k, .int .i64 u, .int .i64 v] w fun e w' => e = .returned (.tuple #[.slice none 0 0, .int .i64 11]) ∧ Below w.heap.size w w' := by
  have hq := fun w => eql_src (.slice A n c) w
  have hM := fun (v : Value) (w : World) => me_size v w
  have hS := fun w' => size_out k A n c w' h
  have d0 := (hK.cell 0).trans (show _ = some (.iface 65 (.slice A n c)) from rfl)
  have hb := Below.refl w.heap.size w
  clear h hK
  go_enter Tryz.func10, Tryz.ntmps10
  go_wp2_with (go_at_call 276; (with_reducible refine (hS _).mono ?_); rintro e w1 ⟨rfl, rfl⟩)
  go_returns
  exact ⟨rfl, hb⟩
set_option maxRecDepth 100000 in
set_option maxHeartbeats 8000000 in
theorem smat_far {ims : List Im} {A : Option Addr} {n c lo g : Nat} {w : World} (hn : ims.length = n) (hA : ImsAt w lo A ims) (nm fb fr : Value) (nn : Int) (sup : Bool) (mo c0 c1 c2 c3 u v : Int) (hK : Bk w g 74 (samA (.slice A n c) nm fb fr nn sup mo c0 c1 c2 c3)) (k : Nat) (hk : k < ims.length) (hck : checkC ims[k].W ims[k].H ims[k].C ims[k].px.length = 0) (h : inF u = false ∨ inF v = false) :
    Calls Tryz.prog 10 #[.pointer (some ⟨g, 0, none⟩), .int .i64 k, .int .i64 u, .int .i64 v] w fun e w' => e = .returned (.tuple #[.slice none 0 0, .int .i64 11]) ∧ Below w.heap.size w w' := by
  obtain ⟨hf, hl⟩ := ck_parts hck
  obtain ⟨hc, hw1, hw2, hh1, hh2, hp⟩ := fitsC_ok hf
  have hq := fun w => eql_src (.slice A n c) w
  have hM := fun (v : Value) (w : World) => me_size v w
  have hS := size_in (c := c) hn hA k hk
  have d0 := (hK.cell 0).trans (show _ = some (.iface 65 (.slice A n c)) from rfl)
  have hb := Below.refl w.heap.size w
  have hw0 : (ims[k].W == 0) = false := by simp; omega
  have hU := fun w' => far_any u w'
  have hV := fun w' => far_any v w'
  clear hK hA hck hf hl hc hp hh1 hh2 hw1 hw2
  generalize ims[k].W = W at *
  generalize ims[k].H = H at *
  clear hk hn
  cases hiu : inF u with
  | false =>
    rw [hiu] at hU
    clear h hV
    go_enter Tryz.func10, Tryz.ntmps10
    go_wp2_with (first
      | (go_at_call 276; (with_reducible refine hS.mono ?_); rintro e w1 ⟨rfl, q, rfl⟩)
      | (go_at_call 25; (with_reducible refine (hU _).mono ?_); rintro e w1 ⟨rfl, rfl⟩))
    go_returns
    exact ⟨rfl, below_drewN hb q⟩
  | true =>
    have hiv : inF v = false := by rcases h with h | h <;> simp_all
    rw [hiu] at hU
    rw [hiv] at hV
    clear h
    go_enter Tryz.func10, Tryz.ntmps10
    go_wp2_with (first
      | (go_at_call 276; (with_reducible refine hS.mono ?_); rintro e w1 ⟨rfl, q, rfl⟩)
      | (go_at_call 25; (with_reducible refine (hU _).mono ?_); rintro e w1 ⟨rfl, rfl⟩)
      | (go_at_call 25; (with_reducible refine (hV _).mono ?_); rintro e w1 ⟨rfl, rfl⟩))
    go_returns
    exact ⟨rfl, below_drewN hb q⟩
theorem keepS {w1 w' : World} {g : Nat} {a b : Value} (h0 : w1.cell? ⟨g, 0, none⟩ = some a) (h2 : w1.cell? ⟨g, 2, none⟩ = some b) (hg : g < w1.heap.size) (hb : Below w1.heap.size w1 w') : w'.cell? ⟨g, 0, none⟩ = some a ∧ w'.cell? ⟨g, 2, none⟩ = some b ∧ Below w1.heap.size w1 w' :=
  ⟨(hb.cell (by exact hg)).trans h0, (hb.cell (by exact hg)).trans h2, hb⟩
set_option maxRecDepth 100000 in
set_option maxHeartbeats 16000000 in
theorem smat_near {ims : List Im} {A : Option Addr} {n c lo g : Nat} {w : World} (hn : ims.length = n) (hA : ImsAt w lo A ims) (nm fr : Value) (nn : Int) (sup : Bool) (mo c0 c1 c2 c3 u v : Int) (hK : Bk w g 74 (samA (.slice A n c) nm (.func (.func 54) #[] #[]) fr nn sup mo c0 c1 c2 c3)) (k : Nat) (hk : k < ims.length) (hck : checkC ims[k].W ims[k].H ims[k].C ims[k].px.length = 0) (C : Nat) (hC : (im0 ims).C = C)
    (hu : -70368744177664 ≤ u ∧ u ≤ 70368744177664) (hv : -70368744177664 ≤ v ∧ v ≤ 70368744177664) (L : List Int)
    (hBy : ∀ w', Below w.heap.size w w' → Calls Tryz.prog 54 #[getV (.slice A n c) k ims[k].W ims[k].H mo c0 c1 c2 c3, .int .i64 C, .int .i64 (lvTo u k), .int .i64 (lvTo v k)] w' (OwnU L w')) :
    Calls Tryz.prog 10 #[.pointer (some ⟨g, 0, none⟩), .int .i64 k, .int .i64 u, .int .i64 v] w fun e w' => ∃ s, e = .returned (.tuple #[s, .int .i64 0]) ∧ w'.ownsRow w.heap.size 5 1 s L.length (L.map (Value.int .u8)) ∧ Below w.heap.size w w' := by
  obtain ⟨hf, hl⟩ := ck_parts hck
  obtain ⟨hc, hw1, hw2, hh1, hh2, hp⟩ := fitsC_ok hf
  have hq := fun w => eql_src (.slice A n c) w
  have hM := fun (v : Value) (w : World) => me_size v w
  have hM2 := fun (v : Value) (w : World) => me_channels v w
  have hS := size_in (c := c) hn hA k hk
  have hCh := fun (w' : World) (hb : Below w.heap.size w w') => channels_any (c := c) hn (hA.nx hb (Nat.le_refl _)) (by omega)
  rw [hC] at hCh
  have hb := Below.refl w.heap.size w
  have hw0 : (ims[k].W == 0) = false := by simp; omega
  have hU := fun w' => far_any u w'
  have hV := fun w' => far_any v w'
  have hT1 := fun w' => lv_to_any u k w' hu.1 hu.2
  have hT2 := fun w' => lv_to_any v k w' hv.1 hv.2
  rw [inF_iff.2 hu] at hU
  rw [inF_iff.2 hv] at hV
  clear hA hck hf hl hc hp hh1 hh2 hw1 hw2 hu hv
  generalize ims[k].W = W at *
  generalize ims[k].H = H at *
  clear hk hn hC
  generalize lvTo u k = u1 at *
  generalize lvTo v k = v1 at *
  have d0 := (hK.cell 0).trans (show _ = some (.iface 65 (.slice A n c)) from rfl)
  have d2 := (hK.cell 2).trans (show _ = some (.func (.func 54) #[] #[]) from rfl)
  have d6 := (hK.cell 6).trans (show _ = some (.int .i64 mo) from rfl)
  have d7 := (hK.cell 7).trans (show _ = some (.int .u8 c0) from rfl)
  have d8 := (hK.cell 8).trans (show _ = some (.int .u8 c1) from rfl)
  have d9 := (hK.cell 9).trans (show _ = some (.int .u8 c2) from rfl)
  have d10 := (hK.cell 10).trans (show _ = some (.int .u8 c3) from rfl)
  have hlg := hK.lt
  clear hK
  go_enter Tryz.func10, Tryz.ntmps10
  go_upto_region 6 with (first
    | (go_at_call 276; (with_reducible refine hS.mono ?_); rintro e w1 ⟨rfl, q, rfl⟩)
    | (go_at_call 25; (with_reducible refine (hU _).mono ?_); rintro e w1 ⟨rfl, rfl⟩)
    | (go_at_call 25; (with_reducible refine (hV _).mono ?_); rintro e w1 ⟨rfl, rfl⟩))
  go_quiet (fail)
  go_wp2_with fail
  have hb5 : Below w.heap.size w ((w.drewN q).drewN nq) := below_drewN (below_drewN hb q) nq
  have e0 : ((w.drewN q).drewN nq).cell? ⟨g, 0, none⟩ = some (.iface 65 (.slice A n c)) := d0
  have e2 : ((w.drewN q).drewN nq).cell? ⟨g, 2, none⟩ = some (.func (.func 54) #[] #[]) := d2
  have hlg5 : g < ((w.drewN q).drewN nq).heap.size := hlg
  have HZ : Hid (((w.drewN q).drewN nq).heap.size = w.heap.size) := rfl
  clear d0 d2 d6 d7 d8 d9 d10 hlg hS hU hV hM hb hq
  generalize (w.drewN q).drewN nq = w5 at *
  go_region_held3 (fun w' => w'.cell? ⟨g, 0, none⟩ = some (.iface 65 (.slice A n c)) ∧ w'.cell? ⟨g, 2, none⟩ = some (.func (.func 54) #[] #[]) ∧ Below w5.heap.size w5 w')
    (first | with_reducible exact keepS e0 e2 hlg5 hB7 | (refine keepS e0 e2 hlg5 ?_; go_grown))
    (first
      | (go_at_call 273; (with_reducible refine (hCh _ (by first | exact hb5 | exact hb5.drew | exact hb5.drew.drew)).mono ?_); rintro e w1 ⟨rfl, rfl⟩)
      | (go_at_call 27; (with_reducible refine (hT1 _).mono ?_); rintro e w1 ⟨rfl, rfl⟩)
      | (go_at_call 27; (with_reducible refine (hT2 _).mono ?_); rintro e w1 ⟨rfl, rfl⟩)
      | (go_at_call 54; (with_reducible refine (hBy _ (by first | exact hb5 | exact hb5.drew | exact hb5.drew.drew)).mono ?_); rintro e w7 ⟨s7, rfl, ho7, hb7⟩; have hB7 : Below w5.heap.size w5 w7 := Below.trans (by go_grown) hb7))
  all_goals
    rename_i hHeld
    clear hHeld
    go_wp2_with fail
    go_returns
    have hz := HZ.out
    exact ⟨_, rfl, own_base ho7 (by first | exact Nat.le_of_eq hz.symm | (show w.heap.size ≤ w5.heap.size; omega)), hb5.trans (hB7.mono (by omega))⟩
set_option maxRecDepth 100000 in
set_option maxHeartbeats 16000000 in
theorem smat_linear {ims : List Im} {A : Option Addr} {n c lo g : Nat} {w : World} (hn : ims.length = n) (hA : ImsAt w lo A ims) (nm fr : Value) (nn : Int) (sup : Bool) (mo c0 c1 c2 c3 u v : Int) (hK : Bk w g 74 (samA (.slice A n c) nm (.func (.func 56) #[] #[]) fr nn sup mo c0 c1 c2 c3)) (k : Nat) (hk : k < ims.length) (hck : checkC ims[k].W ims[k].H ims[k].C ims[k].px.length = 0) (C : Nat) (hC : (im0 ims).C = C)
    (hu : -70368744177664 ≤ u ∧ u ≤ 70368744177664) (hv : -70368744177664 ≤ v ∧ v ≤ 70368744177664) (L : List Int)
    (hBy : ∀ w', Below w.heap.size w w' → Calls Tryz.prog 56 #[getV (.slice A n c) k ims[k].W ims[k].H mo c0 c1 c2 c3, .int .i64 C, .int .i64 (lvTo u k), .int .i64 (lvTo v k)] w' (OwnU L w')) :
    Calls Tryz.prog 10 #[.pointer (some ⟨g, 0, none⟩), .int .i64 k, .int .i64 u, .int .i64 v] w fun e w' => ∃ s, e = .returned (.tuple #[s, .int .i64 0]) ∧ w'.ownsRow w.heap.size 5 1 s L.length (L.map (Value.int .u8)) ∧ Below w.heap.size w w' := by
  obtain ⟨hf, hl⟩ := ck_parts hck
  obtain ⟨hc, hw1, hw2, hh1, hh2, hp⟩ := fitsC_ok hf
  have hq := fun w => eql_src (.slice A n c) w
  have hM := fun (v : Value) (w : World) => me_size v w
  have hM2 := fun (v : Value) (w : World) => me_channels v w
  have hS := size_in (c := c) hn hA k hk
  have hCh := fun (w' : World) (hb : Below w.heap.size w w') => channels_any (c := c) hn (hA.nx hb (Nat.le_refl _)) (by omega)
  rw [hC] at hCh
  have hb := Below.refl w.heap.size w
  have hw0 : (ims[k].W == 0) = false := by simp; omega
  have hU := fun w' => far_any u w'
  have hV := fun w' => far_any v w'
  have hT1 := fun w' => lv_to_any u k w' hu.1 hu.2
  have hT2 := fun w' => lv_to_any v k w' hv.1 hv.2
  rw [inF_iff.2 hu] at hU
  rw [inF_iff.2 hv] at hV
  clear hA hck hf hl hc hp hh1 hh2 hw1 hw2 hu hv
  generalize ims[k].W = W at *
  generalize ims[k].H = H at *
  clear hk hn hC
  generalize lvTo u k = u1 at *
  generalize lvTo v k = v1 at *
  have d0 := (hK.cell 0).trans (show _ = some (.iface 65 (.slice A n c)) from rfl)
  have d2 := (hK.cell 2).trans (show _ = some (.func (.func 56) #[] #[]) from rfl)
  have d6 := (hK.cell 6).trans (show _ = some (.int .i64 mo) from rfl)
  have d7 := (hK.cell 7).trans (show _ = some (.int .u8 c0) from rfl)
  have d8 := (hK.cell 8).trans (show _ = some (.int .u8 c1) from rfl)
  have d9 := (hK.cell 9).trans (show _ = some (.int .u8 c2) from rfl)
  have d10 := (hK.cell 10).trans (show _ = some (.int .u8 c3) from rfl)
  have hlg := hK.lt
  clear hK
  go_enter Tryz.func10, Tryz.ntmps10
  go_upto_region 6 with (first
    | (go_at_call 276; (with_reducible refine hS.mono ?_); rintro e w1 ⟨rfl, q, rfl⟩)
    | (go_at_call 25; (with_reducible refine (hU _).mono ?_); rintro e w1 ⟨rfl, rfl⟩)
    | (go_at_call 25; (with_reducible refine (hV _).mono ?_); rintro e w1 ⟨rfl, rfl⟩))
  go_quiet (fail)
  go_wp2_with fail
  have hb5 : Below w.heap.size w ((w.drewN q).drewN nq) := below_drewN (below_drewN hb q) nq
  have e0 : ((w.drewN q).drewN nq).cell? ⟨g, 0, none⟩ = some (.iface 65 (.slice A n c)) := d0
  have e2 : ((w.drewN q).drewN nq).cell? ⟨g, 2, none⟩ = some (.func (.func 56) #[] #[]) := d2
  have hlg5 : g < ((w.drewN q).drewN nq).heap.size := hlg
  have HZ : Hid (((w.drewN q).drewN nq).heap.size = w.heap.size) := rfl
  clear d0 d2 d6 d7 d8 d9 d10 hlg hS hU hV hM hb hq
  generalize (w.drewN q).drewN nq = w5 at *
  go_region_held3 (fun w' => w'.cell? ⟨g, 0, none⟩ = some (.iface 65 (.slice A n c)) ∧ w'.cell? ⟨g, 2, none⟩ = some (.func (.func 56) #[] #[]) ∧ Below w5.heap.size w5 w')
    (first | with_reducible exact keepS e0 e2 hlg5 hB7 | (refine keepS e0 e2 hlg5 ?_; go_grown))
    (first
      | (go_at_call 273; (with_reducible refine (hCh _ (by first | exact hb5 | exact hb5.drew | exact hb5.drew.drew)).mono ?_); rintro e w1 ⟨rfl, rfl⟩)
      | (go_at_call 27; (with_reducible refine (hT1 _).mono ?_); rintro e w1 ⟨rfl, rfl⟩)
      | (go_at_call 27; (with_reducible refine (hT2 _).mono ?_); rintro e w1 ⟨rfl, rfl⟩)
      | (go_at_call 56; (with_reducible refine (hBy _ (by first | exact hb5 | exact hb5.drew | exact hb5.drew.drew)).mono ?_); rintro e w7 ⟨s7, rfl, ho7, hb7⟩; have hB7 : Below w5.heap.size w5 w7 := Below.trans (by go_grown) hb7))
  all_goals
    rename_i hHeld
    clear hHeld
    go_wp2_with fail
    go_returns
    have hz := HZ.out
    exact ⟨_, rfl, own_base ho7 (by first | exact Nat.le_of_eq hz.symm | (show w.heap.size ≤ w5.heap.size; omega)), hb5.trans (hB7.mono (by omega))⟩
set_option maxRecDepth 100000 in
set_option maxHeartbeats 16000000 in
theorem smat_cubic {ims : List Im} {A : Option Addr} {n c lo g : Nat} {w : World} (hn : ims.length = n) (hA : ImsAt w lo A ims) (nm fr : Value) (nn : Int) (sup : Bool) (mo c0 c1 c2 c3 u v : Int) (hK : Bk w g 74 (samA (.slice A n c) nm (.func (.func 58) #[] #[]) fr nn sup mo c0 c1 c2 c3)) (k : Nat) (hk : k < ims.length) (hck : checkC ims[k].W ims[k].H ims[k].C ims[k].px.length = 0) (C : Nat) (hC : (im0 ims).C = C)
    (hu : -70368744177664 ≤ u ∧ u ≤ 70368744177664) (hv : -70368744177664 ≤ v ∧ v ≤ 70368744177664) (L : List Int)
    (hBy : ∀ w', Below w.heap.size w w' → Calls Tryz.prog 58 #[getV (.slice A n c) k ims[k].W ims[k].H mo c0 c1 c2 c3, .int .i64 C, .int .i64 (lvTo u k), .int .i64 (lvTo v k)] w' (OwnU L w')) :
    Calls Tryz.prog 10 #[.pointer (some ⟨g, 0, none⟩), .int .i64 k, .int .i64 u, .int .i64 v] w fun e w' => ∃ s, e = .returned (.tuple #[s, .int .i64 0]) ∧ w'.ownsRow w.heap.size 5 1 s L.length (L.map (Value.int .u8)) ∧ Below w.heap.size w w' := by
  obtain ⟨hf, hl⟩ := ck_parts hck
  obtain ⟨hc, hw1, hw2, hh1, hh2, hp⟩ := fitsC_ok hf
  have hq := fun w => eql_src (.slice A n c) w
  have hM := fun (v : Value) (w : World) => me_size v w
  have hM2 := fun (v : Value) (w : World) => me_channels v w
  have hS := size_in (c := c) hn hA k hk
  have hCh := fun (w' : World) (hb : Below w.heap.size w w') => channels_any (c := c) hn (hA.nx hb (Nat.le_refl _)) (by omega)
  rw [hC] at hCh
  have hb := Below.refl w.heap.size w
  have hw0 : (ims[k].W == 0) = false := by simp; omega
  have hU := fun w' => far_any u w'
  have hV := fun w' => far_any v w'
  have hT1 := fun w' => lv_to_any u k w' hu.1 hu.2
  have hT2 := fun w' => lv_to_any v k w' hv.1 hv.2
  rw [inF_iff.2 hu] at hU
  rw [inF_iff.2 hv] at hV
  clear hA hck hf hl hc hp hh1 hh2 hw1 hw2 hu hv
  generalize ims[k].W = W at *
  generalize ims[k].H = H at *
  clear hk hn hC
  generalize lvTo u k = u1 at *
  generalize lvTo v k = v1 at *
  have d0 := (hK.cell 0).trans (show _ = some (.iface 65 (.slice A n c)) from rfl)
  have d2 := (hK.cell 2).trans (show _ = some (.func (.func 58) #[] #[]) from rfl)
  have d6 := (hK.cell 6).trans (show _ = some (.int .i64 mo) from rfl)
  have d7 := (hK.cell 7).trans (show _ = some (.int .u8 c0) from rfl)
  have d8 := (hK.cell 8).trans (show _ = some (.int .u8 c1) from rfl)
  have d9 := (hK.cell 9).trans (show _ = some (.int .u8 c2) from rfl)
  have d10 := (hK.cell 10).trans (show _ = some (.int .u8 c3) from rfl)
  have hlg := hK.lt
  clear hK
  go_enter Tryz.func10, Tryz.ntmps10
  go_upto_region 6 with (first
    | (go_at_call 276; (with_reducible refine hS.mono ?_); rintro e w1 ⟨rfl, q, rfl⟩)
    | (go_at_call 25; (with_reducible refine (hU _).mono ?_); rintro e w1 ⟨rfl, rfl⟩)
    | (go_at_call 25; (with_reducible refine (hV _).mono ?_); rintro e w1 ⟨rfl, rfl⟩))
  go_quiet (fail)
  go_wp2_with fail
  have hb5 : Below w.heap.size w ((w.drewN q).drewN nq) := below_drewN (below_drewN hb q) nq
  have e0 : ((w.drewN q).drewN nq).cell? ⟨g, 0, none⟩ = some (.iface 65 (.slice A n c)) := d0
  have e2 : ((w.drewN q).drewN nq).cell? ⟨g, 2, none⟩ = some (.func (.func 58) #[] #[]) := d2
  have hlg5 : g < ((w.drewN q).drewN nq).heap.size := hlg
  have HZ : Hid (((w.drewN q).drewN nq).heap.size = w.heap.size) := rfl
  clear d0 d2 d6 d7 d8 d9 d10 hlg hS hU hV hM hb hq
  generalize (w.drewN q).drewN nq = w5 at *
  go_region_held3 (fun w' => w'.cell? ⟨g, 0, none⟩ = some (.iface 65 (.slice A n c)) ∧ w'.cell? ⟨g, 2, none⟩ = some (.func (.func 58) #[] #[]) ∧ Below w5.heap.size w5 w')
    (first | with_reducible exact keepS e0 e2 hlg5 hB7 | (refine keepS e0 e2 hlg5 ?_; go_grown))
    (first
      | (go_at_call 273; (with_reducible refine (hCh _ (by first | exact hb5 | exact hb5.drew | exact hb5.drew.drew)).mono ?_); rintro e w1 ⟨rfl, rfl⟩)
      | (go_at_call 27; (with_reducible refine (hT1 _).mono ?_); rintro e w1 ⟨rfl, rfl⟩)
      | (go_at_call 27; (with_reducible refine (hT2 _).mono ?_); rintro e w1 ⟨rfl, rfl⟩)
      | (go_at_call 58; (with_reducible refine (hBy _ (by first | exact hb5 | exact hb5.drew | exact hb5.drew.drew)).mono ?_); rintro e w7 ⟨s7, rfl, ho7, hb7⟩; have hB7 : Below w5.heap.size w5 w7 := Below.trans (by go_grown) hb7))
  all_goals
    rename_i hHeld
    clear hHeld
    go_wp2_with fail
    go_returns
    have hz := HZ.out
    exact ⟨_, rfl, own_base ho7 (by first | exact Nat.le_of_eq hz.symm | (show w.heap.size ≤ w5.heap.size; omega)), hb5.trans (hB7.mono (by omega))⟩
end Go.Proofs.YthgcfahacoonaaaGreat
