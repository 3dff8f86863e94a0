/- Pixels within and beyond an image, of the program. -/
import Derived.Test.YtpcjoalbhicccaaTh12
import Derived.Laws.CopyOwn
set_option linter.unusedVariables false
namespace Go.Proofs.Ytpcjoalbhicccaa
open Go.RowKit
abbrev bordV (m a b c d : Int) : Value := .agg #[.int .i64 m, .int .u8 a, .int .u8 b, .int .u8 c, .int .u8 d]
abbrev imgV (W H : Int) (C : Nat) (A : Option Addr) (n cp : Nat) : Value := .agg #[.int .i64 W, .int .i64 H, .int .i64 C, .slice A n cp]
set_option maxHeartbeats 1000000 in
theorem bchk_any (W H : Int) (C : Nat) (A : Option Addr) (n cp : Nat) (m a b c d : Int) (w : World) (h : checkC W H C n = 0) :
    Calls Try.prog 64 #[imgV W H C A n cp, bordV m a b c d] w fun e w' => e = .returned (.int .i64 (modeC m)) ∧ Below w.heap.size w w' := by
  go_enter Try.func64, Try.ntmps64
  have HH := Lib.hid h
  clear h
  go_wp2_with (first
    | (go_at_call 40; (with_reducible refine (icheck_any _ _ _ _ _ _ _).mono ?_); rintro e w1 ⟨rfl, hb1⟩; rw [HH.out]; have hb2 := bl_alloc (bl_alloc hb1); have hcb := bcell hb1; have hz := hb2.size)
    | (go_at_call 42; (with_reducible refine (bcheck_any _ _ _ _ _ _).mono ?_); rintro e w2 ⟨rfl, hb3⟩))
  go_returns
  exact ⟨rfl, hb2.trans (hb3.mono hz)⟩
/-- where a pixel's bytes begin. -/
def pAt (W H : Int) (C : Nat) (m x y : Int) : Int := ((idx m y H).1 * W + (idx m x W).1) * C
def pOk (W H m x y : Int) : Bool := (idx m x W).2 && (idx m y H).2
def pxl (P : List Int) (W H : Int) (C : Nat) (m a b c d x y : Int) : List Int := if pOk W H m x y = true then (P.drop (pAt W H C m x y).toNat).take C else [a, b, c, d].take C
theorem pAt_bd {W H m x y : Int} {C : Nat} (h : pOk W H m x y = true) (hW : 1 ≤ W ∧ W ≤ 32768) (hH : 1 ≤ H ∧ H ≤ 32768) (hC : C ≤ 4) :
    0 ≤ (idx m y H).1 * W ∧ (idx m y H).1 * W ≤ 1073741824 ∧ 0 ≤ (idx m y H).1 * W + (idx m x W).1 ∧ (idx m y H).1 * W + (idx m x W).1 ≤ 1073774592 ∧ 0 ≤ pAt W H C m x y ∧ pAt W H C m x y ≤ 4295098368 ∧ pAt W H C m x y + C ≤ W * H * C := by
  unfold pOk at h
  simp only [Bool.and_eq_true] at h
  obtain ⟨h1, h2⟩ := idx_bd h.1
  obtain ⟨h3, h4⟩ := idx_bd h.2
  unfold pAt
  generalize (idx m y H).1 = r at *
  generalize (idx m x W).1 = q at *
  have e1 : 0 ≤ r * W := Int.mul_nonneg h3 (by omega)
  have e2 : r * W ≤ (H - 1) * W := Int.mul_le_mul_of_nonneg_right (by omega) (by omega)
  have e3 : (H - 1) * W ≤ 32767 * W := Int.mul_le_mul_of_nonneg_right (by omega) (by omega)
  have e4 : r * W + q + 1 ≤ W * H := by rw [Int.sub_mul, Int.one_mul, Int.mul_comm H W] at e2; omega
  have e5 : (r * W + q + 1) * (C : Int) ≤ W * H * C := Int.mul_le_mul_of_nonneg_right e4 (by omega)
  rw [Int.add_mul, Int.one_mul] at e5
  have e6 : 0 ≤ (r * W + q) * (C : Int) := Int.mul_nonneg (by omega) (by omega)
  have e7 : (r * W + q) * (C : Int) ≤ (r * W + q) * 4 := Int.mul_le_mul_of_nonneg_left (by omega) (by omega)
  refine ⟨e1, by omega, by omega, by omega, e6, by omega, by omega⟩
theorem pxl_len {P : List Int} {W H : Int} {C : Nat} {m a b c d x y : Int} {n : Nat} (hn : P.length = n) (hc : (n : Int) = W * H * C) (hW : 1 ≤ W ∧ W ≤ 32768) (hH : 1 ≤ H ∧ H ≤ 32768) (hC : C ≤ 4) : (pxl P W H C m a b c d x y).length = C := by
  unfold pxl
  split
  · rename_i h
    have := pAt_bd (C := C) h hW hH hC
    simp
    omega
  · simp
    omega
theorem u8_size : (Try.prog.info? 5).map (·.size) = some 1 := by kernel_rfl
set_option maxRecDepth 100000 in
set_option maxHeartbeats 4000000 in
theorem pixel_any (W H : Int) (C : Nat) (A : Option Addr) (n cp : Nat) (P : List Int) (m a b c d x y : Int) (w : World) {B : Nat} (h : checkC W H C n = 0) (hm : modeC m = 0) (hP : P.length = n) (hr : Rd w B A (P.map (Value.int .u8))) (hB : B ≤ w.heap.size) (hcp : n ≤ cp)
    (hx : -9223372036854775808 < x ∧ x ≤ 9223372036854775807) (hy : -9223372036854775808 < y ∧ y ≤ 9223372036854775807) :
    Calls Try.prog 55 #[imgV W H C A n cp, bordV m a b c d, .int .i64 x, .int .i64 y] w fun e w' => ∃ g, e = .returned (.tuple #[.slice (some ⟨g, 0, none⟩) C C, .int .i64 0]) ∧ w.heap.size ≤ g ∧ Bk w' g 5 ((pxl P W H C m a b c d x y).map (Value.int .u8)).toArray ∧ Below w.heap.size w w' := by
  have hf : fitsC W H C = 0 ∧ (n : Int) = W * H * C := by
    unfold checkC at h
    split at h
    · omega
    · rename_i h1
      refine ⟨h, ?_⟩
      by_cases h2 : (n : Int) = W * H * C
      · exact h2
      · exact absurd ⟨h, h2⟩ h1
  obtain ⟨hf1, hf2⟩ := hf
  obtain ⟨hc, hw1, hw2, hh1, hh2, hp⟩ := fitsC_ok hf1
  have hC1 : 1 ≤ C ∧ C ≤ 4 := by omega
  obtain ⟨hC1, hC4⟩ := hC1
  have hlen := pxl_len (m := m) (a := a) (b := b) (c := c) (d := d) (x := x) (y := y) hP hf2 ⟨hw1, hw2⟩ ⟨hh1, hh2⟩ hC4
  have HH := h
  have hmb : (modeC m != 0) = false := by rw [hm]; rfl
  have hmk := fun W => run_make1 (P := Try.prog) Try.underlying22 u8_info rfl (C : Int) C rfl (by omega) (by omega) W
  go_enter Try.func55, Try.ntmps55
  have hb00 : Below w.heap.size w ((w.alloc (.cells #[.int .i64 W, .int .i64 H, .int .i64 C, .slice A n cp] 24)).alloc (.cells #[.int .i64 m, .int .u8 a, .int .u8 b, .int .u8 c, .int .u8 d] 42)) := by go_grown
  have hKm := (Bk.new w 24 #[.int .i64 W, .int .i64 H, .int .i64 C, .slice A n cp]).alloc (.cells #[.int .i64 m, .int .u8 a, .int .u8 b, .int .u8 c, .int .u8 d] 42)
  have hKb := Bk.new (w.alloc (.cells #[.int .i64 W, .int .i64 H, .int .i64 C, .slice A n cp] 24)) 42 #[.int .i64 m, .int .u8 a, .int .u8 b, .int .u8 c, .int .u8 d]
  simp only [World.size_alloc] at hKb
  go_wp2_with fail
  refine (bchk_any W H C A n cp m a b c d _ HH).mono ?_
  rintro e w1 ⟨rfl, hb1⟩
  rw [hm]
  have hKm1 := hKm.nx hb1
  have hKb1 := hKb.nx hb1
  have hz1 := hb1.size
  have hbz1 := hb00.trans (hb1.mono (by simp <;> omega))
  clear hKm hKb hb1 hb00
  simp only [World.size_alloc] at hz1
  have hl1 := hKm1.lt
  have hl2 := hKb1.lt
  obtain ⟨i0, i1, i2, i3⟩ := hKm1.cell4
  have j0 := hKb1.cell 0
  simp at j0
  go_wp2_with fail
  refine (index_any m x W _ hx.1 hx.2 hw2).mono ?_
  rintro e w2 ⟨rfl, hb2⟩
  have hKm2 := hKm1.nx hb2
  have hKb2 := hKb1.nx hb2
  have hz2 := hb2.size
  have hbz2 := hbz1.trans (hb2.mono (by omega))
  clear hKm1 hKb1 hb2 hbz1 i0 i1 i2 i3 j0
  obtain ⟨i0, i1, i2, i3⟩ := hKm2.cell4
  have j0 := hKb2.cell 0
  simp at j0
  go_wp2_with fail
  refine (index_any m y H _ hy.1 hy.2 hh2).mono ?_
  rintro e w3 ⟨rfl, hb3⟩
  have hKm3 := hKm2.nx hb3
  have hKb3 := hKb2.nx hb3
  have hz3 := hb3.size
  have hbz3 := hbz2.trans (hb3.mono (by omega))
  clear hKm2 hKb2 hb3 hbz2 i0 i1 i2 i3 j0
  obtain ⟨i0, i1, i2, i3⟩ := hKm3.cell4
  have hKn := Bk.new w3 5 (Array.replicate C (.int .u8 0))
  have hKn' : (w3.alloc (.cells (Array.replicate C (.int .u8 0)) 5)).heap[w3.heap.size]? = some (.cells (List.replicate C (Value.int .u8 0)).toArray 5 (0, 0)) := by
    rw [List.toArray_replicate]; exact hKn
  have hbz4 := hbz3.alloc hbz3.size (.cells (Array.replicate C (.int .u8 0)) 5)
  have hKb4 := hKb3.alloc (.cells (Array.replicate C (.int .u8 0)) 5)
  have hzz := hbz3.size
  have hlm3 := hKm3.lt
  have hlb3 := hKb3.lt
  by_cases hok : pOk W H m x y = true
  · have hpx : pxl P W H C m a b c d x y = (P.drop (pAt W H C m x y).toNat).take C := by unfold pxl; rw [if_pos hok]
    obtain ⟨q1, q2, q3, q4, q5, q6, q7⟩ := pAt_bd (C := C) hok ⟨hw1, hw2⟩ ⟨hh1, hh2⟩ hC4
    unfold pOk at hok
    simp only [Bool.and_eq_true] at hok
    obtain ⟨ho1, ho2⟩ := hok
    have v1 : wrap64 ((idx m y H).1 * W) = (idx m y H).1 * W := IntWalk.wrap64_in _ ⟨by omega, by omega⟩
    have v2 : wrap64 ((idx m y H).1 * W + (idx m x W).1) = (idx m y H).1 * W + (idx m x W).1 := IntWalk.wrap64_in _ ⟨by omega, by omega⟩
    have v3 : wrap64 (((idx m y H).1 * W + (idx m x W).1) * C) = ((pAt W H C m x y).toNat : Int) := by
      show wrap64 (pAt W H C m x y) = _
      rw [Int.toNat_of_nonneg q5]
      exact IntWalk.wrap64_in _ ⟨by omega, by omega⟩
    generalize hQ : (pAt W H C m x y).toNat = Q at *
    have hQn : Q + C ≤ n := by omega
    obtain ⟨bb, oo, rfl, hbb, hgc0⟩ := hr.get 0 (by simp; omega)
    clear hgc0
    have hr3 : Rd (w3.alloc (.cells (Array.replicate C (.int .u8 0)) 5)) B (some ⟨bb, oo, none⟩) (P.map (Value.int .u8)) := hr.below' hbz4 hB
    have HQ := Lib.hid hQ
    have HPX := Lib.hid hpx
    have HF := Lib.hid hf2
    have HPL := Lib.hid hP
    clear hQ hpx hf2 hP hlen q1 q2 q3 q4 q5 q6 q7 h HH hm
    have g1 : (0:Int) ≤ (Q:Int) := by omega
    have g2 : (Q:Int) ≤ (n:Int) := by omega
    have g3 : (n:Int) ≤ (cp:Int) := by omega
    have hcs : (((P.drop Q).take C).map (Value.int .u8)).length = C := by have := HPL.out; simp; omega
    have HCS := Lib.hid hcs
    clear hcs
    go_wp2_with (refine wpList_copy_splice rfl _ _ _ _ rfl 5 Try.underlying22 u8_size _ _ _ _ _ _ rfl rfl w3.heap.size 0 _ _ hKn' (((P.drop Q).take C).map (Value.int .u8)) (by rw [HCS.out]; show C = min _ _; omega) (fun _ => ⟨rfl, _, rfl, fun j v hj => by
        have h1 : (P.map (Value.int .u8))[Q + j]? = some v := by
          rw [List.getElem?_map, List.getElem?_take] at hj
          split at hj
          · rw [List.getElem?_map, ← hj, List.getElem?_drop]
          · cases hj
        obtain ⟨h2, h3⟩ := List.getElem?_eq_some_iff.1 h1
        obtain ⟨b2, o2, e2, _, h4⟩ := hr3.get (Q + j) h2
        cases e2
        rw [addo, Nat.add_assoc, h4, h3]⟩) (by rw [HCS.out]; simp) (ints_oneCell .u8 _) w.heap.size w hbz4 hzz ?_; intro w4 HG4 hb4)
    go_returns
    refine ⟨_, rfl, hzz, ?_, hb4⟩
    rw [HPX.out]
    have hG := HG4.out
    show w4.heap[w3.heap.size]? = _
    rw [hG]
    unfold splice
    rw [HCS.out]
    simp
  · have hpx : pxl P W H C m a b c d x y = [a, b, c, d].take C := by unfold pxl; rw [if_neg hok]
    have HPX := Lib.hid hpx
    have hcs : (([a, b, c, d].take C).map (Value.int .u8)).length = C := by simp; omega
    have HCS := Lib.hid hcs
    have hxy : (idx m x W).2 = false ∨ ((idx m x W).2 = true ∧ (idx m y H).2 = false) := by
      unfold pOk at hok
      cases h1 : (idx m x W).2
      · exact .inl rfl
      · right
        refine ⟨rfl, ?_⟩
        cases h2 : (idx m y H).2
        · rfl
        · rw [h1, h2] at hok; simp at hok
    clear hpx hcs hok hf2 hP hlen h HH hm
    rcases hxy with ho1 | ⟨ho1, ho2⟩
    all_goals
      go_wp2_with (refine wpList_copy_splice rfl _ _ _ _ rfl 5 Try.underlying22 u8_size _ _ _ _ _ _ rfl rfl w3.heap.size 0 _ _ hKn' (([a, b, c, d].take C).map (Value.int .u8)) (by rw [HCS.out]; show C = min _ _; omega) (fun _ => ⟨rfl, _, rfl, fun j v hj => by
          rw [List.getElem?_map, List.getElem?_take] at hj
          split at hj
          · rename_i hjC
            rw [addo, hKb4.cell]
            have hj4 : j = 0 ∨ j = 1 ∨ j = 2 ∨ j = 3 := by omega
            rcases hj4 with rfl | rfl | rfl | rfl
            all_goals simpa using hj
          · cases hj⟩) (by rw [HCS.out]; simp) (ints_oneCell .u8 _) w.heap.size w hbz4 hzz ?_; intro w4 HG4 hb4)
      go_returns
      refine ⟨_, rfl, hzz, ?_, hb4⟩
      rw [HPX.out]
      have hG := HG4.out
      show w4.heap[w3.heap.size]? = _
      rw [hG]
      unfold splice
      rw [HCS.out]
      simp
end Go.Proofs.Ytpcjoalbhicccaa
