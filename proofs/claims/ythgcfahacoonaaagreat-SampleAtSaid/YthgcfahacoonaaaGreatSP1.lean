/- Pixels within and beyond an image: plain, and of the reference. -/
import Derived.Test.YthgcfahacoonaaaGreatIx3
import Derived.Test.YthgcfahacoonaaaGreatImg07
import Derived.Test.YthgcfahacoonaaaGreatRowG
set_option linter.unusedVariables false
namespace Go.Proofs.YthgcfahacoonaaaGreat
open Go.RowKit
theorem bl_alloc {w w' : World} {o : Obj} (h : Below (w.alloc o).heap.size (w.alloc o) w') : Below w.heap.size w w' := ((Below.refl w.heap.size w).alloc (Nat.le_refl _) o).trans (h.mono (by simp))
abbrev bordV (m a b c d : Int) : Value := .agg #[.int .i64 m, .int .u8 a, .int .u8 b, .int .u8 c, .int .u8 d]
abbrev imgV (W H : Int) (C : Nat) (A : Option Addr) (n cp : Nat) : Value := .agg #[.int .i64 W, .int .i64 H, .int .i64 C, .slice A n cp]
/-- where a pixel's bytes begin. -/
def pAt (W H : Int) (C : Nat) (m x y : Int) : Int := ((idx m y H).1 * W + (idx m x W).1) * C
def pOk (W H m x y : Int) : Bool := (idx m x W).2 && (idx m y H).2
def pxl (P : List Int) (W H : Int) (C : Nat) (m a b c d x y : Int) : List Int := if pOk W H m x y = true then (P.drop (pAt W H C m x y).toNat).take C else [a, b, c, d].take C
theorem pAt_bd {W H m x y : Int} {C : Nat} (h : pOk W H m x y = true) (hW : 1 ≤ W ∧ W ≤ 32768) (hH : 1 ≤ H ∧ H ≤ 32768) (hC : C ≤ 4) :
    0 ≤ (idx m y H).1 * W ∧ (idx m y H).1 * W ≤ 1073741824 ∧ 0 ≤ (idx m y H).1 * W + (idx m x W).1 ∧ (idx m y H).1 * W + (idx m x W).1 ≤ 1073774592 ∧ 0 ≤ pAt W H C m x y ∧ pAt W H C m x y ≤ 4295098368 ∧ pAt W H C m x y + C ≤ W * H * C := by
  unfold pOk at h
  simp only [Bool.and_eq_true] at h
  obtain ⟨h1, h2⟩ := idx_bd h.1
  obtain ⟨h3, h4⟩ := idx_bd h.2
  unfold pAt
  generalize (idx m y H).1 = r at *
  generalize (idx m x W).1 = q at *
  have e1 : 0 ≤ r * W := Int.mul_nonneg h3 (by omega)
  have e2 : r * W ≤ (H - 1) * W := Int.mul_le_mul_of_nonneg_right (by omega) (by omega)
  have e3 : (H - 1) * W ≤ 32767 * W := Int.mul_le_mul_of_nonneg_right (by omega) (by omega)
  have e4 : r * W + q + 1 ≤ W * H := by rw [Int.sub_mul, Int.one_mul, Int.mul_comm H W] at e2; omega
  have e5 : (r * W + q + 1) * (C : Int) ≤ W * H * C := Int.mul_le_mul_of_nonneg_right e4 (by omega)
  rw [Int.add_mul, Int.one_mul] at e5
  have e6 : 0 ≤ (r * W + q) * (C : Int) := Int.mul_nonneg (by omega) (by omega)
  have e7 : (r * W + q) * (C : Int) ≤ (r * W + q) * 4 := Int.mul_le_mul_of_nonneg_left (by omega) (by omega)
  refine ⟨e1, by omega, by omega, by omega, e6, by omega, by omega⟩
theorem pxl_len {P : List Int} {W H : Int} {C : Nat} {m a b c d x y : Int} {n : Nat} (hn : P.length = n) (hc : (n : Int) = W * H * C) (hW : 1 ≤ W ∧ W ≤ 32768) (hH : 1 ≤ H ∧ H ≤ 32768) (hC : C ≤ 4) : (pxl P W H C m a b c d x y).length = C := by
  unfold pxl
  split
  · rename_i h
    have := pAt_bd (C := C) h hW hH hC
    simp
    omega
  · simp
    omega
theorem keepI {w w' : World} {B g b o : Nat} {x y z u v : Value} (h1 : w.cell? ⟨g, 0, none⟩ = some x) (h2 : w.cell? ⟨g, 1, none⟩ = some y) (h3 : w.cell? ⟨g, 2, none⟩ = some z) (h4 : w.cell? ⟨g, 3, none⟩ = some u) (hg : g < B) (h5 : w.cell? ⟨b, o, none⟩ = some v) (hb : b < B) (h : Below B w w') :
    (w'.cell? ⟨g, 0, none⟩ = some x ∧ w'.cell? ⟨g, 1, none⟩ = some y ∧ w'.cell? ⟨g, 2, none⟩ = some z ∧ w'.cell? ⟨g, 3, none⟩ = some u) ∧ w'.cell? ⟨b, o, none⟩ = some v ∧ Below B w w' :=
  ⟨⟨(h.cell (by exact hg)).trans h1, (h.cell (by exact hg)).trans h2, (h.cell (by exact hg)).trans h3, (h.cell (by exact hg)).trans h4⟩, (h.cell (by exact hb)).trans h5, h⟩
theorem bord_size : (Tryz.prog.info? 27).map (·.size) = some 5 := by kernel_rfl
theorem check_parts {W H C : Int} {n : Nat} (h : checkC W H C n = 0) : fitsC W H C = 0 ∧ (n : Int) = W * H * C := by
  unfold checkC at h
  split at h
  · omega
  · rename_i h1
    refine ⟨h, ?_⟩
    by_cases h2 : (n : Int) = W * H * C
    · exact h2
    · exact absurd ⟨h, h2⟩ h1
set_option maxRecDepth 100000 in
set_option maxHeartbeats 2000000 in
theorem rplace_any (W H : Int) (C : Nat) (A : Option Addr) (n cp : Nat) (x y : Int) (k : Nat) (w : World) (h : checkC W H C n = 0) (hx : 0 ≤ x ∧ x < W) (hy : 0 ≤ y ∧ y < H) (hk : k < C) :
    Calls Tryz.prog 49 #[imgV W H C A n cp, .int .i64 x, .int .i64 y, .int .i64 k] w fun e w' => e = .returned (.int .i64 ((y * W + x) * C + k)) ∧ Below w.heap.size w w' := by
  obtain ⟨hf1, hf2⟩ := check_parts h
  obtain ⟨hc, hw1, hw2, hh1, hh2, hp⟩ := fitsC_ok hf1
  have e1 : 0 ≤ y * W := Int.mul_nonneg hy.1 (by omega)
  have e2 : y * W ≤ 32768 * W := Int.mul_le_mul_of_nonneg_right (by omega) (by omega)
  have e6 : 0 ≤ (y * W + x) * (C : Int) := Int.mul_nonneg (by omega) (by omega)
  have e7 : (y * W + x) * (C : Int) ≤ (y * W + x) * 4 := Int.mul_le_mul_of_nonneg_left (by omega) (by omega)
  have v1 : wrap64 (y * W) = y * W := IntWalk.wrap64_in _ ⟨by omega, by omega⟩
  have v2 : wrap64 (y * W + x) = y * W + x := IntWalk.wrap64_in _ ⟨by omega, by omega⟩
  have v3 : wrap64 ((y * W + x) * C) = (y * W + x) * C := IntWalk.wrap64_in _ ⟨by omega, by omega⟩
  have v4 : wrap64 ((y * W + x) * C + k) = (y * W + x) * C + k := IntWalk.wrap64_in _ ⟨by omega, by omega⟩
  have HH := Lib.hid h
  obtain ⟨hx1, hx2⟩ := hx
  obtain ⟨hy1, hy2⟩ := hy
  clear h e1 e2 e6 e7 hp hc hf1 hf2
  go_enter Tryz.func49, Tryz.ntmps49
  go_wp2_with (go_at_call 19; (with_reducible refine (rcheck_ok _ _ _ _ _ _ _ HH.out).mono ?_); rintro e w' ⟨rfl, hb⟩; have hb1 := bl_alloc hb; have hcb := bcell hb)
  go_returns
  exact ⟨ret_int (by first | rfl | exact v4), hb1⟩
set_option maxRecDepth 100000 in
set_option maxHeartbeats 4000000 in
theorem rat_any (W H : Int) (C : Nat) (A : Option Addr) (n cp : Nat) (P : List Int) (m a b c d x y : Int) (k : Nat) (w : World) {B : Nat} (h : checkC W H C n = 0) (hP : P.length = n) (hr : Rd w B A (P.map (Value.int .u8))) (hB : B ≤ w.heap.size) (hcp : n ≤ cp) (hk : k < C)
    (hx : -9223372036854775808 < x ∧ x ≤ 9223372036854775807) (hy : -9223372036854775808 < y ∧ y ≤ 9223372036854775807) :
    Calls Tryz.prog 110 #[imgV W H C A n cp, bordV m a b c d, .int .i64 x, .int .i64 y, .int .i64 k] w fun e w' => e = .returned (.int .u8 ((pxl P W H C m a b c d x y).getD k 0)) ∧ Below w.heap.size w w' := by
  obtain ⟨hf1, hf2⟩ := check_parts h
  obtain ⟨hc, hw1, hw2, hh1, hh2, hp⟩ := fitsC_ok hf1
  have hC4 : C ≤ 4 := by omega
  go_enter Tryz.func110, Tryz.ntmps110
  have hb00 : Below w.heap.size w ((w.alloc (.cells #[.int .i64 W, .int .i64 H, .int .i64 C, .slice A n cp] 24)).alloc (.cells #[.int .i64 m, .int .u8 a, .int .u8 b, .int .u8 c, .int .u8 d] 27)) := by go_grown
  have hKm := (Bk.new w 24 #[.int .i64 W, .int .i64 H, .int .i64 C, .slice A n cp]).alloc (.cells #[.int .i64 m, .int .u8 a, .int .u8 b, .int .u8 c, .int .u8 d] 27)
  have hKb := Bk.new (w.alloc (.cells #[.int .i64 W, .int .i64 H, .int .i64 C, .slice A n cp] 24)) 27 #[.int .i64 m, .int .u8 a, .int .u8 b, .int .u8 c, .int .u8 d]
  simp only [World.size_alloc] at hKb
  go_wp2_with fail
  refine (rindex_any m x W _ (by omega) hx.2 (by omega)).mono ?_
  rintro e w2 ⟨rfl, hb2⟩
  have hKm2 := hKm.nx hb2
  have hKb2 := hKb.nx hb2
  have hz2 := hb2.size
  have hbz2 := hb00.trans (hb2.mono (by simp <;> omega))
  simp only [World.size_alloc] at hz2
  clear hKm hKb hb2 hb00
  obtain ⟨i0, i1, i2, i3⟩ := hKm2.cell4
  have j0 := hKb2.cell 0
  simp at j0
  go_wp2_with fail
  refine (rindex_any m y H _ (by omega) hy.2 (by omega)).mono ?_
  rintro e w3 ⟨rfl, hb3⟩
  have hKm3 := hKm2.nx hb3
  have hKb3 := hKb2.nx hb3
  have hz3 := hb3.size
  have hbz3 := hbz2.trans (hb3.mono (by omega))
  clear hKm2 hKb2 hb3 hbz2 i0 i1 i2 i3 j0
  obtain ⟨i0, i1, i2, i3⟩ := hKm3.cell4
  have hlm3 := hKm3.lt
  have hlb3 := hKb3.lt
  by_cases hok : pOk W H m x y = true
  · have hpx : (pxl P W H C m a b c d x y).getD k 0 = P.getD ((pAt W H C m x y).toNat + k) 0 := by
      unfold pxl; rw [if_pos hok, List.getD_eq_getElem?_getD, List.getD_eq_getElem?_getD, List.getElem?_take_of_lt hk, List.getElem?_drop]
    obtain ⟨q1, q2, q3, q4, q5, q6, q7⟩ := pAt_bd (C := C) hok ⟨hw1, hw2⟩ ⟨hh1, hh2⟩ hC4
    unfold pOk at hok
    simp only [Bool.and_eq_true] at hok
    obtain ⟨ho1, ho2⟩ := hok
    have hxb := idx_bd ho1
    have hyb := idx_bd ho2
    have hQe : ((idx m y H).1 * W + (idx m x W).1) * C + k = (((pAt W H C m x y).toNat + k : Nat) : Int) := by
      have : ((pAt W H C m x y).toNat : Int) = pAt W H C m x y := Int.toNat_of_nonneg q5
      rw [Int.natCast_add, this]; rfl
    generalize hQ : (pAt W H C m x y).toNat = Q at *
    have hQn : Q + k < n := by omega
    generalize hJ : Q + k = J at *
    have hr3 : Rd w3 B A (P.map (Value.int .u8)) := hr.below' hbz3 hB
    obtain ⟨bb, oo, rfl, hbb, hgc⟩ := hr3.get J (by simp; omega)
    have hgc' : w3.cell? ⟨bb, oo + J, none⟩ = some (.int .u8 (P.getD J 0)) := by
      rw [hgc, List.getElem_map, List.getD_eq_getElem?_getD, List.getElem?_eq_getElem (by omega)]; rfl
    clear hgc hr3 hr
    have hbb3 : bb < w3.heap.size := by omega
    have HH := Lib.hid h
    have HPX := Lib.hid hpx
    generalize P.getD J 0 = Z at *
    clear hQ hJ hpx hf2 hP q1 q2 q3 q4 q5 q6 q7 h hc hp
    have hPl : ∀ w' : World, Calls Tryz.prog 49 #[imgV W H C (some ⟨bb, oo, none⟩) n cp, .int .i64 (idx m x W).1, .int .i64 (idx m y H).1, .int .i64 k] w' fun e w'' => e = .returned (.int .i64 (J : Int)) ∧ Below w'.heap.size w' w'' :=
      fun w' => (rplace_any W H C (some ⟨bb, oo, none⟩) n cp _ _ k w' HH.out hxb hyb hk).mono fun e w'' ⟨h1, h2⟩ => ⟨by rw [h1, hQe], h2⟩
    clear hQe
    have g1 : (0:Int) ≤ (J : Int) := by omega
    have g2 : (J : Int) < (n:Int) := by omega
    go_upto_region 5 with fail
    go_region_held3 (fun w' => (w'.cell? ⟨w.heap.size, 0, none⟩ = some (.int .i64 W) ∧ w'.cell? ⟨w.heap.size, 1, none⟩ = some (.int .i64 H) ∧ w'.cell? ⟨w.heap.size, 2, none⟩ = some (.int .i64 C) ∧ w'.cell? ⟨w.heap.size, 3, none⟩ = some (.slice (some ⟨bb, oo, none⟩) n cp)) ∧ w'.cell? ⟨bb, oo + J, none⟩ = some (.int .u8 Z) ∧ Below w3.heap.size w3 w')
      (first
        | exact keepI i0 i1 i2 i3 hlm3 hgc' hbb3 hbp
        | (refine keepI i0 i1 i2 i3 hlm3 hgc' hbb3 ?_; go_grown))
      ((go_at_call 49; (with_reducible refine (hPl _).mono ?_); rintro e wp ⟨rfl, hbp'⟩; have hbp : Below w3.heap.size w3 wp := Below.trans (by go_grown) hbp'))
    all_goals
      rename_i hHeld
      clear hHeld
      go_wp2_with fail
      go_returns
      exact ⟨by rw [HPX.out]; rfl, hbz3.trans (hbp.mono (by omega))⟩
  · have hpx : pxl P W H C m a b c d x y = [a, b, c, d].take C := by unfold pxl; rw [if_neg hok]
    have hpx2 : (pxl P W H C m a b c d x y).getD k 0 = [a, b, c, d].getD k 0 := by
      rw [hpx, List.getD_eq_getElem?_getD, List.getD_eq_getElem?_getD, List.getElem?_take_of_lt hk]
    have HPX := Lib.hid hpx2
    have hxy : (idx m x W).2 = false ∨ ((idx m x W).2 = true ∧ (idx m y H).2 = false) := by
      unfold pOk at hok
      cases h1 : (idx m x W).2
      · exact .inl rfl
      · right
        refine ⟨rfl, ?_⟩
        cases h2 : (idx m y H).2
        · rfl
        · rw [h1, h2] at hok; simp at hok
    have j1 := hKb3.cell 1
    have j2 := hKb3.cell 2
    have j3 := hKb3.cell 3
    have j4 := hKb3.cell 4
    simp at j1 j2 j3 j4
    have hk4 : k = 0 ∨ k = 1 ∨ k = 2 ∨ k = 3 := by omega
    clear hpx hpx2 hok hf2 hP h
    rcases hxy with ho1 | ⟨ho1, ho2⟩
    all_goals
      rcases hk4 with rfl | rfl | rfl | rfl
      all_goals
        go_wp2_with fail
        go_returns
        exact ⟨by rw [HPX.out]; rfl, hbz3⟩
set_option maxRecDepth 100000 in
set_option maxHeartbeats 4000000 in
theorem rpixel_any (W H : Int) (C : Nat) (A : Option Addr) (n cp : Nat) (P : List Int) (m a b c d x y : Int) (w : World) {B : Nat} (h : checkC W H C n = 0) (hP : P.length = n) (hr : Rd w B A (P.map (Value.int .u8))) (hB : B ≤ w.heap.size) (hcp : n ≤ cp)
    (hx : -9223372036854775808 < x ∧ x ≤ 9223372036854775807) (hy : -9223372036854775808 < y ∧ y ≤ 9223372036854775807) :
    Calls Tryz.prog 66 #[imgV W H C A n cp, bordV m a b c d, .int .i64 x, .int .i64 y] w fun e w' => ∃ v, e = .returned v ∧ w'.ownsRow w.heap.size 5 1 v C ((pxl P W H C m a b c d x y).map (Value.int .u8)) ∧ Below w.heap.size w w' := by
  obtain ⟨hf1, hf2⟩ := check_parts h
  obtain ⟨hc, hw1, hw2, hh1, hh2, hp⟩ := fitsC_ok hf1
  have hC4 : C ≤ 4 := by omega
  have hlen := pxl_len (m := m) (a := a) (b := b) (c := c) (d := d) (x := x) (y := y) hP hf2 ⟨hw1, hw2⟩ ⟨hh1, hh2⟩ hC4
  have HLEN := Lib.hid hlen
  have HH := Lib.hid h
  have HP := Lib.hid hP
  clear h hP hf2 hlen
  have hat := fun (k : Nat) (hk : k < C) (w' : World) (hr' : Rd w' B A (P.map (Value.int .u8))) (hB' : B ≤ w'.heap.size) => rat_any W H C A n cp P m a b c d x y k w' HH.out HP.out hr' hB' hcp hk hx hy
  generalize pxl P W H C m a b c d x y = X at *
  go_enter Tryz.func66, Tryz.ntmps66
  go_wp2_with fail
  go_loopw [9, 10] (fun v i wr => ∃ k : Nat, k ≤ C ∧ i = .int .i64 k ∧ wr.ownsRow (w.heap.size + 2) 5 1 v k ((X.take k).map (Value.int .u8)) ∧ Bk wr w.heap.size 24 #[.int .i64 W, .int .i64 H, .int .i64 C, .slice A n cp] ∧ Bk wr (w.heap.size + 1) 27 #[.int .i64 m, .int .u8 a, .int .u8 b, .int .u8 c, .int .u8 d] ∧ Below w.heap.size w wr ∧ w.heap.size + 2 ≤ wr.heap.size) (fun _ i _ => C - (intOf i).toNat)
  case atStart => exact ⟨0, by omega, rfl, by simpa using World.ownsRow_nil _ _ _ _, (Bk.new w _ _).alloc _, by simpa using Bk.new (w.alloc (.cells #[.int .i64 W, .int .i64 H, .int .i64 C, .slice A n cp] 24)) 27 #[.int .i64 m, .int .u8 a, .int .u8 b, .int .u8 c, .int .u8 d], by go_grown, by simp⟩
  case round =>
    obtain ⟨k, hk, rfl, hown, hKm, hKb, hbr, hsz⟩ := hrel
    obtain ⟨i0, i1, i2, i3⟩ := hKm.cell4
    by_cases hlt : k < C
    · have hrr : Rd wr B A (P.map (Value.int .u8)) := hr.below' hbr hB
      have hl1 := hKm.lt
      have hl2 := hKb.lt
      have HT := Lib.hid (show X.take (k + 1) = X.take k ++ [X.getD k 0] by
        have hkx : k < X.length := by rw [HLEN.out]; exact hlt
        rw [List.take_succ_eq_append_getElem hkx, List.getD_eq_getElem?_getD, List.getElem?_eq_getElem hkx]; rfl)
      go_wp2_with (first
        | (refine ldB rfl 24 _ rfl hKm rfl Tryz.underlying24 rfl img_size ?_)
        | (refine ldB rfl 27 _ rfl hKb rfl Tryz.underlying27 rfl bord_size ?_)
        | (go_at_call 110; (with_reducible refine (hat k hlt _ hrr (by exact Nat.le_trans hB hbr.size)).mono ?_); rintro e w1 ⟨rfl, hb1⟩; have hown1 := own_below hown hb1 (Nat.le_refl _); have hbr1 := hbr.trans (hb1.mono hbr.size); have hsz1 := Nat.le_trans hsz hb1.size; clear hown)
        | (at_builtin; refine app1 rfl _ _ _ rfl Tryz.underlying22 u8_info rfl (by omega) rfl rfl hown1 hbr1 (by omega) hsz1 rfl ints1 (by omega) (by omega) ?_; intro v' w' hown' hbel' hlt' hgr _; have hge := own_ge hown1; clear hown1))
      have hKm' := (hKm.nx hb1).grown hgr (fun e => by have := hge _ e.symm; omega)
      have hKb' := (hKb.nx hb1).grown hgr (fun e => by have := hge _ e.symm; omega)
      refine ⟨⟨k + 1, by omega, by go_num, ?_, hKm', hKb', hbel', by omega⟩, by simp [intOf]; omega⟩
      rw [HT.out, List.map_append]
      exact hown'
    · obtain rfl : k = C := by omega
      have hX : X.take k = X := by rw [List.take_of_length_le]; rw [HLEN.out]; omega
      rw [hX] at hown
      clear hX
      go_wp2_with fail
      go_returns
      exact ⟨_, rfl, own_base hown (by omega), hbr⟩
end Go.Proofs.YthgcfahacoonaaaGreat
