/- The reference's numbers of any length: differences, comparing, reading as 64 bits, powers of two. -/
import Derived.Test.YtjdboclibinjoaaBig2
set_option linter.unusedVariables false
namespace Go.Proofs.Ytjdboclibinjoaa
open Go.RowKit
theorem BigN.form {lo : Nat} {w : World} {v : Value} {z : Int} (h : BigN lo w v z) : ∃ s A n c, v = .agg #[.bool s, .slice A n c] ∧ s = decide (z < 0) := by
  obtain ⟨A, c, l, h1, _⟩ := h
  exact ⟨_, A, l.length, c, h1, rfl⟩
theorem BigN.shape {lo : Nat} {w : World} {v : Value} {z : Int} (h : BigN lo w v z) : ∃ s A n c, v = .agg #[.bool s, .slice A n c] := by
  obtain ⟨A, c, l, h1, _⟩ := h
  exact ⟨_, A, l.length, c, h1⟩
theorem BigN.any {lo : Nat} {w : World} {v : Value} {z : Int} (h : BigN lo w v z) : BigN 0 w v z := h.less (Nat.zero_le _)
theorem sm_add {x y : Int} (hx : (x.natAbs : Int) < Bp 39) (hy : (y.natAbs : Int) < Bp 39) : Sm (x + y) := by
  unfold Sm
  have e := Bp39s
  omega
set_option maxRecDepth 100000 in
set_option maxHeartbeats 400000 in
theorem sub_any (va vb : Value) (x y : Int) (w : World) {lo lo' : Nat} (ha : BigN lo w va x) (hb : BigN lo' w vb y) (hsa : Sm x) (hsb : Sm y) :
    Calls Try.prog 80 #[va, vb] w fun e w' => ∃ v, e = .returned v ∧ BigN w.heap.size w' v (x - y) ∧ Below w.heap.size w w' := by
  obtain ⟨s, A, n, c, rfl⟩ := ha.shape
  obtain ⟨s', A', n', c', rfl⟩ := hb.shape
  go_enter Try.func80, Try.ntmps80
  go_wp2_with fail
  generalize hW : ((w.alloc (Obj.cells #[Value.bool s, Value.slice A n c] 150)).alloc (Obj.cells #[Value.bool s', Value.slice A' n' c'] 150)).alloc (Obj.cells #[Value.bool false, Value.slice none 0 0] 150) = W
  have hb0 : Below w.heap.size w W := by subst hW; go_grown
  have ha1 : BigN lo W.drew _ x := (ha.nx hb0).drew
  have hb1 : BigN lo' W.drew _ y := (hb.nx hb0).drew
  have hK0 : Bk W w.heap.size 150 #[.bool s, .slice A n c] := by subst hW; exact ((Bk.new _ _ _).alloc _).alloc _
  have hK1 : Bk W (w.heap.size + 1) 150 #[.bool s', .slice A' n' c'] := by subst hW; simpa using (Bk.new (w.alloc _) 150 #[Value.bool s', Value.slice A' n' c']).alloc _
  have hK2 : Bk W (w.heap.size + 1 + 1) 150 #[.bool false, .slice none 0 0] := by subst hW; simpa using (Bk.new ((w.alloc _).alloc _) 150 #[.bool false, .slice none 0 0])
  obtain ⟨c00, c01⟩ := hK0.cell2
  obtain ⟨c10, c11⟩ := hK1.cell2
  have l0 := hK0.lt
  have l1 := hK1.lt
  have l2 := hK2.lt
  have HW := Lib.hid hW
  clear hW
  have hK0d := hK0.drew
  have hK1d := hK1.drew
  have hK2d := hK2.drew
  have hsn : Sm (-y) := by unfold Sm at *; omega
  go_region_held3 (fun w' => w'.cell? ⟨w.heap.size, 0, none⟩ = some (.bool s) ∧ w'.cell? ⟨w.heap.size, 1, none⟩ = some (.slice A n c) ∧ w'.cell? ⟨w.heap.size + 1, 0, none⟩ = some (.bool s') ∧ w'.cell? ⟨w.heap.size + 1, 1, none⟩ = some (.slice A' n' c'))
    (first | exact ⟨c00, c01, c10, c11⟩ | exact ⟨c00', c01', c10', c11'⟩ | exact ⟨c00'', c01'', c10'', c11''⟩ | (refine ⟨?_, ?_, ?_, ?_⟩ <;> go_simp))
    (first
    | (go_at_call 112; (with_reducible refine (neg_any _ y _ hb1 hsb).mono ?_); rintro e w1 ⟨v1, rfl, hN1, hb1'⟩; obtain ⟨s1, A1, n1, c1, rfl⟩ := hN1.shape; obtain ⟨c00', c01'⟩ := (hK0d.nx hb1').cell2; obtain ⟨c10', c11'⟩ := (hK1d.nx hb1').cell2; have hK2' := hK2d.nx hb1'; have ha2 := ha1.nx hb1')
    | (go_at_call 109; (with_reducible refine (add_any _ _ x (-y) _ ha2 hN1 hsa hsn).mono ?_); rintro e w2 ⟨v2, rfl, hN2, hb2⟩; obtain ⟨s2, A2, n2, c2, rfl⟩ := hN2.shape; have hK22 := hK2'.nx hb2; obtain ⟨c20, c21⟩ := hK22.cell2; have f20 := hK22.frozen 0; have f21 := hK22.frozen 1; obtain ⟨c00'', c01''⟩ := ((hK0d.nx hb1').nx hb2).cell2; obtain ⟨c10'', c11''⟩ := ((hK1d.nx hb1').nx hb2).cell2))
  go_wp2
  refine bodyPost_ret (res_big rfl (hK22.set2 _ _) rfl) rfl ?_
  have hz1 := hb1'.size
  have hz2 := hb2.size
  simp only [World.size_drew] at hz1
  have hbW : Below w.heap.size w w2 := ((hb0.drew).trans (hb1'.mono (by simp; omega))).trans (hb2.mono (by omega))
  refine ⟨_, rfl, ?_, below_of_gb hbW (gb2 w2 _ _ _) (by omega) (by omega)⟩
  rw [show x - y = x + -y by omega]
  exact (hN2.grown (gb2 w2 _ _ _) (.inl (by omega))).less (by omega)
set_option maxRecDepth 100000 in
set_option maxHeartbeats 1000000 in
theorem cmp_any (va vb : Value) (x y : Int) (w : World) {lo lo' : Nat} (ha : BigN lo w va x) (hb : BigN lo' w vb y) (hsa : Sm x) (hsb : Sm y) :
    Calls Try.prog 77 #[va, vb] w fun e w' => e = .returned (.int .i64 (cmpI x y)) ∧ Below w.heap.size w w' := by
  obtain ⟨s, A, n, c, rfl⟩ := ha.shape
  obtain ⟨s', A', n', c', rfl⟩ := hb.shape
  go_enter Try.func77, Try.ntmps77
  go_wp2_with fail
  have hb0 : Below w.heap.size w ((w.alloc (Obj.cells #[Value.bool s, Value.slice A n c] 150)).alloc (Obj.cells #[Value.bool s', Value.slice A' n' c'] 150)) := by go_grown
  refine (sub_any _ _ x y _ (ha.nx hb0) (hb.nx hb0) hsa hsb).mono ?_
  rintro e w1 ⟨v1, rfl, ⟨A1, c1, l1, rfl, h2, h3, h4, h5, h6, h7⟩, hb1⟩
  have hbe := hb0.trans (hb1.mono (by simp; omega))
  have hz := norm_zero h6
  rw [h7] at hz
  have H7 := Lib.hid h7
  have HZ := Lib.hid hz
  clear h7 hz
  rcases Int.lt_trichotomy x y with hlt | hlt | hlt
  · have hne : 0 < l1.length := by
      rcases Nat.eq_zero_or_pos l1.length with e | e
      · have := HZ.out.1 (List.eq_nil_of_length_eq_zero e); omega
      · exact e
    have hnb : ((l1.length : Int) == 0) = false := by simp; exact List.length_pos_iff.1 hne
    generalize l1.length = n1 at *
    have hd : decide (x - y < 0) = true := by simp; omega
    rw [hd]
    clear hd h5 h6 H7 HZ
    go_wp2
    go_returns
    exact ⟨ret_int (by unfold cmpI; rw [if_pos hlt]), hbe.alloc (by have := hb1.size; simp at this; omega) _⟩
  · have hne : l1.length = 0 := by rw [HZ.out.2 (by omega)]; rfl
    obtain rfl : l1 = [] := List.eq_nil_of_length_eq_zero hne
    clear hne
    go_wp2
    go_returns
    exact ⟨ret_int (by unfold cmpI; rw [if_neg (by omega), if_neg (by omega)]), hbe.alloc (by have := hb1.size; simp at this; omega) _⟩
  · have hne : 0 < l1.length := by
      rcases Nat.eq_zero_or_pos l1.length with e | e
      · have := HZ.out.1 (List.eq_nil_of_length_eq_zero e); omega
      · exact e
    have hnb : ((l1.length : Int) == 0) = false := by simp; exact List.length_pos_iff.1 hne
    generalize l1.length = n1 at *
    have hd : decide (x - y < 0) = false := by simp; omega
    rw [hd]
    clear hd h5 h6 H7 HZ
    go_wp2
    go_returns
    exact ⟨ret_int (by unfold cmpI; rw [if_neg (by omega), if_pos hlt]), hbe.alloc (by have := hb1.size; simp at this; omega) _⟩
theorem vd_drop_le {l : List Int} (h : okd l) (k : Nat) : vd (l.drop k) ≤ vd l := by
  by_cases hk : k ≤ l.length
  · have h1 := vd_split l k hk
    have h2 := vd_nonneg (okd_take h k)
    have h3 := vd_nonneg (okd_drop h k)
    have h4 := Bp_pos k
    have := Int.mul_le_mul_of_nonneg_right h4 h3
    omega
  · rw [List.drop_eq_nil_of_le (by omega)]; exact vd_nonneg h
set_option maxHeartbeats 1000000 in
theorem unsigned_any (va : Value) (x : Int) (w : World) {lo : Nat} (ha : BigN lo w va x) (hx : (x.natAbs : Int) ≤ 18446744073709551615) :
    Calls Try.prog 111 #[va] w fun e w' => e = .returned (.int .u64 x.natAbs) ∧ Below w.heap.size w w' := by
  obtain ⟨A, c, l, rfl, h2, h3, h4, h5, h6, h7⟩ := ha
  have hl := sm_len (show Sm x by unfold Sm; rw [Bp40]; omega) h6 h7
  have ok := h6.1
  have hr := h5.rd
  have H7 := Lib.hid h7
  have hv : vd l ≤ 18446744073709551615 := by omega
  clear h7
  generalize decide (x < 0) = sx
  go_enter Try.func111, Try.ntmps111
  go_wp2
  go_loop [3, 4] (fun y i => ∃ k : Nat, k ≤ l.length ∧ i = .int .i64 ((k : Int) - 1) ∧ y = .int .u64 (vd (l.drop k))) (fun _ i => (intOf i + 1).toNat)
  case atStart => exact ⟨l.length, Nat.le_refl _, rfl, by simp [vd]⟩
  case round =>
    obtain ⟨k, hk, rfl, rfl⟩ := hrel
    rcases Nat.eq_zero_or_pos k with h0 | h0
    · subst h0
      go_wp2
      go_returns
      exact ⟨ret_int (by have := H7.out; simpa using this), by go_grown⟩
    · obtain ⟨j, rfl⟩ : ∃ j, k = j + 1 := ⟨k - 1, by omega⟩
      have e1 : ((j + 1 : Nat) : Int) - 1 = j := by omega
      have hE1 := Lib.hid e1
      simp only [e1]
      clear e1
      obtain ⟨b, o, rfl, hb, hc⟩ := RdI.get hr j (by omega)
      have hd := ok l[j] (List.getElem_mem _)
      have hs := vd_drop l j
      have e2 : dgt l j = l[j] := by simp [dgt, List.getElem?_eq_getElem (show j < l.length by omega)]
      rw [e2] at hs
      have hle := vd_drop_le ok j
      have hnn := vd_nonneg (okd_drop ok (j + 1))
      have HS := Lib.hid hs
      have hle2 : l[j] + 32768 * vd (l.drop (j + 1)) ≤ 18446744073709551615 := by omega
      clear hs hle e2
      generalize l[j] = z at *
      generalize vd (l.drop (j + 1)) = y at *
      go_wp2
      exact ⟨⟨j, by omega, rfl, by rw [HS.out]; exact val_int (by omega)⟩, by simp [intOf]⟩
set_option maxHeartbeats 1000000 in
theorem small_any (va : Value) (x : Int) (w : World) {lo : Nat} (ha : BigN lo w va x) (h0 : -9223372036854775808 ≤ x) (h1 : x ≤ 9223372036854775807) :
    Calls Try.prog 79 #[va] w fun e w' => e = .returned (.int .i64 x) ∧ Below w.heap.size w w' := by
  obtain ⟨s, A, n, c, rfl, hs⟩ := ha.form
  by_cases hx : x < 0
  · have hs' : s = true := by rw [hs]; simpa using hx
    subst hs'
    clear hs
    go_enter Try.func79, Try.ntmps79
    go_wp2_with (go_at_call 111; (with_reducible refine (unsigned_any _ x _ (ha.alloc _) (by omega)).mono ?_); rintro e w1 ⟨rfl, hb⟩; have hcb := bcell hb)
    go_returns
    exact ⟨ret_int (by unfold wrap64; omega), ((Below.refl _ w).alloc (Nat.le_refl _) _).trans (hb.mono (by simp))⟩
  · have hs' : s = false := by rw [hs]; simpa using hx
    subst hs'
    clear hs
    go_enter Try.func79, Try.ntmps79
    go_wp2_with (go_at_call 111; (with_reducible refine (unsigned_any _ x _ (ha.alloc _) (by omega)).mono ?_); rintro e w1 ⟨rfl, hb⟩; have hcb := bcell hb)
    go_returns
    exact ⟨ret_int (by omega), ((Below.refl _ w).alloc (Nat.le_refl _) _).trans (hb.mono (by simp))⟩
end Go.Proofs.Ytjdboclibinjoaa
