/- Several texts in one: The reference's numbers of any length as whole numbers: making, signs, sums, differences, comparing, reading. The reference's numbers of any length: differences, comparing, reading as 64 bits, powers of two. -/
import Derived.Test.YtgohbkkeppknoaaGreatDoorCmdParsesZz3
import Derived.Deep.RegionWith
import Derived.Deep.RegionHeld3
section
set_option linter.unusedVariables false
namespace Go.Proofs.YtgohbkkeppknoaaGreatDoor
open Go.RowKit
/-- v is the number z: its sign, and the digits of its size, as they lie in w, in a block from lo on. -/
def BigN (lo : Nat) (w : World) (v : Value) (z : Int) : Prop :=
  ∃ A c l, v = .agg #[.bool (decide (z < 0)), .slice A l.length c] ∧ l.length ≤ c ∧ c ≤ maxLen ∧ (A = none → c = 0) ∧ RdL w lo A (l.map (Value.int .i64)) ∧ Norm l ∧ vd l = (z.natAbs : Int)
theorem BigN.less {lo lo' : Nat} {w : World} {v : Value} {z : Int} (h : BigN lo w v z) (hl : lo' ≤ lo) : BigN lo' w v z := by
  obtain ⟨A, c, l, h1, h2, h3, h4, h5, h6, h7⟩ := h
  exact ⟨A, c, l, h1, h2, h3, h4, h5.less hl, h6, h7⟩
theorem BigN.keep {lo : Nat} {w w' : World} {B : Nat} {v : Value} {z : Int} (h : BigN lo w v z) (hb : Below B w w') (hB : w.heap.size ≤ B) : BigN lo w' v z := by
  obtain ⟨A, c, l, h1, h2, h3, h4, h5, h6, h7⟩ := h
  exact ⟨A, c, l, h1, h2, h3, h4, h5.below hb hB, h6, h7⟩
theorem BigN.nx {lo : Nat} {w w' : World} {v : Value} {z : Int} (h : BigN lo w v z) (hb : Below w.heap.size w w') : BigN lo w' v z := h.keep hb (Nat.le_refl _)
theorem BigN.alloc {lo : Nat} {w : World} {v : Value} {z : Int} (h : BigN lo w v z) (o : Obj) : BigN lo (w.alloc o) v z :=
  h.keep ((Below.refl w.heap.size w).alloc (Nat.le_refl _) o) (Nat.le_refl _)
theorem BigN.drew {lo : Nat} {w : World} {v : Value} {z : Int} (h : BigN lo w v z) : BigN lo w.drew v z := h.keep (Below.refl w.heap.size w).drew (Nat.le_refl _)
theorem BigN.grown {lo : Nat} {w w' : World} {v : Value} {z : Int} {g : Nat} (h : BigN lo w v z) (hg : w.grownBy w' (some g)) (hr : g < lo ∨ w.heap.size ≤ g) : BigN lo w' v z := by
  obtain ⟨A, c, l, h1, h2, h3, h4, h5, h6, h7⟩ := h
  exact ⟨A, c, l, h1, h2, h3, h4, h5.grown hg (fun g' e => by injection e with e; omega), h6, h7⟩
/-- Small enough: fewer than 600 bits. -/
def Sm (z : Int) : Prop := (z.natAbs : Int) < Bp 40
theorem sm_len {z : Int} {l : List Int} (h : Sm z) (hn : Norm l) (hv : vd l = (z.natAbs : Int)) : l.length ≤ 40 := norm_len hn (by rw [hv]; exact h)
theorem sm_of {z : Int} (h : -1606938044258990275541962092341162602522202993782792835301376 ≤ z) (h' : z ≤ 1606938044258990275541962092341162602522202993782792835301376) : Sm z := by
  unfold Sm; rw [Bp40]; omega
set_option maxHeartbeats 1000000 in
theorem uns_any (x : Int) (w : World) (h0 : 0 ≤ x) (h1 : x ≤ 18446744073709551615) :
    Calls Tryz.prog 211 #[.int .u64 x] w fun e w' => ∃ v, e = .returned v ∧ BigN w.heap.size w' v x ∧ Below w.heap.size w w' := by
  have hB5 := Bp5
  go_enter Tryz.func211, Tryz.ntmps211
  go_wp2
  go_loopw [0, 3] (fun y v wr => ∃ (yy : Int) (l : List Int), y = .int .u64 yy ∧ 0 ≤ yy ∧ yy ≤ 18446744073709551615 ∧ okd l ∧ vd l + Bp l.length * yy = x ∧ (yy = 0 → Norm l) ∧ wr.ownsRow (w.heap.size + 1) 3 1 v l.length (l.map (Value.int .i64)) ∧ Below (w.heap.size + 1) (w.alloc (.cells #[.bool false, .slice none 0 0] 200)) wr) (fun y _ _ => (intOf y).toNat)
  case atStart => exact ⟨x, [], rfl, h0, h1, okd_nil, by simp [vd, Bp], fun _ => norm_nil, World.ownsRow_nil _ _ _ _, Below.refl _ _⟩
  case round =>
    obtain ⟨yy, l, rfl, hy0, hy1, hok, hv, hnm, hown, hbel⟩ := hrel
    have hsz := hbel.size
    simp only [World.size_alloc] at hsz
    by_cases hlt : 0 < yy
    · have hl5 : l.length < 5 := by
        have hp := Bp_pos l.length
        have := Int.mul_le_mul_of_nonneg_left (show 1 ≤ yy by omega) (by omega : 0 ≤ Bp l.length)
        have hv0 := vd_nonneg hok
        rcases Nat.lt_or_ge l.length 5 with h | h
        · exact h
        · have := Bp_mono h; omega
      have HV : Hid (vd (l ++ [yy % 32768]) + Bp (l ++ [yy % 32768]).length * (yy / 32768) = x) := by
        show _ = _
        rw [vd_snoc, List.length_append, List.length_singleton, Bp1s, Int.mul_assoc, ← hv]
        have : Bp l.length * (yy % 32768) + 32768 * (Bp l.length * (yy / 32768)) = Bp l.length * yy := by
          rw [show 32768 * (Bp l.length * (yy / 32768)) = Bp l.length * (32768 * (yy / 32768)) by rw [← Int.mul_assoc, ← Int.mul_assoc, Int.mul_comm 32768]]
          rw [← Int.mul_add, Int.emod_add_mul_ediv]
        omega
      have HN : Hid (yy / 32768 = 0 → Norm (l ++ [yy % 32768])) := by
        intro h
        refine ⟨okd_append.2 ⟨hok, fun d hd => by simp at hd; subst hd; omega⟩, fun d hd => ?_⟩
        simp at hd; subst hd; omega
      have HO : Hid (okd (l ++ [yy % 32768])) := okd_append.2 ⟨hok, fun d hd => by simp at hd; subst hd; omega⟩
      clear hv hnm hok
      go_wp2_with (at_builtin; refine app1 rfl _ _ _ rfl Tryz.underlying80 big_int_info rfl (by omega) rfl rfl hown hbel (Nat.le_refl _) hsz rfl ints1 (by omega) (by omega) ?_; intro v' w' hown' hbel' _ _ _; clear hown hbel)
      exact ⟨⟨yy / 32768, l ++ [yy % 32768], rfl, by omega, by omega, HO.out, HV.out, HN.out, by simpa using hown', hbel'⟩, by simp [intOf]; omega⟩
    · have hy : yy = 0 := by omega
      have hN := hnm hy
      subst hy
      have hvd : vd l = x := by simpa using hv
      clear hnm hv
      have HV := Lib.hid hvd
      clear hvd
      obtain ⟨A3, c3, rfl, h31, h32, hA3, h33, h34⟩ := own_form2 hown
      have hK : Bk wr w.heap.size 200 #[.bool false, .slice none 0 0] := (Bk.new w _ _).below hbel (by omega)
      go_wp2_with (refine stBig rfl _ _ rfl hK rfl rfl rfl ?_; intro w6 hK6 hg6 hs6)
      refine bodyPost_ret (res_big rfl hK6 rfl) rfl ?_
      have h6 := (RdL.of_own hown).grown hg6 (fun g e => .inl (by injection e; omega))
      have hbz : Below w.heap.size w wr := ((Below.refl _ w).alloc (Nat.le_refl _) _).trans (hbel.mono (by omega))
      have hneg : decide (x < 0) = false := by simp; omega
      exact ⟨_, rfl, ⟨A3, c3, l, by rw [hneg], h31, h32, hA3, h6.less (by omega), hN, by rw [HV.out]; omega⟩, below_grown hbz hg6 (Nat.le_refl _) (by omega)⟩
set_option maxHeartbeats 1000000 in
theorem of_any (x : Int) (w : World) (h0 : -9223372036854775808 ≤ x) (h1 : x ≤ 9223372036854775807) :
    Calls Tryz.prog 151 #[.int .i64 x] w fun e w' => ∃ v, e = .returned v ∧ BigN w.heap.size w' v x ∧ Below w.heap.size w w' := by
  by_cases hx : x < 0
  · go_enter Tryz.func151, Tryz.ntmps151
    go_wp2_with fail
    have e : IntKind.u64.wrap (-(x + 1)) = -(x + 1) := by rw [IntKind.wrap_u64]; omega
    rw [show -(x + 1) + 1 = -x by omega]
    refine (uns_any (-x) _ (by omega) (by omega)).mono ?_
    rintro e w1 ⟨v, rfl, ⟨A, c, l, rfl, h2, h3, h4, h5, h6, h7⟩, hb⟩
    have hK := (Bk.new w 200 #[.bool false, .slice none 0 0]).nx hb
    have hz := hb.size
    simp only [World.size_alloc] at hz
    have hneg : decide (-x < 0) = false := by simp; omega
    rw [hneg]
    clear hneg
    go_wp2_with (refine stBig rfl _ _ rfl (hK.alloc _) rfl rfl rfl ?_; intro w6 hK6 hg6 hs6)
    refine bodyPost_ret (res_big rfl hK6 rfl) rfl ?_
    have hbz : Below w.heap.size w w1 := ((Below.refl _ w).alloc (Nat.le_refl _) _).trans (hb.mono (by simp))
    have hneg : decide (x < 0) = true := by simp; omega
    refine ⟨_, rfl, ⟨A, c, l, by rw [hneg], h2, h3, h4, ?_, h6, by omega⟩, below_grown (hbz.alloc (by omega) _) hg6 (Nat.le_refl _) (by simp; omega)⟩
    exact ((h5.below ((Below.refl w1.heap.size w1).alloc (Nat.le_refl _) _) (Nat.le_refl _)).grown hg6 (fun g e => .inl (by injection e with e; simp; omega))).less (by simp)
  · go_enter Tryz.func151, Tryz.ntmps151
    have hneg : decide (x < 0) = false := by simp; omega
    go_wp2_with fail
    refine (uns_any x _ (by omega) (by omega)).mono ?_
    rintro e w1 ⟨v, rfl, ⟨A, c, l, rfl, h2, h3, h4, h5, h6, h7⟩, hb⟩
    have hK := (Bk.new w 200 #[.bool false, .slice none 0 0]).nx hb
    have hz := hb.size
    simp only [World.size_alloc] at hz
    go_wp2_with (refine stBig rfl _ _ rfl hK rfl rfl rfl ?_; intro w6 hK6 hg6 hs6)
    refine bodyPost_ret (res_big rfl hK6 rfl) rfl ?_
    have hbz : Below w.heap.size w w1 := ((Below.refl _ w).alloc (Nat.le_refl _) _).trans (hb.mono (by simp))
    have hng0 : decide (x < 0) = false := by simp; omega
    refine ⟨_, rfl, ⟨A, c, l, by rw [hng0], h2, h3, h4, ?_, h6, h7⟩, below_grown hbz hg6 (Nat.le_refl _) (by omega)⟩
    exact (h5.grown hg6 (fun g e => .inl (by injection e with e; simp; omega))).less (by simp)
theorem abs_of (l : List Int) (z : Int) (hv : vd l = (z.natAbs : Int)) : z = if z < 0 then - vd l else vd l := by split <;> omega
set_option maxHeartbeats 1000000 in
theorem neg_any (va : Value) (x : Int) (w : World) {lo : Nat} (ha : BigN lo w va x) (hs : Sm x) :
    Calls Tryz.prog 197 #[va] w fun e w' => ∃ v, e = .returned v ∧ BigN lo w' v (-x) ∧ Below w.heap.size w w' := by
  obtain ⟨A, c, l, rfl, h2, h3, h4, h5, h6, h7⟩ := ha
  generalize hsx : decide (x < 0) = sx
  have HSX := Lib.hid hsx
  clear hsx
  go_enter Tryz.func197, Tryz.ntmps197
  go_wp2_with fail
  refine (made_big (!sx) A l.length c _).mono ?_
  rintro e w1 ⟨rfl, hb⟩
  have hz := hb.size
  simp only [World.size_alloc] at hz
  have hK := (Bk.new (w.alloc (.cells #[.bool sx, .slice A l.length c] 200)) 200 #[.bool false, .slice none 0 0]).nx hb
  simp only [World.size_alloc] at hK
  go_wp2_with (refine stBig rfl _ _ rfl hK rfl rfl rfl ?_; intro w6 hK6 hg6 hs6)
  refine bodyPost_ret (res_big rfl hK6 rfl) rfl ?_
  have hbz : Below w.heap.size w w1 := (((Below.refl _ w).alloc (Nat.le_refl _) _).alloc (by simp) _).trans (hb.mono (by simp; omega))
  have hneg : (!sx && decide (0 < l.length)) = decide (-x < 0) := by
    rw [← HSX.out]
    have := norm_zero h6
    rw [h7] at this
    by_cases hl : l = []
    · have := this.1 hl; subst hl; simp; omega
    · have hn : ¬ (x.natAbs : Int) = 0 := fun e => hl (this.2 e)
      have hp := List.length_pos_iff.2 hl
      rw [Bool.eq_iff_iff]; simp [hp]; omega
  have hb6 := below_grown hbz hg6 (by simp) (by omega)
  exact ⟨_, rfl, ⟨A, c, l, by rw [← hneg], h2, h3, h4, h5.below hb6 (Nat.le_refl _), h6, by rw [h7]; omega⟩, hb6⟩
set_option maxRecDepth 100000 in
set_option maxHeartbeats 2000000 in
theorem add_any (va vb : Value) (x y : Int) (w : World) {lo lo' : Nat} (ha : BigN lo w va x) (hb : BigN lo' w vb y) (hsa : Sm x) (hsb : Sm y) :
    Calls Tryz.prog 195 #[va, vb] w fun e w' => ∃ v, e = .returned v ∧ BigN w.heap.size w' v (x + y) ∧ Below w.heap.size w w' := by
  obtain ⟨A, c, l, rfl, h2, h3, h4, h5, h6, h7⟩ := ha
  obtain ⟨A', c', l', rfl, h2', h3', h4', h5', h6', h7'⟩ := hb
  have hl := sm_len hsa h6 h7
  have ok1 := h6.1
  have ok2 := h6'.1
  have H7 := Lib.hid h7
  have H7' := Lib.hid h7'
  clear h7 h7'
  have hs1 := h5.rd
  have hs2 := h5'.rd
  have hl' := sm_len hsb h6' H7'.out
  by_cases hsg : decide (x < 0) = decide (y < 0)
  · have hsb2 : (decide (x < 0) == decide (y < 0)) = true := by simpa using hsg
    have HSG := Lib.hid hsg
    clear hsg
    generalize hgx : decide (x < 0) = sx at *
    generalize hgy : decide (y < 0) = sy at *
    have HGX := Lib.hid hgx
    have HGY := Lib.hid hgy
    clear hgx hgy
    go_enter Tryz.func195, Tryz.ntmps195
    go_wp2_with (go_at_call 273; refine (less_any l l' A A' _ _ _ _ _ rfl rfl (by omega) (by omega) ok1 ok2 (B := w.heap.size) (B' := w.heap.size) (by exact (((hs1.alloc (Nat.le_refl _) _).alloc (by simp) _).alloc (by simp; omega) _)) (by exact (((hs2.alloc (Nat.le_refl _) _).alloc (by simp) _).alloc (by simp; omega) _))).mono ?_; rintro e w1 ⟨rfl, rfl⟩)
    generalize hW : ((w.alloc (Obj.cells #[Value.bool sx, Value.slice A l.length c] 200)).alloc (Obj.cells #[Value.bool sy, Value.slice A' l'.length c'] 200)).alloc (Obj.cells #[Value.bool false, Value.slice none 0 0] 200) = W
    have hb0 : Below w.heap.size w W := by subst hW; go_grown
    have hr1 : RdI W.drew W.drew.heap.size A l := (h5.below hb0 (Nat.le_refl _)).rd
    have hr2 : RdI W.drew W.drew.heap.size A' l' := (h5'.below hb0 (Nat.le_refl _)).rd
    have hK0 : Bk W w.heap.size 200 #[.bool sx, .slice A l.length c] := by subst hW; exact ((Bk.new _ _ _).alloc _).alloc _
    have hK1 : Bk W (w.heap.size + 1) 200 #[.bool sy, .slice A' l'.length c'] := by subst hW; simpa using (Bk.new (w.alloc _) 200 #[Value.bool sy, Value.slice A' l'.length c']).alloc _
    have hK2 : Bk W (w.heap.size + 1 + 1) 200 #[.bool false, .slice none 0 0] := by subst hW; simpa using (Bk.new ((w.alloc _).alloc _) 200 #[.bool false, .slice none 0 0])
    obtain ⟨c00, c01⟩ := hK0.cell2
    obtain ⟨c10, c11⟩ := hK1.cell2
    have l0 := hK0.lt
    have l1 := hK1.lt
    have l2 := hK2.lt
    have HW := Lib.hid hW
    clear hW
    have hK0d := hK0.drew
    have hK1d := hK1.drew
    have hK2d := hK2.drew
    go_region_held3 (fun w' => w'.cell? ⟨w.heap.size, 0, none⟩ = some (.bool sx) ∧ w'.cell? ⟨w.heap.size, 1, none⟩ = some (.slice A l.length c) ∧ w'.cell? ⟨w.heap.size + 1, 1, none⟩ = some (.slice A' l'.length c'))
      (first | exact ⟨c00, c01, c11⟩ | exact ⟨c00', c01', c11'⟩ | exact ⟨c00'', c01'', c11''⟩ | (refine ⟨?_, ?_, ?_⟩ <;> go_simp))
      (first
      | (go_at_call 272; (with_reducible refine (sum_any l l' A A' _ _ _ _ _ rfl rfl (by omega) (by omega) ok1 ok2 hr1 hr2).mono ?_); rintro e w1 ⟨v1, rfl, ⟨A1, c1, m1, rfl, g2, g3, g4, g5, g6, g7⟩, hb1⟩; obtain ⟨c00', c01'⟩ := (hK0d.nx hb1).cell2; obtain ⟨c10', c11'⟩ := (hK1d.nx hb1).cell2; have hK2' := hK2d.nx hb1)
      | (go_at_call 271; refine (made_big _ A1 _ c1 _).mono ?_; rintro e w2 ⟨rfl, hb2⟩; have hK22 := hK2'.nx hb2; obtain ⟨c20, c21⟩ := hK22.cell2; have f20 := hK22.frozen 0; have f21 := hK22.frozen 1; obtain ⟨c00'', c01''⟩ := ((hK0d.nx hb1).nx hb2).cell2; obtain ⟨c10'', c11''⟩ := ((hK1d.nx hb1).nx hb2).cell2))
    go_wp2
    refine bodyPost_ret (res_big rfl (hK22.set2 _ _) rfl) rfl ?_
    have hz1 := hb1.size
    have hz2 := hb2.size
    simp only [World.size_drew] at hz1
    have hsgn : (sx && decide (0 < m1.length)) = decide (x + y < 0) := by
      have hn := norm_zero g6
      rw [g7, H7.out, H7'.out] at hn
      have e1 := HGX.out
      have e2 := HGY.out
      rw [HSG.out] at e1
      rw [← e2] at e1
      by_cases hx : x < 0
      · have hy : y < 0 := by simpa [hx] using e1
        have : m1 ≠ [] := fun e => by have := hn.1 e; omega
        rw [HSG.out, ← e2]
        simp [hy, List.length_pos_iff.2 this]; omega
      · have hy : ¬ y < 0 := by simpa [hx] using e1
        rw [HSG.out, ← e2]
        simp [hy]; omega
    have hbW : Below w.heap.size w w2 := ((hb0.drew).trans (hb1.mono (by simp; omega))).trans (hb2.mono (by omega))
    refine ⟨_, rfl, ⟨A1, c1, m1, by rw [← hsgn], g2, g3, g4, ?_, g6, ?_⟩, below_of_gb hbW (gb2 w2 _ _ _) (by omega) (by omega)⟩
    · exact ((g5.below hb2 (Nat.le_refl _)).grown (gb2 w2 _ _ _) (fun g e => .inl (by injection e with e; simp; omega))).less (by simp; omega)
    · rw [g7, H7.out, H7'.out]
      have e1 := HGX.out
      have e2 := HGY.out
      rw [HSG.out, ← e2] at e1
      by_cases hx : x < 0
      · have hy : y < 0 := by simpa [hx] using e1
        omega
      · have hy : ¬ y < 0 := by simpa [hx] using e1
        omega
  · have hsb2 : (decide (x < 0) == decide (y < 0)) = false := by simpa using hsg
    have hxy : (x < 0 ∧ 0 ≤ y) ∨ (0 ≤ x ∧ y < 0) := by
      by_cases h1 : x < 0 <;> by_cases h2 : y < 0 <;> simp_all <;> omega
    clear hsg
    rcases (show vd l' ≤ vd l ∨ vd l < vd l' by omega) with hge | hgt
    · have hcm : 0 ≤ cmpI (vd l) (vd l') := by unfold cmpI; rw [if_neg (by omega)]; split <;> omega
      have hlen : l'.length ≤ l.length := norm_len h6' (by have := vd_lt ok1; omega)
      generalize hgx : decide (x < 0) = sx at *
      generalize hgy : decide (y < 0) = sy at *
      have HGX := Lib.hid hgx
      have HGY := Lib.hid hgy
      clear hgx hgy
      go_enter Tryz.func195, Tryz.ntmps195
      go_wp2_with fail
      refine (less_any l l' A A' _ _ _ _ _ rfl rfl (by omega) (by omega) ok1 ok2 (B := w.heap.size) (B' := w.heap.size) ?_ ?_).mono ?_
      · exact (((hs1.alloc (Nat.le_refl _) _).alloc (by simp) _).alloc (by simp; omega) _)
      · exact (((hs2.alloc (Nat.le_refl _) _).alloc (by simp) _).alloc (by simp; omega) _)
      rintro e w1 ⟨rfl, rfl⟩
      clear hsb2
      go_wp2_with fail
      generalize hW : ((w.alloc (Obj.cells #[Value.bool sx, Value.slice A l.length c] 200)).alloc (Obj.cells #[Value.bool sy, Value.slice A' l'.length c'] 200)).alloc (Obj.cells #[Value.bool false, Value.slice none 0 0] 200) = W
      have hb0 : Below w.heap.size w W := by subst hW; go_grown
      have hr1 : RdI W.drew W.drew.heap.size A l := (h5.below hb0 (Nat.le_refl _)).rd
      have hr2 : RdI W.drew W.drew.heap.size A' l' := (h5'.below hb0 (Nat.le_refl _)).rd
      have hK0 : Bk W w.heap.size 200 #[.bool sx, .slice A l.length c] := by subst hW; exact ((Bk.new _ _ _).alloc _).alloc _
      have hK1 : Bk W (w.heap.size + 1) 200 #[.bool sy, .slice A' l'.length c'] := by subst hW; simpa using (Bk.new (w.alloc _) 200 #[Value.bool sy, Value.slice A' l'.length c']).alloc _
      have hK2 : Bk W (w.heap.size + 1 + 1) 200 #[.bool false, .slice none 0 0] := by subst hW; simpa using (Bk.new ((w.alloc _).alloc _) 200 #[.bool false, .slice none 0 0])
      obtain ⟨c00, c01⟩ := hK0.cell2
      obtain ⟨c10, c11⟩ := hK1.cell2
      have l0 := hK0.lt
      have l1 := hK1.lt
      have l2 := hK2.lt
      have HW := Lib.hid hW
      clear hW
      have hK0d := hK0.drew
      have hK1d := hK1.drew
      have hK2d := hK2.drew
      go_region_held3 (fun w' => w'.cell? ⟨w.heap.size, 0, none⟩ = some (.bool sx) ∧ w'.cell? ⟨w.heap.size, 1, none⟩ = some (.slice A l.length c) ∧ w'.cell? ⟨w.heap.size + 1, 1, none⟩ = some (.slice A' l'.length c'))
        (first | exact ⟨c00, c01, c11⟩ | exact ⟨c00', c01', c11'⟩ | exact ⟨c00'', c01'', c11''⟩ | (refine ⟨?_, ?_, ?_⟩ <;> go_simp))
        (first
        | (go_at_call 274; (with_reducible refine (rest_any l l' A A' _ _ _ _ _ rfl rfl (by omega) hlen ok1 ok2 hge hr1 hr2).mono ?_); rintro e w1 ⟨v1, rfl, ⟨A1, c1, m1, rfl, g2, g3, g4, g5, g6, g7⟩, hb1⟩; obtain ⟨c00', c01'⟩ := (hK0d.nx hb1).cell2; obtain ⟨c10', c11'⟩ := (hK1d.nx hb1).cell2; have hK2' := hK2d.nx hb1)
        | (go_at_call 271; refine (made_big _ A1 _ c1 _).mono ?_; rintro e w2 ⟨rfl, hb2⟩; have hK22 := hK2'.nx hb2; obtain ⟨c20, c21⟩ := hK22.cell2; have f20 := hK22.frozen 0; have f21 := hK22.frozen 1; obtain ⟨c00'', c01''⟩ := ((hK0d.nx hb1).nx hb2).cell2; obtain ⟨c10'', c11''⟩ := ((hK1d.nx hb1).nx hb2).cell2))
      go_wp2
      refine bodyPost_ret (res_big rfl (hK22.set2 _ _) rfl) rfl ?_
      have hz1 := hb1.size
      have hz2 := hb2.size
      simp only [World.size_drew] at hz1
      have hn := norm_zero g6
      rw [g7, H7.out, H7'.out] at hn
      rw [H7.out, H7'.out] at hge
      have hsgn : (sx && decide (0 < m1.length)) = decide (x + y < 0) := by
        rw [← HGX.out]
        by_cases hm : m1 = []
        · have := hn.1 hm
          subst hm
          simp
          omega
        · have h1 := List.length_pos_iff.2 hm
          have h2 : ¬ _ := fun e => hm (hn.2 e)
          simp [h1]; omega
      have hbW : Below w.heap.size w w2 := ((hb0.drew).trans (hb1.mono (by simp; omega))).trans (hb2.mono (by omega))
      refine ⟨_, rfl, ⟨A1, c1, m1, by rw [← hsgn], g2, g3, g4, ?_, g6, ?_⟩, below_of_gb hbW (gb2 w2 _ _ _) (by omega) (by omega)⟩
      · exact ((g5.below hb2 (Nat.le_refl _)).grown (gb2 w2 _ _ _) (fun g e => .inl (by injection e with e; simp; omega))).less (by simp; omega)
      · rw [g7, H7.out, H7'.out]; omega
    · have hcm : cmpI (vd l) (vd l') = -1 := by unfold cmpI; rw [if_pos (by omega)]
      have hge : vd l ≤ vd l' := by omega
      have hlen : l.length ≤ l'.length := norm_len h6 (by have := vd_lt ok2; omega)
      generalize hgx : decide (x < 0) = sx at *
      generalize hgy : decide (y < 0) = sy at *
      have HGX := Lib.hid hgx
      have HGY := Lib.hid hgy
      clear hgx hgy
      go_enter Tryz.func195, Tryz.ntmps195
      go_wp2_with fail
      refine (less_any l l' A A' _ _ _ _ _ rfl rfl (by omega) (by omega) ok1 ok2 (B := w.heap.size) (B' := w.heap.size) ?_ ?_).mono ?_
      · exact (((hs1.alloc (Nat.le_refl _) _).alloc (by simp) _).alloc (by simp; omega) _)
      · exact (((hs2.alloc (Nat.le_refl _) _).alloc (by simp) _).alloc (by simp; omega) _)
      rintro e w1 ⟨rfl, rfl⟩
      clear hsb2
      go_wp2_with fail
      generalize hW : ((w.alloc (Obj.cells #[Value.bool sx, Value.slice A l.length c] 200)).alloc (Obj.cells #[Value.bool sy, Value.slice A' l'.length c'] 200)).alloc (Obj.cells #[Value.bool false, Value.slice none 0 0] 200) = W
      have hb0 : Below w.heap.size w W := by subst hW; go_grown
      have hr1 : RdI W.drew W.drew.heap.size A l := (h5.below hb0 (Nat.le_refl _)).rd
      have hr2 : RdI W.drew W.drew.heap.size A' l' := (h5'.below hb0 (Nat.le_refl _)).rd
      have hK0 : Bk W w.heap.size 200 #[.bool sx, .slice A l.length c] := by subst hW; exact ((Bk.new _ _ _).alloc _).alloc _
      have hK1 : Bk W (w.heap.size + 1) 200 #[.bool sy, .slice A' l'.length c'] := by subst hW; simpa using (Bk.new (w.alloc _) 200 #[Value.bool sy, Value.slice A' l'.length c']).alloc _
      have hK2 : Bk W (w.heap.size + 1 + 1) 200 #[.bool false, .slice none 0 0] := by subst hW; simpa using (Bk.new ((w.alloc _).alloc _) 200 #[.bool false, .slice none 0 0])
      obtain ⟨c00, c01⟩ := hK0.cell2
      obtain ⟨c10, c11⟩ := hK1.cell2
      have l0 := hK0.lt
      have l1 := hK1.lt
      have l2 := hK2.lt
      have HW := Lib.hid hW
      clear hW
      have hK0d := hK0.drew
      have hK1d := hK1.drew
      have hK2d := hK2.drew
      go_region_held3 (fun w' => w'.cell? ⟨w.heap.size + 1, 0, none⟩ = some (.bool sy) ∧ w'.cell? ⟨w.heap.size, 1, none⟩ = some (.slice A l.length c) ∧ w'.cell? ⟨w.heap.size + 1, 1, none⟩ = some (.slice A' l'.length c'))
        (first | exact ⟨c10, c01, c11⟩ | exact ⟨c10', c01', c11'⟩ | exact ⟨c10'', c01'', c11''⟩ | (refine ⟨?_, ?_, ?_⟩ <;> go_simp))
        (first
        | (go_at_call 274; (with_reducible refine (rest_any l' l A' A _ _ _ _ _ rfl rfl (by omega) hlen ok2 ok1 hge hr2 hr1).mono ?_); rintro e w1 ⟨v1, rfl, ⟨A1, c1, m1, rfl, g2, g3, g4, g5, g6, g7⟩, hb1⟩; obtain ⟨c00', c01'⟩ := (hK0d.nx hb1).cell2; obtain ⟨c10', c11'⟩ := (hK1d.nx hb1).cell2; have hK2' := hK2d.nx hb1)
        | (go_at_call 271; refine (made_big _ A1 _ c1 _).mono ?_; rintro e w2 ⟨rfl, hb2⟩; have hK22 := hK2'.nx hb2; obtain ⟨c20, c21⟩ := hK22.cell2; have f20 := hK22.frozen 0; have f21 := hK22.frozen 1; obtain ⟨c00'', c01''⟩ := ((hK0d.nx hb1).nx hb2).cell2; obtain ⟨c10'', c11''⟩ := ((hK1d.nx hb1).nx hb2).cell2))
      go_wp2
      refine bodyPost_ret (res_big rfl (hK22.set2 _ _) rfl) rfl ?_
      have hz1 := hb1.size
      have hz2 := hb2.size
      simp only [World.size_drew] at hz1
      have hn := norm_zero g6
      rw [g7, H7.out, H7'.out] at hn
      rw [H7.out, H7'.out] at hge
      have hsgn : (sy && decide (0 < m1.length)) = decide (x + y < 0) := by
        rw [← HGY.out]
        by_cases hm : m1 = []
        · have := hn.1 hm
          subst hm
          simp
          omega
        · have h1 := List.length_pos_iff.2 hm
          have h2 : ¬ _ := fun e => hm (hn.2 e)
          simp [h1]; omega
      have hbW : Below w.heap.size w w2 := ((hb0.drew).trans (hb1.mono (by simp; omega))).trans (hb2.mono (by omega))
      refine ⟨_, rfl, ⟨A1, c1, m1, by rw [← hsgn], g2, g3, g4, ?_, g6, ?_⟩, below_of_gb hbW (gb2 w2 _ _ _) (by omega) (by omega)⟩
      · exact ((g5.below hb2 (Nat.le_refl _)).grown (gb2 w2 _ _ _) (fun g e => .inl (by injection e with e; simp; omega))).less (by simp; omega)
      · rw [g7, H7.out, H7'.out]; omega
end Go.Proofs.YtgohbkkeppknoaaGreatDoor
end
section
set_option linter.unusedVariables false
namespace Go.Proofs.YtgohbkkeppknoaaGreatDoor
open Go.RowKit
theorem BigN.form {lo : Nat} {w : World} {v : Value} {z : Int} (h : BigN lo w v z) : ∃ s A n c, v = .agg #[.bool s, .slice A n c] ∧ s = decide (z < 0) := by
  obtain ⟨A, c, l, h1, _⟩ := h
  exact ⟨_, A, l.length, c, h1, rfl⟩
theorem BigN.shape {lo : Nat} {w : World} {v : Value} {z : Int} (h : BigN lo w v z) : ∃ s A n c, v = .agg #[.bool s, .slice A n c] := by
  obtain ⟨A, c, l, h1, _⟩ := h
  exact ⟨_, A, l.length, c, h1⟩
theorem BigN.any {lo : Nat} {w : World} {v : Value} {z : Int} (h : BigN lo w v z) : BigN 0 w v z := h.less (Nat.zero_le _)
theorem sm_add {x y : Int} (hx : (x.natAbs : Int) < Bp 39) (hy : (y.natAbs : Int) < Bp 39) : Sm (x + y) := by
  unfold Sm
  have e := Bp39s
  omega
set_option maxRecDepth 100000 in
set_option maxHeartbeats 400000 in
theorem sub_any (va vb : Value) (x y : Int) (w : World) {lo lo' : Nat} (ha : BigN lo w va x) (hb : BigN lo' w vb y) (hsa : Sm x) (hsb : Sm y) :
    Calls Tryz.prog 209 #[va, vb] w fun e w' => ∃ v, e = .returned v ∧ BigN w.heap.size w' v (x - y) ∧ Below w.heap.size w w' := by
  obtain ⟨s, A, n, c, rfl⟩ := ha.shape
  obtain ⟨s', A', n', c', rfl⟩ := hb.shape
  go_enter Tryz.func209, Tryz.ntmps209
  go_wp2_with fail
  generalize hW : ((w.alloc (Obj.cells #[Value.bool s, Value.slice A n c] 200)).alloc (Obj.cells #[Value.bool s', Value.slice A' n' c'] 200)).alloc (Obj.cells #[Value.bool false, Value.slice none 0 0] 200) = W
  have hb0 : Below w.heap.size w W := by subst hW; go_grown
  have ha1 : BigN lo W.drew _ x := (ha.nx hb0).drew
  have hb1 : BigN lo' W.drew _ y := (hb.nx hb0).drew
  have hK0 : Bk W w.heap.size 200 #[.bool s, .slice A n c] := by subst hW; exact ((Bk.new _ _ _).alloc _).alloc _
  have hK1 : Bk W (w.heap.size + 1) 200 #[.bool s', .slice A' n' c'] := by subst hW; simpa using (Bk.new (w.alloc _) 200 #[Value.bool s', Value.slice A' n' c']).alloc _
  have hK2 : Bk W (w.heap.size + 1 + 1) 200 #[.bool false, .slice none 0 0] := by subst hW; simpa using (Bk.new ((w.alloc _).alloc _) 200 #[.bool false, .slice none 0 0])
  obtain ⟨c00, c01⟩ := hK0.cell2
  obtain ⟨c10, c11⟩ := hK1.cell2
  have l0 := hK0.lt
  have l1 := hK1.lt
  have l2 := hK2.lt
  have HW := Lib.hid hW
  clear hW
  have hK0d := hK0.drew
  have hK1d := hK1.drew
  have hK2d := hK2.drew
  have hsn : Sm (-y) := by unfold Sm at *; omega
  go_region_held3 (fun w' => w'.cell? ⟨w.heap.size, 0, none⟩ = some (.bool s) ∧ w'.cell? ⟨w.heap.size, 1, none⟩ = some (.slice A n c) ∧ w'.cell? ⟨w.heap.size + 1, 0, none⟩ = some (.bool s') ∧ w'.cell? ⟨w.heap.size + 1, 1, none⟩ = some (.slice A' n' c'))
    (first | exact ⟨c00, c01, c10, c11⟩ | exact ⟨c00', c01', c10', c11'⟩ | exact ⟨c00'', c01'', c10'', c11''⟩ | (refine ⟨?_, ?_, ?_, ?_⟩ <;> go_simp))
    (first
    | (go_at_call 197; (with_reducible refine (neg_any _ y _ hb1 hsb).mono ?_); rintro e w1 ⟨v1, rfl, hN1, hb1'⟩; obtain ⟨s1, A1, n1, c1, rfl⟩ := hN1.shape; obtain ⟨c00', c01'⟩ := (hK0d.nx hb1').cell2; obtain ⟨c10', c11'⟩ := (hK1d.nx hb1').cell2; have hK2' := hK2d.nx hb1'; have ha2 := ha1.nx hb1')
    | (go_at_call 195; (with_reducible refine (add_any _ _ x (-y) _ ha2 hN1 hsa hsn).mono ?_); rintro e w2 ⟨v2, rfl, hN2, hb2⟩; obtain ⟨s2, A2, n2, c2, rfl⟩ := hN2.shape; have hK22 := hK2'.nx hb2; obtain ⟨c20, c21⟩ := hK22.cell2; have f20 := hK22.frozen 0; have f21 := hK22.frozen 1; obtain ⟨c00'', c01''⟩ := ((hK0d.nx hb1').nx hb2).cell2; obtain ⟨c10'', c11''⟩ := ((hK1d.nx hb1').nx hb2).cell2))
  go_wp2
  refine bodyPost_ret (res_big rfl (hK22.set2 _ _) rfl) rfl ?_
  have hz1 := hb1'.size
  have hz2 := hb2.size
  simp only [World.size_drew] at hz1
  have hbW : Below w.heap.size w w2 := ((hb0.drew).trans (hb1'.mono (by simp; omega))).trans (hb2.mono (by omega))
  refine ⟨_, rfl, ?_, below_of_gb hbW (gb2 w2 _ _ _) (by omega) (by omega)⟩
  rw [show x - y = x + -y by omega]
  exact (hN2.grown (gb2 w2 _ _ _) (.inl (by omega))).less (by omega)
set_option maxRecDepth 100000 in
set_option maxHeartbeats 1000000 in
theorem cmp_any (va vb : Value) (x y : Int) (w : World) {lo lo' : Nat} (ha : BigN lo w va x) (hb : BigN lo' w vb y) (hsa : Sm x) (hsb : Sm y) :
    Calls Tryz.prog 276 #[va, vb] w fun e w' => e = .returned (.int .i64 (cmpI x y)) ∧ Below w.heap.size w w' := by
  obtain ⟨s, A, n, c, rfl⟩ := ha.shape
  obtain ⟨s', A', n', c', rfl⟩ := hb.shape
  go_enter Tryz.func276, Tryz.ntmps276
  go_wp2_with fail
  have hb0 : Below w.heap.size w ((w.alloc (Obj.cells #[Value.bool s, Value.slice A n c] 200)).alloc (Obj.cells #[Value.bool s', Value.slice A' n' c'] 200)) := by go_grown
  refine (sub_any _ _ x y _ (ha.nx hb0) (hb.nx hb0) hsa hsb).mono ?_
  rintro e w1 ⟨v1, rfl, ⟨A1, c1, l1, rfl, h2, h3, h4, h5, h6, h7⟩, hb1⟩
  have hbe := hb0.trans (hb1.mono (by simp; omega))
  have hz := norm_zero h6
  rw [h7] at hz
  have H7 := Lib.hid h7
  have HZ := Lib.hid hz
  clear h7 hz
  rcases Int.lt_trichotomy x y with hlt | hlt | hlt
  · have hne : 0 < l1.length := by
      rcases Nat.eq_zero_or_pos l1.length with e | e
      · have := HZ.out.1 (List.eq_nil_of_length_eq_zero e); omega
      · exact e
    have hnb : ((l1.length : Int) == 0) = false := by simp; exact List.length_pos_iff.1 hne
    generalize l1.length = n1 at *
    have hd : decide (x - y < 0) = true := by simp; omega
    rw [hd]
    clear hd h5 h6 H7 HZ
    go_wp2
    go_returns
    exact ⟨ret_int (by unfold cmpI; rw [if_pos hlt]), hbe.alloc (by have := hb1.size; simp at this; omega) _⟩
  · have hne : l1.length = 0 := by rw [HZ.out.2 (by omega)]; rfl
    obtain rfl : l1 = [] := List.eq_nil_of_length_eq_zero hne
    clear hne
    go_wp2
    go_returns
    exact ⟨ret_int (by unfold cmpI; rw [if_neg (by omega), if_neg (by omega)]), hbe.alloc (by have := hb1.size; simp at this; omega) _⟩
  · have hne : 0 < l1.length := by
      rcases Nat.eq_zero_or_pos l1.length with e | e
      · have := HZ.out.1 (List.eq_nil_of_length_eq_zero e); omega
      · exact e
    have hnb : ((l1.length : Int) == 0) = false := by simp; exact List.length_pos_iff.1 hne
    generalize l1.length = n1 at *
    have hd : decide (x - y < 0) = false := by simp; omega
    rw [hd]
    clear hd h5 h6 H7 HZ
    go_wp2
    go_returns
    exact ⟨ret_int (by unfold cmpI; rw [if_neg (by omega), if_pos hlt]), hbe.alloc (by have := hb1.size; simp at this; omega) _⟩
theorem vd_drop_le {l : List Int} (h : okd l) (k : Nat) : vd (l.drop k) ≤ vd l := by
  by_cases hk : k ≤ l.length
  · have h1 := vd_split l k hk
    have h2 := vd_nonneg (okd_take h k)
    have h3 := vd_nonneg (okd_drop h k)
    have h4 := Bp_pos k
    have := Int.mul_le_mul_of_nonneg_right h4 h3
    omega
  · rw [List.drop_eq_nil_of_le (by omega)]; exact vd_nonneg h
set_option maxHeartbeats 1000000 in
theorem unsigned_any (va : Value) (x : Int) (w : World) {lo : Nat} (ha : BigN lo w va x) (hx : (x.natAbs : Int) ≤ 18446744073709551615) :
    Calls Tryz.prog 210 #[va] w fun e w' => e = .returned (.int .u64 x.natAbs) ∧ Below w.heap.size w w' := by
  obtain ⟨A, c, l, rfl, h2, h3, h4, h5, h6, h7⟩ := ha
  have hl := sm_len (show Sm x by unfold Sm; rw [Bp40]; omega) h6 h7
  have ok := h6.1
  have hr := h5.rd
  have H7 := Lib.hid h7
  have hv : vd l ≤ 18446744073709551615 := by omega
  clear h7
  generalize decide (x < 0) = sx
  go_enter Tryz.func210, Tryz.ntmps210
  go_wp2
  go_loop [3, 4] (fun y i => ∃ k : Nat, k ≤ l.length ∧ i = .int .i64 ((k : Int) - 1) ∧ y = .int .u64 (vd (l.drop k))) (fun _ i => (intOf i + 1).toNat)
  case atStart => exact ⟨l.length, Nat.le_refl _, rfl, by simp [vd]⟩
  case round =>
    obtain ⟨k, hk, rfl, rfl⟩ := hrel
    rcases Nat.eq_zero_or_pos k with h0 | h0
    · subst h0
      go_wp2
      go_returns
      exact ⟨ret_int (by have := H7.out; simpa using this), by go_grown⟩
    · obtain ⟨j, rfl⟩ : ∃ j, k = j + 1 := ⟨k - 1, by omega⟩
      have e1 : ((j + 1 : Nat) : Int) - 1 = j := by omega
      have hE1 := Lib.hid e1
      simp only [e1]
      clear e1
      obtain ⟨b, o, rfl, hb, hc⟩ := RdI.get hr j (by omega)
      have hd := ok l[j] (List.getElem_mem _)
      have hs := vd_drop l j
      have e2 : dgt l j = l[j] := by simp [dgt, List.getElem?_eq_getElem (show j < l.length by omega)]
      rw [e2] at hs
      have hle := vd_drop_le ok j
      have hnn := vd_nonneg (okd_drop ok (j + 1))
      have HS := Lib.hid hs
      have hle2 : l[j] + 32768 * vd (l.drop (j + 1)) ≤ 18446744073709551615 := by omega
      clear hs hle e2
      generalize l[j] = z at *
      generalize vd (l.drop (j + 1)) = y at *
      go_wp2
      exact ⟨⟨j, by omega, rfl, by rw [HS.out]; exact val_int (by omega)⟩, by simp [intOf]⟩
set_option maxHeartbeats 1000000 in
theorem small_any (va : Value) (x : Int) (w : World) {lo : Nat} (ha : BigN lo w va x) (h0 : -9223372036854775808 ≤ x) (h1 : x ≤ 9223372036854775807) :
    Calls Tryz.prog 199 #[va] w fun e w' => e = .returned (.int .i64 x) ∧ Below w.heap.size w w' := by
  obtain ⟨s, A, n, c, rfl, hs⟩ := ha.form
  by_cases hx : x < 0
  · have hs' : s = true := by rw [hs]; simpa using hx
    subst hs'
    clear hs
    go_enter Tryz.func199, Tryz.ntmps199
    go_wp2_with (go_at_call 210; (with_reducible refine (unsigned_any _ x _ (ha.alloc _) (by omega)).mono ?_); rintro e w1 ⟨rfl, hb⟩; have hcb := bcell hb)
    go_returns
    exact ⟨ret_int (by unfold wrap64; omega), ((Below.refl _ w).alloc (Nat.le_refl _) _).trans (hb.mono (by simp))⟩
  · have hs' : s = false := by rw [hs]; simpa using hx
    subst hs'
    clear hs
    go_enter Tryz.func199, Tryz.ntmps199
    go_wp2_with (go_at_call 210; (with_reducible refine (unsigned_any _ x _ (ha.alloc _) (by omega)).mono ?_); rintro e w1 ⟨rfl, hb⟩; have hcb := bcell hb)
    go_returns
    exact ⟨ret_int (by omega), ((Below.refl _ w).alloc (Nat.le_refl _) _).trans (hb.mono (by simp))⟩
set_option maxHeartbeats 1000000 in
theorem pow_any1 (n : Nat) (w : World) (hn : n ≤ 128) :
    Calls Tryz.prog 201 #[.int .i64 n] w fun e w' => ∃ v, e = .returned v ∧ BigN w.heap.size w' v (2 ^ n) ∧ Below w.heap.size w w' := by
  go_enter Tryz.func201, Tryz.ntmps201
  go_wp2_with fail
  refine (of_any 1 _ (by omega) (by omega)).mono ?_
  rintro e w1 ⟨v1, rfl, hN1, hb1⟩
  obtain ⟨s1, A1, n1, c1, rfl⟩ := hN1.shape
  simp only [World.size_alloc] at hN1
  have hz1 := hb1.size
  simp only [World.size_alloc] at hz1
  have hK1 := ((Bk.new w 200 #[.bool false, .slice none 0 0]).nx hb1).alloc (.cells #[.bool s1, .slice A1 n1 c1] 200)
  have hK3 := Bk.new w1 200 #[.bool s1, .slice A1 n1 c1]
  have hN3 := hN1.alloc (.cells #[.bool s1, .slice A1 n1 c1] 200)
  have hbz : Below w.heap.size w (w1.alloc (.cells #[.bool s1, .slice A1 n1 c1] 200)) := (((Below.refl _ w).alloc (Nat.le_refl _) _).trans (hb1.mono (by simp))).alloc (by omega) _
  clear hN1 hb1
  go_wp2_with fail
  go_loopw [4] (fun i wr => ∃ k : Nat, k ≤ n ∧ i = .int .i64 k ∧ Bk wr w.heap.size 200 #[.bool false, .slice none 0 0] ∧ Below w.heap.size w wr ∧ ∃ s A m c, Bk wr w1.heap.size 200 #[.bool s, .slice A m c] ∧ BigN (w.heap.size + 1) wr (.agg #[.bool s, .slice A m c]) (2 ^ k)) (fun i _ => n - (intOf i).toNat)
  case atStart => exact ⟨0, by omega, rfl, hK1, hbz, s1, A1, n1, c1, hK3, hN3⟩
  case round =>
    clear hK1 hK3 hN3 hbz
    obtain ⟨k, hk, rfl, hK1, hbz, s, A, m, c, hK3, hN3⟩ := hrel
    have hl1 := hK1.lt
    have hl3 := hK3.lt
    by_cases hlt : k < n
    · have hp : (1:Int) ≤ 2 ^ k ∧ (2:Int) ^ k ≤ 340282366920938463463374607431768211456 := by
        have h1 : (2:Nat) ^ k ≤ 2 ^ 128 := Nat.pow_le_pow_right (by decide) (by omega)
        have h2 : 1 ≤ (2:Nat) ^ k := Nat.one_le_two_pow
        have e : ((2:Int) ^ k) = ((2 ^ k : Nat) : Int) := by simp
        rw [e]; omega
      have hs : Sm (2 ^ k) := sm_of (by omega) (by omega)
      have HP : Hid ((2:Int) ^ (k + 1) = 2 ^ k + 2 ^ k) := by show _ = _; rw [Int.pow_succ]; omega
      clear hp
      go_wp2_with (first
        | (refine ldBig rfl _ rfl hK3 rfl ?_)
        | (go_at_call 195; (with_reducible refine (add_any _ _ (2 ^ k) (2 ^ k) _ hN3 hN3 hs hs).mono ?_); rintro e w5 ⟨v5, rfl, hN5, hb5⟩; obtain ⟨s5, A5, n5, c5, rfl⟩ := hN5.shape; have hK35 := hK3.nx hb5; have hK15 := hK1.nx hb5; have hz5 := hb5.size)
        | (refine stBig rfl _ _ rfl hK35 rfl rfl rfl ?_; intro w6 hK6 hg6 hs6))
      refine ⟨⟨k + 1, by omega, by go_num, hK15.grown hg6 (fun e => by injection e with e; omega), below_of_gb (hbz.trans (hb5.mono (by omega))) hg6 (by omega) (by omega), s5, A5, n5, c5, hK6, ?_⟩, by simp [intOf]; omega⟩
      rw [HP.out]
      exact (hN5.grown hg6 (.inl (by omega))).less (by omega)
    · obtain rfl : k = n := by omega
      go_wp2_with (first
        | (refine ldBig rfl _ rfl hK3 rfl ?_)
        | (refine stBig rfl _ _ rfl hK1 rfl rfl rfl ?_; intro w6 hK6 hg6 hs6))
      refine bodyPost_ret (res_big rfl hK6 rfl) rfl ?_
      exact ⟨_, rfl, (hN3.grown hg6 (.inl (by omega))).less (by omega), below_of_gb hbz hg6 (by omega) (by omega)⟩
end Go.Proofs.YtgohbkkeppknoaaGreatDoor
end
