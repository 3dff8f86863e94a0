/- The reference's numbers of any length as whole numbers: making, signs, sums, differences, comparing, reading. -/
import Derived.Test.YtjdboclibinjoaaBig1
import Derived.Test.YtjdboclibinjoaaRowB
import Derived.Deep.RegionWith
import Derived.Deep.RegionHeld3
set_option linter.unusedVariables false
namespace Go.Proofs.Ytjdboclibinjoaa
open Go.RowKit
/-- v is the number z: its sign, and the digits of its size, as they lie in w, in a block from lo on. -/
def BigN (lo : Nat) (w : World) (v : Value) (z : Int) : Prop :=
  ∃ A c l, v = .agg #[.bool (decide (z < 0)), .slice A l.length c] ∧ l.length ≤ c ∧ c ≤ maxLen ∧ (A = none → c = 0) ∧ RdL w lo A (l.map (Value.int .i64)) ∧ Norm l ∧ vd l = (z.natAbs : Int)
theorem BigN.less {lo lo' : Nat} {w : World} {v : Value} {z : Int} (h : BigN lo w v z) (hl : lo' ≤ lo) : BigN lo' w v z := by
  obtain ⟨A, c, l, h1, h2, h3, h4, h5, h6, h7⟩ := h
  exact ⟨A, c, l, h1, h2, h3, h4, h5.less hl, h6, h7⟩
theorem BigN.keep {lo : Nat} {w w' : World} {B : Nat} {v : Value} {z : Int} (h : BigN lo w v z) (hb : Below B w w') (hB : w.heap.size ≤ B) : BigN lo w' v z := by
  obtain ⟨A, c, l, h1, h2, h3, h4, h5, h6, h7⟩ := h
  exact ⟨A, c, l, h1, h2, h3, h4, h5.below hb hB, h6, h7⟩
theorem BigN.nx {lo : Nat} {w w' : World} {v : Value} {z : Int} (h : BigN lo w v z) (hb : Below w.heap.size w w') : BigN lo w' v z := h.keep hb (Nat.le_refl _)
theorem BigN.alloc {lo : Nat} {w : World} {v : Value} {z : Int} (h : BigN lo w v z) (o : Obj) : BigN lo (w.alloc o) v z :=
  h.keep ((Below.refl w.heap.size w).alloc (Nat.le_refl _) o) (Nat.le_refl _)
theorem BigN.drew {lo : Nat} {w : World} {v : Value} {z : Int} (h : BigN lo w v z) : BigN lo w.drew v z := h.keep (Below.refl w.heap.size w).drew (Nat.le_refl _)
theorem BigN.grown {lo : Nat} {w w' : World} {v : Value} {z : Int} {g : Nat} (h : BigN lo w v z) (hg : w.grownBy w' (some g)) (hr : g < lo ∨ w.heap.size ≤ g) : BigN lo w' v z := by
  obtain ⟨A, c, l, h1, h2, h3, h4, h5, h6, h7⟩ := h
  exact ⟨A, c, l, h1, h2, h3, h4, h5.grown hg (fun g' e => by injection e with e; omega), h6, h7⟩
/-- Small enough: fewer than 600 bits. -/
def Sm (z : Int) : Prop := (z.natAbs : Int) < Bp 40
theorem sm_len {z : Int} {l : List Int} (h : Sm z) (hn : Norm l) (hv : vd l = (z.natAbs : Int)) : l.length ≤ 40 := norm_len hn (by rw [hv]; exact h)
theorem sm_of {z : Int} (h : -1606938044258990275541962092341162602522202993782792835301376 ≤ z) (h' : z ≤ 1606938044258990275541962092341162602522202993782792835301376) : Sm z := by
  unfold Sm; rw [Bp40]; omega
set_option maxHeartbeats 1000000 in
theorem uns_any (x : Int) (w : World) (h0 : 0 ≤ x) (h1 : x ≤ 18446744073709551615) :
    Calls Try.prog 110 #[.int .u64 x] w fun e w' => ∃ v, e = .returned v ∧ BigN w.heap.size w' v x ∧ Below w.heap.size w w' := by
  have hB5 := Bp5
  go_enter Try.func110, Try.ntmps110
  go_wp2
  go_loopw [0, 3] (fun y v wr => ∃ (yy : Int) (l : List Int), y = .int .u64 yy ∧ 0 ≤ yy ∧ yy ≤ 18446744073709551615 ∧ okd l ∧ vd l + Bp l.length * yy = x ∧ (yy = 0 → Norm l) ∧ wr.ownsRow (w.heap.size + 1) 3 1 v l.length (l.map (Value.int .i64)) ∧ Below (w.heap.size + 1) (w.alloc (.cells #[.bool false, .slice none 0 0] 150)) wr) (fun y _ _ => (intOf y).toNat)
  case atStart => exact ⟨x, [], rfl, h0, h1, okd_nil, by simp [vd, Bp], fun _ => norm_nil, World.ownsRow_nil _ _ _ _, Below.refl _ _⟩
  case round =>
    obtain ⟨yy, l, rfl, hy0, hy1, hok, hv, hnm, hown, hbel⟩ := hrel
    have hsz := hbel.size
    simp only [World.size_alloc] at hsz
    by_cases hlt : 0 < yy
    · have hl5 : l.length < 5 := by
        have hp := Bp_pos l.length
        have := Int.mul_le_mul_of_nonneg_left (show 1 ≤ yy by omega) (by omega : 0 ≤ Bp l.length)
        have hv0 := vd_nonneg hok
        rcases Nat.lt_or_ge l.length 5 with h | h
        · exact h
        · have := Bp_mono h; omega
      have HV : Hid (vd (l ++ [yy % 32768]) + Bp (l ++ [yy % 32768]).length * (yy / 32768) = x) := by
        show _ = _
        rw [vd_snoc, List.length_append, List.length_singleton, Bp1s, Int.mul_assoc, ← hv]
        have : Bp l.length * (yy % 32768) + 32768 * (Bp l.length * (yy / 32768)) = Bp l.length * yy := by
          rw [show 32768 * (Bp l.length * (yy / 32768)) = Bp l.length * (32768 * (yy / 32768)) by rw [← Int.mul_assoc, ← Int.mul_assoc, Int.mul_comm 32768]]
          rw [← Int.mul_add, Int.emod_add_mul_ediv]
        omega
      have HN : Hid (yy / 32768 = 0 → Norm (l ++ [yy % 32768])) := by
        intro h
        refine ⟨okd_append.2 ⟨hok, fun d hd => by simp at hd; subst hd; omega⟩, fun d hd => ?_⟩
        simp at hd; subst hd; omega
      have HO : Hid (okd (l ++ [yy % 32768])) := okd_append.2 ⟨hok, fun d hd => by simp at hd; subst hd; omega⟩
      clear hv hnm hok
      go_wp2_with (at_builtin; refine app1 rfl _ _ _ rfl Try.underlying50 big_int_info rfl (by omega) rfl rfl hown hbel (Nat.le_refl _) hsz rfl ints1 (by omega) (by omega) ?_; intro v' w' hown' hbel' _ _ _; clear hown hbel)
      exact ⟨⟨yy / 32768, l ++ [yy % 32768], rfl, by omega, by omega, HO.out, HV.out, HN.out, by simpa using hown', hbel'⟩, by simp [intOf]; omega⟩
    · have hy : yy = 0 := by omega
      have hN := hnm hy
      subst hy
      have hvd : vd l = x := by simpa using hv
      clear hnm hv
      have HV := Lib.hid hvd
      clear hvd
      obtain ⟨A3, c3, rfl, h31, h32, hA3, h33, h34⟩ := own_form2 hown
      have hK : Bk wr w.heap.size 150 #[.bool false, .slice none 0 0] := (Bk.new w _ _).below hbel (by omega)
      go_wp2_with (refine stBig rfl _ _ rfl hK rfl rfl rfl ?_; intro w6 hK6 hg6 hs6)
      refine bodyPost_ret (res_big rfl hK6 rfl) rfl ?_
      have h6 := (RdL.of_own hown).grown hg6 (fun g e => .inl (by injection e; omega))
      have hbz : Below w.heap.size w wr := ((Below.refl _ w).alloc (Nat.le_refl _) _).trans (hbel.mono (by omega))
      have hneg : decide (x < 0) = false := by simp; omega
      exact ⟨_, rfl, ⟨A3, c3, l, by rw [hneg], h31, h32, hA3, h6.less (by omega), hN, by rw [HV.out]; omega⟩, below_grown hbz hg6 (Nat.le_refl _) (by omega)⟩
set_option maxHeartbeats 1000000 in
theorem of_any (x : Int) (w : World) (h0 : -9223372036854775808 ≤ x) (h1 : x ≤ 9223372036854775807) :
    Calls Try.prog 78 #[.int .i64 x] w fun e w' => ∃ v, e = .returned v ∧ BigN w.heap.size w' v x ∧ Below w.heap.size w w' := by
  by_cases hx : x < 0
  · go_enter Try.func78, Try.ntmps78
    go_wp2_with fail
    have e : IntKind.u64.wrap (-(x + 1)) = -(x + 1) := by rw [IntKind.wrap_u64]; omega
    rw [show -(x + 1) + 1 = -x by omega]
    refine (uns_any (-x) _ (by omega) (by omega)).mono ?_
    rintro e w1 ⟨v, rfl, ⟨A, c, l, rfl, h2, h3, h4, h5, h6, h7⟩, hb⟩
    have hK := (Bk.new w 150 #[.bool false, .slice none 0 0]).nx hb
    have hz := hb.size
    simp only [World.size_alloc] at hz
    have hneg : decide (-x < 0) = false := by simp; omega
    rw [hneg]
    clear hneg
    go_wp2_with (refine stBig rfl _ _ rfl (hK.alloc _) rfl rfl rfl ?_; intro w6 hK6 hg6 hs6)
    refine bodyPost_ret (res_big rfl hK6 rfl) rfl ?_
    have hbz : Below w.heap.size w w1 := ((Below.refl _ w).alloc (Nat.le_refl _) _).trans (hb.mono (by simp))
    have hneg : decide (x < 0) = true := by simp; omega
    refine ⟨_, rfl, ⟨A, c, l, by rw [hneg], h2, h3, h4, ?_, h6, by omega⟩, below_grown (hbz.alloc (by omega) _) hg6 (Nat.le_refl _) (by simp; omega)⟩
    exact ((h5.below ((Below.refl w1.heap.size w1).alloc (Nat.le_refl _) _) (Nat.le_refl _)).grown hg6 (fun g e => .inl (by injection e with e; simp; omega))).less (by simp)
  · go_enter Try.func78, Try.ntmps78
    have hneg : decide (x < 0) = false := by simp; omega
    go_wp2_with fail
    refine (uns_any x _ (by omega) (by omega)).mono ?_
    rintro e w1 ⟨v, rfl, ⟨A, c, l, rfl, h2, h3, h4, h5, h6, h7⟩, hb⟩
    have hK := (Bk.new w 150 #[.bool false, .slice none 0 0]).nx hb
    have hz := hb.size
    simp only [World.size_alloc] at hz
    go_wp2_with (refine stBig rfl _ _ rfl hK rfl rfl rfl ?_; intro w6 hK6 hg6 hs6)
    refine bodyPost_ret (res_big rfl hK6 rfl) rfl ?_
    have hbz : Below w.heap.size w w1 := ((Below.refl _ w).alloc (Nat.le_refl _) _).trans (hb.mono (by simp))
    have hng0 : decide (x < 0) = false := by simp; omega
    refine ⟨_, rfl, ⟨A, c, l, by rw [hng0], h2, h3, h4, ?_, h6, h7⟩, below_grown hbz hg6 (Nat.le_refl _) (by omega)⟩
    exact (h5.grown hg6 (fun g e => .inl (by injection e with e; simp; omega))).less (by simp)
theorem abs_of (l : List Int) (z : Int) (hv : vd l = (z.natAbs : Int)) : z = if z < 0 then - vd l else vd l := by split <;> omega
set_option maxHeartbeats 1000000 in
theorem neg_any (va : Value) (x : Int) (w : World) {lo : Nat} (ha : BigN lo w va x) (hs : Sm x) :
    Calls Try.prog 112 #[va] w fun e w' => ∃ v, e = .returned v ∧ BigN lo w' v (-x) ∧ Below w.heap.size w w' := by
  obtain ⟨A, c, l, rfl, h2, h3, h4, h5, h6, h7⟩ := ha
  generalize hsx : decide (x < 0) = sx
  have HSX := Lib.hid hsx
  clear hsx
  go_enter Try.func112, Try.ntmps112
  go_wp2_with fail
  refine (made_big (!sx) A l.length c _).mono ?_
  rintro e w1 ⟨rfl, hb⟩
  have hz := hb.size
  simp only [World.size_alloc] at hz
  have hK := (Bk.new (w.alloc (.cells #[.bool sx, .slice A l.length c] 150)) 150 #[.bool false, .slice none 0 0]).nx hb
  simp only [World.size_alloc] at hK
  go_wp2_with (refine stBig rfl _ _ rfl hK rfl rfl rfl ?_; intro w6 hK6 hg6 hs6)
  refine bodyPost_ret (res_big rfl hK6 rfl) rfl ?_
  have hbz : Below w.heap.size w w1 := (((Below.refl _ w).alloc (Nat.le_refl _) _).alloc (by simp) _).trans (hb.mono (by simp; omega))
  have hneg : (!sx && decide (0 < l.length)) = decide (-x < 0) := by
    rw [← HSX.out]
    have := norm_zero h6
    rw [h7] at this
    by_cases hl : l = []
    · have := this.1 hl; subst hl; simp; omega
    · have hn : ¬ (x.natAbs : Int) = 0 := fun e => hl (this.2 e)
      have hp := List.length_pos_iff.2 hl
      rw [Bool.eq_iff_iff]; simp [hp]; omega
  have hb6 := below_grown hbz hg6 (by simp) (by omega)
  exact ⟨_, rfl, ⟨A, c, l, by rw [← hneg], h2, h3, h4, h5.below hb6 (Nat.le_refl _), h6, by rw [h7]; omega⟩, hb6⟩
set_option maxRecDepth 100000 in
set_option maxHeartbeats 2000000 in
theorem add_any (va vb : Value) (x y : Int) (w : World) {lo lo' : Nat} (ha : BigN lo w va x) (hb : BigN lo' w vb y) (hsa : Sm x) (hsb : Sm y) :
    Calls Try.prog 109 #[va, vb] w fun e w' => ∃ v, e = .returned v ∧ BigN w.heap.size w' v (x + y) ∧ Below w.heap.size w w' := by
  obtain ⟨A, c, l, rfl, h2, h3, h4, h5, h6, h7⟩ := ha
  obtain ⟨A', c', l', rfl, h2', h3', h4', h5', h6', h7'⟩ := hb
  have hl := sm_len hsa h6 h7
  have ok1 := h6.1
  have ok2 := h6'.1
  have H7 := Lib.hid h7
  have H7' := Lib.hid h7'
  clear h7 h7'
  have hs1 := h5.rd
  have hs2 := h5'.rd
  have hl' := sm_len hsb h6' H7'.out
  by_cases hsg : decide (x < 0) = decide (y < 0)
  · have hsb2 : (decide (x < 0) == decide (y < 0)) = true := by simpa using hsg
    have HSG := Lib.hid hsg
    clear hsg
    generalize hgx : decide (x < 0) = sx at *
    generalize hgy : decide (y < 0) = sy at *
    have HGX := Lib.hid hgx
    have HGY := Lib.hid hgy
    clear hgx hgy
    go_enter Try.func109, Try.ntmps109
    go_wp2_with (go_at_call 148; refine (less_any l l' A A' _ _ _ _ _ rfl rfl (by omega) (by omega) ok1 ok2 (B := w.heap.size) (B' := w.heap.size) (by exact (((hs1.alloc (Nat.le_refl _) _).alloc (by simp) _).alloc (by simp; omega) _)) (by exact (((hs2.alloc (Nat.le_refl _) _).alloc (by simp) _).alloc (by simp; omega) _))).mono ?_; rintro e w1 ⟨rfl, rfl⟩)
    generalize hW : ((w.alloc (Obj.cells #[Value.bool sx, Value.slice A l.length c] 150)).alloc (Obj.cells #[Value.bool sy, Value.slice A' l'.length c'] 150)).alloc (Obj.cells #[Value.bool false, Value.slice none 0 0] 150) = W
    have hb0 : Below w.heap.size w W := by subst hW; go_grown
    have hr1 : RdI W.drew W.drew.heap.size A l := (h5.below hb0 (Nat.le_refl _)).rd
    have hr2 : RdI W.drew W.drew.heap.size A' l' := (h5'.below hb0 (Nat.le_refl _)).rd
    have hK0 : Bk W w.heap.size 150 #[.bool sx, .slice A l.length c] := by subst hW; exact ((Bk.new _ _ _).alloc _).alloc _
    have hK1 : Bk W (w.heap.size + 1) 150 #[.bool sy, .slice A' l'.length c'] := by subst hW; simpa using (Bk.new (w.alloc _) 150 #[Value.bool sy, Value.slice A' l'.length c']).alloc _
    have hK2 : Bk W (w.heap.size + 1 + 1) 150 #[.bool false, .slice none 0 0] := by subst hW; simpa using (Bk.new ((w.alloc _).alloc _) 150 #[.bool false, .slice none 0 0])
    obtain ⟨c00, c01⟩ := hK0.cell2
    obtain ⟨c10, c11⟩ := hK1.cell2
    have l0 := hK0.lt
    have l1 := hK1.lt
    have l2 := hK2.lt
    have HW := Lib.hid hW
    clear hW
    have hK0d := hK0.drew
    have hK1d := hK1.drew
    have hK2d := hK2.drew
    go_region_held3 (fun w' => w'.cell? ⟨w.heap.size, 0, none⟩ = some (.bool sx) ∧ w'.cell? ⟨w.heap.size, 1, none⟩ = some (.slice A l.length c) ∧ w'.cell? ⟨w.heap.size + 1, 1, none⟩ = some (.slice A' l'.length c'))
      (first | exact ⟨c00, c01, c11⟩ | exact ⟨c00', c01', c11'⟩ | exact ⟨c00'', c01'', c11''⟩ | (refine ⟨?_, ?_, ?_⟩ <;> go_simp))
      (first
      | (go_at_call 150; (with_reducible refine (sum_any l l' A A' _ _ _ _ _ rfl rfl (by omega) (by omega) ok1 ok2 hr1 hr2).mono ?_); rintro e w1 ⟨v1, rfl, ⟨A1, c1, m1, rfl, g2, g3, g4, g5, g6, g7⟩, hb1⟩; obtain ⟨c00', c01'⟩ := (hK0d.nx hb1).cell2; obtain ⟨c10', c11'⟩ := (hK1d.nx hb1).cell2; have hK2' := hK2d.nx hb1)
      | (go_at_call 144; refine (made_big _ A1 _ c1 _).mono ?_; rintro e w2 ⟨rfl, hb2⟩; have hK22 := hK2'.nx hb2; obtain ⟨c20, c21⟩ := hK22.cell2; have f20 := hK22.frozen 0; have f21 := hK22.frozen 1; obtain ⟨c00'', c01''⟩ := ((hK0d.nx hb1).nx hb2).cell2; obtain ⟨c10'', c11''⟩ := ((hK1d.nx hb1).nx hb2).cell2))
    go_wp2
    refine bodyPost_ret (res_big rfl (hK22.set2 _ _) rfl) rfl ?_
    have hz1 := hb1.size
    have hz2 := hb2.size
    simp only [World.size_drew] at hz1
    have hsgn : (sx && decide (0 < m1.length)) = decide (x + y < 0) := by
      have hn := norm_zero g6
      rw [g7, H7.out, H7'.out] at hn
      have e1 := HGX.out
      have e2 := HGY.out
      rw [HSG.out] at e1
      rw [← e2] at e1
      by_cases hx : x < 0
      · have hy : y < 0 := by simpa [hx] using e1
        have : m1 ≠ [] := fun e => by have := hn.1 e; omega
        rw [HSG.out, ← e2]
        simp [hy, List.length_pos_iff.2 this]; omega
      · have hy : ¬ y < 0 := by simpa [hx] using e1
        rw [HSG.out, ← e2]
        simp [hy]; omega
    have hbW : Below w.heap.size w w2 := ((hb0.drew).trans (hb1.mono (by simp; omega))).trans (hb2.mono (by omega))
    refine ⟨_, rfl, ⟨A1, c1, m1, by rw [← hsgn], g2, g3, g4, ?_, g6, ?_⟩, below_of_gb hbW (gb2 w2 _ _ _) (by omega) (by omega)⟩
    · exact ((g5.below hb2 (Nat.le_refl _)).grown (gb2 w2 _ _ _) (fun g e => .inl (by injection e with e; simp; omega))).less (by simp; omega)
    · rw [g7, H7.out, H7'.out]
      have e1 := HGX.out
      have e2 := HGY.out
      rw [HSG.out, ← e2] at e1
      by_cases hx : x < 0
      · have hy : y < 0 := by simpa [hx] using e1
        omega
      · have hy : ¬ y < 0 := by simpa [hx] using e1
        omega
  · have hsb2 : (decide (x < 0) == decide (y < 0)) = false := by simpa using hsg
    have hxy : (x < 0 ∧ 0 ≤ y) ∨ (0 ≤ x ∧ y < 0) := by
      by_cases h1 : x < 0 <;> by_cases h2 : y < 0 <;> simp_all <;> omega
    clear hsg
    rcases (show vd l' ≤ vd l ∨ vd l < vd l' by omega) with hge | hgt
    · have hcm : 0 ≤ cmpI (vd l) (vd l') := by unfold cmpI; rw [if_neg (by omega)]; split <;> omega
      have hlen : l'.length ≤ l.length := norm_len h6' (by have := vd_lt ok1; omega)
      generalize hgx : decide (x < 0) = sx at *
      generalize hgy : decide (y < 0) = sy at *
      have HGX := Lib.hid hgx
      have HGY := Lib.hid hgy
      clear hgx hgy
      go_enter Try.func109, Try.ntmps109
      go_wp2_with fail
      refine (less_any l l' A A' _ _ _ _ _ rfl rfl (by omega) (by omega) ok1 ok2 (B := w.heap.size) (B' := w.heap.size) ?_ ?_).mono ?_
      · exact (((hs1.alloc (Nat.le_refl _) _).alloc (by simp) _).alloc (by simp; omega) _)
      · exact (((hs2.alloc (Nat.le_refl _) _).alloc (by simp) _).alloc (by simp; omega) _)
      rintro e w1 ⟨rfl, rfl⟩
      clear hsb2
      go_wp2_with fail
      generalize hW : ((w.alloc (Obj.cells #[Value.bool sx, Value.slice A l.length c] 150)).alloc (Obj.cells #[Value.bool sy, Value.slice A' l'.length c'] 150)).alloc (Obj.cells #[Value.bool false, Value.slice none 0 0] 150) = W
      have hb0 : Below w.heap.size w W := by subst hW; go_grown
      have hr1 : RdI W.drew W.drew.heap.size A l := (h5.below hb0 (Nat.le_refl _)).rd
      have hr2 : RdI W.drew W.drew.heap.size A' l' := (h5'.below hb0 (Nat.le_refl _)).rd
      have hK0 : Bk W w.heap.size 150 #[.bool sx, .slice A l.length c] := by subst hW; exact ((Bk.new _ _ _).alloc _).alloc _
      have hK1 : Bk W (w.heap.size + 1) 150 #[.bool sy, .slice A' l'.length c'] := by subst hW; simpa using (Bk.new (w.alloc _) 150 #[Value.bool sy, Value.slice A' l'.length c']).alloc _
      have hK2 : Bk W (w.heap.size + 1 + 1) 150 #[.bool false, .slice none 0 0] := by subst hW; simpa using (Bk.new ((w.alloc _).alloc _) 150 #[.bool false, .slice none 0 0])
      obtain ⟨c00, c01⟩ := hK0.cell2
      obtain ⟨c10, c11⟩ := hK1.cell2
      have l0 := hK0.lt
      have l1 := hK1.lt
      have l2 := hK2.lt
      have HW := Lib.hid hW
      clear hW
      have hK0d := hK0.drew
      have hK1d := hK1.drew
      have hK2d := hK2.drew
      go_region_held3 (fun w' => w'.cell? ⟨w.heap.size, 0, none⟩ = some (.bool sx) ∧ w'.cell? ⟨w.heap.size, 1, none⟩ = some (.slice A l.length c) ∧ w'.cell? ⟨w.heap.size + 1, 1, none⟩ = some (.slice A' l'.length c'))
        (first | exact ⟨c00, c01, c11⟩ | exact ⟨c00', c01', c11'⟩ | exact ⟨c00'', c01'', c11''⟩ | (refine ⟨?_, ?_, ?_⟩ <;> go_simp))
        (first
        | (go_at_call 149; (with_reducible refine (rest_any l l' A A' _ _ _ _ _ rfl rfl (by omega) hlen ok1 ok2 hge hr1 hr2).mono ?_); rintro e w1 ⟨v1, rfl, ⟨A1, c1, m1, rfl, g2, g3, g4, g5, g6, g7⟩, hb1⟩; obtain ⟨c00', c01'⟩ := (hK0d.nx hb1).cell2; obtain ⟨c10', c11'⟩ := (hK1d.nx hb1).cell2; have hK2' := hK2d.nx hb1)
        | (go_at_call 144; refine (made_big _ A1 _ c1 _).mono ?_; rintro e w2 ⟨rfl, hb2⟩; have hK22 := hK2'.nx hb2; obtain ⟨c20, c21⟩ := hK22.cell2; have f20 := hK22.frozen 0; have f21 := hK22.frozen 1; obtain ⟨c00'', c01''⟩ := ((hK0d.nx hb1).nx hb2).cell2; obtain ⟨c10'', c11''⟩ := ((hK1d.nx hb1).nx hb2).cell2))
      go_wp2
      refine bodyPost_ret (res_big rfl (hK22.set2 _ _) rfl) rfl ?_
      have hz1 := hb1.size
      have hz2 := hb2.size
      simp only [World.size_drew] at hz1
      have hn := norm_zero g6
      rw [g7, H7.out, H7'.out] at hn
      rw [H7.out, H7'.out] at hge
      have hsgn : (sx && decide (0 < m1.length)) = decide (x + y < 0) := by
        rw [← HGX.out]
        by_cases hm : m1 = []
        · have := hn.1 hm
          subst hm
          simp
          omega
        · have h1 := List.length_pos_iff.2 hm
          have h2 : ¬ _ := fun e => hm (hn.2 e)
          simp [h1]; omega
      have hbW : Below w.heap.size w w2 := ((hb0.drew).trans (hb1.mono (by simp; omega))).trans (hb2.mono (by omega))
      refine ⟨_, rfl, ⟨A1, c1, m1, by rw [← hsgn], g2, g3, g4, ?_, g6, ?_⟩, below_of_gb hbW (gb2 w2 _ _ _) (by omega) (by omega)⟩
      · exact ((g5.below hb2 (Nat.le_refl _)).grown (gb2 w2 _ _ _) (fun g e => .inl (by injection e with e; simp; omega))).less (by simp; omega)
      · rw [g7, H7.out, H7'.out]; omega
    · have hcm : cmpI (vd l) (vd l') = -1 := by unfold cmpI; rw [if_pos (by omega)]
      have hge : vd l ≤ vd l' := by omega
      have hlen : l.length ≤ l'.length := norm_len h6 (by have := vd_lt ok2; omega)
      generalize hgx : decide (x < 0) = sx at *
      generalize hgy : decide (y < 0) = sy at *
      have HGX := Lib.hid hgx
      have HGY := Lib.hid hgy
      clear hgx hgy
      go_enter Try.func109, Try.ntmps109
      go_wp2_with fail
      refine (less_any l l' A A' _ _ _ _ _ rfl rfl (by omega) (by omega) ok1 ok2 (B := w.heap.size) (B' := w.heap.size) ?_ ?_).mono ?_
      · exact (((hs1.alloc (Nat.le_refl _) _).alloc (by simp) _).alloc (by simp; omega) _)
      · exact (((hs2.alloc (Nat.le_refl _) _).alloc (by simp) _).alloc (by simp; omega) _)
      rintro e w1 ⟨rfl, rfl⟩
      clear hsb2
      go_wp2_with fail
      generalize hW : ((w.alloc (Obj.cells #[Value.bool sx, Value.slice A l.length c] 150)).alloc (Obj.cells #[Value.bool sy, Value.slice A' l'.length c'] 150)).alloc (Obj.cells #[Value.bool false, Value.slice none 0 0] 150) = W
      have hb0 : Below w.heap.size w W := by subst hW; go_grown
      have hr1 : RdI W.drew W.drew.heap.size A l := (h5.below hb0 (Nat.le_refl _)).rd
      have hr2 : RdI W.drew W.drew.heap.size A' l' := (h5'.below hb0 (Nat.le_refl _)).rd
      have hK0 : Bk W w.heap.size 150 #[.bool sx, .slice A l.length c] := by subst hW; exact ((Bk.new _ _ _).alloc _).alloc _
      have hK1 : Bk W (w.heap.size + 1) 150 #[.bool sy, .slice A' l'.length c'] := by subst hW; simpa using (Bk.new (w.alloc _) 150 #[Value.bool sy, Value.slice A' l'.length c']).alloc _
      have hK2 : Bk W (w.heap.size + 1 + 1) 150 #[.bool false, .slice none 0 0] := by subst hW; simpa using (Bk.new ((w.alloc _).alloc _) 150 #[.bool false, .slice none 0 0])
      obtain ⟨c00, c01⟩ := hK0.cell2
      obtain ⟨c10, c11⟩ := hK1.cell2
      have l0 := hK0.lt
      have l1 := hK1.lt
      have l2 := hK2.lt
      have HW := Lib.hid hW
      clear hW
      have hK0d := hK0.drew
      have hK1d := hK1.drew
      have hK2d := hK2.drew
      go_region_held3 (fun w' => w'.cell? ⟨w.heap.size + 1, 0, none⟩ = some (.bool sy) ∧ w'.cell? ⟨w.heap.size, 1, none⟩ = some (.slice A l.length c) ∧ w'.cell? ⟨w.heap.size + 1, 1, none⟩ = some (.slice A' l'.length c'))
        (first | exact ⟨c10, c01, c11⟩ | exact ⟨c10', c01', c11'⟩ | exact ⟨c10'', c01'', c11''⟩ | (refine ⟨?_, ?_, ?_⟩ <;> go_simp))
        (first
        | (go_at_call 149; (with_reducible refine (rest_any l' l A' A _ _ _ _ _ rfl rfl (by omega) hlen ok2 ok1 hge hr2 hr1).mono ?_); rintro e w1 ⟨v1, rfl, ⟨A1, c1, m1, rfl, g2, g3, g4, g5, g6, g7⟩, hb1⟩; obtain ⟨c00', c01'⟩ := (hK0d.nx hb1).cell2; obtain ⟨c10', c11'⟩ := (hK1d.nx hb1).cell2; have hK2' := hK2d.nx hb1)
        | (go_at_call 144; refine (made_big _ A1 _ c1 _).mono ?_; rintro e w2 ⟨rfl, hb2⟩; have hK22 := hK2'.nx hb2; obtain ⟨c20, c21⟩ := hK22.cell2; have f20 := hK22.frozen 0; have f21 := hK22.frozen 1; obtain ⟨c00'', c01''⟩ := ((hK0d.nx hb1).nx hb2).cell2; obtain ⟨c10'', c11''⟩ := ((hK1d.nx hb1).nx hb2).cell2))
      go_wp2
      refine bodyPost_ret (res_big rfl (hK22.set2 _ _) rfl) rfl ?_
      have hz1 := hb1.size
      have hz2 := hb2.size
      simp only [World.size_drew] at hz1
      have hn := norm_zero g6
      rw [g7, H7.out, H7'.out] at hn
      rw [H7.out, H7'.out] at hge
      have hsgn : (sy && decide (0 < m1.length)) = decide (x + y < 0) := by
        rw [← HGY.out]
        by_cases hm : m1 = []
        · have := hn.1 hm
          subst hm
          simp
          omega
        · have h1 := List.length_pos_iff.2 hm
          have h2 : ¬ _ := fun e => hm (hn.2 e)
          simp [h1]; omega
      have hbW : Below w.heap.size w w2 := ((hb0.drew).trans (hb1.mono (by simp; omega))).trans (hb2.mono (by omega))
      refine ⟨_, rfl, ⟨A1, c1, m1, by rw [← hsgn], g2, g3, g4, ?_, g6, ?_⟩, below_of_gb hbW (gb2 w2 _ _ _) (by omega) (by omega)⟩
      · exact ((g5.below hb2 (Nat.le_refl _)).grown (gb2 w2 _ _ _) (fun g e => .inl (by injection e with e; simp; omega))).less (by simp; omega)
      · rw [g7, H7.out, H7'.out]; omega
end Go.Proofs.Ytjdboclibinjoaa
