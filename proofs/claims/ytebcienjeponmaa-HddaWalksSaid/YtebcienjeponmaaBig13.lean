/- The reference's sums under an adjugate's row, and signs. (Printed by wip/tools/gen13.py.) -/
import Derived.Test.YtebcienjeponmaaBig12
set_option linter.unusedVariables false
namespace Go.Proofs.Ytebcienjeponmaa
open Go.RowKit
set_option maxRecDepth 100000 in
set_option maxHeartbeats 1000000 in
theorem sign_any (va : Value) (z : Int) (w : World) {lo : Nat} (ha : BigN lo w va z) (hs : Sm z) :
    Calls Try.prog 34 #[va] w fun e w' => e = .returned (.int .i64 (cmpI z 0)) ∧ Below w.heap.size w w' := by
  obtain ⟨s, A, n, c, rfl⟩ := ha.shape
  have hK0 : Bk (w.alloc (.cells #[.bool s, .slice A n c] 42)).drew w.heap.size 42 #[.bool s, .slice A n c] := (Bk.new w _ _).drew
  have hb0 : Below w.heap.size w (w.alloc (.cells #[.bool s, .slice A n c] 42)).drew := by go_grown
  have ha0 := ha.nx hb0
  have hl := hK0.lt
  have hs0 : Sm 0 := en_sm en_zero
  obtain ⟨d00, d01⟩ := hK0.cell2
  go_enter Try.func34, Try.ntmps34
  go_wp2_with fail
  go_region_held3 (fun w' => w'.cell? ⟨w.heap.size, 0, none⟩ = some (.bool s) ∧ w'.cell? ⟨w.heap.size, 1, none⟩ = some (.slice A n c))
    (first | exact ⟨d00, d01⟩ | exact ⟨e00, e01⟩ | exact ⟨f00, f01⟩ | (refine ⟨?_, ?_⟩ <;> go_simp))
    (first
    | (go_at_call 39; (with_reducible refine (of_any 0 _ (by omega) (by omega)).mono ?_); rintro e wa ⟨va, rfl, hNa, hba⟩; obtain ⟨sa, Aa, na, ca, rfl⟩ := hNa.shape; obtain ⟨e00, e01⟩ := (hK0.nx hba).cell2; have haa := ha0.nx hba)
    | (go_at_call 63; (with_reducible refine (cmp_any _ _ z 0 _ haa hNa hs hs0).mono ?_); rintro e wb ⟨rfl, hbb⟩; obtain ⟨f00, f01⟩ := ((hK0.nx hba).nx hbb).cell2))
  have hza := hba.size
  have hb9 := (hb0.trans (hba.mono (by omega))).trans (hbb.mono (by omega))
  go_wp2_with fail
  go_returns
  exact ⟨ret_int rfl, hb9⟩
theorem gb_nx {a b c : World} {row : Option Nat} (h : a.grownBy b row) (k : Below b.heap.size b c) : a.grownBy c row := gb_below h k h.size
theorem keepG {w w' : World} {g1 g2 g3 g p q : Nat} {u0 u1 u2 u3 u4 u5 : Value} (C : (w.cell? ⟨g1, 0, none⟩ = some u0 ∧ w.cell? ⟨g1, 1, none⟩ = some u1) ∧ (w.cell? ⟨g2, 0, none⟩ = some u2 ∧ w.cell? ⟨g2, 1, none⟩ = some u3) ∧ (w.cell? ⟨g3, p, none⟩ = some u4 ∧ w.cell? ⟨g3, q, none⟩ = some u5))
    (h1 : g1 < w.heap.size ∧ g1 ≠ g) (h2 : g2 < w.heap.size ∧ g2 ≠ g) (h3 : g3 < w.heap.size ∧ g3 ≠ g) (hG : w.grownBy w' (some g)) :
    ((w'.cell? ⟨g1, 0, none⟩ = some u0 ∧ w'.cell? ⟨g1, 1, none⟩ = some u1) ∧ (w'.cell? ⟨g2, 0, none⟩ = some u2 ∧ w'.cell? ⟨g2, 1, none⟩ = some u3) ∧ (w'.cell? ⟨g3, p, none⟩ = some u4 ∧ w'.cell? ⟨g3, q, none⟩ = some u5)) ∧ w.grownBy w' (some g) := by
  obtain ⟨⟨c0, c1⟩, ⟨c2, c3⟩, c4, c5⟩ := C
  have n1 : some g1 ≠ some g := fun e => h1.2 (by injection e)
  have n2 : some g2 ≠ some g := fun e => h2.2 (by injection e)
  have n3 : some g3 ≠ some g := fun e => h3.2 (by injection e)
  exact ⟨⟨⟨hG.cell c0 n1, hG.cell c1 n1⟩, ⟨hG.cell c2 n2, hG.cell c3 n2⟩, hG.cell c4 n3, hG.cell c5 n3⟩, hG⟩
def undZ (es : List Int) (r : Nat) (X Y D : Int) : Int := es.getD (3 * r) 0 * X + es.getD (3 * r + 1) 0 * Y + es.getD (3 * r + 2) 0 * D
/-- Entries of an adjugate. -/
def Ea (z : Int) : Prop := (z.natAbs : Int) < Bp 19
def I64 (x : Int) : Prop := -9223372036854775808 ≤ x ∧ x ≤ 9223372036854775807
theorem ea_sm {z : Int} (h : Ea z) : Sm z := by
  have h2 : (z.natAbs : Int) < Bp 19 := h
  exact sm_38 (by have := Bp_mono (show 19 ≤ 38 by omega); omega)
theorem i64_sm {z : Int} (h : I64 z) : Sm z := sm_of (by have := h.1; omega) (by have := h.2; omega)
theorem ea_mul {x y : Int} (hx : Ea x) (hy : I64 y) : ((x * y).natAbs : Int) < Bp 24 := by
  refine natAbs_mul_lt (m := 19) (n := 5) hx ?_
  have h1 := Bp5
  obtain ⟨h2, h3⟩ := hy
  omega
set_option maxRecDepth 100000 in
set_option maxHeartbeats 4000000 in
theorem under0_any (v : Value) (es : List Int) (X Y D : Int) (w : World) {lo : Nat} (hv : Bigs lo w v es) (hl : es.length = 9) (hz : ∀ k, Ea (es.getD k 0)) (hX : I64 X) (hY : I64 Y) (hD : I64 D) :
    Calls Try.prog 19 #[v, .int .i64 0, .int .i64 X, .int .i64 Y, .int .i64 D] w fun e w' => ∃ u, e = .returned u ∧ BigN w.heap.size w' u (undZ es 0 X Y D) ∧ Below w.heap.size w w' := by
  obtain ⟨A, cp, rfl, hcp1, hcp2⟩ := hv.form
  have hv' : Bigs lo w (.slice A 9 cp) es := hl ▸ hv
  rw [hl]
  have HU := Lib.hid (show undZ es 0 X Y D = es.getD 0 0 * X + es.getD 1 0 * Y + es.getD 2 0 * D from rfl)
  obtain ⟨b, o, s0, A0, n0, c0, rfl, b1, b2, p0, q0, hE0⟩ := hv'.get 0 (by omega)
  obtain ⟨b', o', s1, A1, n1, c1, hbo, _, _, p1, q1, hE1⟩ := hv'.get 1 (by omega)
  injection hbo with hbo
  injection hbo with hbo1 hbo2
  subst hbo1 hbo2
  obtain ⟨b', o', s2, A2, n2, c2, hbo, _, _, p2, q2, hE2⟩ := hv'.get 2 (by omega)
  injection hbo with hbo
  injection hbo with hbo1 hbo2
  subst hbo1 hbo2
  have hm0 := ea_mul (hz 0) hX
  have hs0 := ea_sm (hz 0)
  have hm1 := ea_mul (hz 1) hY
  have hs1 := ea_sm (hz 1)
  have hm2 := ea_mul (hz 2) hD
  have hs2 := ea_sm (hz 2)
  have hX1 := hX.1
  have hX2 := hX.2
  have hY1 := hY.1
  have hY2 := hY.2
  have hD1 := hD.1
  have hD2 := hD.2
  have hSX := i64_sm hX
  have hSY := i64_sm hY
  have hSD := i64_sm hD
  generalize es.getD 0 0 = z0 at *
  generalize es.getD 1 0 = z1 at *
  generalize es.getD 2 0 = z2 at *
  have p0' : w.cell? ⟨b, o, none⟩ = some (.bool s0) := p0
  have q0' : w.cell? ⟨b, o + 1, none⟩ = some (.slice A0 n0 c0) := q0
  clear p0 q0
  have p1' : w.cell? ⟨b, o + 2, none⟩ = some (.bool s1) := p1
  have q1' : w.cell? ⟨b, o + 3, none⟩ = some (.slice A1 n1 c1) := q1
  clear p1 q1
  have p2' : w.cell? ⟨b, o + 4, none⟩ = some (.bool s2) := p2
  have q2' : w.cell? ⟨b, o + 5, none⟩ = some (.slice A2 n2 c2) := q2
  clear p2 q2
  have h24 := Bp1s 24
  have h25 := Bp_mono (show 25 ≤ 38 by omega)
  have h26 := Bp_pos 24
  simp only [Nat.reduceAdd] at h24
  have t1 : Sm (z0 * X) := sm_38 (by omega)
  have t2 : Sm (z1 * Y) := sm_38 (by omega)
  have t3 : Sm (z2 * D) := sm_38 (by omega)
  have t4 : Sm (z0 * X + z1 * Y) := sm_38 (by omega)
  clear hl hz hv hcp1 h24 h25 h26 hm0 hm1 hm2 hv'
  have hK0 := Bk.new w 42 #[.bool false, .slice none 0 0]
  have hb00 : Below w.heap.size w (w.alloc (.cells #[.bool false, .slice none 0 0] 42)) := by go_grown
  have hw0 : IntKind.i64.wrap (3 * 0) = 0 := by decide
  have hw0' : IntKind.i64.wrap 0 = 0 := by decide
  have hw1 : IntKind.i64.wrap (0 + 1) = 1 := by decide
  have hw1' : IntKind.i64.wrap 1 = 1 := by decide
  have hw2 : IntKind.i64.wrap (0 + 2) = 2 := by decide
  have hw2' : IntKind.i64.wrap 2 = 2 := by decide
  go_enter Try.func19, Try.ntmps19
  go_upto_region 1 with fail
  generalize w.alloc (.cells #[.bool false, .slice none 0 0] 42) = w1 at *
  have hl1 := hK0.lt
  have hbw1 : b < w1.heap.size := by omega
  have d11 := (hb00.cell (p := ⟨b, o, none⟩) b2).trans p0'
  have d12 := (hb00.cell (p := ⟨b, o + 1, none⟩) b2).trans q0'
  have hE1 := hE0.nx hb00
  go_upto_region 1 with fail
  go_cut [11] (fun p wx => ∃ (g : Nat) (s : Bool) (A : Option Addr) (n c : Nat), p = .pointer (some ⟨g, 0, none⟩) ∧ w1.heap.size ≤ g ∧ Bk wx g 42 #[.bool s, .slice A n c] ∧ BigN w1.heap.size wx (.agg #[.bool s, .slice A n c]) (z0 * X) ∧ Below w1.heap.size w1 wx)
  case first =>
   go_region_held3 (fun w' => w'.cell? ⟨b, o, none⟩ = some (.bool s0) ∧ w'.cell? ⟨b, o + 1, none⟩ = some (.slice A0 n0 c0) ∧ Below w1.heap.size w1 w')
    (first
    | exact keepD d11 d12 hbw1 hBb
    | exact keepD d11 d12 hbw1 hBa
    | (refine keepD d11 d12 hbw1 ?_; (first | done | exact Below.alloc hBb hzbb _ | exact Below.alloc hBa hzaa _ | go_grown)))
    (first
    | (go_at_call 39; (with_reducible refine (of_any X _ hX1 hX2).mono ?_); rintro e wa ⟨va, rfl, hNa, hba⟩; obtain ⟨sa, Aa, na, ca, rfl⟩ := hNa.shape; have hza := hba.size; have hzaa : w1.heap.size ≤ wa.heap.size := Nat.le_trans (by simp) hza; have hBa : Below w1.heap.size w1 wa := Below.trans (by go_grown) (hba.mono (by simp)))
    | (go_at_call 41; (with_reducible refine (mul_any _ _ _ _ _ (hE1.nx (by first | exact hBa | exact Below.alloc hBa hzaa _)) (hNa.nx (by first | exact Below.refl _ _ | go_grown)) hs0 hSX).mono ?_); rintro e wb ⟨vb, rfl, hNb, hbb⟩; obtain ⟨sb, Ab, nb, cb, rfl⟩ := hNb.shape; have hzb := hbb.size; have hzbb : w1.heap.size ≤ wb.heap.size := Nat.le_trans (by first | exact hzaa | (simp; omega)) hzb; have hBb : Below w1.heap.size w1 wb := Below.trans (by first | exact hBa | exact Below.alloc hBa hzaa _) (hbb.mono (by first | exact hzaa | (simp; omega))); (try (have hK5 : Bk wb w1.heap.size 42 #[.bool false, .slice none 0 0] := ((Bk.new w1.drew 42 #[.bool false, .slice none 0 0]).nx hba).nx hbb; obtain ⟨c50, c51⟩ := hK5.cell2; have f50 := hK5.frozen 0; have f51 := hK5.frozen 1)); (try (have hK6 := (Bk.new wa 42 #[.bool false, .slice none 0 0]).nx hbb; obtain ⟨c60, c61⟩ := hK6.cell2; have f60 := hK6.frozen 0; have f61 := hK6.frozen 1))))
   · go_wp2_with fail
     go_meet
     exact ⟨_, _, _, _, _, rfl, hzbb, Bk.new wb _ _, (hNb.alloc _).less hzaa, Below.alloc hBb hzbb _⟩
   · go_wp2_with fail
     go_meet
     simp only [World.size_alloc] at hzb
     exact ⟨_, _, _, _, _, rfl, hzaa, hK6.set2 _ _, (hNb.grown (gb2 wb _ _ _) (.inl (by simp))).less (by simp; omega), below_of_gb hBb (gb2 wb _ _ _) hzaa hzbb⟩
   · go_wp2_with fail
     go_meet
     have hza2 : w1.heap.size + 1 ≤ wa.heap.size := by simpa using hza
     exact ⟨_, _, _, _, _, rfl, Nat.le_refl _, hK5.set2 _ _, (hNb.grown (gb2 wb _ _ _) (.inl (by omega))).less hzaa, below_of_gb hBb (gb2 wb _ _ _) (Nat.le_refl _) hzbb⟩
  case rest =>
    obtain ⟨g1, sx, Ax, nx, cx, rfl, hg1, hKx, hNx, hBx⟩ := hcut
    clear d11 d12 hE1
    obtain ⟨w2, rfl⟩ : ∃ w2 : World, w2 = wc := ⟨_, rfl⟩
    have hb2 := hb00.trans (hBx.mono (by omega))
    have hK02 := hK0.below hBx hl1
    have hzx := hBx.size
    have hlx := hKx.lt
    have hbw2 : b < w2.heap.size := by omega
    have d21 := (hb2.cell (p := ⟨b, o + 2, none⟩) b2).trans p1'
    have d22 := (hb2.cell (p := ⟨b, o + 3, none⟩) b2).trans q1'
    have hE2 := hE1.nx hb2
    go_upto_region 2 with fail
    go_cut [12] (fun p wx => ∃ (g : Nat) (s : Bool) (A : Option Addr) (n c : Nat), p = .pointer (some ⟨g, 0, none⟩) ∧ w2.heap.size ≤ g ∧ Bk wx g 42 #[.bool s, .slice A n c] ∧ BigN w2.heap.size wx (.agg #[.bool s, .slice A n c]) (z1 * Y) ∧ Below w2.heap.size w2 wx)
    case first =>
     go_region_held3 (fun w' => w'.cell? ⟨b, o + 2, none⟩ = some (.bool s1) ∧ w'.cell? ⟨b, o + 3, none⟩ = some (.slice A1 n1 c1) ∧ Below w2.heap.size w2 w')
      (first
      | exact keepD d21 d22 hbw2 hBb
      | exact keepD d21 d22 hbw2 hBa
      | (refine keepD d21 d22 hbw2 ?_; (first | done | exact Below.alloc hBb hzbb _ | exact Below.alloc hBa hzaa _ | go_grown)))
      (first
      | (go_at_call 39; (with_reducible refine (of_any Y _ hY1 hY2).mono ?_); rintro e wa ⟨va, rfl, hNa, hba⟩; obtain ⟨sa, Aa, na, ca, rfl⟩ := hNa.shape; have hza := hba.size; have hzaa : w2.heap.size ≤ wa.heap.size := Nat.le_trans (by simp) hza; have hBa : Below w2.heap.size w2 wa := Below.trans (by go_grown) (hba.mono (by simp)))
      | (go_at_call 41; (with_reducible refine (mul_any _ _ _ _ _ (hE2.nx (by first | exact hBa | exact Below.alloc hBa hzaa _)) (hNa.nx (by first | exact Below.refl _ _ | go_grown)) hs1 hSY).mono ?_); rintro e wb ⟨vb, rfl, hNb, hbb⟩; obtain ⟨sb, Ab, nb, cb, rfl⟩ := hNb.shape; have hzb := hbb.size; have hzbb : w2.heap.size ≤ wb.heap.size := Nat.le_trans (by first | exact hzaa | (simp; omega)) hzb; have hBb : Below w2.heap.size w2 wb := Below.trans (by first | exact hBa | exact Below.alloc hBa hzaa _) (hbb.mono (by first | exact hzaa | (simp; omega))); (try (have hK5 : Bk wb w2.heap.size 42 #[.bool false, .slice none 0 0] := ((Bk.new w2.drew 42 #[.bool false, .slice none 0 0]).nx hba).nx hbb; obtain ⟨c50, c51⟩ := hK5.cell2; have f50 := hK5.frozen 0; have f51 := hK5.frozen 1)); (try (have hK6 := (Bk.new wa 42 #[.bool false, .slice none 0 0]).nx hbb; obtain ⟨c60, c61⟩ := hK6.cell2; have f60 := hK6.frozen 0; have f61 := hK6.frozen 1))))
     · go_wp2_with fail
       go_meet
       exact ⟨_, _, _, _, _, rfl, hzbb, Bk.new wb _ _, (hNb.alloc _).less hzaa, Below.alloc hBb hzbb _⟩
     · go_wp2_with fail
       go_meet
       simp only [World.size_alloc] at hzb
       exact ⟨_, _, _, _, _, rfl, hzaa, hK6.set2 _ _, (hNb.grown (gb2 wb _ _ _) (.inl (by simp))).less (by simp; omega), below_of_gb hBb (gb2 wb _ _ _) hzaa hzbb⟩
     · go_wp2_with fail
       go_meet
       have hza2 : w2.heap.size + 1 ≤ wa.heap.size := by simpa using hza
       exact ⟨_, _, _, _, _, rfl, Nat.le_refl _, hK5.set2 _ _, (hNb.grown (gb2 wb _ _ _) (.inl (by omega))).less hzaa, below_of_gb hBb (gb2 wb _ _ _) (Nat.le_refl _) hzbb⟩
    case rest =>
      obtain ⟨g2, sy, Ay, ny, cy, rfl, hg2, hKy, hNy, hBy⟩ := hcut
      clear d21 d22 hE2
      obtain ⟨w3, rfl⟩ : ∃ w3 : World, w3 = wc := ⟨_, rfl⟩
      have hb3 := hb2.trans (hBy.mono (by omega))
      have hK03 := hK02.below hBy (by omega)
      have hKx3 := hKx.below hBy hlx
      have hNx3 := hNx.nx hBy
      have hzy := hBy.size
      have hly := hKy.lt
      have hbw3 : b < w3.heap.size := by omega
      have d31 := (hb3.cell (p := ⟨b, o + 4, none⟩) b2).trans p2'
      have d32 := (hb3.cell (p := ⟨b, o + 5, none⟩) b2).trans q2'
      have hE3 := hE2.nx hb3
      obtain ⟨x0, x1⟩ := hKx3.cell2
      obtain ⟨y0, y1⟩ := hKy.cell2
      have hG0 : w3.grownBy w3.drew (some w.heap.size) := gb_drew (World.grownBy.refl w3 _)
      have hKr0 : Bk w3.drew w.heap.size 42 #[.bool false, .slice none 0 0] := hK03
      have hoffE := hE2.off (g := some w.heap.size) (fun k hk => .inr (by injection hk; omega))
      have hix : w.heap.size < w1.heap.size := hl1
      have hiy : w.heap.size < w2.heap.size := by omega
      have C := And.intro (And.intro x0 x1) (And.intro (And.intro y0 y1) (And.intro d31 d32))
      have hn1 : g1 < w3.heap.size ∧ g1 ≠ w.heap.size := by omega
      have hn2 : g2 < w3.heap.size ∧ g2 ≠ w.heap.size := by omega
      have hn3 : b < w3.heap.size ∧ b ≠ w.heap.size := by omega
      go_wp2_with fail
      go_region_held3 (fun w' => ((w'.cell? ⟨g1, 0, none⟩ = some (.bool sx) ∧ w'.cell? ⟨g1, 1, none⟩ = some (.slice Ax nx cx)) ∧ (w'.cell? ⟨g2, 0, none⟩ = some (.bool sy) ∧ w'.cell? ⟨g2, 1, none⟩ = some (.slice Ay ny cy)) ∧
          (w'.cell? ⟨b, o + 4, none⟩ = some (.bool s2) ∧ w'.cell? ⟨b, o + 5, none⟩ = some (.slice A2 n2 c2))) ∧ w3.grownBy w' (some w.heap.size))
       (first
       | exact keepG C hn1 hn2 hn3 hG0
       | exact keepG C hn1 hn2 hn3 hG1
       | exact keepG C hn1 hn2 hn3 hG2
       | exact keepG C hn1 hn2 hn3 hG3
       | exact keepG C hn1 hn2 hn3 hG4
       | exact keepG C hn1 hn2 hn3 (gb_trans hG4 (gb2 _ _ _ _) (fun g hg => .inl hg.symm))
       | exact keepG C hn1 hn2 hn3 (gb_trans hG4 (gb2 _ _ _ _) (fun g hg => .inl hg))
       | exact keepG C hn1 hn2 hn3 (World.grownBy.refl _ _))
       (first
       | (go_at_call 42; (with_reducible refine (add_any (lo := w1.heap.size) (lo' := w2.heap.size) _ _ (z0 * X) (z1 * Y) _ (hNx3.grown (by first | exact hG0 | exact hG1 | exact hG2) (.inl hix)) (hNy.grown (by first | exact hG0 | exact hG1 | exact hG2) (.inl hiy)) t1 t2).mono ?_); rintro e wp ⟨vp, rfl, hNp, hbp⟩; obtain ⟨sp, Ap, np, cp1, rfl⟩ := hNp.shape; have hG3 : w3.grownBy wp (some w.heap.size) := gb_nx (by first | exact hG0 | exact hG1 | exact hG2) hbp; have hKp : Bk wp w.heap.size 42 #[.bool false, .slice none 0 0] := Bk.nx (by first | exact hKr0 | exact hKo | exact hKm) hbp)
       | (go_at_call 39; (with_reducible refine (of_any D _ hD1 hD2).mono ?_); rintro e wo ⟨vo, rfl, hNo, hbo⟩; obtain ⟨so, Ao, no, co, rfl⟩ := hNo.shape; have hG1 : w3.grownBy wo (some w.heap.size) := gb_nx (by first | exact hG0 | exact hG3) hbo; have hKo : Bk wo w.heap.size 42 #[.bool false, .slice none 0 0] := Bk.nx (by first | exact hKr0 | exact hKp) hbo)
       | (go_at_call 41; (with_reducible refine (mul_any (lo := lo) (lo' := 0) _ _ z2 D _ (hE3.kept hoffE (by first | exact hG1 | exact hG3)) (by first | exact hNo.any | exact (hNo.nx hbp).any) hs2 hSD).mono ?_); rintro e wm ⟨vm, rfl, hNm, hbm⟩; obtain ⟨sm, Am, nm, cm, rfl⟩ := hNm.shape; have hG2 : w3.grownBy wm (some w.heap.size) := gb_nx (by first | exact hG1 | exact hG3) hbm; have hKm : Bk wm w.heap.size 42 #[.bool false, .slice none 0 0] := Bk.nx (by first | exact hKo | exact hKp) hbm)
       | (go_at_call 42; (with_reducible refine (add_any (lo := 0) (lo' := 0) _ _ (z0 * X + z1 * Y) (z2 * D) _ (by first | exact hNp.any | exact (hNp.nx hbm).any | exact ((hNp.nx hbo).nx hbm).any) (by first | exact hNm.any | exact (hNm.nx hbp).any) t4 t3).mono ?_); rintro e wd ⟨vd, rfl, hNd, hbd⟩; obtain ⟨sd, Ad, nd, cd, rfl⟩ := hNd.shape; have hG4 : w3.grownBy wd (some w.heap.size) := gb_nx (by first | exact hG2 | exact hG3) hbd; have hKd : Bk wd w.heap.size 42 #[.bool false, .slice none 0 0] := Bk.nx (by first | exact hKm | exact hKp) hbd; obtain ⟨u0, u1⟩ := hKd.cell2; have f0 := hKd.frozen 0; have f1 := hKd.frozen 1))
      all_goals
        go_wp2_with fail
        refine bodyPost_ret (res_big rfl (hKd.set2 _ _) rfl) rfl ?_
        rw [HU.out]
        have hbz := below_of_gb hb3 hG4 (Nat.le_refl _) hb3.size
        exact ⟨_, rfl, (hNd.grown (gb2 wd _ _ _) (.inl (by first | exact hKm.lt | exact hKp.lt))).less (by first | exact Nat.le_of_lt hKm.lt | exact Nat.le_of_lt hKp.lt), below_of_gb hbz (gb2 wd _ _ _) (Nat.le_refl _) hbz.size⟩
set_option maxRecDepth 100000 in
set_option maxHeartbeats 4000000 in
theorem under1_any (v : Value) (es : List Int) (X Y D : Int) (w : World) {lo : Nat} (hv : Bigs lo w v es) (hl : es.length = 9) (hz : ∀ k, Ea (es.getD k 0)) (hX : I64 X) (hY : I64 Y) (hD : I64 D) :
    Calls Try.prog 19 #[v, .int .i64 1, .int .i64 X, .int .i64 Y, .int .i64 D] w fun e w' => ∃ u, e = .returned u ∧ BigN w.heap.size w' u (undZ es 1 X Y D) ∧ Below w.heap.size w w' := by
  obtain ⟨A, cp, rfl, hcp1, hcp2⟩ := hv.form
  have hv' : Bigs lo w (.slice A 9 cp) es := hl ▸ hv
  rw [hl]
  have HU := Lib.hid (show undZ es 1 X Y D = es.getD 3 0 * X + es.getD 4 0 * Y + es.getD 5 0 * D from rfl)
  obtain ⟨b, o, s3, A3, n3, c3, rfl, b1, b2, p3, q3, hE3⟩ := hv'.get 3 (by omega)
  obtain ⟨b', o', s4, A4, n4, c4, hbo, _, _, p4, q4, hE4⟩ := hv'.get 4 (by omega)
  injection hbo with hbo
  injection hbo with hbo1 hbo2
  subst hbo1 hbo2
  obtain ⟨b', o', s5, A5, n5, c5, hbo, _, _, p5, q5, hE5⟩ := hv'.get 5 (by omega)
  injection hbo with hbo
  injection hbo with hbo1 hbo2
  subst hbo1 hbo2
  have hm3 := ea_mul (hz 3) hX
  have hs3 := ea_sm (hz 3)
  have hm4 := ea_mul (hz 4) hY
  have hs4 := ea_sm (hz 4)
  have hm5 := ea_mul (hz 5) hD
  have hs5 := ea_sm (hz 5)
  have hX1 := hX.1
  have hX2 := hX.2
  have hY1 := hY.1
  have hY2 := hY.2
  have hD1 := hD.1
  have hD2 := hD.2
  have hSX := i64_sm hX
  have hSY := i64_sm hY
  have hSD := i64_sm hD
  generalize es.getD 3 0 = z3 at *
  generalize es.getD 4 0 = z4 at *
  generalize es.getD 5 0 = z5 at *
  have p3' : w.cell? ⟨b, o + 6, none⟩ = some (.bool s3) := p3
  have q3' : w.cell? ⟨b, o + 7, none⟩ = some (.slice A3 n3 c3) := q3
  clear p3 q3
  have p4' : w.cell? ⟨b, o + 8, none⟩ = some (.bool s4) := p4
  have q4' : w.cell? ⟨b, o + 9, none⟩ = some (.slice A4 n4 c4) := q4
  clear p4 q4
  have p5' : w.cell? ⟨b, o + 10, none⟩ = some (.bool s5) := p5
  have q5' : w.cell? ⟨b, o + 11, none⟩ = some (.slice A5 n5 c5) := q5
  clear p5 q5
  have h24 := Bp1s 24
  have h25 := Bp_mono (show 25 ≤ 38 by omega)
  have h26 := Bp_pos 24
  simp only [Nat.reduceAdd] at h24
  have t1 : Sm (z3 * X) := sm_38 (by omega)
  have t2 : Sm (z4 * Y) := sm_38 (by omega)
  have t3 : Sm (z5 * D) := sm_38 (by omega)
  have t4 : Sm (z3 * X + z4 * Y) := sm_38 (by omega)
  clear hl hz hv hcp1 h24 h25 h26 hm3 hm4 hm5 hv'
  have hK0 := Bk.new w 42 #[.bool false, .slice none 0 0]
  have hb00 : Below w.heap.size w (w.alloc (.cells #[.bool false, .slice none 0 0] 42)) := by go_grown
  have hw0 : IntKind.i64.wrap (3 * 1) = 3 := by decide
  have hw0' : IntKind.i64.wrap 3 = 3 := by decide
  have hw1 : IntKind.i64.wrap (3 + 1) = 4 := by decide
  have hw1' : IntKind.i64.wrap 4 = 4 := by decide
  have hw2 : IntKind.i64.wrap (3 + 2) = 5 := by decide
  have hw2' : IntKind.i64.wrap 5 = 5 := by decide
  go_enter Try.func19, Try.ntmps19
  go_upto_region 1 with fail
  generalize w.alloc (.cells #[.bool false, .slice none 0 0] 42) = w1 at *
  have hl1 := hK0.lt
  have hbw1 : b < w1.heap.size := by omega
  have d11 := (hb00.cell (p := ⟨b, o + 6, none⟩) b2).trans p3'
  have d12 := (hb00.cell (p := ⟨b, o + 7, none⟩) b2).trans q3'
  have hE1 := hE3.nx hb00
  go_upto_region 1 with fail
  go_cut [11] (fun p wx => ∃ (g : Nat) (s : Bool) (A : Option Addr) (n c : Nat), p = .pointer (some ⟨g, 0, none⟩) ∧ w1.heap.size ≤ g ∧ Bk wx g 42 #[.bool s, .slice A n c] ∧ BigN w1.heap.size wx (.agg #[.bool s, .slice A n c]) (z3 * X) ∧ Below w1.heap.size w1 wx)
  case first =>
   go_region_held3 (fun w' => w'.cell? ⟨b, o + 6, none⟩ = some (.bool s3) ∧ w'.cell? ⟨b, o + 7, none⟩ = some (.slice A3 n3 c3) ∧ Below w1.heap.size w1 w')
    (first
    | exact keepD d11 d12 hbw1 hBb
    | exact keepD d11 d12 hbw1 hBa
    | (refine keepD d11 d12 hbw1 ?_; (first | done | exact Below.alloc hBb hzbb _ | exact Below.alloc hBa hzaa _ | go_grown)))
    (first
    | (go_at_call 39; (with_reducible refine (of_any X _ hX1 hX2).mono ?_); rintro e wa ⟨va, rfl, hNa, hba⟩; obtain ⟨sa, Aa, na, ca, rfl⟩ := hNa.shape; have hza := hba.size; have hzaa : w1.heap.size ≤ wa.heap.size := Nat.le_trans (by simp) hza; have hBa : Below w1.heap.size w1 wa := Below.trans (by go_grown) (hba.mono (by simp)))
    | (go_at_call 41; (with_reducible refine (mul_any _ _ _ _ _ (hE1.nx (by first | exact hBa | exact Below.alloc hBa hzaa _)) (hNa.nx (by first | exact Below.refl _ _ | go_grown)) hs3 hSX).mono ?_); rintro e wb ⟨vb, rfl, hNb, hbb⟩; obtain ⟨sb, Ab, nb, cb, rfl⟩ := hNb.shape; have hzb := hbb.size; have hzbb : w1.heap.size ≤ wb.heap.size := Nat.le_trans (by first | exact hzaa | (simp; omega)) hzb; have hBb : Below w1.heap.size w1 wb := Below.trans (by first | exact hBa | exact Below.alloc hBa hzaa _) (hbb.mono (by first | exact hzaa | (simp; omega))); (try (have hK5 : Bk wb w1.heap.size 42 #[.bool false, .slice none 0 0] := ((Bk.new w1.drew 42 #[.bool false, .slice none 0 0]).nx hba).nx hbb; obtain ⟨c50, c51⟩ := hK5.cell2; have f50 := hK5.frozen 0; have f51 := hK5.frozen 1)); (try (have hK6 := (Bk.new wa 42 #[.bool false, .slice none 0 0]).nx hbb; obtain ⟨c60, c61⟩ := hK6.cell2; have f60 := hK6.frozen 0; have f61 := hK6.frozen 1))))
   · go_wp2_with fail
     go_meet
     exact ⟨_, _, _, _, _, rfl, hzbb, Bk.new wb _ _, (hNb.alloc _).less hzaa, Below.alloc hBb hzbb _⟩
   · go_wp2_with fail
     go_meet
     simp only [World.size_alloc] at hzb
     exact ⟨_, _, _, _, _, rfl, hzaa, hK6.set2 _ _, (hNb.grown (gb2 wb _ _ _) (.inl (by simp))).less (by simp; omega), below_of_gb hBb (gb2 wb _ _ _) hzaa hzbb⟩
   · go_wp2_with fail
     go_meet
     have hza2 : w1.heap.size + 1 ≤ wa.heap.size := by simpa using hza
     exact ⟨_, _, _, _, _, rfl, Nat.le_refl _, hK5.set2 _ _, (hNb.grown (gb2 wb _ _ _) (.inl (by omega))).less hzaa, below_of_gb hBb (gb2 wb _ _ _) (Nat.le_refl _) hzbb⟩
  case rest =>
    obtain ⟨g1, sx, Ax, nx, cx, rfl, hg1, hKx, hNx, hBx⟩ := hcut
    clear d11 d12 hE1
    obtain ⟨w2, rfl⟩ : ∃ w2 : World, w2 = wc := ⟨_, rfl⟩
    have hb2 := hb00.trans (hBx.mono (by omega))
    have hK02 := hK0.below hBx hl1
    have hzx := hBx.size
    have hlx := hKx.lt
    have hbw2 : b < w2.heap.size := by omega
    have d21 := (hb2.cell (p := ⟨b, o + 8, none⟩) b2).trans p4'
    have d22 := (hb2.cell (p := ⟨b, o + 9, none⟩) b2).trans q4'
    have hE2 := hE4.nx hb2
    go_upto_region 2 with fail
    go_cut [12] (fun p wx => ∃ (g : Nat) (s : Bool) (A : Option Addr) (n c : Nat), p = .pointer (some ⟨g, 0, none⟩) ∧ w2.heap.size ≤ g ∧ Bk wx g 42 #[.bool s, .slice A n c] ∧ BigN w2.heap.size wx (.agg #[.bool s, .slice A n c]) (z4 * Y) ∧ Below w2.heap.size w2 wx)
    case first =>
     go_region_held3 (fun w' => w'.cell? ⟨b, o + 8, none⟩ = some (.bool s4) ∧ w'.cell? ⟨b, o + 9, none⟩ = some (.slice A4 n4 c4) ∧ Below w2.heap.size w2 w')
      (first
      | exact keepD d21 d22 hbw2 hBb
      | exact keepD d21 d22 hbw2 hBa
      | (refine keepD d21 d22 hbw2 ?_; (first | done | exact Below.alloc hBb hzbb _ | exact Below.alloc hBa hzaa _ | go_grown)))
      (first
      | (go_at_call 39; (with_reducible refine (of_any Y _ hY1 hY2).mono ?_); rintro e wa ⟨va, rfl, hNa, hba⟩; obtain ⟨sa, Aa, na, ca, rfl⟩ := hNa.shape; have hza := hba.size; have hzaa : w2.heap.size ≤ wa.heap.size := Nat.le_trans (by simp) hza; have hBa : Below w2.heap.size w2 wa := Below.trans (by go_grown) (hba.mono (by simp)))
      | (go_at_call 41; (with_reducible refine (mul_any _ _ _ _ _ (hE2.nx (by first | exact hBa | exact Below.alloc hBa hzaa _)) (hNa.nx (by first | exact Below.refl _ _ | go_grown)) hs4 hSY).mono ?_); rintro e wb ⟨vb, rfl, hNb, hbb⟩; obtain ⟨sb, Ab, nb, cb, rfl⟩ := hNb.shape; have hzb := hbb.size; have hzbb : w2.heap.size ≤ wb.heap.size := Nat.le_trans (by first | exact hzaa | (simp; omega)) hzb; have hBb : Below w2.heap.size w2 wb := Below.trans (by first | exact hBa | exact Below.alloc hBa hzaa _) (hbb.mono (by first | exact hzaa | (simp; omega))); (try (have hK5 : Bk wb w2.heap.size 42 #[.bool false, .slice none 0 0] := ((Bk.new w2.drew 42 #[.bool false, .slice none 0 0]).nx hba).nx hbb; obtain ⟨c50, c51⟩ := hK5.cell2; have f50 := hK5.frozen 0; have f51 := hK5.frozen 1)); (try (have hK6 := (Bk.new wa 42 #[.bool false, .slice none 0 0]).nx hbb; obtain ⟨c60, c61⟩ := hK6.cell2; have f60 := hK6.frozen 0; have f61 := hK6.frozen 1))))
     · go_wp2_with fail
       go_meet
       exact ⟨_, _, _, _, _, rfl, hzbb, Bk.new wb _ _, (hNb.alloc _).less hzaa, Below.alloc hBb hzbb _⟩
     · go_wp2_with fail
       go_meet
       simp only [World.size_alloc] at hzb
       exact ⟨_, _, _, _, _, rfl, hzaa, hK6.set2 _ _, (hNb.grown (gb2 wb _ _ _) (.inl (by simp))).less (by simp; omega), below_of_gb hBb (gb2 wb _ _ _) hzaa hzbb⟩
     · go_wp2_with fail
       go_meet
       have hza2 : w2.heap.size + 1 ≤ wa.heap.size := by simpa using hza
       exact ⟨_, _, _, _, _, rfl, Nat.le_refl _, hK5.set2 _ _, (hNb.grown (gb2 wb _ _ _) (.inl (by omega))).less hzaa, below_of_gb hBb (gb2 wb _ _ _) (Nat.le_refl _) hzbb⟩
    case rest =>
      obtain ⟨g2, sy, Ay, ny, cy, rfl, hg2, hKy, hNy, hBy⟩ := hcut
      clear d21 d22 hE2
      obtain ⟨w3, rfl⟩ : ∃ w3 : World, w3 = wc := ⟨_, rfl⟩
      have hb3 := hb2.trans (hBy.mono (by omega))
      have hK03 := hK02.below hBy (by omega)
      have hKx3 := hKx.below hBy hlx
      have hNx3 := hNx.nx hBy
      have hzy := hBy.size
      have hly := hKy.lt
      have hbw3 : b < w3.heap.size := by omega
      have d31 := (hb3.cell (p := ⟨b, o + 10, none⟩) b2).trans p5'
      have d32 := (hb3.cell (p := ⟨b, o + 11, none⟩) b2).trans q5'
      have hE3 := hE5.nx hb3
      obtain ⟨x0, x1⟩ := hKx3.cell2
      obtain ⟨y0, y1⟩ := hKy.cell2
      have hG0 : w3.grownBy w3.drew (some w.heap.size) := gb_drew (World.grownBy.refl w3 _)
      have hKr0 : Bk w3.drew w.heap.size 42 #[.bool false, .slice none 0 0] := hK03
      have hoffE := hE5.off (g := some w.heap.size) (fun k hk => .inr (by injection hk; omega))
      have hix : w.heap.size < w1.heap.size := hl1
      have hiy : w.heap.size < w2.heap.size := by omega
      have C := And.intro (And.intro x0 x1) (And.intro (And.intro y0 y1) (And.intro d31 d32))
      have hn1 : g1 < w3.heap.size ∧ g1 ≠ w.heap.size := by omega
      have hn2 : g2 < w3.heap.size ∧ g2 ≠ w.heap.size := by omega
      have hn3 : b < w3.heap.size ∧ b ≠ w.heap.size := by omega
      go_wp2_with fail
      go_region_held3 (fun w' => ((w'.cell? ⟨g1, 0, none⟩ = some (.bool sx) ∧ w'.cell? ⟨g1, 1, none⟩ = some (.slice Ax nx cx)) ∧ (w'.cell? ⟨g2, 0, none⟩ = some (.bool sy) ∧ w'.cell? ⟨g2, 1, none⟩ = some (.slice Ay ny cy)) ∧
          (w'.cell? ⟨b, o + 10, none⟩ = some (.bool s5) ∧ w'.cell? ⟨b, o + 11, none⟩ = some (.slice A5 n5 c5))) ∧ w3.grownBy w' (some w.heap.size))
       (first
       | exact keepG C hn1 hn2 hn3 hG0
       | exact keepG C hn1 hn2 hn3 hG1
       | exact keepG C hn1 hn2 hn3 hG2
       | exact keepG C hn1 hn2 hn3 hG3
       | exact keepG C hn1 hn2 hn3 hG4
       | exact keepG C hn1 hn2 hn3 (gb_trans hG4 (gb2 _ _ _ _) (fun g hg => .inl hg.symm))
       | exact keepG C hn1 hn2 hn3 (gb_trans hG4 (gb2 _ _ _ _) (fun g hg => .inl hg))
       | exact keepG C hn1 hn2 hn3 (World.grownBy.refl _ _))
       (first
       | (go_at_call 42; (with_reducible refine (add_any (lo := w1.heap.size) (lo' := w2.heap.size) _ _ (z3 * X) (z4 * Y) _ (hNx3.grown (by first | exact hG0 | exact hG1 | exact hG2) (.inl hix)) (hNy.grown (by first | exact hG0 | exact hG1 | exact hG2) (.inl hiy)) t1 t2).mono ?_); rintro e wp ⟨vp, rfl, hNp, hbp⟩; obtain ⟨sp, Ap, np, cp1, rfl⟩ := hNp.shape; have hG3 : w3.grownBy wp (some w.heap.size) := gb_nx (by first | exact hG0 | exact hG1 | exact hG2) hbp; have hKp : Bk wp w.heap.size 42 #[.bool false, .slice none 0 0] := Bk.nx (by first | exact hKr0 | exact hKo | exact hKm) hbp)
       | (go_at_call 39; (with_reducible refine (of_any D _ hD1 hD2).mono ?_); rintro e wo ⟨vo, rfl, hNo, hbo⟩; obtain ⟨so, Ao, no, co, rfl⟩ := hNo.shape; have hG1 : w3.grownBy wo (some w.heap.size) := gb_nx (by first | exact hG0 | exact hG3) hbo; have hKo : Bk wo w.heap.size 42 #[.bool false, .slice none 0 0] := Bk.nx (by first | exact hKr0 | exact hKp) hbo)
       | (go_at_call 41; (with_reducible refine (mul_any (lo := lo) (lo' := 0) _ _ z5 D _ (hE3.kept hoffE (by first | exact hG1 | exact hG3)) (by first | exact hNo.any | exact (hNo.nx hbp).any) hs5 hSD).mono ?_); rintro e wm ⟨vm, rfl, hNm, hbm⟩; obtain ⟨sm, Am, nm, cm, rfl⟩ := hNm.shape; have hG2 : w3.grownBy wm (some w.heap.size) := gb_nx (by first | exact hG1 | exact hG3) hbm; have hKm : Bk wm w.heap.size 42 #[.bool false, .slice none 0 0] := Bk.nx (by first | exact hKo | exact hKp) hbm)
       | (go_at_call 42; (with_reducible refine (add_any (lo := 0) (lo' := 0) _ _ (z3 * X + z4 * Y) (z5 * D) _ (by first | exact hNp.any | exact (hNp.nx hbm).any | exact ((hNp.nx hbo).nx hbm).any) (by first | exact hNm.any | exact (hNm.nx hbp).any) t4 t3).mono ?_); rintro e wd ⟨vd, rfl, hNd, hbd⟩; obtain ⟨sd, Ad, nd, cd, rfl⟩ := hNd.shape; have hG4 : w3.grownBy wd (some w.heap.size) := gb_nx (by first | exact hG2 | exact hG3) hbd; have hKd : Bk wd w.heap.size 42 #[.bool false, .slice none 0 0] := Bk.nx (by first | exact hKm | exact hKp) hbd; obtain ⟨u0, u1⟩ := hKd.cell2; have f0 := hKd.frozen 0; have f1 := hKd.frozen 1))
      all_goals
        go_wp2_with fail
        refine bodyPost_ret (res_big rfl (hKd.set2 _ _) rfl) rfl ?_
        rw [HU.out]
        have hbz := below_of_gb hb3 hG4 (Nat.le_refl _) hb3.size
        exact ⟨_, rfl, (hNd.grown (gb2 wd _ _ _) (.inl (by first | exact hKm.lt | exact hKp.lt))).less (by first | exact Nat.le_of_lt hKm.lt | exact Nat.le_of_lt hKp.lt), below_of_gb hbz (gb2 wd _ _ _) (Nat.le_refl _) hbz.size⟩
set_option maxRecDepth 100000 in
set_option maxHeartbeats 4000000 in
theorem under2_any (v : Value) (es : List Int) (X Y D : Int) (w : World) {lo : Nat} (hv : Bigs lo w v es) (hl : es.length = 9) (hz : ∀ k, Ea (es.getD k 0)) (hX : I64 X) (hY : I64 Y) (hD : I64 D) :
    Calls Try.prog 19 #[v, .int .i64 2, .int .i64 X, .int .i64 Y, .int .i64 D] w fun e w' => ∃ u, e = .returned u ∧ BigN w.heap.size w' u (undZ es 2 X Y D) ∧ Below w.heap.size w w' := by
  obtain ⟨A, cp, rfl, hcp1, hcp2⟩ := hv.form
  have hv' : Bigs lo w (.slice A 9 cp) es := hl ▸ hv
  rw [hl]
  have HU := Lib.hid (show undZ es 2 X Y D = es.getD 6 0 * X + es.getD 7 0 * Y + es.getD 8 0 * D from rfl)
  obtain ⟨b, o, s6, A6, n6, c6, rfl, b1, b2, p6, q6, hE6⟩ := hv'.get 6 (by omega)
  obtain ⟨b', o', s7, A7, n7, c7, hbo, _, _, p7, q7, hE7⟩ := hv'.get 7 (by omega)
  injection hbo with hbo
  injection hbo with hbo1 hbo2
  subst hbo1 hbo2
  obtain ⟨b', o', s8, A8, n8, c8, hbo, _, _, p8, q8, hE8⟩ := hv'.get 8 (by omega)
  injection hbo with hbo
  injection hbo with hbo1 hbo2
  subst hbo1 hbo2
  have hm6 := ea_mul (hz 6) hX
  have hs6 := ea_sm (hz 6)
  have hm7 := ea_mul (hz 7) hY
  have hs7 := ea_sm (hz 7)
  have hm8 := ea_mul (hz 8) hD
  have hs8 := ea_sm (hz 8)
  have hX1 := hX.1
  have hX2 := hX.2
  have hY1 := hY.1
  have hY2 := hY.2
  have hD1 := hD.1
  have hD2 := hD.2
  have hSX := i64_sm hX
  have hSY := i64_sm hY
  have hSD := i64_sm hD
  generalize es.getD 6 0 = z6 at *
  generalize es.getD 7 0 = z7 at *
  generalize es.getD 8 0 = z8 at *
  have p6' : w.cell? ⟨b, o + 12, none⟩ = some (.bool s6) := p6
  have q6' : w.cell? ⟨b, o + 13, none⟩ = some (.slice A6 n6 c6) := q6
  clear p6 q6
  have p7' : w.cell? ⟨b, o + 14, none⟩ = some (.bool s7) := p7
  have q7' : w.cell? ⟨b, o + 15, none⟩ = some (.slice A7 n7 c7) := q7
  clear p7 q7
  have p8' : w.cell? ⟨b, o + 16, none⟩ = some (.bool s8) := p8
  have q8' : w.cell? ⟨b, o + 17, none⟩ = some (.slice A8 n8 c8) := q8
  clear p8 q8
  have h24 := Bp1s 24
  have h25 := Bp_mono (show 25 ≤ 38 by omega)
  have h26 := Bp_pos 24
  simp only [Nat.reduceAdd] at h24
  have t1 : Sm (z6 * X) := sm_38 (by omega)
  have t2 : Sm (z7 * Y) := sm_38 (by omega)
  have t3 : Sm (z8 * D) := sm_38 (by omega)
  have t4 : Sm (z6 * X + z7 * Y) := sm_38 (by omega)
  clear hl hz hv hcp1 h24 h25 h26 hm6 hm7 hm8 hv'
  have hK0 := Bk.new w 42 #[.bool false, .slice none 0 0]
  have hb00 : Below w.heap.size w (w.alloc (.cells #[.bool false, .slice none 0 0] 42)) := by go_grown
  have hw0 : IntKind.i64.wrap (3 * 2) = 6 := by decide
  have hw0' : IntKind.i64.wrap 6 = 6 := by decide
  have hw1 : IntKind.i64.wrap (6 + 1) = 7 := by decide
  have hw1' : IntKind.i64.wrap 7 = 7 := by decide
  have hw2 : IntKind.i64.wrap (6 + 2) = 8 := by decide
  have hw2' : IntKind.i64.wrap 8 = 8 := by decide
  go_enter Try.func19, Try.ntmps19
  go_upto_region 1 with fail
  generalize w.alloc (.cells #[.bool false, .slice none 0 0] 42) = w1 at *
  have hl1 := hK0.lt
  have hbw1 : b < w1.heap.size := by omega
  have d11 := (hb00.cell (p := ⟨b, o + 12, none⟩) b2).trans p6'
  have d12 := (hb00.cell (p := ⟨b, o + 13, none⟩) b2).trans q6'
  have hE1 := hE6.nx hb00
  go_upto_region 1 with fail
  go_cut [11] (fun p wx => ∃ (g : Nat) (s : Bool) (A : Option Addr) (n c : Nat), p = .pointer (some ⟨g, 0, none⟩) ∧ w1.heap.size ≤ g ∧ Bk wx g 42 #[.bool s, .slice A n c] ∧ BigN w1.heap.size wx (.agg #[.bool s, .slice A n c]) (z6 * X) ∧ Below w1.heap.size w1 wx)
  case first =>
   go_region_held3 (fun w' => w'.cell? ⟨b, o + 12, none⟩ = some (.bool s6) ∧ w'.cell? ⟨b, o + 13, none⟩ = some (.slice A6 n6 c6) ∧ Below w1.heap.size w1 w')
    (first
    | exact keepD d11 d12 hbw1 hBb
    | exact keepD d11 d12 hbw1 hBa
    | (refine keepD d11 d12 hbw1 ?_; (first | done | exact Below.alloc hBb hzbb _ | exact Below.alloc hBa hzaa _ | go_grown)))
    (first
    | (go_at_call 39; (with_reducible refine (of_any X _ hX1 hX2).mono ?_); rintro e wa ⟨va, rfl, hNa, hba⟩; obtain ⟨sa, Aa, na, ca, rfl⟩ := hNa.shape; have hza := hba.size; have hzaa : w1.heap.size ≤ wa.heap.size := Nat.le_trans (by simp) hza; have hBa : Below w1.heap.size w1 wa := Below.trans (by go_grown) (hba.mono (by simp)))
    | (go_at_call 41; (with_reducible refine (mul_any _ _ _ _ _ (hE1.nx (by first | exact hBa | exact Below.alloc hBa hzaa _)) (hNa.nx (by first | exact Below.refl _ _ | go_grown)) hs6 hSX).mono ?_); rintro e wb ⟨vb, rfl, hNb, hbb⟩; obtain ⟨sb, Ab, nb, cb, rfl⟩ := hNb.shape; have hzb := hbb.size; have hzbb : w1.heap.size ≤ wb.heap.size := Nat.le_trans (by first | exact hzaa | (simp; omega)) hzb; have hBb : Below w1.heap.size w1 wb := Below.trans (by first | exact hBa | exact Below.alloc hBa hzaa _) (hbb.mono (by first | exact hzaa | (simp; omega))); (try (have hK5 : Bk wb w1.heap.size 42 #[.bool false, .slice none 0 0] := ((Bk.new w1.drew 42 #[.bool false, .slice none 0 0]).nx hba).nx hbb; obtain ⟨c50, c51⟩ := hK5.cell2; have f50 := hK5.frozen 0; have f51 := hK5.frozen 1)); (try (have hK6 := (Bk.new wa 42 #[.bool false, .slice none 0 0]).nx hbb; obtain ⟨c60, c61⟩ := hK6.cell2; have f60 := hK6.frozen 0; have f61 := hK6.frozen 1))))
   · go_wp2_with fail
     go_meet
     exact ⟨_, _, _, _, _, rfl, hzbb, Bk.new wb _ _, (hNb.alloc _).less hzaa, Below.alloc hBb hzbb _⟩
   · go_wp2_with fail
     go_meet
     simp only [World.size_alloc] at hzb
     exact ⟨_, _, _, _, _, rfl, hzaa, hK6.set2 _ _, (hNb.grown (gb2 wb _ _ _) (.inl (by simp))).less (by simp; omega), below_of_gb hBb (gb2 wb _ _ _) hzaa hzbb⟩
   · go_wp2_with fail
     go_meet
     have hza2 : w1.heap.size + 1 ≤ wa.heap.size := by simpa using hza
     exact ⟨_, _, _, _, _, rfl, Nat.le_refl _, hK5.set2 _ _, (hNb.grown (gb2 wb _ _ _) (.inl (by omega))).less hzaa, below_of_gb hBb (gb2 wb _ _ _) (Nat.le_refl _) hzbb⟩
  case rest =>
    obtain ⟨g1, sx, Ax, nx, cx, rfl, hg1, hKx, hNx, hBx⟩ := hcut
    clear d11 d12 hE1
    obtain ⟨w2, rfl⟩ : ∃ w2 : World, w2 = wc := ⟨_, rfl⟩
    have hb2 := hb00.trans (hBx.mono (by omega))
    have hK02 := hK0.below hBx hl1
    have hzx := hBx.size
    have hlx := hKx.lt
    have hbw2 : b < w2.heap.size := by omega
    have d21 := (hb2.cell (p := ⟨b, o + 14, none⟩) b2).trans p7'
    have d22 := (hb2.cell (p := ⟨b, o + 15, none⟩) b2).trans q7'
    have hE2 := hE7.nx hb2
    go_upto_region 2 with fail
    go_cut [12] (fun p wx => ∃ (g : Nat) (s : Bool) (A : Option Addr) (n c : Nat), p = .pointer (some ⟨g, 0, none⟩) ∧ w2.heap.size ≤ g ∧ Bk wx g 42 #[.bool s, .slice A n c] ∧ BigN w2.heap.size wx (.agg #[.bool s, .slice A n c]) (z7 * Y) ∧ Below w2.heap.size w2 wx)
    case first =>
     go_region_held3 (fun w' => w'.cell? ⟨b, o + 14, none⟩ = some (.bool s7) ∧ w'.cell? ⟨b, o + 15, none⟩ = some (.slice A7 n7 c7) ∧ Below w2.heap.size w2 w')
      (first
      | exact keepD d21 d22 hbw2 hBb
      | exact keepD d21 d22 hbw2 hBa
      | (refine keepD d21 d22 hbw2 ?_; (first | done | exact Below.alloc hBb hzbb _ | exact Below.alloc hBa hzaa _ | go_grown)))
      (first
      | (go_at_call 39; (with_reducible refine (of_any Y _ hY1 hY2).mono ?_); rintro e wa ⟨va, rfl, hNa, hba⟩; obtain ⟨sa, Aa, na, ca, rfl⟩ := hNa.shape; have hza := hba.size; have hzaa : w2.heap.size ≤ wa.heap.size := Nat.le_trans (by simp) hza; have hBa : Below w2.heap.size w2 wa := Below.trans (by go_grown) (hba.mono (by simp)))
      | (go_at_call 41; (with_reducible refine (mul_any _ _ _ _ _ (hE2.nx (by first | exact hBa | exact Below.alloc hBa hzaa _)) (hNa.nx (by first | exact Below.refl _ _ | go_grown)) hs7 hSY).mono ?_); rintro e wb ⟨vb, rfl, hNb, hbb⟩; obtain ⟨sb, Ab, nb, cb, rfl⟩ := hNb.shape; have hzb := hbb.size; have hzbb : w2.heap.size ≤ wb.heap.size := Nat.le_trans (by first | exact hzaa | (simp; omega)) hzb; have hBb : Below w2.heap.size w2 wb := Below.trans (by first | exact hBa | exact Below.alloc hBa hzaa _) (hbb.mono (by first | exact hzaa | (simp; omega))); (try (have hK5 : Bk wb w2.heap.size 42 #[.bool false, .slice none 0 0] := ((Bk.new w2.drew 42 #[.bool false, .slice none 0 0]).nx hba).nx hbb; obtain ⟨c50, c51⟩ := hK5.cell2; have f50 := hK5.frozen 0; have f51 := hK5.frozen 1)); (try (have hK6 := (Bk.new wa 42 #[.bool false, .slice none 0 0]).nx hbb; obtain ⟨c60, c61⟩ := hK6.cell2; have f60 := hK6.frozen 0; have f61 := hK6.frozen 1))))
     · go_wp2_with fail
       go_meet
       exact ⟨_, _, _, _, _, rfl, hzbb, Bk.new wb _ _, (hNb.alloc _).less hzaa, Below.alloc hBb hzbb _⟩
     · go_wp2_with fail
       go_meet
       simp only [World.size_alloc] at hzb
       exact ⟨_, _, _, _, _, rfl, hzaa, hK6.set2 _ _, (hNb.grown (gb2 wb _ _ _) (.inl (by simp))).less (by simp; omega), below_of_gb hBb (gb2 wb _ _ _) hzaa hzbb⟩
     · go_wp2_with fail
       go_meet
       have hza2 : w2.heap.size + 1 ≤ wa.heap.size := by simpa using hza
       exact ⟨_, _, _, _, _, rfl, Nat.le_refl _, hK5.set2 _ _, (hNb.grown (gb2 wb _ _ _) (.inl (by omega))).less hzaa, below_of_gb hBb (gb2 wb _ _ _) (Nat.le_refl _) hzbb⟩
    case rest =>
      obtain ⟨g2, sy, Ay, ny, cy, rfl, hg2, hKy, hNy, hBy⟩ := hcut
      clear d21 d22 hE2
      obtain ⟨w3, rfl⟩ : ∃ w3 : World, w3 = wc := ⟨_, rfl⟩
      have hb3 := hb2.trans (hBy.mono (by omega))
      have hK03 := hK02.below hBy (by omega)
      have hKx3 := hKx.below hBy hlx
      have hNx3 := hNx.nx hBy
      have hzy := hBy.size
      have hly := hKy.lt
      have hbw3 : b < w3.heap.size := by omega
      have d31 := (hb3.cell (p := ⟨b, o + 16, none⟩) b2).trans p8'
      have d32 := (hb3.cell (p := ⟨b, o + 17, none⟩) b2).trans q8'
      have hE3 := hE8.nx hb3
      obtain ⟨x0, x1⟩ := hKx3.cell2
      obtain ⟨y0, y1⟩ := hKy.cell2
      have hG0 : w3.grownBy w3.drew (some w.heap.size) := gb_drew (World.grownBy.refl w3 _)
      have hKr0 : Bk w3.drew w.heap.size 42 #[.bool false, .slice none 0 0] := hK03
      have hoffE := hE8.off (g := some w.heap.size) (fun k hk => .inr (by injection hk; omega))
      have hix : w.heap.size < w1.heap.size := hl1
      have hiy : w.heap.size < w2.heap.size := by omega
      have C := And.intro (And.intro x0 x1) (And.intro (And.intro y0 y1) (And.intro d31 d32))
      have hn1 : g1 < w3.heap.size ∧ g1 ≠ w.heap.size := by omega
      have hn2 : g2 < w3.heap.size ∧ g2 ≠ w.heap.size := by omega
      have hn3 : b < w3.heap.size ∧ b ≠ w.heap.size := by omega
      go_wp2_with fail
      go_region_held3 (fun w' => ((w'.cell? ⟨g1, 0, none⟩ = some (.bool sx) ∧ w'.cell? ⟨g1, 1, none⟩ = some (.slice Ax nx cx)) ∧ (w'.cell? ⟨g2, 0, none⟩ = some (.bool sy) ∧ w'.cell? ⟨g2, 1, none⟩ = some (.slice Ay ny cy)) ∧
          (w'.cell? ⟨b, o + 16, none⟩ = some (.bool s8) ∧ w'.cell? ⟨b, o + 17, none⟩ = some (.slice A8 n8 c8))) ∧ w3.grownBy w' (some w.heap.size))
       (first
       | exact keepG C hn1 hn2 hn3 hG0
       | exact keepG C hn1 hn2 hn3 hG1
       | exact keepG C hn1 hn2 hn3 hG2
       | exact keepG C hn1 hn2 hn3 hG3
       | exact keepG C hn1 hn2 hn3 hG4
       | exact keepG C hn1 hn2 hn3 (gb_trans hG4 (gb2 _ _ _ _) (fun g hg => .inl hg.symm))
       | exact keepG C hn1 hn2 hn3 (gb_trans hG4 (gb2 _ _ _ _) (fun g hg => .inl hg))
       | exact keepG C hn1 hn2 hn3 (World.grownBy.refl _ _))
       (first
       | (go_at_call 42; (with_reducible refine (add_any (lo := w1.heap.size) (lo' := w2.heap.size) _ _ (z6 * X) (z7 * Y) _ (hNx3.grown (by first | exact hG0 | exact hG1 | exact hG2) (.inl hix)) (hNy.grown (by first | exact hG0 | exact hG1 | exact hG2) (.inl hiy)) t1 t2).mono ?_); rintro e wp ⟨vp, rfl, hNp, hbp⟩; obtain ⟨sp, Ap, np, cp1, rfl⟩ := hNp.shape; have hG3 : w3.grownBy wp (some w.heap.size) := gb_nx (by first | exact hG0 | exact hG1 | exact hG2) hbp; have hKp : Bk wp w.heap.size 42 #[.bool false, .slice none 0 0] := Bk.nx (by first | exact hKr0 | exact hKo | exact hKm) hbp)
       | (go_at_call 39; (with_reducible refine (of_any D _ hD1 hD2).mono ?_); rintro e wo ⟨vo, rfl, hNo, hbo⟩; obtain ⟨so, Ao, no, co, rfl⟩ := hNo.shape; have hG1 : w3.grownBy wo (some w.heap.size) := gb_nx (by first | exact hG0 | exact hG3) hbo; have hKo : Bk wo w.heap.size 42 #[.bool false, .slice none 0 0] := Bk.nx (by first | exact hKr0 | exact hKp) hbo)
       | (go_at_call 41; (with_reducible refine (mul_any (lo := lo) (lo' := 0) _ _ z8 D _ (hE3.kept hoffE (by first | exact hG1 | exact hG3)) (by first | exact hNo.any | exact (hNo.nx hbp).any) hs8 hSD).mono ?_); rintro e wm ⟨vm, rfl, hNm, hbm⟩; obtain ⟨sm, Am, nm, cm, rfl⟩ := hNm.shape; have hG2 : w3.grownBy wm (some w.heap.size) := gb_nx (by first | exact hG1 | exact hG3) hbm; have hKm : Bk wm w.heap.size 42 #[.bool false, .slice none 0 0] := Bk.nx (by first | exact hKo | exact hKp) hbm)
       | (go_at_call 42; (with_reducible refine (add_any (lo := 0) (lo' := 0) _ _ (z6 * X + z7 * Y) (z8 * D) _ (by first | exact hNp.any | exact (hNp.nx hbm).any | exact ((hNp.nx hbo).nx hbm).any) (by first | exact hNm.any | exact (hNm.nx hbp).any) t4 t3).mono ?_); rintro e wd ⟨vd, rfl, hNd, hbd⟩; obtain ⟨sd, Ad, nd, cd, rfl⟩ := hNd.shape; have hG4 : w3.grownBy wd (some w.heap.size) := gb_nx (by first | exact hG2 | exact hG3) hbd; have hKd : Bk wd w.heap.size 42 #[.bool false, .slice none 0 0] := Bk.nx (by first | exact hKm | exact hKp) hbd; obtain ⟨u0, u1⟩ := hKd.cell2; have f0 := hKd.frozen 0; have f1 := hKd.frozen 1))
      all_goals
        go_wp2_with fail
        refine bodyPost_ret (res_big rfl (hKd.set2 _ _) rfl) rfl ?_
        rw [HU.out]
        have hbz := below_of_gb hb3 hG4 (Nat.le_refl _) hb3.size
        exact ⟨_, rfl, (hNd.grown (gb2 wd _ _ _) (.inl (by first | exact hKm.lt | exact hKp.lt))).less (by first | exact Nat.le_of_lt hKm.lt | exact Nat.le_of_lt hKp.lt), below_of_gb hbz (gb2 wd _ _ _) (Nat.le_refl _) hbz.size⟩
end Go.Proofs.Ytebcienjeponmaa
