/- Several texts in one: box.all: the least box around all places of a part. box.Of of a mesh, of a lens and of slants. -/
import Derived.Test.YtlbiiljncacdoaaGreatKL
import Derived.Test.YtlbiiljncacdoaaGreatK7
section
set_option linter.unusedVariables false
namespace Go.Proofs.YtlbiiljncacdoaaGreat
open Go.RowKit
attribute [local go_sem high] run_maxM run_minM
/-- A step of s from x0 on. -/
def On (s x0 x : Int) : Prop := x0 ≤ x ∧ (x - x0) % s = 0
/-- All places of a part: columns from x0 to X, rows from y0 to Y, every s-th. -/
def AlS (s x0 y0 X Y x y : Int) : Prop := (On s x0 x ∧ x ≤ X) ∧ (On s y0 y ∧ y ≤ Y)
def AlP (s x0 y0 X py px x y : Int) : Prop := (x = x0 ∧ y = y0) ∨ ((On s x0 x ∧ x ≤ X) ∧ (On s y0 y ∧ y < py)) ∨ (y = py ∧ On s x0 x ∧ x < px)
theorem alP_start {s x0 y0 X x y : Int} : (x = x0 ∧ y = y0) ↔ AlP s x0 y0 X y0 x0 x y := ⟨.inl, by unfold AlP On; omega⟩
theorem alP_step {s x0 y0 X py px x y : Int} (hs : s = 1 ∨ s = 2) (h : On s x0 px) : (AlP s x0 y0 X py px x y ∨ (x = px ∧ y = py)) ↔ AlP s x0 y0 X py (px + s) x y := by
  unfold AlP On at *
  rcases hs with rfl | rfl <;> omega
theorem alP_row {s x0 y0 X py px x y : Int} (hs : s = 1 ∨ s = 2) (h : On s x0 px) (hy : On s y0 py) (h1 : X < px) (h2 : px ≤ X + s) : AlP s x0 y0 X py px x y ↔ AlP s x0 y0 X (py + s) x0 x y := by
  unfold AlP On at *
  rcases hs with rfl | rfl <;> omega
theorem alP_end {s x0 y0 X Y py x y : Int} (hs : s = 1 ∨ s = 2) (hx : x0 ≤ X) (hy : y0 ≤ Y) (h : On s y0 py) (h1 : Y < py) (h2 : py ≤ Y + s) : AlP s x0 y0 X py x0 x y ↔ AlS s x0 y0 X Y x y := by
  unfold AlP AlS On at *
  rcases hs with rfl | rfl <;> omega
theorem on_step {s x0 px : Int} (hs : s = 1 ∨ s = 2) (h : On s x0 px) : On s x0 (px + s) := by
  unfold On at *
  rcases hs with rfl | rfl <;> omega
theorem on_start {s x0 : Int} : On s x0 x0 := by unfold On; simp
def stp (n : Int) : Int := if 0 < n then 2 else 1
theorem pa_bd {n x : Int} (hn : 0 ≤ n ∧ n ≤ 8) (hx : -4294967296 ≤ x ∧ x ≤ 4294967296) : (-70000000000 ≤ paF n x ∧ paF n x ≤ 70000000000) ∧ (-70000000000 ≤ paL n x ∧ paL n x ≤ 70000000000) := by
  have := nx_bd hn hx
  unfold paF paL
  constructor <;> split <;> omega
theorem pa_le {n a c : Int} (hn : 0 ≤ n ∧ n ≤ 8) (h : a < c) : paF n a ≤ paL n (c - 1) := by
  unfold paF paL
  by_cases h0 : n = 0
  · rw [if_pos h0, if_pos h0]; omega
  · rw [if_neg h0, if_neg h0]
    have := Int.mul_le_mul_of_nonneg_left (show a ≤ c - 1 by omega) (show 0 ≤ 2 * n by omega)
    omega
theorem keepP {w w' : World} {g : Nat} {v0 v1 v2 v3 v4 v5 : Value} (c : (w.cell? ⟨g, 0, none⟩ = some v0 ∧ w.cell? ⟨g, 1, none⟩ = some v1 ∧ w.cell? ⟨g, 2, none⟩ = some v2 ∧ w.cell? ⟨g, 3, none⟩ = some v3 ∧ w.cell? ⟨g, 4, none⟩ = some v4 ∧ w.cell? ⟨g, 5, none⟩ = some v5)) (hg : g < w.heap.size) (hb : Below w.heap.size w w') :
    (w'.cell? ⟨g, 0, none⟩ = some v0 ∧ w'.cell? ⟨g, 1, none⟩ = some v1 ∧ w'.cell? ⟨g, 2, none⟩ = some v2 ∧ w'.cell? ⟨g, 3, none⟩ = some v3 ∧ w'.cell? ⟨g, 4, none⟩ = some v4 ∧ w'.cell? ⟨g, 5, none⟩ = some v5) ∧ Below w.heap.size w w' :=
  ⟨⟨(hb.cell (p := ⟨g, 0, none⟩) hg).trans c.1, (hb.cell (p := ⟨g, 1, none⟩) hg).trans c.2.1, (hb.cell (p := ⟨g, 2, none⟩) hg).trans c.2.2.1, (hb.cell (p := ⟨g, 3, none⟩) hg).trans c.2.2.2.1, (hb.cell (p := ⟨g, 4, none⟩) hg).trans c.2.2.2.2.1, (hb.cell (p := ⟨g, 5, none⟩) hg).trans c.2.2.2.2.2⟩, hb⟩
theorem Lie.set4n {w0 w : World} {L : List (Nat × TypeId × Array Value)} {g : Nat} {t : TypeId} {x y z o : Value} (h : Lie w0 L w) (hK : Bk w g t #[x, y, z, o]) (hB : w0.heap.size ≤ g) (hne : ∀ q ∈ L, q.1 < g) (a b c d : Value) :
    Lie w0 ((g, t, #[a, b, c, d]) :: L) ((((w.setCell ⟨g, 0, none⟩ a).setCell ⟨g, 1, none⟩ b).setCell ⟨g, 2, none⟩ c).setCell ⟨g, 3, none⟩ d) :=
  h.upd (gb4 w g a b c d) hB (fun q hq => by
    rcases List.mem_cons.1 hq with rfl | hq
    · exact .inl ⟨rfl, hK.set4 a b c d⟩
    · exact .inr ⟨hq, fun e => by have := hne q hq; omega⟩)
set_option maxRecDepth 100000 in
set_option maxHeartbeats 16000000 in
theorem pall_any (p : Option Addr) (a b c d n : Int) (F G E : Int → Int → Int) (w : World) (hn : 0 ≤ n ∧ n ≤ 8) (ha : 0 ≤ a ∧ a < c ∧ c ≤ 32768) (hb : 0 ≤ b ∧ b < d ∧ d ≤ 32768)
    (hA : ∀ x y w', Below w.heap.size w w' → Calls Tryz.prog 24 #[.pointer p, .int .i64 x, .int .i64 y, .int .i64 (paD n)] w' fun e w'' => e = .returned (.tuple #[.int .i64 (F x y), .int .i64 (G x y), .int .i64 (E x y)]) ∧ Below w'.heap.size w' w'') :
    Calls Tryz.prog 112 #[paV p a b c d n] w fun e w' => ∃ u v s t, e = .returned (rc_rect4 u v s t) ∧ Bxd (AlS (stp n) (paF n a) (paF n b) (paL n (c - 1)) (paL n (d - 1))) F G u v s t ∧ Below w.heap.size w w' := by
  have hL := ((Lie.start w).alloc (paA p a b c d n) 162).alloc (rc_rectA 0 0 0 0) 83
  simp only [World.size_alloc] at hL
  have k0 := hL.k 1 (by simp)
  simp only [List.getElem_cons_zero, List.getElem_cons_succ] at k0
  have hP := fun (x y : Int) w' (hb : Below w.heap.size w w') => pat_any p a b c d n x y (F x y) (G x y) (E x y) w' hn (fun w'' hb' => hA x y w'' (hb.trans (hb'.mono hb.size)))
  have hF1 := fun w' => pfirst_any p a b c d n a w' hn (by omega)
  have hF2 := fun w' => pfirst_any p a b c d n b w' hn (by omega)
  have hF3 := fun w' => plast_any p a b c d n (c - 1) w' hn (by omega)
  have hF4 := fun w' => plast_any p a b c d n (d - 1) w' hn (by omega)
  clear hA
  have e1 : wrap64 (c - 1) = c - 1 := IntWalk.wrap64_in _ ⟨by omega, by omega⟩
  have e2 : wrap64 (d - 1) = d - 1 := IntWalk.wrap64_in _ ⟨by omega, by omega⟩
  have bx0 := (pa_bd (x := a) hn (by omega)).1
  have by0 := (pa_bd (x := b) hn (by omega)).1
  have bx1 := (pa_bd (x := c - 1) hn (by omega)).2
  have by1 := (pa_bd (x := d - 1) hn (by omega)).2
  have lx := pa_le hn ha.2.1
  have ly := pa_le hn hb.2.1
  generalize paF n a = x0 at *
  generalize paF n b = y0 at *
  generalize paL n (c - 1) = x1 at *
  generalize paL n (d - 1) = y1 at *
  obtain ⟨a0, a1, a2⟩ := ha
  obtain ⟨b0, b1, b2⟩ := hb
  obtain ⟨n0, n1⟩ := hn
  go_enter Tryz.func112, Tryz.ntmps112
  go_upto_region 1 with fail
  generalize hw1 : (w.alloc (.cells (paA p a b c d n) 162)).alloc (.cells (rc_rectA 0 0 0 0) 83) = w1 at *
  have hsz1 : w1.heap.size = w.heap.size + 2 := by rw [← hw1]; simp
  clear hw1
  have hSz := Lib.hid hsz1
  clear hsz1
  have hc6 := k0.cell6
  have hlt0 := k0.lt
  have hPp := hP x0 y0
  have hS0 : Hid (∀ s, Bxd (AlP s x0 y0 x1 y0 x0) F G (F x0 y0) (G x0 y0) (F x0 y0) (G x0 y0)) := fun s => (Bxd.one F G x0 y0).ext (fun x y => alP_start)
  generalize F x0 y0 = U at *
  generalize G x0 y0 = V at *
  obtain ⟨d0, d1, d2, d3, d4, d5⟩ := hc6
  go_cut [3] (fun p' wx => ∃ g, p' = .pointer (some ⟨g, 0, none⟩) ∧ w.heap.size + 1 < g ∧ Lie w [(g, 83, rc_rectA U V U V), (w.heap.size + 1, 83, rc_rectA 0 0 0 0), (w.heap.size, 162, paA p a b c d n)] wx)
  case first =>
    go_region_held3 (fun w' => (w'.cell? ⟨w.heap.size, 0, none⟩ = some (.pointer p) ∧ w'.cell? ⟨w.heap.size, 1, none⟩ = some (.int .i64 a) ∧ w'.cell? ⟨w.heap.size, 2, none⟩ = some (.int .i64 b) ∧ w'.cell? ⟨w.heap.size, 3, none⟩ = some (.int .i64 c) ∧ w'.cell? ⟨w.heap.size, 4, none⟩ = some (.int .i64 d) ∧ w'.cell? ⟨w.heap.size, 5, none⟩ = some (.int .i64 n)) ∧ Below w1.heap.size w1 w')
      (first
      | exact keepP ⟨d0, d1, d2, d3, d4, d5⟩ hlt0 hBc
      | exact keepP ⟨d0, d1, d2, d3, d4, d5⟩ hlt0 hBb
      | exact keepP ⟨d0, d1, d2, d3, d4, d5⟩ hlt0 hBa
      | (refine keepP ⟨d0, d1, d2, d3, d4, d5⟩ hlt0 (below_of_gb hBc (gb4 wc _ _ _ _ _) ?_ hBc.size); (first | exact Nat.le_refl _ | exact hBb.size | exact hBa.size))
      | (refine keepP ⟨d0, d1, d2, d3, d4, d5⟩ hlt0 ?_; (first | done | exact Below.alloc hBc hBc.size _ | exact Below.alloc hBb hBb.size _ | exact Below.alloc hBa hBa.size _ | go_grown)))
      (first
      | (go_at_call 172; (with_reducible refine (hF1 _).mono ?_); rintro e wa ⟨rfl, hba⟩; have hBa : Below w1.heap.size w1 wa := Below.trans (by go_grown) (hba.mono (by simp)); (try (have hKa : Bk wa w1.heap.size 83 (rc_rectA 0 0 0 0) := (Bk.new w1.drew 83 (rc_rectA 0 0 0 0)).nx hba)))
      | (go_at_call 172; (with_reducible refine (hF2 _).mono ?_); rintro e wb ⟨rfl, hbb⟩; have hBb : Below w1.heap.size w1 wb := Below.trans (by first | exact hBa | exact Below.alloc hBa hBa.size _) (hbb.mono (by first | exact hBa.size | (have := hBa.size; simp; omega))); (try (have hKb : Bk wb w1.heap.size 83 (rc_rectA 0 0 0 0) := hKa.nx hbb)); (try (have hKb2 : Bk wb wa.heap.size 83 (rc_rectA 0 0 0 0) := (Bk.new wa 83 (rc_rectA 0 0 0 0)).nx hbb)))
      | (go_at_call 171; (with_reducible refine (hPp _ (hL.bel.trans (Below.mono (by first | exact hBb | exact Below.alloc hBb hBb.size _) hL.sz))).mono ?_); rintro e wc ⟨rfl, hbc⟩; have hBc : Below w1.heap.size w1 wc := Below.trans (by first | exact hBb | exact Below.alloc hBb hBb.size _) (hbc.mono (by first | exact hBb.size | (have := hBb.size; simp; omega))); (try (have hKc : Bk wc w1.heap.size 83 (rc_rectA 0 0 0 0) := hKb.nx hbc; obtain ⟨c0, c1, c2, c3⟩ := hKc.cell4; have f0 := hKc.frozen 0; have f1 := hKc.frozen 1; have f2 := hKc.frozen 2; have f3 := hKc.frozen 3)); (try (have hKc : Bk wc wa.heap.size 83 (rc_rectA 0 0 0 0) := hKb2.nx hbc; obtain ⟨c0, c1, c2, c3⟩ := hKc.cell4; have f0 := hKc.frozen 0; have f1 := hKc.frozen 1; have f2 := hKc.frozen 2; have f3 := hKc.frozen 3)); (try (have hKc : Bk wc wb.heap.size 83 (rc_rectA 0 0 0 0) := (Bk.new wb 83 (rc_rectA 0 0 0 0)).nx hbc; obtain ⟨c0, c1, c2, c3⟩ := hKc.cell4; have f0 := hKc.frozen 0; have f1 := hKc.frozen 1; have f2 := hKc.frozen 2; have f3 := hKc.frozen 3))))
    all_goals
      go_wp2_with fail
      go_meet
      have hLc := hL.nx hBc
      have z1 := hBa.size
      have z2 := hBb.size
      have z3 := hBc.size
      have z4 := hSz.out
      first
      | exact ⟨_, rfl, by omega, hLc.set4n hKc (by omega) (by intro q hq; simp only [List.mem_cons, List.not_mem_nil, or_false] at hq; rcases hq with rfl | rfl <;> (simp only []; omega)) _ _ _ _⟩
      | exact ⟨_, rfl, by omega, hLc.alloc _ _⟩
  case rest =>
    obtain ⟨g, rfl, hg, hL3⟩ := hcut
    clear hSz hL hlt0 hPp d0 d1 d2 d3 d4 d5 k0
    have kpc := hL3.k 2 (by simp)
    simp only [List.getElem_cons_zero, List.getElem_cons_succ] at kpc
    obtain ⟨q0, q1, q2, q3, q4, q5⟩ := kpc.cell6
    by_cases hn0 : 0 < n
    · have hst : Hid (stp n = 2) := if_pos hn0
      go_wp2_with (first
        | (refine ldB rfl _ _ rfl kpc rfl Tryz.underlying162 rfl pa_size ?_)
        | (go_at_call 172; (with_reducible refine (hF2 _).mono ?_); rintro e wd ⟨rfl, hbd⟩))
      have hL4 := hL3.nx hbd
      clear hL3 hbd kpc q0 q1 q2 q3 q4 q5
      go_loopw [5] (fun i wr => ∃ py u v s t : Int, i = .int .i64 py ∧ On 2 y0 py ∧ py ≤ y1 + 2 ∧ Bxd (AlP 2 x0 y0 x1 py x0) F G u v s t ∧ Lie w [(g, 83, rc_rectA u v s t), (w.heap.size + 1, 83, rc_rectA 0 0 0 0), (w.heap.size, 162, paA p a b c d n)] wr) (fun i _ => (y1 + 3 - intOf i).toNat)
      case atStart => exact ⟨y0, U, V, U, V, rfl, on_start, by omega, hS0.out 2, hL4⟩
      case round =>
        clear hS0 hL4
        obtain ⟨py, u, v, s, t, rfl, hoy, hpy, hS, hL⟩ := hrel
        have hoy1 := hoy.1
        have kp := hL.k 2 (by simp)
        simp only [List.getElem_cons_zero, List.getElem_cons_succ] at kp
        obtain ⟨q0, q1, q2, q3, q4, q5⟩ := kp.cell6
        by_cases hlt : py ≤ y1
        · go_wp2_with (first
            | (refine ldB rfl _ _ rfl kp rfl Tryz.underlying162 rfl pa_size ?_)
            | (go_at_call 173; (with_reducible refine (hF4 _).mono ?_); rintro e we ⟨rfl, hbe⟩; have hL5 := hL.nx hbe; have kp5 : Bk we w.heap.size 162 (paA p a b c d n) := hL5.k 2 (by simp); have q5' := kp5.cell6; obtain ⟨r0, r1, r2, r3, r4, r5⟩ := q5')
            | (refine ldB rfl _ _ rfl kp5 rfl Tryz.underlying162 rfl pa_size ?_)
            | (go_at_call 172; (with_reducible refine (hF1 _).mono ?_); rintro e wf ⟨rfl, hbf⟩))
          have hL6 := hL5.nx hbf
          clear hL hL5 hbe hbf kp kp5 q0 q1 q2 q3 q4 q5 r0 r1 r2 r3 r4 r5
          go_loopw [6] (fun i wr => ∃ px u v s t : Int, i = .int .i64 px ∧ On 2 x0 px ∧ px ≤ x1 + 2 ∧ Bxd (AlP 2 x0 y0 x1 py px) F G u v s t ∧ Lie w [(g, 83, rc_rectA u v s t), (w.heap.size + 1, 83, rc_rectA 0 0 0 0), (w.heap.size, 162, paA p a b c d n)] wr) (fun i _ => (x1 + 3 - intOf i).toNat)
          case atStart => exact ⟨x0, u, v, s, t, rfl, on_start, by omega, hS, hL6⟩
          case round =>
            clear hS hL6
            obtain ⟨px, u, v, s, t, rfl, hox, hpx, hS, hL⟩ := hrel
            have hox1 := hox.1
            have kp := hL.k 2 (by simp)
            simp only [List.getElem_cons_zero, List.getElem_cons_succ] at kp
            obtain ⟨q0, q1, q2, q3, q4, q5⟩ := kp.cell6
            by_cases hlx : px ≤ x1
            · have hS2 := (hS.add px py).ext (fun x y => alP_step (s := 2) (by decide) hox)
              have hAt := hP px py
              clear hS
              generalize F px py = fp at *
              generalize G px py = gp at *
              go_upto_region 11 with (first
                | (refine ldB rfl _ _ rfl kp rfl Tryz.underlying162 rfl pa_size ?_)
                | (go_at_call 173; (with_reducible refine (hF3 _).mono ?_); rintro e wh ⟨rfl, hbh⟩))
              have hL7 := hL.nx hbh
              have kg7 : Bk wh g 83 (rc_rectA u v s t) := hL7.k 0 (by simp)
              have kp7 : Bk wh w.heap.size 162 (paA p a b c d n) := hL7.k 2 (by simp)
              have hAt2 := fun (n : Nat) (os : Array Obj) => hAt _ (hL7.nx (below_regrown wh n os)).bel
              clear hL hbh kp q0 q1 q2 q3 q4 q5 hAt
              refine wp_region_quiet_tail 6 (by kernel_rfl) (by kernel_rfl) ?_
              simp only [List.take_succ_cons, List.take_zero, List.drop_succ_cons, List.drop_zero]
              repeat (first
                | (refine wpQuiet_load rfl _ _ rfl kg7 rfl Tryz.underlying83 rfl bx_size ?_; simp only [Act.put, List.setIfInBounds_toArray, List.set_cons_zero, List.set_cons_succ])
                | (refine wpQuiet_load rfl _ _ rfl kp7 rfl Tryz.underlying162 rfl pa_size ?_; simp only [Act.put, List.setIfInBounds_toArray, List.set_cons_zero, List.set_cons_succ])
                | go_big_quiet_step ((first | with_reducible exact quiet_below (hAt2 _ _) | with_reducible exact quiet_below (around_any _ _ _ _ _ _ _ _ _)))
                | quiet_step ((first | with_reducible exact quiet_below (hAt2 _ _) | with_reducible exact quiet_below (around_any _ _ _ _ _ _ _ _ _))))
              refine wpQuiet_nil ?_
              intro _ hw'
              obtain ⟨⟨dd, os⟩, hw''⟩ := hw'
              subst hw''
              have hL8 := hL7.nx (below_regrown wh dd os)
              generalize Go.Sort.grow (redrawn wh dd) os = wx at *
              have kg8 : Bk wx g 83 (rc_rectA u v s t) := hL8.k 0 (by simp)
              clear hL7 kg7 kp7 hAt2
              go_wp2_with (first
                | (refine stB (ty := 83) rfl _ _ rfl kg8 (rc_rectA (min u fp) (min v gp) (max s fp) (max t gp)) rfl rfl bx_size rfl (by simp [Value.oneCell']) ?_; intro wk kgk hgk hsk))
              have hLk : Lie w [(g, 83, rc_rectA (min u fp) (min v gp) (max s fp) (max t gp)), (w.heap.size + 1, 83, rc_rectA 0 0 0 0), (w.heap.size, 162, paA p a b c d n)] wk := hL8.upd hgk (by omega) (by
                intro q hq
                simp only [List.mem_cons, List.not_mem_nil, or_false] at hq
                rcases hq with rfl | rfl | rfl
                · exact .inl ⟨rfl, kgk⟩
                · exact .inr ⟨by simp, by show w.heap.size + 1 ≠ g; omega⟩
                · exact .inr ⟨by simp, by show w.heap.size ≠ g; omega⟩)
              exact ⟨⟨px + 2, _, _, _, _, by go_num, on_step (by decide) hox, by omega, hS2, hLk⟩, by simp [intOf]; omega⟩
            · have hS2 := hS.ext (fun x y => alP_row (s := 2) (by decide) hox hoy (by omega) hpx)
              clear hS
              go_wp2_with (first
                | (refine ldB rfl _ _ rfl kp rfl Tryz.underlying162 rfl pa_size ?_)
                | (go_at_call 173; (with_reducible refine (hF3 _).mono ?_); rintro e wh ⟨rfl, hbh⟩))
              exact ⟨⟨py + 2, u, v, s, t, by go_num, on_step (by decide) hoy, by omega, hS2, hL.nx hbh⟩, by simp [intOf]; omega⟩
        · have hS2 := hS.ext (fun x y => alP_end (s := 2) (by decide) lx ly hoy (by omega) hpy)
          go_wp2_with (first
            | (refine ldB rfl _ _ rfl kp rfl Tryz.underlying162 rfl pa_size ?_)
            | (go_at_call 173; (with_reducible refine (hF4 _).mono ?_); rintro e we ⟨rfl, hbe⟩; have hL5 := hL.nx hbe; have kg5 : Bk we g 83 (rc_rectA u v s t) := hL5.k 0 (by simp); have kr5 : Bk we (w.heap.size + 1) 83 (rc_rectA 0 0 0 0) := hL5.k 1 (by simp))
            | (refine ldB rfl _ _ rfl kg5 rfl Tryz.underlying83 rfl bx_size ?_)
            | (refine stB (ty := 83) rfl _ _ rfl kr5 (rc_rectA u v s t) rfl rfl bx_size rfl (by simp [Value.oneCell']) ?_; intro wk krk hgk hsk))
          refine bodyPost_ret (res_cell rfl krk rfl Tryz.underlying83 rfl bx_size) rfl ?_
          exact ⟨u, v, s, t, rfl, by rw [hst.out]; exact hS2, below_of_gb hL5.bel hgk (by omega) hL5.sz⟩
    · have hst : Hid (stp n = 1) := if_neg hn0
      go_wp2_with (first
        | (refine ldB rfl _ _ rfl kpc rfl Tryz.underlying162 rfl pa_size ?_)
        | (go_at_call 172; (with_reducible refine (hF2 _).mono ?_); rintro e wd ⟨rfl, hbd⟩))
      have hL4 := hL3.nx hbd
      clear hL3 hbd kpc q0 q1 q2 q3 q4 q5
      go_loopw [5] (fun i wr => ∃ py u v s t : Int, i = .int .i64 py ∧ On 1 y0 py ∧ py ≤ y1 + 1 ∧ Bxd (AlP 1 x0 y0 x1 py x0) F G u v s t ∧ Lie w [(g, 83, rc_rectA u v s t), (w.heap.size + 1, 83, rc_rectA 0 0 0 0), (w.heap.size, 162, paA p a b c d n)] wr) (fun i _ => (y1 + 3 - intOf i).toNat)
      case atStart => exact ⟨y0, U, V, U, V, rfl, on_start, by omega, hS0.out 1, hL4⟩
      case round =>
        clear hS0 hL4
        obtain ⟨py, u, v, s, t, rfl, hoy, hpy, hS, hL⟩ := hrel
        have hoy1 := hoy.1
        have kp := hL.k 2 (by simp)
        simp only [List.getElem_cons_zero, List.getElem_cons_succ] at kp
        obtain ⟨q0, q1, q2, q3, q4, q5⟩ := kp.cell6
        by_cases hlt : py ≤ y1
        · go_wp2_with (first
            | (refine ldB rfl _ _ rfl kp rfl Tryz.underlying162 rfl pa_size ?_)
            | (go_at_call 173; (with_reducible refine (hF4 _).mono ?_); rintro e we ⟨rfl, hbe⟩; have hL5 := hL.nx hbe; have kp5 : Bk we w.heap.size 162 (paA p a b c d n) := hL5.k 2 (by simp); have q5' := kp5.cell6; obtain ⟨r0, r1, r2, r3, r4, r5⟩ := q5')
            | (refine ldB rfl _ _ rfl kp5 rfl Tryz.underlying162 rfl pa_size ?_)
            | (go_at_call 172; (with_reducible refine (hF1 _).mono ?_); rintro e wf ⟨rfl, hbf⟩))
          have hL6 := hL5.nx hbf
          clear hL hL5 hbe hbf kp kp5 q0 q1 q2 q3 q4 q5 r0 r1 r2 r3 r4 r5
          go_loopw [6] (fun i wr => ∃ px u v s t : Int, i = .int .i64 px ∧ On 1 x0 px ∧ px ≤ x1 + 1 ∧ Bxd (AlP 1 x0 y0 x1 py px) F G u v s t ∧ Lie w [(g, 83, rc_rectA u v s t), (w.heap.size + 1, 83, rc_rectA 0 0 0 0), (w.heap.size, 162, paA p a b c d n)] wr) (fun i _ => (x1 + 3 - intOf i).toNat)
          case atStart => exact ⟨x0, u, v, s, t, rfl, on_start, by omega, hS, hL6⟩
          case round =>
            clear hS hL6
            obtain ⟨px, u, v, s, t, rfl, hox, hpx, hS, hL⟩ := hrel
            have hox1 := hox.1
            have kp := hL.k 2 (by simp)
            simp only [List.getElem_cons_zero, List.getElem_cons_succ] at kp
            obtain ⟨q0, q1, q2, q3, q4, q5⟩ := kp.cell6
            by_cases hlx : px ≤ x1
            · have hS2 := (hS.add px py).ext (fun x y => alP_step (s := 1) (by decide) hox)
              have hAt := hP px py
              clear hS
              generalize F px py = fp at *
              generalize G px py = gp at *
              go_upto_region 11 with (first
                | (refine ldB rfl _ _ rfl kp rfl Tryz.underlying162 rfl pa_size ?_)
                | (go_at_call 173; (with_reducible refine (hF3 _).mono ?_); rintro e wh ⟨rfl, hbh⟩))
              have hL7 := hL.nx hbh
              have kg7 : Bk wh g 83 (rc_rectA u v s t) := hL7.k 0 (by simp)
              have kp7 : Bk wh w.heap.size 162 (paA p a b c d n) := hL7.k 2 (by simp)
              have hAt2 := fun (n : Nat) (os : Array Obj) => hAt _ (hL7.nx (below_regrown wh n os)).bel
              clear hL hbh kp q0 q1 q2 q3 q4 q5 hAt
              refine wp_region_quiet_tail 6 (by kernel_rfl) (by kernel_rfl) ?_
              simp only [List.take_succ_cons, List.take_zero, List.drop_succ_cons, List.drop_zero]
              repeat (first
                | (refine wpQuiet_load rfl _ _ rfl kg7 rfl Tryz.underlying83 rfl bx_size ?_; simp only [Act.put, List.setIfInBounds_toArray, List.set_cons_zero, List.set_cons_succ])
                | (refine wpQuiet_load rfl _ _ rfl kp7 rfl Tryz.underlying162 rfl pa_size ?_; simp only [Act.put, List.setIfInBounds_toArray, List.set_cons_zero, List.set_cons_succ])
                | go_big_quiet_step ((first | with_reducible exact quiet_below (hAt2 _ _) | with_reducible exact quiet_below (around_any _ _ _ _ _ _ _ _ _)))
                | quiet_step ((first | with_reducible exact quiet_below (hAt2 _ _) | with_reducible exact quiet_below (around_any _ _ _ _ _ _ _ _ _))))
              refine wpQuiet_nil ?_
              intro _ hw'
              obtain ⟨⟨dd, os⟩, hw''⟩ := hw'
              subst hw''
              have hL8 := hL7.nx (below_regrown wh dd os)
              generalize Go.Sort.grow (redrawn wh dd) os = wx at *
              have kg8 : Bk wx g 83 (rc_rectA u v s t) := hL8.k 0 (by simp)
              clear hL7 kg7 kp7 hAt2
              go_wp2_with (first
                | (refine stB (ty := 83) rfl _ _ rfl kg8 (rc_rectA (min u fp) (min v gp) (max s fp) (max t gp)) rfl rfl bx_size rfl (by simp [Value.oneCell']) ?_; intro wk kgk hgk hsk))
              have hLk : Lie w [(g, 83, rc_rectA (min u fp) (min v gp) (max s fp) (max t gp)), (w.heap.size + 1, 83, rc_rectA 0 0 0 0), (w.heap.size, 162, paA p a b c d n)] wk := hL8.upd hgk (by omega) (by
                intro q hq
                simp only [List.mem_cons, List.not_mem_nil, or_false] at hq
                rcases hq with rfl | rfl | rfl
                · exact .inl ⟨rfl, kgk⟩
                · exact .inr ⟨by simp, by show w.heap.size + 1 ≠ g; omega⟩
                · exact .inr ⟨by simp, by show w.heap.size ≠ g; omega⟩)
              exact ⟨⟨px + 1, _, _, _, _, by go_num, on_step (by decide) hox, by omega, hS2, hLk⟩, by simp [intOf]; omega⟩
            · have hS2 := hS.ext (fun x y => alP_row (s := 1) (by decide) hox hoy (by omega) hpx)
              clear hS
              go_wp2_with (first
                | (refine ldB rfl _ _ rfl kp rfl Tryz.underlying162 rfl pa_size ?_)
                | (go_at_call 173; (with_reducible refine (hF3 _).mono ?_); rintro e wh ⟨rfl, hbh⟩))
              exact ⟨⟨py + 1, u, v, s, t, by go_num, on_step (by decide) hoy, by omega, hS2, hL.nx hbh⟩, by simp [intOf]; omega⟩
        · have hS2 := hS.ext (fun x y => alP_end (s := 1) (by decide) lx ly hoy (by omega) hpy)
          go_wp2_with (first
            | (refine ldB rfl _ _ rfl kp rfl Tryz.underlying162 rfl pa_size ?_)
            | (go_at_call 173; (with_reducible refine (hF4 _).mono ?_); rintro e we ⟨rfl, hbe⟩; have hL5 := hL.nx hbe; have kg5 : Bk we g 83 (rc_rectA u v s t) := hL5.k 0 (by simp); have kr5 : Bk we (w.heap.size + 1) 83 (rc_rectA 0 0 0 0) := hL5.k 1 (by simp))
            | (refine ldB rfl _ _ rfl kg5 rfl Tryz.underlying83 rfl bx_size ?_)
            | (refine stB (ty := 83) rfl _ _ rfl kr5 (rc_rectA u v s t) rfl rfl bx_size rfl (by simp [Value.oneCell']) ?_; intro wk krk hgk hsk))
          refine bodyPost_ret (res_cell rfl krk rfl Tryz.underlying83 rfl bx_size) rfl ?_
          exact ⟨u, v, s, t, rfl, by rw [hst.out]; exact hS2, below_of_gb hL5.bel hgk (by omega) hL5.sz⟩
end Go.Proofs.YtlbiiljncacdoaaGreat
end
section
set_option linter.unusedVariables false
namespace Go.Proofs.YtlbiiljncacdoaaGreat
open Go.RowKit
attribute [local go_sem high] run_maxM run_minM
set_option maxRecDepth 100000 in
set_option maxHeartbeats 8000000 in
theorem bof_all (k : Int) (A : Option Addr) (sn cp : Nat) (W H a b c d n : Int) (F G E : Int → Int → Int → Int) (w : World) (hN : NewIs k A sn cp W H w 0 F G E) (hk : k = 3 ∨ k = 5)
    (hW : 1 ≤ W ∧ W ≤ 32768) (hH : 1 ≤ H ∧ H ≤ 32768) (hr : ¬ rc_emptyR a b c d) (ha : 0 ≤ a) (hb : 0 ≤ b) (hc : c ≤ W) (hd : d ≤ H) (hn : 0 ≤ n ∧ n ≤ 8) :
    Calls Tryz.prog 48 #[.agg #[.int .i64 k, .slice A sn cp], .int .i64 W, .int .i64 H, rc_rect4 a b c d, .int .i64 n] w fun e w' =>
      ∃ u v s t, e = .returned (.tuple #[rc_rect4 u v s t, .int .i64 0]) ∧ Bxd (AlS (stp n) (paF n a) (paF n b) (paL n (c - 1)) (paL n (d - 1))) (fun x y => F x y (paD n)) (fun x y => G x y (paD n)) u v s t ∧ Below w.heap.size w w' := by
  have hL := (((Lie.start w).alloc #[.int .i64 k, .slice A sn cp] 31).alloc (rc_rectA a b c d) 78).alloc (rc_rectA 0 0 0 0) 83
  simp only [World.size_alloc] at hL
  have k5 := hL.k 2 (by simp)
  have k8 := hL.k 1 (by simp)
  have k10 := hL.k 0 (by simp)
  simp only [List.getElem_cons_zero, List.getElem_cons_succ] at k5 k8 k10
  have hac : a < c ∧ b < d := by simp only [rc_emptyR, rc_rightR, rc_inR] at hr; omega
  have hEm := fun w' => rc_empty_any a b c d w'
  rw [show decide (rc_emptyR a b c d) = false from decide_eq_false hr] at hEm
  have hIn := fun w' => rcin_any a b c d 0 0 W H w' hr
  rw [show decide (bothR a b c d 0 0 W H = (a, b, c, d)) = true from decide_eq_true (whole_in hr hW hH ha hb hc hd)] at hIn
  have hCo := fun (p : Option Addr) (w' : World) hA => pall_any p a b c d n (fun x y => F x y (paD n)) (fun x y => G x y (paD n)) (fun x y => E x y (paD n)) w' hn (by omega) (by omega) hA
  have b4 : (k == 4) = false := by rcases hk with rfl | rfl <;> rfl
  have b35 : (k == 3) = true ∨ ((k == 3) = false ∧ (k == 5) = true) := by rcases hk with rfl | rfl <;> simp
  clear hk
  obtain ⟨hn0, hn8⟩ := hn
  clear hr ha hb hc hd hac hW hH
  go_enter Tryz.func48, Tryz.ntmps48
  go_wp2_with fail
  replace hN := hN _ hL.bel
  generalize hw1 : (((w.alloc (.cells #[.int .i64 k, .slice A sn cp] 31)).alloc (.cells (rc_rectA a b c d) 78)).alloc (.cells (rc_rectA 0 0 0 0) 83)) = w1 at *
  clear hw1
  refine hN.mono ?_
  rintro e w2 ⟨p, rfl, _, hM, hb2⟩
  replace hM := hM rfl
  have hL2 := hL.nx hb2
  have k82 := k8.nx hb2
  have k52 := k5.nx hb2
  have k102 := k10.nx hb2
  clear hN k5 k8 k10 hL
  obtain ⟨g0, g1, g2, g3⟩ := k82.cell4
  rcases b35 with b3 | ⟨b3, b5⟩
  all_goals
    go_wp2_with (first
      | (refine rc_ldRect rfl _ rfl k82 rfl ?_)
      | (refine rc_ldRect rfl _ rfl k84 rfl ?_)
      | (go_at_call 109; (with_reducible refine (hEm _).mono ?_); rintro e w3 ⟨rfl, hb3⟩; have k83 := k82.nx hb3; have q3 := k83.cell4; obtain ⟨f0, f1, f2, f3⟩ := q3; have hL3 := hL2.nx hb3)
      | (go_at_call 110; (with_reducible refine (hIn _).mono ?_); rintro e w4 ⟨rfl, hb4⟩; have k84 := k83.nx hb4; have k54 := (k52.nx hb3).nx hb4; have hL4 := hL3.nx hb4; have k104 := (k102.nx hb3).nx hb4)
      | (refine stB (ty := 162) (cells := paA p a b c d n) rfl _ _ rfl (Bk.new w4 162 (paA none 0 0 0 0 0)) rfl rfl pa_size rfl (by simp [Value.oneCell']) ?_; intro w5 k145 hg5 hs5; have hb5 : Below w4.heap.size w4 w5 := below_grown ((Below.refl w4.heap.size w4).alloc (Nat.le_refl _) (.cells (paA none 0 0 0 0 0) 162)) hg5 (Nat.le_refl _) (by simp); have hL5 := hL4.nx hb5; have k55 := k54.nx hb5; have k105 := k104.nx hb5; have q5 := k55.cell1c; have hb25 := (hb3.trans (hb4.mono hb3.size)).trans (hb5.mono (Nat.le_trans hb3.size hb4.size)))
      | (refine ldB rfl _ _ rfl k145 rfl Tryz.underlying162 rfl pa_size ?_)
      | (go_at_call 112; (with_reducible refine (hCo p _ (fun x y w'' hb => hM.at (hb25.trans (hb.mono hb25.size)) x y (paD n))).mono ?_); rintro e w6 ⟨u, v, s, t, rfl, hQ, hb6⟩; have hL6 := hL5.nx hb6; have k106 := k105.nx hb6)
      | (refine stB (ty := 83) rfl _ _ rfl k106 _ rfl rfl bx_size rfl (by simp [Value.oneCell']) ?_; intro w7 k107 hg7 hs7))
    refine bodyPost_ret (res_cell_tmp rfl k107 rfl Tryz.underlying83 rfl bx_size) rfl ?_
    exact ⟨u, v, s, t, rfl, hQ, below_of_gb hL6.bel hg7 (by omega) hL6.sz⟩
set_option maxRecDepth 100000 in
set_option maxHeartbeats 8000000 in
theorem bof_mesh (l : List Int) (A : Option Addr) (sn cp : Nat) (W H a b c d n : Int) (F G E : Int → Int → Int → Int) (w : World) (hN : NewIs 4 A sn cp W H w 0 F G E) (hl : l.length = sn) (hcp : sn ≤ cp) (hcm : cp ≤ maxLen) (hrd : Rd w w.heap.size A (l.map (Value.int .i64))) (hz : meC l W H = 0)
    (hW : 1 ≤ W ∧ W ≤ 32768) (hH : 1 ≤ H ∧ H ≤ 32768) (hr : ¬ rc_emptyR a b c d) (ha : 0 ≤ a) (hb : 0 ≤ b) (hc : c ≤ W) (hd : d ≤ H) (hn : 0 ≤ n ∧ n ≤ 8) :
    Calls Tryz.prog 48 #[.agg #[.int .i64 4, .slice A sn cp], .int .i64 W, .int .i64 H, rc_rect4 a b c d, .int .i64 n] w fun e w' =>
      ∃ u v s t, e = .returned (.tuple #[rc_rect4 u v s t, .int .i64 0]) ∧ Bxd (KnR l a b c d) (knX l) (knY l) u v s t ∧ Below w.heap.size w w' := by
  have hL := (((Lie.start w).alloc #[.int .i64 4, .slice A sn cp] 31).alloc (rc_rectA a b c d) 78).alloc (rc_rectA 0 0 0 0) 83
  simp only [World.size_alloc] at hL
  have k5 := hL.k 2 (by simp)
  have k8 := hL.k 1 (by simp)
  have k10 := hL.k 0 (by simp)
  simp only [List.getElem_cons_zero, List.getElem_cons_succ] at k5 k8 k10
  have hac : a < c ∧ b < d := by simp only [rc_emptyR, rc_rightR, rc_inR] at hr; omega
  have hEm := fun w' => rc_empty_any a b c d w'
  rw [show decide (rc_emptyR a b c d) = false from decide_eq_false hr] at hEm
  have hIn := fun w' => rcin_any a b c d 0 0 W H w' hr
  rw [show decide (bothR a b c d 0 0 W H = (a, b, c, d)) = true from decide_eq_true (whole_in hr hW hH ha hb hc hd)] at hIn
  have hCo := fun (w' : World) (hb' : Below w.heap.size w w') => bhull_any l A sn cp W H a b c d w' hl hcp hcm ((hrd.below hb').more hb'.size) hz (by omega) (by omega)
  clear hl hcp hcm hrd hz
  obtain ⟨hn0, hn8⟩ := hn
  clear hr ha hb hc hd hac hW hH
  go_enter Tryz.func48, Tryz.ntmps48
  go_wp2_with fail
  replace hN := hN _ hL.bel
  generalize hw1 : (((w.alloc (.cells #[.int .i64 4, .slice A sn cp] 31)).alloc (.cells (rc_rectA a b c d) 78)).alloc (.cells (rc_rectA 0 0 0 0) 83)) = w1 at *
  clear hw1
  refine hN.mono ?_
  rintro e w2 ⟨p, rfl, _, hM, hb2⟩
  replace hM := hM rfl
  have hL2 := hL.nx hb2
  have k82 := k8.nx hb2
  have k52 := k5.nx hb2
  have k102 := k10.nx hb2
  clear hN k5 k8 k10 hL
  obtain ⟨g0, g1, g2, g3⟩ := k82.cell4
  go_wp2_with (first
    | (refine rc_ldRect rfl _ rfl k82 rfl ?_)
    | (refine rc_ldRect rfl _ rfl k84 rfl ?_)
    | (go_at_call 109; (with_reducible refine (hEm _).mono ?_); rintro e w3 ⟨rfl, hb3⟩; have k83 := k82.nx hb3; have q3 := k83.cell4; obtain ⟨f0, f1, f2, f3⟩ := q3; have hL3 := hL2.nx hb3)
    | (go_at_call 110; (with_reducible refine (hIn _).mono ?_); rintro e w4 ⟨rfl, hb4⟩; have k84 := k83.nx hb4; have k54 := (k52.nx hb3).nx hb4; have hL4 := hL3.nx hb4; have k104 := (k102.nx hb3).nx hb4)
    | (refine stB (ty := 162) (cells := paA p a b c d n) rfl _ _ rfl (Bk.new w4 162 (paA none 0 0 0 0 0)) rfl rfl pa_size rfl (by simp [Value.oneCell']) ?_; intro w5 k145 hg5 hs5; have hb5 : Below w4.heap.size w4 w5 := below_grown ((Below.refl w4.heap.size w4).alloc (Nat.le_refl _) (.cells (paA none 0 0 0 0 0) 162)) hg5 (Nat.le_refl _) (by simp); have hL5 := hL4.nx hb5; have k55 := k54.nx hb5; have k105 := k104.nx hb5; have k85 := k84.nx hb5; have q5 := k55.cell1c; have hb25 := (hb3.trans (hb4.mono hb3.size)).trans (hb5.mono (Nat.le_trans hb3.size hb4.size)))
    | (refine ldB rfl _ _ rfl k145 rfl Tryz.underlying162 rfl pa_size ?_)
    | (go_at_call 111; (with_reducible refine (hCo _ hL5.bel).mono ?_); rintro e w6 ⟨u, v, s, t, rfl, hQ, hb6⟩; have hL6 := hL5.nx hb6; have k106 := k105.nx hb6)
    | (refine rc_ldRect rfl _ rfl k85 rfl ?_)
    | (refine ldB rfl _ _ rfl k55 rfl Tryz.underlying31 rfl (show (Tryz.prog.info? 31).map (·.size) = some 2 by kernel_rfl) ?_)
    | (refine stB (ty := 83) rfl _ _ rfl k106 _ rfl rfl bx_size rfl (by simp [Value.oneCell']) ?_; intro w7 k107 hg7 hs7))
  refine bodyPost_ret (res_cell_tmp rfl k107 rfl Tryz.underlying83 rfl bx_size) rfl ?_
  exact ⟨u, v, s, t, rfl, hQ, below_of_gb hL6.bel hg7 (by omega) hL6.sz⟩
end Go.Proofs.YtlbiiljncacdoaaGreat
end
