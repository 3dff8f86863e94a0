/- Several texts in one: The reference's places of a pixel. The reference's box of a part, place by place. -/
import Derived.Test.YtlbiiljncacdoaaGreatKL
import Derived.Test.YtlbiiljncacdoaaGreatQLate1
import Derived.Test.YtlbiiljncacdoaaGreatOP
import Derived.Test.YtlbiiljncacdoaaGreatNP
section
set_option linter.unusedVariables false
namespace Go.Proofs.YtlbiiljncacdoaaGreat
open Go.RowKit
attribute [local go_sem high] run_maxM run_minM
def plX (n x : Int) (q : Nat) : Int := if n = 0 then x else 2 * n * x + 2 * ((q : Int) % n) + 1 - n
def plY (n y : Int) (q : Nat) : Int := if n = 0 then y else 2 * n * y + 2 * ((q : Int) / n) + 1 - n
def plD (n : Int) : Int := if n = 0 then 1 else 2 * n
def plM (n : Int) : Nat := if n = 0 then 1 else (n * n).toNat
def plF (n x y : Int) (q : Nat) : Int × Int × Int := (plX n x q, plY n y q, plD n)
def plE (n x y : Int) (q : Nat) : List Value := [.int .i64 (plX n x q), .int .i64 (plY n y q), .int .i64 (plD n)]
def plL (n x y : Int) (k : Nat) : List Value := (List.range k).flatMap (plE n x y)
theorem plL_succ (n x y : Int) (k : Nat) : plL n x y (k + 1) = plL n x y k ++ plE n x y k := by unfold plL; rw [List.range_succ, List.flatMap_append]; simp
theorem plL_len (n x y : Int) (k : Nat) : (plL n x y k).length = k * 3 := by
  induction k with
  | zero => rfl
  | succ k ih => rw [plL_succ, List.length_append, ih]; simp [plE]; omega
theorem plL_get (n x y : Int) (m k : Nat) (hk : k < m) : (plL n x y m)[k * 3]? = some (.int .i64 (plX n x k)) ∧ (plL n x y m)[k * 3 + 1]? = some (.int .i64 (plY n y k)) ∧ (plL n x y m)[k * 3 + 2]? = some (.int .i64 (plD n)) := by
  induction m with
  | zero => omega
  | succ m ih =>
    rw [plL_succ]
    have hl := plL_len n x y m
    by_cases h : k < m
    · obtain ⟨h1, h2, h3⟩ := ih h
      rw [List.getElem?_append_left (by omega), List.getElem?_append_left (by omega), List.getElem?_append_left (by omega)]
      exact ⟨h1, h2, h3⟩
    · obtain rfl : k = m := by omega
      rw [List.getElem?_append_right (by omega), List.getElem?_append_right (by omega), List.getElem?_append_right (by omega), hl]
      refine ⟨?_, ?_, ?_⟩
      · rw [show k * 3 - k * 3 = 0 by omega]; rfl
      · rw [show k * 3 + 1 - k * 3 = 1 by omega]; rfl
      · rw [show k * 3 + 2 - k * 3 = 2 by omega]; rfl
theorem pls_of {w : World} {B : Nat} {A : Option Addr} {n x y : Int} {m : Nat} (h : Rd w B A (plL n x y m)) : Pls w B A m (plF n x y) := by
  intro k hk
  obtain ⟨g0, g1, g2⟩ := plL_get n x y m k hk
  have hl := plL_len n x y m
  obtain ⟨b, o, e, hb, c0⟩ := h.get (k * 3) (by omega)
  obtain ⟨b', o', e', hb', c1⟩ := h.get (k * 3 + 1) (by omega)
  obtain ⟨b'', o'', e'', hb'', c2⟩ := h.get (k * 3 + 2) (by omega)
  subst e
  injection e' with e'
  injection e' with e1 e2
  subst e1 e2
  injection e'' with e''
  injection e'' with e1 e2
  subst e1 e2
  rw [List.getElem?_eq_getElem (by omega)] at g0 g1 g2
  injection g0 with g0
  injection g1 with g1
  injection g2 with g2
  exact ⟨b, o, rfl, hb, by rw [c0, g0]; rfl, by rw [Nat.add_assoc, c1, g1]; rfl, by rw [Nat.add_assoc, c2, g2]; rfl⟩
theorem pl_info : (Tryz.prog.info? 92).map (fun i => (i.zero, i.size, i.bytes)) = some (some (.agg #[.int .i64 0, .int .i64 0, .int .i64 0]), 3, 24) := by kernel_rfl
set_option maxRecDepth 100000 in
set_option maxHeartbeats 16000000 in
theorem rplaces_any (n x y : Int) (w : World) (hn : 0 ≤ n ∧ n ≤ 8) (hx : -4294967296 ≤ x ∧ x ≤ 4294967296) (hy : -4294967296 ≤ y ∧ y ≤ 4294967296) :
    Calls Tryz.prog 52 #[.int .i64 x, .int .i64 y, .int .i64 n] w fun e w' => ∃ A cp, e = .returned (.slice A (plM n) cp) ∧ Pls w' w'.heap.size A (plM n) (plF n x y) ∧ (∀ b, (Value.slice A (plM n) cp).ownBlock = some b → w.heap.size ≤ b) ∧ Below w.heap.size w w' := by
  by_cases h0 : n = 0
  · subst h0
    have hb := (Below.refl w.heap.size w).alloc (Nat.le_refl _) (.cells #[.int .i64 x, .int .i64 y, .int .i64 1] 92)
    have hK := Bk.new w 92 #[.int .i64 x, .int .i64 y, .int .i64 1]
    obtain ⟨c0, c1, c2⟩ := hK.cell3
    have hlt := hK.lt
    go_enter Tryz.func52, Tryz.ntmps52
    go_wp2_with fail
    go_returns
    refine ⟨_, _, rfl, ?_, (fun b h => by simp [Value.ownBlock] at h; omega), hb⟩
    intro k hk
    have hk0 : k = 0 := by simpa [plM] using hk
    subst hk0
    exact ⟨_, _, rfl, hlt, by simp [plF, plX], by simp [plF, plY], by simp [plF, plD]⟩
  · have hn1 : 1 ≤ n := by omega
    have hnn : 1 * 1 ≤ n * n := Int.mul_le_mul hn1 hn1 (by omega) (by omega)
    have hnn2 : n * n ≤ 8 * 8 := Int.mul_le_mul hn.2 hn.2 (by omega) (by omega)
    have hbx := nx_bd hn hx
    have hby := nx_bd hn hy
    have eM : plM n = (n * n).toNat := by unfold plM; rw [if_neg h0]
    obtain ⟨N, hN⟩ : ∃ z, n * n = z := ⟨_, rfl⟩
    have eN : wrap64 (n * n) = N := by rw [IntWalk.wrap64_in _ ⟨by omega, by omega⟩]; exact hN
    rw [hN] at eM hnn hnn2
    have e2n : wrap64 (2 * n) = 2 * n := IntWalk.wrap64_in _ ⟨by omega, by omega⟩
    obtain ⟨X, hX⟩ : ∃ z, 2 * n * x = z := ⟨_, rfl⟩
    obtain ⟨Y, hY⟩ : ∃ z, 2 * n * y = z := ⟨_, rfl⟩
    have eX : wrap64 (2 * n * x) = X := by rw [IntWalk.wrap64_in _ ⟨by omega, by omega⟩]; exact hX
    have eY : wrap64 (2 * n * y) = Y := by rw [IntWalk.wrap64_in _ ⟨by omega, by omega⟩]; exact hY
    rw [hX] at hbx
    rw [hY] at hby
    have HX : Hid (∀ j, plX n x j = X + 2 * ((j : Int) % n) + 1 - n) := fun j => by unfold plX; rw [if_neg h0, hX]
    have HY : Hid (∀ j, plY n y j = Y + 2 * ((j : Int) / n) + 1 - n) := fun j => by unfold plY; rw [if_neg h0, hY]
    have HD : Hid (plD n = 2 * n) := by show _ = _; unfold plD; rw [if_neg h0]
    have hM : Hid (plM n = N.toNat) := eM
    have hb0 := Below.refl w.heap.size w
    have hown0 := World.ownsRow_nil w w.heap.size 92 3
    have hnz : (n == 0) = false := by simp [h0]
    have hnm : (n == -1) = false := by simp; omega
    clear eM hN hX hY hx hy
    generalize plM n = M at *
    go_enter Tryz.func52, Tryz.ntmps52
    go_wp2_with fail
    go_loopw [7, 8] (fun v i wr => ∃ j : Nat, j ≤ N.toNat ∧ i = .int .i64 j ∧ wr.ownsRow w.heap.size 92 3 v j (plL n x y j) ∧ Below w.heap.size w wr) (fun _ i _ => N.toNat - (intOf i).toNat)
    case atStart => exact ⟨0, by omega, rfl, hown0, hb0⟩
    case round =>
      clear hown0 hb0
      obtain ⟨j, hj, rfl, hown, hb⟩ := hrel
      by_cases hlt : j < N.toNat
      · have etm : Int.tmod (j : Int) n = (j : Int) % n := Int.tmod_eq_emod_of_nonneg (by omega)
        have etd : Int.tdiv (j : Int) n = (j : Int) / n := Int.tdiv_eq_ediv_of_nonneg (by omega)
        have r0 := Int.emod_nonneg (j : Int) h0
        have r1 := Int.emod_lt_of_pos (j : Int) (show 0 < n by omega)
        have q0 : 0 ≤ (j : Int) / n := Int.ediv_nonneg (by omega) (by omega)
        have q1 : (j : Int) / n ≤ j := Int.ediv_le_self n (by omega)
        have HXj := HX.out j
        have HYj := HY.out j
        have hL2 : plL n x y (j + 1) = plL n x y j ++ [.int .i64 (plX n x j), .int .i64 (plY n y j), .int .i64 (plD n)] := plL_succ n x y j
        rw [HXj, HYj, HD.out] at hL2
        replace hL2 := Lib.hid hL2
        clear HXj HYj
        generalize (j : Int) % n = r at *
        generalize (j : Int) / n = q at *
        have hN63 : (j : Int) < N := by omega
        go_upto_region 7 with fail
        refine wp_region_quiet_late1 28 12 (.tmp 7) (by kernel_rfl) rfl rfl (by kernel_rfl) (fun _ _ _ h => h) ?_
        simp only [List.take_succ_cons, List.take_zero]
        repeat (first | go_big_quiet_step (fail) | quiet_step (fail))
        refine wpQuiet_nil ?_
        intro _ hw'
        obtain ⟨⟨d9, os⟩, hw''⟩ := hw'
        subst hw''
        have hbx := below_regrown wr d9 os
        generalize Go.Sort.grow (redrawn wr d9) os = wx at *
        have hownx := own_below hown hbx (Nat.le_refl _)
        have hbw := hb.trans (hbx.mono hb.size)
        have hbs := hbw.size
        refine wpAny_tail 28 rfl (by kernel_rfl) ?_
        simp only [List.drop_succ_cons, List.drop_zero]
        go_wp2_with (at_builtin; refine app1 rfl _ _ _ rfl Tryz.underlying90 pl_info rfl (by decide) rfl rfl hownx hbw (Nat.le_refl _) hbs rfl (by simp [Value.oneCell']) (by omega) (by omega) ?_; intro v9 w9 hown9 hb9 _ _ _)
        exact ⟨⟨j + 1, by omega, by go_num, by rw [hL2.out]; exact hown9, hb9⟩, by simp [intOf]; omega⟩
      · obtain rfl : j = N.toNat := by omega
        obtain ⟨A, cp, rfl, q1, q2, q3, q4⟩ := own_form hown
        have hP := pls_of q3
        have hge : N ≤ ((N.toNat : Nat) : Int) := by omega
        go_wp2_with fail
        go_returns
        exact ⟨A, cp, by rw [hM.out]; rfl, by rw [hM.out]; exact hP, by rw [hM.out]; exact own_ge hown, hb⟩
end Go.Proofs.YtlbiiljncacdoaaGreat
end
section
set_option linter.unusedVariables false
namespace Go.Proofs.YtlbiiljncacdoaaGreat
open Go.RowKit
attribute [local go_sem high] run_maxM run_minM
theorem bx37_size : (Tryz.prog.info? 87).map (·.size) = some 4 := by kernel_rfl
theorem xf_sizeA : (Tryz.prog.info? 31).map (·.size) = some 2 := by kernel_rfl
/-- All places that are asked for of a part, pixel by pixel. -/
def PxS (n a b c d X Y : Int) : Prop := ∃ (x y : Int) (q : Nat), (a ≤ x ∧ x < c ∧ b ≤ y ∧ y < d) ∧ q < plM n ∧ X = plX n x q ∧ Y = plY n y q
/-- Those of the rows before y, of the row y before x, of the pixel the first r. -/
def PxP (n a b c y x : Int) (r : Nat) (X Y : Int) : Prop := ∃ (x' y' : Int) (q : Nat), ((a ≤ x' ∧ b ≤ y') ∧ ((y' < y ∧ x' < c) ∨ (y' = y ∧ x' < x) ∨ (y' = y ∧ x' = x ∧ q < r))) ∧ q < plM n ∧ X = plX n x' q ∧ Y = plY n y' q
theorem pxP_start {n a b c X Y : Int} : False ↔ PxP n a b c b a 0 X Y := ⟨False.elim, fun ⟨_, _, _, h, _⟩ => by omega⟩
theorem pxP_step {n a b c y x : Int} {r : Nat} {X Y : Int} (hr : r < plM n) (hx : a ≤ x) (hy : b ≤ y) : (PxP n a b c y x r X Y ∨ (X = plX n x r ∧ Y = plY n y r)) ↔ PxP n a b c y x (r + 1) X Y := by
  constructor
  · rintro (⟨x', y', q, h, hq, e1, e2⟩ | ⟨e1, e2⟩)
    · exact ⟨x', y', q, by omega, hq, e1, e2⟩
    · exact ⟨x, y, r, by omega, hr, e1, e2⟩
  · rintro ⟨x', y', q, h, hq, e1, e2⟩
    by_cases he : y' = y ∧ x' = x ∧ q = r
    · obtain ⟨rfl, rfl, rfl⟩ := he
      exact .inr ⟨e1, e2⟩
    · exact .inl ⟨x', y', q, by omega, hq, e1, e2⟩
theorem pxP_next {n a b c y x : Int} {X Y : Int} (hx : a ≤ x) (hy : b ≤ y) : PxP n a b c y x (plM n) X Y ↔ PxP n a b c y (x + 1) 0 X Y := by
  constructor
  · rintro ⟨x', y', q, h, hq, e1, e2⟩
    exact ⟨x', y', q, by omega, hq, e1, e2⟩
  · rintro ⟨x', y', q, h, hq, e1, e2⟩
    exact ⟨x', y', q, by omega, hq, e1, e2⟩
theorem pxP_row {n a b c y x : Int} {X Y : Int} (h1 : x = c) : PxP n a b c y x 0 X Y ↔ PxP n a b c (y + 1) a 0 X Y := by
  constructor
  · rintro ⟨x', y', q, h, hq, e1, e2⟩
    exact ⟨x', y', q, by omega, hq, e1, e2⟩
  · rintro ⟨x', y', q, h, hq, e1, e2⟩
    exact ⟨x', y', q, by omega, hq, e1, e2⟩
theorem pxP_end {n a b c d y : Int} {X Y : Int} (h1 : y = d) : PxP n a b c y a 0 X Y ↔ PxS n a b c d X Y := by
  constructor
  · rintro ⟨x', y', q, h, hq, e1, e2⟩
    exact ⟨x', y', q, by omega, hq, e1, e2⟩
  · rintro ⟨x', y', q, h, hq, e1, e2⟩
    exact ⟨x', y', q, by omega, hq, e1, e2⟩
theorem Pls.keep {w w' : World} {A : Option Addr} {m cp : Nat} {f : Nat → Int × Int × Int} {g B : Nat} (h : Pls w w.heap.size A m f) (hg : w.grownBy w' (some g)) (hA : ∀ b, (Value.slice A m cp).ownBlock = some b → B ≤ b) (hB : g < B) : Pls w' w'.heap.size A m f := fun k hk => by
  obtain ⟨b, o, e, hlt, h1, h2, h3⟩ := h k hk
  subst e
  have hb := hA b rfl
  have he : w'.heap[b]? = w.heap[b]? := hg.block b hlt (fun e => by injection e; omega)
  exact ⟨b, o, rfl, Nat.lt_of_lt_of_le hlt hg.size, (World.cell?_of_block he).trans h1, (World.cell?_of_block he).trans h2, (World.cell?_of_block he).trans h3⟩
theorem Pls.up {w w' : World} {A : Option Addr} {m : Nat} {f : Nat → Int × Int × Int} (h : Pls w w.heap.size A m f) (hb : Below w.heap.size w w') : Pls w' w'.heap.size A m f := fun k hk => by
  obtain ⟨b, o, e, hlt, h1, h2, h3⟩ := h.below hb k hk
  exact ⟨b, o, e, Nat.lt_of_lt_of_le hlt hb.size, h1, h2, h3⟩
set_option maxRecDepth 100000 in
set_option maxHeartbeats 16000000 in
theorem rof37_any (k : Int) (A : Option Addr) (sn cp : Nat) (a b c d n : Int) (F G E : Int → Int → Int) (w : World) (hk : k ≠ 4) (hn : 0 ≤ n ∧ n ≤ 8) (ha : 0 ≤ a ∧ a < c ∧ c ≤ 32768) (hb : 0 ≤ b ∧ b < d ∧ d ≤ 32768)
    (hA : ∀ (X Y : Int) (w' : World), Below w.heap.size w w' → Calls Tryz.prog 30 #[xfV k A sn cp, .int .i64 X, .int .i64 Y, .int .i64 (plD n)] w' fun e w'' => e = .returned (.tuple #[.int .i64 (F X Y), .int .i64 (G X Y), .int .i64 (E X Y)]) ∧ Below w'.heap.size w' w'')
    (hFb : ∀ X Y, PxS n a b c d X Y → (-4611686018427387904 < F X Y ∧ F X Y < 4611686018427387904) ∧ (-4611686018427387904 < G X Y ∧ G X Y < 4611686018427387904)) :
    Calls Tryz.prog 51 #[xfV k A sn cp, rc_rect4 a b c d, .int .i64 n] w fun e w' => ∃ u v s t, e = .returned (rc_rect4 u v s t) ∧ Bxd (PxS n a b c d) F G u v s t ∧ Below w.heap.size w w' := by
  have hL := (((Lie.start w).alloc #[.int .i64 k, .slice A sn cp] 31).alloc (rc_rectA a b c d) 78).alloc (rc_rectA 0 0 0 0) 87
  simp only [World.size_alloc] at hL
  have k4 : (k == 4) = false := by simp [hk]
  have hPl := fun (x y : Int) (w' : World) (hx : 0 ≤ x ∧ x ≤ 32768) (hy : 0 ≤ y ∧ y ≤ 32768) => rplaces_any n x y w' hn (by omega) (by omega)
  have hFb' := Lib.hid hFb
  have hm64 : plM n ≤ 64 := by
    unfold plM
    split
    · decide
    · have := Int.mul_le_mul hn.2 hn.2 hn.1 (by omega)
      omega
  obtain ⟨a0, a1, a2⟩ := ha
  obtain ⟨b0, b1, b2⟩ := hb
  clear hk hFb
  have x0 := (hL.k 2 (by simp)).cell2
  simp only [List.getElem_cons_zero, List.getElem_cons_succ] at x0
  obtain ⟨x0, x1⟩ := x0
  go_enter Tryz.func51, Tryz.ntmps51
  go_upto_region 1 with fail
  generalize hw1 : ((w.alloc (.cells #[.int .i64 k, .slice A sn cp] 31)).alloc (.cells (rc_rectA a b c d) 78)).alloc (.cells (rc_rectA 0 0 0 0) 87) = w1 at *
  clear hw1
  have hS0 : Pbx (PxP n a b c b a 0) F G 4611686018427387904 4611686018427387904 (-4611686018427387904) (-4611686018427387904) := (Pbx.none F G).ext (fun x y => pxP_start)
  have hK8 := Bk.new w1 87 (rc_rectA 0 0 0 0)
  go_upto_region 5 with (first
    | (refine stB (ty := 87) rfl _ _ rfl hK8 (rc_rectA 4611686018427387904 4611686018427387904 (-4611686018427387904) (-4611686018427387904)) rfl rfl bx37_size rfl (by simp [Value.oneCell']) ?_; intro w2 k82 hg2 hs2))
  have hL2 := hL.put hg2 k82
  have hgt : w.heap.size + 2 < w1.heap.size := by have := (hL.k 0 (by simp)).lt; simp only [List.getElem_cons_zero] at this; omega
  generalize w1.heap.size = g8 at *
  have hr4 := (hL2.k 2 (by simp)).cell4
  simp only [List.getElem_cons_zero, List.getElem_cons_succ] at hr4
  obtain ⟨r0, r1, r2, r3⟩ := hr4
  clear hL hK8 hg2 hs2 k82 x0 x1
  go_wp2_with fail
  go_loopw [9] (fun i wr => ∃ y u v s t : Int, i = .int .i64 y ∧ b ≤ y ∧ y ≤ d ∧ Pbx (PxP n a b c y a 0) F G u v s t ∧ Lie w [(g8, 87, rc_rectA u v s t), (w.heap.size + 1 + 1, 87, rc_rectA 0 0 0 0), (w.heap.size + 1, 78, rc_rectA a b c d), (w.heap.size, 31, #[.int .i64 k, .slice A sn cp])] wr) (fun i _ => (d - intOf i).toNat)
  case atStart => exact ⟨b, _, _, _, _, rfl, by omega, by omega, hS0, hL2⟩
  case round =>
    clear hS0 hL2 r0 r1 r2 r3
    obtain ⟨y, u, v, s, t, rfl, hy0, hy1, hS, hL⟩ := hrel
    have hr4 := (hL.k 2 (by simp)).cell4
    simp only [List.getElem_cons_zero, List.getElem_cons_succ] at hr4
    obtain ⟨r0, r1, r2, r3⟩ := hr4
    by_cases hlt : y < d
    · go_wp2_with fail
      go_loopw [10] (fun i wr => ∃ x u v s t : Int, i = .int .i64 x ∧ a ≤ x ∧ x ≤ c ∧ Pbx (PxP n a b c y x 0) F G u v s t ∧ Lie w [(g8, 87, rc_rectA u v s t), (w.heap.size + 1 + 1, 87, rc_rectA 0 0 0 0), (w.heap.size + 1, 78, rc_rectA a b c d), (w.heap.size, 31, #[.int .i64 k, .slice A sn cp])] wr) (fun i _ => (c - intOf i).toNat)
      case atStart => exact ⟨a, u, v, s, t, rfl, by omega, by omega, hS, hL⟩
      case round =>
        clear hS hL r0 r1 r2 r3
        obtain ⟨x, u, v, s, t, rfl, hx0, hx1, hS, hL⟩ := hrel
        have hr4 := (hL.k 2 (by simp)).cell4
        simp only [List.getElem_cons_zero, List.getElem_cons_succ] at hr4
        obtain ⟨r0, r1, r2, r3⟩ := hr4
        by_cases hlx : x < c
        · have hPx := fun w' => hPl x y w' (by omega) (by omega)
          go_wp2_with (first
            | (go_at_call 52; (with_reducible refine (hPx _).mono ?_); rintro e w3 ⟨A3, cp3, rfl, hP3, hge3, hb3⟩))
          have hL3 := hL.nx hb3
          have hg8 : g8 < wr.heap.size := by have := (hL.k 0 (by simp)).lt; simpa using this
          clear hL hb3 r0 r1 r2 r3 hPx
          generalize hm : plM n = m at *
          have HM := Lib.hid hm
          clear hm
          go_loopw [61] (fun i wq => ∃ (j : Nat) (u v s t : Int), i = .int .i64 j ∧ j ≤ m ∧ Pbx (PxP n a b c y x j) F G u v s t ∧ Pls wq wq.heap.size A3 m (plF n x y) ∧ Lie w [(g8, 87, rc_rectA u v s t), (w.heap.size + 1 + 1, 87, rc_rectA 0 0 0 0), (w.heap.size + 1, 78, rc_rectA a b c d), (w.heap.size, 31, #[.int .i64 k, .slice A sn cp])] wq) (fun i _ => m - (intOf i).toNat)
          case atStart => exact ⟨0, u, v, s, t, rfl, by omega, hS, hP3, hL3⟩
          case round =>
            clear hS hL3 hP3
            obtain ⟨j, u, v, s, t, rfl, hj, hS, hP, hL⟩ := hrel
            by_cases hjt : j < m
            · have hjn : j < plM n := by rw [HM.out]; exact hjt
              obtain ⟨⟨f1, f2⟩, f3, f4⟩ := hFb'.out (plX n x j) (plY n y j) ⟨x, y, j, by omega, hjn, rfl, rfl⟩
              have hS2 := (hS.add (plX n x j) (plY n y j) ⟨by omega, by omega⟩ ⟨by omega, by omega⟩).ext (fun X Y => pxP_step hjn hx0 hy0)
              obtain ⟨bb, oo, hAe, hbl, c0, c1, c2⟩ := hP j hjt
              subst hAe
              change wr.cell? ⟨bb, oo + j * 3, none⟩ = some (.int .i64 (plX n x j)) at c0
              change wr.cell? ⟨bb, oo + j * 3 + 1, none⟩ = some (.int .i64 (plY n y j)) at c1
              change wr.cell? ⟨bb, oo + j * 3 + 2, none⟩ = some (.int .i64 (plD n)) at c2
              have hAt := hA (plX n x j) (plY n y j)
              clear hS f1 f2 f3 f4
              generalize plX n x j = X at *
              generalize plY n y j = Y at *
              generalize plD n = D at *
              generalize F X Y = p at *
              generalize G X Y = q at *
              generalize E X Y = er at *
              have hLa := hL.alloc #[.int .i64 X, .int .i64 Y, .int .i64 D] 92
              have hPa := hP.up ((Below.refl wr.heap.size wr).alloc (Nat.le_refl _) (.cells #[.int .i64 X, .int .i64 Y, .int .i64 D] 92))
              have kx : Bk (wr.alloc (.cells #[.int .i64 X, .int .i64 Y, .int .i64 D] 92)) w.heap.size 31 #[.int .i64 k, .slice A sn cp] := hLa.k 4 (by simp)
              go_wp2_with (first
                | (refine ldB rfl _ _ rfl kx rfl Tryz.underlying31 rfl xf_sizeA ?_)
                | (go_at_call 30; (with_reducible refine (hAt _ hLa.bel).mono ?_); rintro e w7 ⟨rfl, hb7⟩; have hL7 := hLa.nx hb7; have hP7 := hPa.up hb7; have kg7 : Bk w7 g8 87 (rc_rectA u v s t) := hL7.k 1 (by simp); have q7 := kg7.cell4; obtain ⟨d0, d1, d2, d3⟩ := q7)
                | (refine stB (ty := 87) rfl _ _ rfl kg7 (rc_rectA (min u p) (min v q) (max s p) (max t q)) rfl rfl bx37_size rfl (by simp [Value.oneCell']) ?_; intro w8 k88 hg8' hs8))
              have hL8 : Lie w [(g8, 87, rc_rectA (min u p) (min v q) (max s p) (max t q)), (w.heap.size + 1 + 1, 87, rc_rectA 0 0 0 0), (w.heap.size + 1, 78, rc_rectA a b c d), (w.heap.size, 31, #[.int .i64 k, .slice A sn cp])] w8 := hL7.upd hg8' (by omega) (by
                intro z hz
                simp only [List.mem_cons, List.not_mem_nil, or_false] at hz
                rcases hz with rfl | rfl | rfl | rfl
                · exact .inl ⟨rfl, k88⟩
                · exact .inr ⟨by simp, by show w.heap.size + 1 + 1 ≠ g8; omega⟩
                · exact .inr ⟨by simp, by show w.heap.size + 1 ≠ g8; omega⟩
                · exact .inr ⟨by simp, by show w.heap.size ≠ g8; omega⟩)
              have hP8 := hP7.keep (cp := cp3) hg8' hge3 hg8
              exact ⟨⟨j + 1, _, _, _, _, by go_num, by omega, hS2, hP8, hL8⟩, by simp [intOf]; omega⟩
            · obtain rfl : j = m := by omega
              have hS2 : Pbx (PxP n a b c y (x + 1) 0) F G u v s t := by
                rw [← HM.out] at hS
                exact hS.ext (fun X Y => pxP_next hx0 hy0)
              clear hS hP
              go_wp2_with fail
              exact ⟨⟨x + 1, u, v, s, t, by go_num, by omega, by omega, hS2, hL⟩, by simp [intOf]; omega⟩
        · have hS2 := hS.ext (fun X Y => pxP_row (show x = c by omega))
          clear hS
          go_wp2_with fail
          exact ⟨⟨y + 1, u, v, s, t, by go_num, by omega, by omega, hS2, hL⟩, by simp [intOf]; omega⟩
    · have hS2 := hS.ext (fun X Y => pxP_end (show y = d by omega))
      have hM1 : 0 < plM n := by
        unfold plM
        split
        · decide
        · have := Int.mul_le_mul (show 1 ≤ n by omega) (show 1 ≤ n by omega) (by omega) (by omega)
          omega
      have hp0 : PxS n a b c d (plX n a 0) (plY n b 0) := ⟨a, b, 0, by omega, hM1, rfl, rfl⟩
      obtain ⟨g1, g2⟩ := hFb'.out _ _ hp0
      have hS3 := hS2.full hp0 g1 g2
      have kg := hL.k 0 (by simp)
      have k6 := hL.k 1 (by simp)
      simp only [List.getElem_cons_zero, List.getElem_cons_succ] at kg k6
      clear hS hS2 g1 g2 hp0 hM1
      go_wp2_with (first
        | (refine ldB rfl _ _ rfl kg rfl Tryz.underlying87 rfl bx37_size ?_)
        | (refine stB (ty := 87) rfl _ _ rfl k6 (rc_rectA u v s t) rfl rfl bx37_size rfl (by simp [Value.oneCell']) ?_; intro w9 k69 hg9 hs9))
      refine bodyPost_ret (res_cell rfl k69 rfl Tryz.underlying87 rfl bx37_size) rfl ?_
      exact ⟨u, v, s, t, rfl, hS3, below_of_gb hL.bel hg9 (by omega) hL.sz⟩
end Go.Proofs.YtlbiiljncacdoaaGreat
end
