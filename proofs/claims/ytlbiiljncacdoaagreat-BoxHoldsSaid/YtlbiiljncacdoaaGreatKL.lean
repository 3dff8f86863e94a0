/- Several texts in one: mesh.Hull: the least box around the knots of some cells. The reference's Hull. box.Of of a mesh. -/
import Derived.Test.YtlbiiljncacdoaaGreatKJ
import Derived.Test.YtlbiiljncacdoaaGreatKC
import Derived.Test.YtlbiiljncacdoaaGreatKD
import Derived.Test.YtlbiiljncacdoaaGreatKE
section
set_option linter.unusedVariables false
namespace Go.Proofs.YtlbiiljncacdoaaGreat
open Go.RowKit
attribute [local go_sem high] run_maxM run_minM
def KnS (i0 i1 k0 k1 : Int) (x y : Int) : Prop := (i0 ≤ x ∧ x ≤ i1 + 1) ∧ (k0 ≤ y ∧ y ≤ k1 + 1)
/-- Those of the rows before k, and of the row k before i; and the first one. -/
def KnP (i0 i1 k0 k i : Int) (x y : Int) : Prop := (x = i0 ∧ y = k0) ∨ (i0 ≤ x ∧ x ≤ i1 + 1 ∧ k0 ≤ y ∧ y < k) ∨ (y = k ∧ i0 ≤ x ∧ x < i)
theorem knP_start {i0 i1 k0 x y : Int} : (x = i0 ∧ y = k0) ↔ KnP i0 i1 k0 k0 i0 x y := by unfold KnP; omega
theorem knP_step {i0 i1 k0 k j x y : Int} (h : i0 ≤ j) : (KnP i0 i1 k0 k j x y ∨ (x = j ∧ y = k)) ↔ KnP i0 i1 k0 k (j + 1) x y := by unfold KnP; omega
theorem knP_row {i0 i1 k0 k x y : Int} (h : k0 ≤ k) (h' : i0 ≤ i1) : KnP i0 i1 k0 k (i1 + 2) x y ↔ KnP i0 i1 k0 (k + 1) i0 x y := by unfold KnP; omega
theorem knP_end {i0 i1 k0 k1 x y : Int} (h : k0 ≤ k1) (h' : i0 ≤ i1) : KnP i0 i1 k0 (k1 + 2) i0 x y ↔ KnS i0 i1 k0 k1 x y := by unfold KnP KnS; omega
theorem Lie.upd {w0 w w' : World} {L L' : List (Nat × TypeId × Array Value)} {g : Nat} (h : Lie w0 L w) (hg : w.grownBy w' (some g)) (hB : w0.heap.size ≤ g) (hL : ∀ y ∈ L', (y.1 = g ∧ Bk w' y.1 y.2.1 y.2.2) ∨ (y ∈ L ∧ y.1 ≠ g)) : Lie w0 L' w' := by
  refine ⟨below_of_gb h.1 hg hB h.sz, fun y hy => ?_⟩
  rcases hL y hy with ⟨_, h2⟩ | ⟨h1, h2⟩
  · exact h2
  · exact (h.2 y h1).grown hg (fun e => h2 (by injection e))
theorem meI_mono {g n p p' : Int} (hg : 1 ≤ g) (hn : 1 ≤ n) (h : p ≤ p') : meI g n p 2 ≤ meI g n p' 2 := by
  have hq : meQ g n p 2 ≤ meQ g n p' 2 := by unfold meQ; omega
  have := Int.ediv_le_ediv (c := g * 2) (by omega) hq
  unfold meI; omega
set_option maxRecDepth 100000 in
set_option maxHeartbeats 16000000 in
theorem mhull_any (l : List Int) (g b o cp : Nat) (x0 y0 x1 y1 i0 i1 k0 k1 : Int) (w : World) (hF : MeF l) (h : MeW l w g b o cp) (hx : 0 ≤ x0 ∧ x0 < x1 ∧ x1 ≤ 32768) (hy : 0 ≤ y0 ∧ y0 < y1 ∧ y1 ≤ 32768)
    (e0 : meI (cf l 0) (cf l 2) (2 * x0 - 1) 2 = i0) (e1 : meI (cf l 0) (cf l 2) (2 * x1 - 1) 2 = i1) (e2 : meI (cf l 1) (cf l 3) (2 * y0 - 1) 2 = k0) (e3 : meI (cf l 1) (cf l 3) (2 * y1 - 1) 2 = k1)
    (hi : 0 ≤ i0 ∧ i0 ≤ i1 ∧ i1 + 1 ≤ cf l 2) (hk : 0 ≤ k0 ∧ k0 ≤ k1 ∧ k1 + 1 ≤ cf l 3) :
    Calls Tryz.prog 170 #[.pointer (some ⟨g, 0, none⟩), .int .i64 x0, .int .i64 y0, .int .i64 x1, .int .i64 y1] w fun e w' => ∃ u v s t, e = .returned (.tuple #[rc_rect4 u v s t, .bool true]) ∧ Bxd (KnS i0 i1 k0 k1) (knX l) (knY l) u v s t ∧ Below w.heap.size w w' := by
  have hL := (Lie.start w).alloc (rc_rectA 0 0 0 0) 78
  have hC0 := fun w' => mcell_any (cf l 0) (cf l 2) (2 * x0 - 1) 2 w' hF.gx hF.nx (by decide) (by omega)
  have hC1 := fun w' => mcell_any (cf l 0) (cf l 2) (2 * x1 - 1) 2 w' hF.gx hF.nx (by decide) (by omega)
  have hC2 := fun w' => mcell_any (cf l 1) (cf l 3) (2 * y0 - 1) 2 w' hF.gy hF.ny (by decide) (by omega)
  have hC3 := fun w' => mcell_any (cf l 1) (cf l 3) (2 * y1 - 1) 2 w' hF.gy hF.ny (by decide) (by omega)
  rw [e0] at hC0
  rw [e1] at hC1
  rw [e2] at hC2
  rw [e3] at hC3
  have hKn := fun (i k : Int) (w' : World) (hm : MeW l w' g b o cp) (a : 0 ≤ i ∧ i ≤ cf l 2) (c : 0 ≤ k ∧ k ≤ cf l 3) => mknot_any l g b o cp i k w' hF hm a c
  generalize meT (cf l 0) (cf l 2) (2 * x0 - 1) 2 = t0 at *
  generalize meT (cf l 0) (cf l 2) (2 * x1 - 1) 2 = t1 at *
  generalize meT (cf l 1) (cf l 3) (2 * y0 - 1) 2 = t2 at *
  generalize meT (cf l 1) (cf l 3) (2 * y1 - 1) 2 = t3 at *
  have hax : ∀ w' : World, MeW l w' g b o cp → Bk w' g 245 (msA (cf l 0) (cf l 2) (cf l 1) (cf l 3) (some ⟨b, o, none⟩) (meK l) cp) := fun w' hm => hm.map
  have hnx := hF.nx
  have hny := hF.ny
  clear e0 e1 e2 e3 hF
  obtain ⟨a0, a1, a2⟩ := hx
  obtain ⟨b0, b1, b2⟩ := hy
  have hm1 : MeW l (w.alloc (.cells (rc_rectA 0 0 0 0) 78)) g b o cp := h.nx ((Below.refl _ _).alloc (Nat.le_refl _) _)
  go_enter Tryz.func170, Tryz.ntmps170
  go_upto_region 3 with fail
  generalize hw1 : w.alloc (.cells (rc_rectA 0 0 0 0) 78) = w1 at *
  clear hw1
  have q1 := (hax _ hm1).cell5
  obtain ⟨f0, f1, f2, f3, f4⟩ := q1
  go_upto_region 8 with (first
    | (go_at_call 211; (with_reducible refine (hC0 _).mono ?_); rintro e w2 ⟨rfl, hb2⟩; have hL2 := hL.nx hb2; have hm2 := hm1.nx hb2; have q2 := (hax _ hm2).cell5; obtain ⟨g0, g1, g2, g3, g4⟩ := q2; clear hL hm1 f0 f1 f2 f3 f4 hb2)
    | (go_at_call 211; (with_reducible refine (hC1 _).mono ?_); rintro e w3 ⟨rfl, hb3⟩; have hL3 := hL2.nx hb3; have hm3 := hm2.nx hb3; have q3 := (hax _ hm3).cell5; obtain ⟨f0, f1, f2, f3, f4⟩ := q3; clear hL2 hm2 g0 g1 g2 g3 g4 hb3)
    | (go_at_call 211; (with_reducible refine (hC2 _).mono ?_); rintro e w4 ⟨rfl, hb4⟩; have hL4 := hL3.nx hb4; have hm4 := hm3.nx hb4; have q4 := (hax _ hm4).cell5; obtain ⟨g0, g1, g2, g3, g4⟩ := q4; clear hL3 hm3 f0 f1 f2 f3 f4 hb4)
    | (go_at_call 211; (with_reducible refine (hC3 _).mono ?_); rintro e w5 ⟨rfl, hb5⟩; have hL5 := hL4.nx hb5; have hm5 := hm4.nx hb5; clear hL4 hm4 g0 g1 g2 g3 g4 hb5)
    | (go_at_call 212; (with_reducible refine (hKn i0 k0 _ hm5 (by omega) (by omega)).mono ?_); rintro e w6 ⟨rfl, hb6⟩; have hL6 := hL5.nx hb6; have hm6 := hm5.nx hb6; have hK6 := Bk.new w6 252 #[.int .i64 0, .int .i64 0]; clear hL5 hm5 hb6)
    | (refine stB (ty := 252) rfl _ _ rfl hK6 #[.int .i64 (knX l i0 k0), .int .i64 (knY l i0 k0)] rfl rfl kn_size rfl (by simp [Value.oneCell']) ?_; intro w7 k7 hg7 hs7))
  have hb67 : Below w6.heap.size w6 w7 := below_of_gb ((Below.refl w6.heap.size w6).alloc (Nat.le_refl _) _) hg7 (Nat.le_refl _) (by simp)
  have hL7 := hL6.put hg7 k7
  have hm7 := hm6.nx hb67
  obtain ⟨f0, f1⟩ := k7.cell2
  have hlt7 := k7.lt
  have hK0 : Hid (Bxd (fun x y => x = i0 ∧ y = k0) (knX l) (knY l) (knX l i0 k0) (knY l i0 k0) (knX l i0 k0) (knY l i0 k0)) := Bxd.one _ _ _ _
  clear hb67 hg7 hs7 hL6 hm6 hK6 k7 hC0 hC1 hC2 hC3 hax
  generalize w6.heap.size = g20 at *
  generalize knX l i0 k0 = X at *
  generalize knY l i0 k0 = Y at *
  simp only [Act.put]
  go_cut [21, 22] (fun p q wx => ∃ ga gb : Nat, p = .pointer (some ⟨ga, 0, none⟩) ∧ q = .pointer (some ⟨gb, 0, none⟩) ∧ ga ≠ gb ∧ w.heap.size < ga ∧ w.heap.size < gb ∧ Lie w [(ga, 252, #[.int .i64 X, .int .i64 Y]), (gb, 252, #[.int .i64 X, .int .i64 Y]), (w.heap.size, 78, rc_rectA 0 0 0 0)] wx ∧ MeW l wx g b o cp)
  case first =>
    go_region
    all_goals
      go_wp2_with fail
      go_meet
      have hlt := (hL7.k 1 (by simp)).lt
      simp only [List.getElem_cons_zero, List.getElem_cons_succ] at hlt
      have hLL := ((hL7.alloc #[.int .i64 X, .int .i64 Y] 252).alloc #[.int .i64 X, .int .i64 Y] 252).drew
      simp only [World.size_alloc] at hLL
      refine ⟨_, _, rfl, rfl, by omega, by omega, by omega, hLL.sub (by intro x hx; simp only [List.mem_cons, List.not_mem_nil, or_false] at hx ⊢; rcases hx with rfl | rfl | rfl <;> simp), ?_⟩
      exact hm7.nx ((((Below.refl _ _).alloc (Nat.le_refl _) _).alloc (by simp) _).drew)
  case rest =>
    obtain ⟨ga, gb, rfl, rfl, hne, hna, hnb, hLc, hmc⟩ := hcut
    clear hL7 hm7 f0 f1 hlt7
    have hK1 : Bxd (KnP i0 i1 k0 k0 i0) (knX l) (knY l) X Y X Y := hK0.out.ext (fun x y => knP_start)
    clear hK0
    go_wp2_with fail
    go_loopw [23] (fun i wr => ∃ k u v s t : Int, i = .int .i64 k ∧ k0 ≤ k ∧ k ≤ k1 + 2 ∧ Bxd (KnP i0 i1 k0 k i0) (knX l) (knY l) u v s t ∧ Lie w [(ga, 252, #[.int .i64 u, .int .i64 v]), (gb, 252, #[.int .i64 s, .int .i64 t]), (w.heap.size, 78, rc_rectA 0 0 0 0)] wr ∧ MeW l wr g b o cp) (fun i _ => (k1 + 2 - intOf i).toNat)
    case atStart => exact ⟨k0, X, Y, X, Y, rfl, by omega, by omega, hK1, hLc, hmc⟩
    case round =>
      clear hK1 hLc hmc
      obtain ⟨k, u, v, s, t, rfl, hk1, hk2, hS, hL, hm⟩ := hrel
      by_cases hlt : k ≤ k1 + 1
      · go_wp2_with fail
        go_loopw [24] (fun i wr => ∃ j u v s t : Int, i = .int .i64 j ∧ i0 ≤ j ∧ j ≤ i1 + 2 ∧ Bxd (KnP i0 i1 k0 k j) (knX l) (knY l) u v s t ∧ Lie w [(ga, 252, #[.int .i64 u, .int .i64 v]), (gb, 252, #[.int .i64 s, .int .i64 t]), (w.heap.size, 78, rc_rectA 0 0 0 0)] wr ∧ MeW l wr g b o cp) (fun i _ => (i1 + 2 - intOf i).toNat)
        case atStart => exact ⟨i0, u, v, s, t, rfl, by omega, by omega, hS, hL, hm⟩
        case round =>
          clear hS hL hm
          obtain ⟨j, u, v, s, t, rfl, hj1, hj2, hS, hL, hm⟩ := hrel
          by_cases hjt : j ≤ i1 + 1
          · have hLb := hL.sz
            have hga := (hL.k 0 (by simp)).lt
            have hgb := (hL.k 1 (by simp)).lt
            simp only [List.getElem_cons_zero, List.getElem_cons_succ] at hga hgb
            have hAt := hKn j k wr hm (by omega) (by omega)
            have hS2 := (hS.add j k).ext (fun x y => knP_step hj1)
            clear hS
            generalize knX l j k = p at *
            generalize knY l j k = q at *
            go_upto_region 16 with (first
              | (go_at_call 212; (with_reducible refine hAt.mono ?_); rintro e w8 ⟨rfl, hb8⟩; have hL8 := hL.nx hb8; have hm8 := hm.nx hb8; have hK8 := Bk.new w8 252 #[.int .i64 0, .int .i64 0])
              | (refine stB (ty := 252) rfl _ _ rfl hK8 #[.int .i64 p, .int .i64 q] rfl rfl kn_size rfl (by simp [Value.oneCell']) ?_; intro w9 k9 hg9 hs9))
            have hb89 : Below w8.heap.size w8 w9 := below_of_gb ((Below.refl w8.heap.size w8).alloc (Nat.le_refl _) _) hg9 (Nat.le_refl _) (by simp)
            have hL9 := hL8.put hg9 k9
            have hm9 := hm8.nx hb89
            have hz8 := hb8.size
            clear hL8 hm8 hg9 hs9 hb89 hK8 hL hm hAt hb8
            have hgaN : ga < w8.heap.size := by omega
            have hgbN : gb < w8.heap.size := by omega
            generalize w8.heap.size = g25 at *
            have kg9 : Bk w9 ga 252 #[.int .i64 u, .int .i64 v] := hL9.k 1 (by simp)
            obtain ⟨f0, f1⟩ := kg9.cell2
            obtain ⟨h0, h1⟩ := k9.cell2
            have hB1 : w.heap.size ≤ g25 := by omega
            go_wp2_with (first
              | (refine stB (ty := 252) rfl _ _ rfl kg9 #[.int .i64 (min u p), .int .i64 (min v q)] rfl rfl kn_size rfl (by simp [Value.oneCell']) ?_; intro w10 k10 hg10 hs10; have hL10 : Lie w [(g25, 252, #[.int .i64 p, .int .i64 q]), (ga, 252, #[.int .i64 (min u p), .int .i64 (min v q)]), (gb, 252, #[.int .i64 s, .int .i64 t]), (w.heap.size, 78, rc_rectA 0 0 0 0)] w10 := hL9.upd hg10 (by omega) (by
                intro y hy
                simp only [List.mem_cons, List.not_mem_nil, or_false] at hy
                rcases hy with rfl | rfl | rfl | rfl
                · exact .inr ⟨by simp, by show g25 ≠ ga; omega⟩
                · exact .inl ⟨rfl, k10⟩
                · exact .inr ⟨by simp, by show gb ≠ ga; omega⟩
                · exact .inr ⟨by simp, by show w.heap.size ≠ ga; omega⟩); have kb10 : Bk w10 gb 252 #[.int .i64 s, .int .i64 t] := hL10.k 2 (by simp); have x10 := kb10.cell2; obtain ⟨x0', x1'⟩ := x10; have y10 : w10.cell? ⟨g25, 0, none⟩ = some (.int .i64 p) ∧ w10.cell? ⟨g25, 1, none⟩ = some (.int .i64 q) := (hL10.k 0 (by simp)).cell2; obtain ⟨y0', y1'⟩ := y10)
              | (refine stB (ty := 252) rfl _ _ rfl kb10 #[.int .i64 (max s p), .int .i64 (max t q)] rfl rfl kn_size rfl (by simp [Value.oneCell']) ?_; intro w11 k11 hg11 hs11))
            have hL11 : Lie w [(ga, 252, #[.int .i64 (min u p), .int .i64 (min v q)]), (gb, 252, #[.int .i64 (max s p), .int .i64 (max t q)]), (w.heap.size, 78, rc_rectA 0 0 0 0)] w11 := hL10.upd hg11 (by omega) (by
              intro y hy
              simp only [List.mem_cons, List.not_mem_nil, or_false] at hy
              rcases hy with rfl | rfl | rfl
              · exact .inr ⟨by simp, by show ga ≠ gb; omega⟩
              · exact .inl ⟨rfl, k11⟩
              · exact .inr ⟨by simp, by show w.heap.size ≠ gb; omega⟩)
            exact ⟨⟨j + 1, _, _, _, _, by go_num, by omega, by omega, hS2, hL11, h.nx hL11.bel⟩, by simp [intOf]; omega⟩
          · obtain rfl : j = i1 + 2 := by omega
            have hS2 := hS.ext (fun x y => knP_row hk1 hi.2.1)
            clear hS
            go_wp2_with fail
            exact ⟨⟨k + 1, u, v, s, t, by go_num, by omega, by omega, hS2, hL, hm⟩, by simp [intOf]; omega⟩
      · obtain rfl : k = k1 + 2 := by omega
        have hS2 := hS.ext (fun x y => knP_end (k1 := k1) hk.2.1 hi.2.1)
        have k10 := hL.k 2 (by simp)
        obtain ⟨f0, f1⟩ := (hL.k 0 (by simp)).cell2
        obtain ⟨g0, g1⟩ := (hL.k 1 (by simp)).cell2
        simp only [List.getElem_cons_zero, List.getElem_cons_succ] at k10 f0 f1 g0 g1
        go_wp2_with (first
          | (refine rc_stRect rfl _ _ rfl k10 rfl rfl rfl ?_; intro w9 k19 hg9 hs9))
        refine bodyPost_ret (res_cell_tmp rfl k19 rfl Tryz.underlying78 rfl rc_rect_size) rfl ?_
        exact ⟨u, v, s, t, rfl, hS2, below_of_gb hL.bel hg9 (Nat.le_refl _) hL.sz⟩
end Go.Proofs.YtlbiiljncacdoaaGreat
end
section
set_option linter.unusedVariables false
namespace Go.Proofs.YtlbiiljncacdoaaGreat
open Go.RowKit
attribute [local go_sem high] run_maxM run_minM
def KnQ (i0 i1 k0 k i : Int) (x y : Int) : Prop := (i0 ≤ x ∧ x ≤ i1 + 1 ∧ k0 ≤ y ∧ y < k) ∨ (y = k ∧ i0 ≤ x ∧ x < i)
theorem knQ_start {i0 i1 k0 x y : Int} : False ↔ KnQ i0 i1 k0 k0 i0 x y := ⟨False.elim, by unfold KnQ; omega⟩
theorem knQ_step {i0 i1 k0 k j x y : Int} (h : i0 ≤ j) : (KnQ i0 i1 k0 k j x y ∨ (x = j ∧ y = k)) ↔ KnQ i0 i1 k0 k (j + 1) x y := by unfold KnQ; omega
theorem knQ_row {i0 i1 k0 k x y : Int} (h : k0 ≤ k) (h' : i0 ≤ i1) : KnQ i0 i1 k0 k (i1 + 2) x y ↔ KnQ i0 i1 k0 (k + 1) i0 x y := by unfold KnQ; omega
theorem knQ_end {i0 i1 k0 k1 x y : Int} (h : k0 ≤ k1) (h' : i0 ≤ i1) : KnQ i0 i1 k0 (k1 + 2) i0 x y ↔ KnS i0 i1 k0 k1 x y := by unfold KnQ KnS; omega
theorem kn_far {l : List Int} (h : MeF l) (i k : Int) : (-4611686018427387904 < knX l i k ∧ knX l i k < 4611686018427387904) ∧ (-4611686018427387904 < knY l i k ∧ knY l i k < 4611686018427387904) := by
  have h1 := h.far (4 + knJ l i k * 2) (by omega)
  have h2 := h.far (4 + knJ l i k * 2 + 1) (by omega)
  unfold knX knY; omega
set_option maxRecDepth 100000 in
set_option maxHeartbeats 16000000 in
theorem rhull_any (l : List Int) (A : Option Addr) (n cp : Nat) (x0 y0 x1 y1 i0 i1 k0 k1 : Int) (w : World) (hF : MeF l) (hl : l.length = n) (hln : (l.length : Int) = meLn l) (hr : Rd w w.heap.size A (l.map (Value.int .i64))) (hx : 0 ≤ x0 ∧ x0 < x1 ∧ x1 ≤ 32768) (hy : 0 ≤ y0 ∧ y0 < y1 ∧ y1 ≤ 32768)
    (e0 : meI (cf l 0) (cf l 2) (2 * x0 - 1) 2 = i0) (e1 : meI (cf l 0) (cf l 2) (2 * x1 - 1) 2 = i1) (e2 : meI (cf l 1) (cf l 3) (2 * y0 - 1) 2 = k0) (e3 : meI (cf l 1) (cf l 3) (2 * y1 - 1) 2 = k1)
    (hi : 0 ≤ i0 ∧ i0 ≤ i1 ∧ i1 + 1 ≤ cf l 2) (hk : 0 ≤ k0 ∧ k0 ≤ k1 ∧ k1 + 1 ≤ cf l 3) :
    Calls Tryz.prog 114 #[.slice A n cp, .int .i64 x0, .int .i64 y0, .int .i64 x1, .int .i64 y1] w fun e w' => ∃ u v s t, e = .returned (rc_rect4 u v s t) ∧ Bxd (KnS i0 i1 k0 k1) (knX l) (knY l) u v s t ∧ Below w.heap.size w w' := by
  have hL := (Lie.start w).alloc (rc_rectA 0 0 0 0) 78
  have hC0 := fun w' => (rmcell_any (cf l 0) (cf l 2) (2 * x0 - 1) 2 w' hF.gx hF.nx (by decide) (by omega)).mono (R' := fun e w'' => e = .returned (.tuple #[.int .i64 (meI (cf l 0) (cf l 2) (2 * x0 - 1) 2), .int .i64 (meT (cf l 0) (cf l 2) (2 * x0 - 1) 2)]) ∧ w'' = w') fun e w'' ⟨q1, q2⟩ => ⟨q1, q2.symm⟩
  have hC1 := fun w' => (rmcell_any (cf l 0) (cf l 2) (2 * x1 - 1) 2 w' hF.gx hF.nx (by decide) (by omega)).mono (R' := fun e w'' => e = .returned (.tuple #[.int .i64 (meI (cf l 0) (cf l 2) (2 * x1 - 1) 2), .int .i64 (meT (cf l 0) (cf l 2) (2 * x1 - 1) 2)]) ∧ w'' = w') fun e w'' ⟨q1, q2⟩ => ⟨q1, q2.symm⟩
  have hC2 := fun w' => (rmcell_any (cf l 1) (cf l 3) (2 * y0 - 1) 2 w' hF.gy hF.ny (by decide) (by omega)).mono (R' := fun e w'' => e = .returned (.tuple #[.int .i64 (meI (cf l 1) (cf l 3) (2 * y0 - 1) 2), .int .i64 (meT (cf l 1) (cf l 3) (2 * y0 - 1) 2)]) ∧ w'' = w') fun e w'' ⟨q1, q2⟩ => ⟨q1, q2.symm⟩
  have hC3 := fun w' => (rmcell_any (cf l 1) (cf l 3) (2 * y1 - 1) 2 w' hF.gy hF.ny (by decide) (by omega)).mono (R' := fun e w'' => e = .returned (.tuple #[.int .i64 (meI (cf l 1) (cf l 3) (2 * y1 - 1) 2), .int .i64 (meT (cf l 1) (cf l 3) (2 * y1 - 1) 2)]) ∧ w'' = w') fun e w'' ⟨q1, q2⟩ => ⟨q1, q2.symm⟩
  rw [e0] at hC0
  rw [e1] at hC1
  rw [e2] at hC2
  rw [e3] at hC3
  have hKx := fun (i k : Int) (w' : World) (hb : Below w.heap.size w w') (a : 0 ≤ i ∧ i ≤ cf l 2) (c : 0 ≤ k ∧ k ≤ cf l 3) => rknot_any l A n cp i k 0 w' hF hl hln (hr.below hb) a c (by decide)
  have hKy := fun (i k : Int) (w' : World) (hb : Below w.heap.size w w') (a : 0 ≤ i ∧ i ≤ cf l 2) (c : 0 ≤ k ∧ k ≤ cf l 3) => rknot_any l A n cp i k 1 w' hF hl hln (hr.below hb) a c (by decide)
  have hfr := Lib.hid (kn_far hF)
  obtain ⟨hm4, _⟩ := ln_K hF hln
  obtain ⟨b, o, rfl, hb, hc⟩ := lget4 (by omega) hr
  have c0 := hc 0 (by omega)
  have c1 := hc 1 (by omega)
  have c2 := hc 2 (by omega)
  have c3 := hc 3 (by omega)
  have hn4 : 4 ≤ n := by omega
  generalize meT (cf l 0) (cf l 2) (2 * x0 - 1) 2 = t0 at *
  generalize meT (cf l 0) (cf l 2) (2 * x1 - 1) 2 = t1 at *
  generalize meT (cf l 1) (cf l 3) (2 * y0 - 1) 2 = t2 at *
  generalize meT (cf l 1) (cf l 3) (2 * y1 - 1) 2 = t3 at *
  have hnx := hF.nx
  have hny := hF.ny
  clear e0 e1 e2 e3 hF hl hln hr hc
  obtain ⟨a0, a1, a2⟩ := hx
  obtain ⟨b0, b1, b2⟩ := hy
  go_enter Tryz.func114, Tryz.ntmps114
  go_upto_region 1 with fail
  generalize hw1 : w.alloc (.cells (rc_rectA 0 0 0 0) 78) = w1 at *
  clear hw1
  replace c0 := (hL.bel.cell (p := ⟨b, o + 0, none⟩) hb).trans c0
  replace c1 := (hL.bel.cell (p := ⟨b, o + 1, none⟩) hb).trans c1
  replace c2 := (hL.bel.cell (p := ⟨b, o + 2, none⟩) hb).trans c2
  replace c3 := (hL.bel.cell (p := ⟨b, o + 3, none⟩) hb).trans c3
  rw [Nat.add_zero] at c0
  go_quiet ((go_at_call 148; with_reducible exact Calls.quiet_of_same (hC0 _)))
  replace hL := hL.drewN nq
  have hbz := below_drewN (Below.refl w1.heap.size w1) nq
  have hzb : b < w1.heap.size := Nat.lt_of_lt_of_le hb (hL.sz)
  replace c0 := (hbz.cell (p := ⟨b, o, none⟩) hzb).trans c0
  replace c1 := (hbz.cell (p := ⟨b, o + 1, none⟩) hzb).trans c1
  replace c2 := (hbz.cell (p := ⟨b, o + 2, none⟩) hzb).trans c2
  replace c3 := (hbz.cell (p := ⟨b, o + 3, none⟩) hzb).trans c3
  clear hbz hzb
  generalize w1.drewN nq = w2 at *
  go_upto_region 2 with fail
  go_quiet ((go_at_call 148; with_reducible exact Calls.quiet_of_same (hC1 _)))
  replace hL := hL.drewN nq
  have hbz := below_drewN (Below.refl w2.heap.size w2) nq
  have hzb : b < w2.heap.size := Nat.lt_of_lt_of_le hb (hL.sz)
  replace c0 := (hbz.cell (p := ⟨b, o, none⟩) hzb).trans c0
  replace c1 := (hbz.cell (p := ⟨b, o + 1, none⟩) hzb).trans c1
  replace c2 := (hbz.cell (p := ⟨b, o + 2, none⟩) hzb).trans c2
  replace c3 := (hbz.cell (p := ⟨b, o + 3, none⟩) hzb).trans c3
  clear hbz hzb
  generalize w2.drewN nq = w3 at *
  go_upto_region 3 with fail
  go_quiet ((go_at_call 148; with_reducible exact Calls.quiet_of_same (hC2 _)))
  replace hL := hL.drewN nq
  have hbz := below_drewN (Below.refl w3.heap.size w3) nq
  have hzb : b < w3.heap.size := Nat.lt_of_lt_of_le hb (hL.sz)
  replace c0 := (hbz.cell (p := ⟨b, o, none⟩) hzb).trans c0
  replace c1 := (hbz.cell (p := ⟨b, o + 1, none⟩) hzb).trans c1
  replace c2 := (hbz.cell (p := ⟨b, o + 2, none⟩) hzb).trans c2
  replace c3 := (hbz.cell (p := ⟨b, o + 3, none⟩) hzb).trans c3
  clear hbz hzb
  generalize w3.drewN nq = w4 at *
  go_upto_region 4 with fail
  go_quiet ((go_at_call 148; with_reducible exact Calls.quiet_of_same (hC3 _)))
  replace hL := hL.drewN nq
  have hbz := below_drewN (Below.refl w4.heap.size w4) nq
  have hzb : b < w4.heap.size := Nat.lt_of_lt_of_le hb (hL.sz)
  replace c0 := (hbz.cell (p := ⟨b, o, none⟩) hzb).trans c0
  replace c1 := (hbz.cell (p := ⟨b, o + 1, none⟩) hzb).trans c1
  replace c2 := (hbz.cell (p := ⟨b, o + 2, none⟩) hzb).trans c2
  replace c3 := (hbz.cell (p := ⟨b, o + 3, none⟩) hzb).trans c3
  clear hbz hzb
  generalize w4.drewN nq = w5 at *
  clear c0 c1 c2 c3 hC0 hC1 hC2 hC3
  have hS0 : Pbx (KnQ i0 i1 k0 k0 i0) (knX l) (knY l) 4611686018427387904 4611686018427387904 (-4611686018427387904) (-4611686018427387904) := (Pbx.none (knX l) (knY l)).ext (fun x y => knQ_start)
  have hg0 := Bk.new w5 78 (rc_rectA 0 0 0 0)
  go_upto_region 6 with (first
    | (refine rc_stRect rfl _ _ rfl hg0 rfl rfl rfl ?_; intro w6 k6 hg6 hs6))
  have hL6 := hL.put hg6 k6
  have hgt : w.heap.size < w5.heap.size := by have := (hL.k 0 (by simp)).lt; simpa using this
  generalize w5.heap.size = g19 at *
  clear hL hg0 hg6 hs6 k6
  go_wp2_with fail
  go_loopw [20] (fun i wr => ∃ k u v s t : Int, i = .int .i64 k ∧ k0 ≤ k ∧ k ≤ k1 + 2 ∧ Pbx (KnQ i0 i1 k0 k i0) (knX l) (knY l) u v s t ∧ Lie w [(g19, 78, rc_rectA u v s t), (w.heap.size, 78, rc_rectA 0 0 0 0)] wr) (fun i _ => (k1 + 2 - intOf i).toNat)
  case atStart => exact ⟨k0, _, _, _, _, rfl, by omega, by omega, hS0, hL6⟩
  case round =>
    clear hS0 hL6
    obtain ⟨k, u, v, s, t, rfl, hk1, hk2, hS, hL⟩ := hrel
    by_cases hlt : k ≤ k1 + 1
    · go_wp2_with fail
      go_loopw [21] (fun i wr => ∃ j u v s t : Int, i = .int .i64 j ∧ i0 ≤ j ∧ j ≤ i1 + 2 ∧ Pbx (KnQ i0 i1 k0 k j) (knX l) (knY l) u v s t ∧ Lie w [(g19, 78, rc_rectA u v s t), (w.heap.size, 78, rc_rectA 0 0 0 0)] wr) (fun i _ => (i1 + 2 - intOf i).toNat)
      case atStart => exact ⟨i0, u, v, s, t, rfl, by omega, by omega, hS, hL⟩
      case round =>
        clear hS hL
        obtain ⟨j, u, v, s, t, rfl, hj1, hj2, hS, hL⟩ := hrel
        by_cases hjt : j ≤ i1 + 1
        · obtain ⟨⟨f1, f2⟩, f3, f4⟩ := hfr.out j k
          have hAx : Calls Tryz.prog 151 #[.slice (some ⟨b, o, none⟩) n cp, .int .i64 j, .int .i64 k, .int .i64 0] wr fun e w' => e = .returned (.int .i64 (knX l j k)) ∧ wr = w' := hKx j k wr hL.bel (by omega) (by omega)
          have hAy : Calls Tryz.prog 151 #[.slice (some ⟨b, o, none⟩) n cp, .int .i64 j, .int .i64 k, .int .i64 1] wr fun e w' => e = .returned (.int .i64 (knY l j k)) ∧ wr = w' := hKy j k wr hL.bel (by omega) (by omega)
          have hS2 := (hS.add j k ⟨by omega, by omega⟩ ⟨by omega, by omega⟩).ext (fun x y => knQ_step hj1)
          have kg := hL.k 0 (by simp)
          simp only [List.getElem_cons_zero] at kg
          obtain ⟨d0, d1, d2, d3⟩ := kg.cell4
          clear hS f1 f2 f3 f4
          generalize knX l j k = p at *
          generalize knY l j k = q at *
          go_wp2_with (first
            | (go_at_call 151; (with_reducible refine hAx.mono ?_); rintro e w8 ⟨rfl, rfl⟩)
            | (go_at_call 151; (with_reducible refine hAy.mono ?_); rintro e w8 ⟨rfl, rfl⟩)
            | (refine rc_stRect rfl _ _ rfl kg rfl rfl rfl ?_; intro w9 k9 hg9 hs9))
          have hL9 : Lie w [(g19, 78, rc_rectA (min u p) (min v q) (max s p) (max t q)), (w.heap.size, 78, rc_rectA 0 0 0 0)] w9 := hL.upd hg9 (by omega) (by
            intro y hy
            simp only [List.mem_cons, List.not_mem_nil, or_false] at hy
            rcases hy with rfl | rfl
            · exact .inl ⟨rfl, k9⟩
            · exact .inr ⟨by simp, by show w.heap.size ≠ g19; omega⟩)
          exact ⟨⟨j + 1, _, _, _, _, by go_num, by omega, by omega, hS2, hL9⟩, by simp [intOf]; omega⟩
        · obtain rfl : j = i1 + 2 := by omega
          have hS2 := hS.ext (fun x y => knQ_row hk1 hi.2.1)
          clear hS
          go_wp2_with fail
          exact ⟨⟨k + 1, u, v, s, t, by go_num, by omega, by omega, hS2, hL⟩, by simp [intOf]; omega⟩
    · obtain rfl : k = k1 + 2 := by omega
      have hS2 := hS.ext (fun x y => knQ_end (k1 := k1) hk.2.1 hi.2.1)
      obtain ⟨⟨f1, f2⟩, f3, f4⟩ := hfr.out i0 k0
      have hS3 := hS2.full (p := i0) (q := k0) (by unfold KnS; omega) ⟨f1, f2⟩ ⟨f3, f4⟩
      have kg := hL.k 0 (by simp)
      have k10 := hL.k 1 (by simp)
      simp only [List.getElem_cons_zero, List.getElem_cons_succ] at kg k10
      clear hS hS2 f1 f2 f3 f4
      go_wp2_with (first
        | (refine rc_ldRect rfl _ rfl kg rfl ?_)
        | (refine rc_stRect rfl _ _ rfl k10 rfl rfl rfl ?_; intro w9 k19 hg9 hs9))
      refine bodyPost_ret (rc_res_rect rfl k19 rfl) rfl ?_
      exact ⟨u, v, s, t, rfl, hS3, below_of_gb hL.bel hg9 (Nat.le_refl _) hL.sz⟩
end Go.Proofs.YtlbiiljncacdoaaGreat
end
section
set_option linter.unusedVariables false
namespace Go.Proofs.YtlbiiljncacdoaaGreat
open Go.RowKit
attribute [local go_sem high] run_maxM run_minM
/-- The knots around a part. -/
def KnR (l : List Int) (a b c d : Int) : Int → Int → Prop := KnS (meI (cf l 0) (cf l 2) (2 * a - 1) 2) (meI (cf l 0) (cf l 2) (2 * c - 1) 2) (meI (cf l 1) (cf l 3) (2 * b - 1) 2) (meI (cf l 1) (cf l 3) (2 * d - 1) 2)
theorem kn_i {l : List Int} (hF : MeF l) {a c : Int} (h : a < c) : 0 ≤ meI (cf l 0) (cf l 2) (2 * a - 1) 2 ∧ meI (cf l 0) (cf l 2) (2 * a - 1) 2 ≤ meI (cf l 0) (cf l 2) (2 * c - 1) 2 ∧ meI (cf l 0) (cf l 2) (2 * c - 1) 2 + 1 ≤ cf l 2 := by
  have h1 := (meB (p := 2 * a - 1) (d := 2) hF.gx.1 hF.nx.1 (by decide)).i
  have h2 := (meB (p := 2 * c - 1) (d := 2) hF.gx.1 hF.nx.1 (by decide)).i
  have h3 := meI_mono (p := 2 * a - 1) (p' := 2 * c - 1) hF.gx.1 hF.nx.1 (by omega)
  omega
theorem kn_k {l : List Int} (hF : MeF l) {a c : Int} (h : a < c) : 0 ≤ meI (cf l 1) (cf l 3) (2 * a - 1) 2 ∧ meI (cf l 1) (cf l 3) (2 * a - 1) 2 ≤ meI (cf l 1) (cf l 3) (2 * c - 1) 2 ∧ meI (cf l 1) (cf l 3) (2 * c - 1) 2 + 1 ≤ cf l 3 := by
  have h1 := (meB (p := 2 * a - 1) (d := 2) hF.gy.1 hF.ny.1 (by decide)).i
  have h2 := (meB (p := 2 * c - 1) (d := 2) hF.gy.1 hF.ny.1 (by decide)).i
  have h3 := meI_mono (p := 2 * a - 1) (p' := 2 * c - 1) hF.gy.1 hF.ny.1 (by omega)
  omega
set_option maxRecDepth 100000 in
set_option maxHeartbeats 8000000 in
theorem bhull_any (l : List Int) (A : Option Addr) (n cp : Nat) (W H a b c d : Int) (w : World) (hl : l.length = n) (hcp : n ≤ cp) (hcm : cp ≤ maxLen) (hr : Rd w w.heap.size A (l.map (Value.int .i64))) (hz : meC l W H = 0)
    (ha : 0 ≤ a ∧ a < c ∧ c ≤ 32768) (hb : 0 ≤ b ∧ b < d ∧ d ≤ 32768) :
    Calls Tryz.prog 111 #[xfV 4 A n cp, .int .i64 W, .int .i64 H, rc_rect4 a b c d] w fun e w' => ∃ u v s t, e = .returned (rc_rect4 u v s t) ∧ Bxd (KnR l a b c d) (knX l) (knY l) u v s t ∧ Below w.heap.size w w' := by
  have hL := (((Lie.start w).alloc #[.int .i64 4, .slice A n cp] 31).alloc (rc_rectA a b c d) 78).alloc (rc_rectA 0 0 0 0) 83
  simp only [World.size_alloc] at hL
  have hF := meC_F hz
  have hn : n ≤ 100000 := by obtain ⟨q1, q2, _⟩ := ln_K (meC_F hz) (meC_zero.1 hz).2.2.1; omega
  have hN := fun (w' : World) (hb' : Below w.heap.size w w') => mnew_ok l A n cp W H w' hl hcp hcm hn (hr.below hb') hb'.size hz
  have hH := fun (g b' o cp' : Nat) (w' : World) (h : MeW l w' g b' o cp') => mhull_any l g b' o cp' a b c d _ _ _ _ w' hF h ha hb rfl rfl rfl rfl (kn_i hF ha.2.1) (kn_k hF hb.2.1)
  have eS : KnS (meI (cf l 0) (cf l 2) (2 * a - 1) 2) (meI (cf l 0) (cf l 2) (2 * c - 1) 2) (meI (cf l 1) (cf l 3) (2 * b - 1) 2) (meI (cf l 1) (cf l 3) (2 * d - 1) 2) = KnR l a b c d := rfl
  rw [eS] at hH
  have k4 := (hL.k 2 (by simp)).cell2
  simp only [List.getElem_cons_zero, List.getElem_cons_succ] at k4
  obtain ⟨x0, x1⟩ := k4
  clear hl hcp hcm hr hz hF hn ha hb eS
  go_enter Tryz.func111, Tryz.ntmps111
  go_upto_region 1 with fail
  replace hN := hN _ hL.bel
  generalize hw0 : (((w.alloc (.cells #[.int .i64 4, .slice A n cp] 31)).alloc (.cells (rc_rectA a b c d) 78)).alloc (.cells (rc_rectA 0 0 0 0) 83)) = w0 at *
  clear hw0
  go_upto_region 2 with (first
    | (go_at_call 169; (with_reducible refine hN.mono ?_); rintro e w1 ⟨g, b', o, cp', rfl, _, _, hM, hb1⟩))
  have hL1 := hL.nx hb1
  replace hH := hH g b' o cp' w1 hM
  obtain ⟨y0, y1, y2, y3⟩ := (show Bk w1 (w.heap.size + 1) 78 (rc_rectA a b c d) from hL1.k 1 (by simp)).cell4
  clear hN hL hb1 hM x0 x1
  go_upto_region 3 with (first
    | (go_at_call 170; (with_reducible refine hH.mono ?_); rintro e w2 ⟨u, v, s, t, rfl, hS, hb2⟩; have hL2 := hL1.nx hb2; have hg2 := Bk.new w2 78 (rc_rectA 0 0 0 0))
    | (refine rc_stRect rfl _ _ rfl hg2 rfl rfl rfl ?_; intro w3 k3 hg3 hs3))
  have hL3 := hL2.put hg3 k3
  have k83 : Bk w3 (w.heap.size + 1 + 1) 83 (rc_rectA 0 0 0 0) := hL3.k 1 (by simp)
  obtain ⟨z0, z1, z2, z3⟩ := k3.cell4
  clear hL1 hH hb2 hg2 hg3 hs3 k3 hL2 y0 y1 y2 y3
  go_wp2_with (first
    | (refine stB (ty := 83) rfl _ _ rfl k83 (rc_rectA u v s t) rfl rfl bx_size rfl (by simp [Value.oneCell']) ?_; intro w4 k84 hg4 hs4))
  refine bodyPost_ret (res_cell rfl k84 rfl Tryz.underlying83 rfl bx_size) rfl ?_
  exact ⟨u, v, s, t, rfl, hS, below_of_gb hL3.bel hg4 (by omega) hL3.sz⟩
end Go.Proofs.YtlbiiljncacdoaaGreat
end
