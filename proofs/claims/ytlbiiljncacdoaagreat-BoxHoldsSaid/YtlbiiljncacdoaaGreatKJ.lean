/- Several texts in one: The least box around what two functions tell of a set of places: plain. What is wrong with a part of a transform's image: box.Of's and the reference's code; whether a part is small. The reference's code of a part of an image; whether a part is small. Whether a part is small: an answer comes. -/
import Derived.Test.YtlbiiljncacdoaaGreatBase
import Derived.Test.YtlbiiljncacdoaaGreatNP
import Derived.Test.YtlbiiljncacdoaaGreatKB
section
set_option linter.unusedVariables false
namespace Go.Proofs.YtlbiiljncacdoaaGreat
/-- (u, v, s, t) is the least box around the values of F and G over S. -/
structure Bxd (S : Int → Int → Prop) (F G : Int → Int → Int) (u v s t : Int) : Prop where
  b : ∀ x y, S x y → (u ≤ F x y ∧ F x y ≤ s) ∧ (v ≤ G x y ∧ G x y ≤ t)
  u : ∃ x y, S x y ∧ u = F x y
  v : ∃ x y, S x y ∧ v = G x y
  s : ∃ x y, S x y ∧ s = F x y
  t : ∃ x y, S x y ∧ t = G x y
theorem Bxd.uniq {S : Int → Int → Prop} {F G : Int → Int → Int} {u v s t u' v' s' t' : Int} (h : Bxd S F G u v s t) (h' : Bxd S F G u' v' s' t') : u = u' ∧ v = v' ∧ s = s' ∧ t = t' := by
  obtain ⟨x1, y1, p1, e1⟩ := h.u
  obtain ⟨x2, y2, p2, e2⟩ := h.v
  obtain ⟨x3, y3, p3, e3⟩ := h.s
  obtain ⟨x4, y4, p4, e4⟩ := h.t
  obtain ⟨x5, y5, p5, e5⟩ := h'.u
  obtain ⟨x6, y6, p6, e6⟩ := h'.v
  obtain ⟨x7, y7, p7, e7⟩ := h'.s
  obtain ⟨x8, y8, p8, e8⟩ := h'.t
  have a1 := h'.b _ _ p1
  have a2 := h'.b _ _ p2
  have a3 := h'.b _ _ p3
  have a4 := h'.b _ _ p4
  have a5 := h.b _ _ p5
  have a6 := h.b _ _ p6
  have a7 := h.b _ _ p7
  have a8 := h.b _ _ p8
  omega
theorem Bxd.ext {S S' : Int → Int → Prop} {F G : Int → Int → Int} {u v s t : Int} (h : Bxd S F G u v s t) (e : ∀ x y, S x y ↔ S' x y) : Bxd S' F G u v s t := by
  obtain ⟨b, ⟨x1, y1, p1, e1⟩, ⟨x2, y2, p2, e2⟩, ⟨x3, y3, p3, e3⟩, ⟨x4, y4, p4, e4⟩⟩ := h
  exact ⟨fun x y hs => b x y ((e x y).2 hs), ⟨x1, y1, (e _ _).1 p1, e1⟩, ⟨x2, y2, (e _ _).1 p2, e2⟩, ⟨x3, y3, (e _ _).1 p3, e3⟩, ⟨x4, y4, (e _ _).1 p4, e4⟩⟩
theorem Bxd.one (F G : Int → Int → Int) (p q : Int) : Bxd (fun x y => x = p ∧ y = q) F G (F p q) (G p q) (F p q) (G p q) :=
  ⟨fun x y h => by obtain ⟨rfl, rfl⟩ := h; omega, ⟨p, q, ⟨rfl, rfl⟩, rfl⟩, ⟨p, q, ⟨rfl, rfl⟩, rfl⟩, ⟨p, q, ⟨rfl, rfl⟩, rfl⟩, ⟨p, q, ⟨rfl, rfl⟩, rfl⟩⟩
theorem min_or {P : Int → Prop} {a b : Int} (ha : P a) (hb : P b) : P (min a b) := by
  rcases Int.le_total a b with h | h
  · rw [Int.min_eq_left h]; exact ha
  · rw [Int.min_eq_right h]; exact hb
theorem max_or {P : Int → Prop} {a b : Int} (ha : P a) (hb : P b) : P (max a b) := by
  rcases Int.le_total a b with h | h
  · rw [Int.max_eq_right h]; exact hb
  · rw [Int.max_eq_left h]; exact ha
theorem Bxd.add {S : Int → Int → Prop} {F G : Int → Int → Int} {u v s t : Int} (h : Bxd S F G u v s t) (p q : Int) :
    Bxd (fun x y => S x y ∨ (x = p ∧ y = q)) F G (min u (F p q)) (min v (G p q)) (max s (F p q)) (max t (G p q)) := by
  obtain ⟨b, ⟨x1, y1, p1, e1⟩, ⟨x2, y2, p2, e2⟩, ⟨x3, y3, p3, e3⟩, ⟨x4, y4, p4, e4⟩⟩ := h
  refine ⟨?_, ?_, ?_, ?_, ?_⟩
  · rintro x y (hs | ⟨rfl, rfl⟩)
    · have := b x y hs; omega
    · omega
  · exact min_or (P := fun z => ∃ x y, (S x y ∨ (x = p ∧ y = q)) ∧ z = F x y) ⟨x1, y1, .inl p1, e1⟩ ⟨p, q, .inr ⟨rfl, rfl⟩, rfl⟩
  · exact min_or (P := fun z => ∃ x y, (S x y ∨ (x = p ∧ y = q)) ∧ z = G x y) ⟨x2, y2, .inl p2, e2⟩ ⟨p, q, .inr ⟨rfl, rfl⟩, rfl⟩
  · exact max_or (P := fun z => ∃ x y, (S x y ∨ (x = p ∧ y = q)) ∧ z = F x y) ⟨x3, y3, .inl p3, e3⟩ ⟨p, q, .inr ⟨rfl, rfl⟩, rfl⟩
  · exact max_or (P := fun z => ∃ x y, (S x y ∨ (x = p ∧ y = q)) ∧ z = G x y) ⟨x4, y4, .inl p4, e4⟩ ⟨p, q, .inr ⟨rfl, rfl⟩, rfl⟩
/-- As Bxd, beginning with an empty box: far numbers stand for none. -/
structure Pbx (S : Int → Int → Prop) (F G : Int → Int → Int) (u v s t : Int) : Prop where
  b : ∀ x y, S x y → (u ≤ F x y ∧ F x y ≤ s) ∧ (v ≤ G x y ∧ G x y ≤ t)
  u : u = 4611686018427387904 ∨ ∃ x y, S x y ∧ u = F x y
  v : v = 4611686018427387904 ∨ ∃ x y, S x y ∧ v = G x y
  s : s = -4611686018427387904 ∨ ∃ x y, S x y ∧ s = F x y
  t : t = -4611686018427387904 ∨ ∃ x y, S x y ∧ t = G x y
theorem Pbx.none (F G : Int → Int → Int) : Pbx (fun _ _ => False) F G 4611686018427387904 4611686018427387904 (-4611686018427387904) (-4611686018427387904) :=
  ⟨fun _ _ h => h.elim, .inl rfl, .inl rfl, .inl rfl, .inl rfl⟩
theorem Pbx.ext {S S' : Int → Int → Prop} {F G : Int → Int → Int} {u v s t : Int} (h : Pbx S F G u v s t) (e : ∀ x y, S x y ↔ S' x y) : Pbx S' F G u v s t := by
  have : S = S' := by funext x y; exact propext (e x y)
  subst this; exact h
theorem Pbx.add {S : Int → Int → Prop} {F G : Int → Int → Int} {u v s t : Int} (h : Pbx S F G u v s t) (p q : Int) (hF : -4611686018427387904 ≤ F p q ∧ F p q ≤ 4611686018427387904) (hG : -4611686018427387904 ≤ G p q ∧ G p q ≤ 4611686018427387904) :
    Pbx (fun x y => S x y ∨ (x = p ∧ y = q)) F G (min u (F p q)) (min v (G p q)) (max s (F p q)) (max t (G p q)) := by
  obtain ⟨b, h1, h2, h3, h4⟩ := h
  have n1 : ∃ x y, (S x y ∨ (x = p ∧ y = q)) ∧ F p q = F x y := ⟨p, q, .inr ⟨rfl, rfl⟩, rfl⟩
  have n2 : ∃ x y, (S x y ∨ (x = p ∧ y = q)) ∧ G p q = G x y := ⟨p, q, .inr ⟨rfl, rfl⟩, rfl⟩
  refine ⟨?_, ?_, ?_, ?_, ?_⟩
  · rintro x y (hs | ⟨rfl, rfl⟩)
    · have := b x y hs; omega
    · omega
  · exact min_or (P := fun z => z = 4611686018427387904 ∨ ∃ x y, (S x y ∨ (x = p ∧ y = q)) ∧ z = F x y) (h1.imp id fun ⟨x, y, k, e⟩ => ⟨x, y, .inl k, e⟩) (.inr n1)
  · exact min_or (P := fun z => z = 4611686018427387904 ∨ ∃ x y, (S x y ∨ (x = p ∧ y = q)) ∧ z = G x y) (h2.imp id fun ⟨x, y, k, e⟩ => ⟨x, y, .inl k, e⟩) (.inr n2)
  · exact max_or (P := fun z => z = -4611686018427387904 ∨ ∃ x y, (S x y ∨ (x = p ∧ y = q)) ∧ z = F x y) (h3.imp id fun ⟨x, y, k, e⟩ => ⟨x, y, .inl k, e⟩) (.inr n1)
  · exact max_or (P := fun z => z = -4611686018427387904 ∨ ∃ x y, (S x y ∨ (x = p ∧ y = q)) ∧ z = G x y) (h4.imp id fun ⟨x, y, k, e⟩ => ⟨x, y, .inl k, e⟩) (.inr n2)
theorem Pbx.full {S : Int → Int → Prop} {F G : Int → Int → Int} {u v s t : Int} (h : Pbx S F G u v s t) {p q : Int} (hS : S p q) (hF : -4611686018427387904 < F p q ∧ F p q < 4611686018427387904) (hG : -4611686018427387904 < G p q ∧ G p q < 4611686018427387904) : Bxd S F G u v s t := by
  obtain ⟨b, h1, h2, h3, h4⟩ := h
  have := b p q hS
  exact ⟨b, h1.resolve_left (by omega), h2.resolve_left (by omega), h3.resolve_left (by omega), h4.resolve_left (by omega)⟩
end Go.Proofs.YtlbiiljncacdoaaGreat
end
section
set_option linter.unusedVariables false
namespace Go.Proofs.YtlbiiljncacdoaaGreat
open Go.RowKit
attribute [local go_sem high] run_maxM run_minM
theorem neq_rect (a b c d e f g h : Int) (w : World) : (binOp .neq 78 (rc_rect4 a b c d) (rc_rect4 e f g h)).run Tryz.prog w = .ok (.bool (!decide ((a, b, c, d) = (e, f, g, h)))) w := by
  rw [eq4_bool]
  simp [go_sem, Tryz.underlying78]
  by_cases h1 : a = e <;> by_cases h2 : b = f <;> by_cases h3 : c = g <;> by_cases h4 : d = h <;> simp [h1, h2, h3, h4]
theorem Lie.put {w0 w1 w' : World} {L : List (Nat × TypeId × Array Value)} {o : Obj} {t : TypeId} {cs : Array Value} (h : Lie w0 L w1) (hg : (w1.alloc o).grownBy w' (some w1.heap.size)) (hK : Bk w' w1.heap.size t cs) : Lie w0 ((w1.heap.size, t, cs) :: L) w' := by
  refine ⟨below_of_gb (h.1.alloc h.sz o) hg h.sz (by have := h.sz; simp; omega), fun x hx => ?_⟩
  rcases List.mem_cons.1 hx with rfl | hx2
  · exact hK
  · have hx3 := h.2 x hx2
    exact (hx3.alloc o).grown hg (fun e => by injection e with e; have := hx3.lt; omega)
def bxC (C a b c d W H n : Int) : Int := if C ≠ 0 then C else if rc_emptyR a b c d ∨ bothR a b c d 0 0 W H ≠ (a, b, c, d) then 11 else if n < 0 ∨ 8 < n then 10 else 0
set_option maxRecDepth 100000 in
set_option maxHeartbeats 4000000 in
theorem rboth_ok (a b c d e f g h : Int) (w : World) (h1 : ¬ rc_emptyR a b c d) (h2 : ¬ rc_emptyR e f g h) : Calls Tryz.prog 54 #[rc_rect4 a b c d, rc_rect4 e f g h] w fun e' w' => e' = .returned (rcv (bothR a b c d e f g h)) ∧ Below w.heap.size w w' := by
  have hL := (((Lie.start w).alloc (rc_rectA a b c d) 78).alloc (rc_rectA e f g h) 78).alloc (rc_rectA 0 0 0 0) 78
  simp only [World.size_alloc] at hL
  have HE : Hid (bothR a b c d e f g h = if rc_emptyR (max a e) (max b f) (min c g) (min d h) then (0, 0, 0, 0) else (max a e, max b f, min c g, min d h)) := by
    unfold bothR Hid
    by_cases h3 : rc_emptyR (max a e) (max b f) (min c g) (min d h)
    · rw [if_pos (.inr (.inr h3)), if_pos h3]
    · rw [if_neg (by rintro (h | h | h) <;> contradiction), if_neg h3]
  have k2 := hL.k 2 (by simp)
  have k3 := hL.k 1 (by simp)
  simp only [List.getElem_cons_zero, List.getElem_cons_succ] at k2 k3
  have hN1 := fun w' => rc_rnorm_ok a b c d w' h1
  have hN2 := fun w' => rc_rnorm_ok e f g h w' h2
  clear h1 h2
  go_enter Tryz.func54, Tryz.ntmps54
  go_upto_region 2 with (first
    | (refine rc_ldRect rfl _ rfl k2 rfl ?_)
    | (go_at_call 115; (with_reducible refine (hN1 _).mono ?_); rintro e' w1 ⟨rfl, hb1⟩; have hL1 := hL.nx hb1; have hK1 := Bk.new w1 78 (rc_rectA 0 0 0 0))
    | (refine rc_stRect rfl _ _ rfl hK1 rfl rfl rfl ?_; intro w2 k42 hg2 hs2))
  have hL2 := hL1.put hg2 k42
  have k32 : Bk w2 (w.heap.size + 1) 78 (rc_rectA e f g h) := hL2.k 2 (by simp)
  clear hL1 hL hb1 hK1 k2 k3 hg2 hs2 hN1
  go_upto_region 3 with (first
    | (refine rc_ldRect rfl _ rfl k32 rfl ?_)
    | (go_at_call 115; (with_reducible refine (hN2 _).mono ?_); rintro e' w3 ⟨rfl, hb3⟩; have hL3 := hL2.nx hb3; have hK3 := Bk.new w3 78 (rc_rectA 0 0 0 0))
    | (refine rc_stRect rfl _ _ rfl hK3 rfl rfl rfl ?_; intro w4 k44 hg4 hs4))
  have hL4 := hL3.put hg4 k44
  generalize w1.heap.size = g5 at *
  generalize w3.heap.size = g6 at *
  have k54 : Bk w4 g5 78 (rc_rectA a b c d) := hL4.k 1 (by simp)
  have kr4 : Bk w4 (w.heap.size + 1 + 1) 78 (rc_rectA 0 0 0 0) := hL4.k 2 (by simp)
  obtain ⟨x0, x1, x2, x3⟩ := k54.cell4
  obtain ⟨y0, y1, y2, y3⟩ := k44.cell4
  clear hL3 hL2 hb3 hK3 k32 k42 hg4 hs4 hN2 k44 k54
  by_cases h3 : rc_emptyR (max a e) (max b f) (min c g) (min d h)
  · have hN := fun w' => rc_rnorm_e _ _ _ _ w' h3
    rw [if_pos h3] at HE
    clear h3
    go_wp2_with (first
      | (go_at_call 115; (with_reducible refine (hN _).mono ?_); rintro e' w5 ⟨rfl, hb5⟩; have hL5 := hL4.nx hb5; have kr5 := kr4.nx hb5)
      | (refine rc_stRect rfl _ _ rfl kr5 rfl rfl rfl ?_; intro w6 k46 hg6 hs6))
    refine bodyPost_ret (rc_res_rect rfl k46 rfl) rfl ?_
    exact ⟨by rw [HE.out], below_of_gb hL5.bel hg6 (by omega) hL5.sz⟩
  · have hN := fun w' => rc_rnorm_ok _ _ _ _ w' h3
    rw [if_neg h3] at HE
    clear h3
    go_wp2_with (first
      | (go_at_call 115; (with_reducible refine (hN _).mono ?_); rintro e' w5 ⟨rfl, hb5⟩; have hL5 := hL4.nx hb5; have kr5 := kr4.nx hb5)
      | (refine rc_stRect rfl _ _ rfl kr5 rfl rfl rfl ?_; intro w6 k46 hg6 hs6))
    refine bodyPost_ret (rc_res_rect rfl k46 rfl) rfl ?_
    exact ⟨by rw [HE.out], below_of_gb hL5.bel hg6 (by omega) hL5.sz⟩
theorem bx_cases (C a b c d W H n : Int) : (C ≠ 0 ∧ Hid (bxC C a b c d W H n = C)) ∨ (C = 0 ∧ rc_emptyR a b c d ∧ Hid (bxC C a b c d W H n = 11)) ∨ (C = 0 ∧ ¬ rc_emptyR a b c d ∧ bothR a b c d 0 0 W H ≠ (a, b, c, d) ∧ Hid (bxC C a b c d W H n = 11)) ∨
    (C = 0 ∧ ¬ rc_emptyR a b c d ∧ bothR a b c d 0 0 W H = (a, b, c, d) ∧ ((n < 0 ∧ Hid (bxC C a b c d W H n = 10)) ∨ (0 ≤ n ∧ 8 < n ∧ Hid (bxC C a b c d W H n = 10)) ∨ (0 ≤ n ∧ n ≤ 8 ∧ Hid (bxC C a b c d W H n = 0)))) := by
  by_cases h0 : C = 0
  · right
    by_cases h1 : rc_emptyR a b c d
    · exact .inl ⟨h0, h1, by show _ = _; unfold bxC; rw [if_neg (by simpa using h0), if_pos (.inl h1)]⟩
    right
    by_cases h2 : bothR a b c d 0 0 W H = (a, b, c, d)
    · right
      have hn : ¬ (rc_emptyR a b c d ∨ bothR a b c d 0 0 W H ≠ (a, b, c, d)) := by rintro (h | h) <;> contradiction
      refine ⟨h0, h1, h2, ?_⟩
      by_cases h3 : n < 0
      · exact .inl ⟨h3, by show _ = _; unfold bxC; rw [if_neg (by simpa using h0), if_neg hn, if_pos (.inl h3)]⟩
      by_cases h4 : 8 < n
      · exact .inr (.inl ⟨by omega, h4, by show _ = _; unfold bxC; rw [if_neg (by simpa using h0), if_neg hn, if_pos (.inr h4)]⟩)
      exact .inr (.inr ⟨by omega, by omega, by show _ = _; unfold bxC; rw [if_neg (by simpa using h0), if_neg hn, if_neg (by omega)]⟩)
    · exact .inl ⟨h0, h1, h2, by show _ = _; unfold bxC; rw [if_neg (by simpa using h0), if_pos (.inr h2)]⟩
  · exact .inl ⟨h0, by show _ = _; unfold bxC; rw [if_pos h0]⟩
set_option maxRecDepth 100000 in
set_option maxHeartbeats 8000000 in
theorem bof_bad (k : Int) (A : Option Addr) (sn cp : Nat) (W H a b c d n C : Int) (F G E : Int → Int → Int → Int) (w : World) (hN : NewIs k A sn cp W H w C F G E) (hC : bxC C a b c d W H n ≠ 0) :
    Calls Tryz.prog 48 #[.agg #[.int .i64 k, .slice A sn cp], .int .i64 W, .int .i64 H, rc_rect4 a b c d, .int .i64 n] w fun e w' =>
      e = .returned (.tuple #[rc_rect4 0 0 0 0, .int .i64 (bxC C a b c d W H n)]) ∧ Below w.heap.size w w' := by
  have hL := (((Lie.start w).alloc #[.int .i64 k, .slice A sn cp] 31).alloc (rc_rectA a b c d) 78).alloc (rc_rectA 0 0 0 0) 83
  simp only [World.size_alloc] at hL
  have k5 := hL.k 2 (by simp)
  simp only [List.getElem_cons_zero, List.getElem_cons_succ] at k5
  have hcs := bx_cases C a b c d W H n
  have hEm := fun w' => rc_empty_any a b c d w'
  have hIn := fun w' => rcin_any a b c d 0 0 W H w'
  replace hC := Lib.hid hC
  generalize bxC C a b c d W H n = cc at *
  go_enter Tryz.func48, Tryz.ntmps48
  go_upto_region 1 with fail
  replace hN := hN _ hL.bel
  generalize hw1 : (((w.alloc (.cells #[.int .i64 k, .slice A sn cp] 31)).alloc (.cells (rc_rectA a b c d) 78)).alloc (.cells (rc_rectA 0 0 0 0) 83)) = w1 at *
  clear hw1
  go_upto_region 2 with (first
    | (refine ldB rfl _ _ rfl k5 rfl Tryz.underlying31 rfl (show (Tryz.prog.info? 31).map (·.size) = some 2 by kernel_rfl) ?_)
    | (go_at_call 21; (with_reducible refine hN.mono ?_); rintro e w2 ⟨p, rfl, _, _, hb2⟩))
  have hL2 := hL.nx hb2
  have k82 : Bk w2 (w.heap.size + 1) 78 (rc_rectA a b c d) := hL2.k 1 (by simp)
  have k102 : Bk w2 (w.heap.size + 1 + 1) 83 (rc_rectA 0 0 0 0) := hL2.k 0 (by simp)
  clear hN k5 hL hb2
  rcases hcs with ⟨h0, HE⟩ | ⟨h0, h1, HE⟩ | ⟨h0, h1, h2, HE⟩ | ⟨h0, h1, h2, h3⟩
  · have hb : (C != 0) = true := by simp [h0]
    obtain rfl := HE.out
    clear h0 hEm hIn
    go_wp2_with (first
      | (refine stB (ty := 83) rfl _ _ rfl k102 _ rfl rfl bx_size rfl (by simp [Value.oneCell']) ?_; intro w7 k107 hg7 hs7))
    refine bodyPost_ret (res_cell_tmp rfl k107 rfl Tryz.underlying83 rfl bx_size) rfl ?_
    exact ⟨rfl, below_of_gb hL2.bel hg7 (by omega) hL2.sz⟩
  · subst h0
    obtain rfl := HE.out
    rw [decide_eq_true h1] at hEm
    clear h1 hIn
    go_wp2_with (first
      | (refine rc_ldRect rfl _ rfl k82 rfl ?_)
      | (go_at_call 109; (with_reducible refine (hEm _).mono ?_); rintro e w3 ⟨rfl, hb3⟩; have hL3 := hL2.nx hb3; have k103 := k102.nx hb3)
      | (refine stB (ty := 83) rfl _ _ rfl k103 _ rfl rfl bx_size rfl (by simp [Value.oneCell']) ?_; intro w7 k107 hg7 hs7))
    refine bodyPost_ret (res_cell_tmp rfl k107 rfl Tryz.underlying83 rfl bx_size) rfl ?_
    exact ⟨rfl, below_of_gb hL3.bel hg7 (by omega) hL3.sz⟩
  · subst h0
    obtain rfl := HE.out
    rw [decide_eq_false h1] at hEm
    replace hIn := fun w' => hIn w' h1
    rw [decide_eq_false h2] at hIn
    clear h1 h2
    go_wp2_with (first
      | (refine rc_ldRect rfl _ rfl k82 rfl ?_)
      | (go_at_call 109; (with_reducible refine (hEm _).mono ?_); rintro e w3 ⟨rfl, hb3⟩; have hL3 := hL2.nx hb3; have k83 := k82.nx hb3; have q3 := k83.cell4; obtain ⟨f0, f1, f2, f3⟩ := q3; have k103 := k102.nx hb3)
      | (go_at_call 110; (with_reducible refine (hIn _).mono ?_); rintro e w4 ⟨rfl, hb4⟩; have hL4 := hL3.nx hb4; have k104 := k103.nx hb4)
      | (refine stB (ty := 83) rfl _ _ rfl k104 _ rfl rfl bx_size rfl (by simp [Value.oneCell']) ?_; intro w7 k107 hg7 hs7))
    refine bodyPost_ret (res_cell_tmp rfl k107 rfl Tryz.underlying83 rfl bx_size) rfl ?_
    exact ⟨rfl, below_of_gb hL4.bel hg7 (by omega) hL4.sz⟩
  · subst h0
    rw [decide_eq_false h1] at hEm
    replace hIn := fun w' => hIn w' h1
    rw [decide_eq_true h2] at hIn
    clear h1 h2
    rcases h3 with ⟨h3, HE⟩ | ⟨h3, h4, HE⟩ | ⟨h3, h4, HE⟩
    · obtain rfl := HE.out
      go_wp2_with (first
        | (refine rc_ldRect rfl _ rfl k82 rfl ?_)
        | (go_at_call 109; (with_reducible refine (hEm _).mono ?_); rintro e w3 ⟨rfl, hb3⟩; have hL3 := hL2.nx hb3; have k83 := k82.nx hb3; have q3 := k83.cell4; obtain ⟨f0, f1, f2, f3⟩ := q3; have k103 := k102.nx hb3)
        | (go_at_call 110; (with_reducible refine (hIn _).mono ?_); rintro e w4 ⟨rfl, hb4⟩; have hL4 := hL3.nx hb4; have k104 := k103.nx hb4)
        | (refine stB (ty := 83) rfl _ _ rfl k104 _ rfl rfl bx_size rfl (by simp [Value.oneCell']) ?_; intro w7 k107 hg7 hs7))
      refine bodyPost_ret (res_cell_tmp rfl k107 rfl Tryz.underlying83 rfl bx_size) rfl ?_
      exact ⟨rfl, below_of_gb hL4.bel hg7 (by omega) hL4.sz⟩
    · obtain rfl := HE.out
      go_wp2_with (first
        | (refine rc_ldRect rfl _ rfl k82 rfl ?_)
        | (go_at_call 109; (with_reducible refine (hEm _).mono ?_); rintro e w3 ⟨rfl, hb3⟩; have hL3 := hL2.nx hb3; have k83 := k82.nx hb3; have q3 := k83.cell4; obtain ⟨f0, f1, f2, f3⟩ := q3; have k103 := k102.nx hb3)
        | (go_at_call 110; (with_reducible refine (hIn _).mono ?_); rintro e w4 ⟨rfl, hb4⟩; have hL4 := hL3.nx hb4; have k104 := k103.nx hb4)
        | (refine stB (ty := 83) rfl _ _ rfl k104 _ rfl rfl bx_size rfl (by simp [Value.oneCell']) ?_; intro w7 k107 hg7 hs7))
      refine bodyPost_ret (res_cell_tmp rfl k107 rfl Tryz.underlying83 rfl bx_size) rfl ?_
      exact ⟨rfl, below_of_gb hL4.bel hg7 (by omega) hL4.sz⟩
    · exact absurd HE.out hC.out
end Go.Proofs.YtlbiiljncacdoaaGreat
end
section
set_option linter.unusedVariables false
namespace Go.Proofs.YtlbiiljncacdoaaGreat
open Go.RowKit
attribute [local go_sem high] run_maxM run_minM
theorem xf_sizeO : (Tryz.prog.info? 31).map (·.size) = some 2 := by kernel_rfl
set_option maxRecDepth 100000 in
set_option maxHeartbeats 8000000 in
theorem rcheck37_any (k : Int) (A : Option Addr) (sn cp : Nat) (W H a b c d n C : Int) (w : World)
    (hX : ∀ w', Below w.heap.size w w' → Calls Tryz.prog 26 #[xfV k A sn cp, .int .i64 W, .int .i64 H] w' fun e w'' => e = .returned (.int .i64 C) ∧ Below w'.heap.size w' w'')
    (hs : C = 0 → (1 ≤ W ∧ W ≤ 32768) ∧ (1 ≤ H ∧ H ≤ 32768)) :
    Calls Tryz.prog 49 #[xfV k A sn cp, .int .i64 W, .int .i64 H, rc_rect4 a b c d, .int .i64 n] w fun e w' => e = .returned (.int .i64 (bxC C a b c d W H n)) ∧ Below w.heap.size w w' := by
  have hL := ((Lie.start w).alloc #[.int .i64 k, .slice A sn cp] 31).alloc (rc_rectA a b c d) 78
  simp only [World.size_alloc] at hL
  have kx := hL.k 1 (by simp)
  simp only [List.getElem_cons_zero, List.getElem_cons_succ] at kx
  have hcs := bx_cases C a b c d W H n
  have hAr := fun w' => rc_rarea_any a b c d w'
  have hBo := fun w' (h1 : ¬ rc_emptyR a b c d) (h2 : ¬ rc_emptyR 0 0 W H) => rboth_ok a b c d 0 0 W H w' h1 h2
  have hz := rc_area_zero a b c d
  generalize bxC C a b c d W H n = cc at *
  go_enter Tryz.func49, Tryz.ntmps49
  go_upto_region 2 with (first
    | (refine ldB rfl _ _ rfl kx rfl Tryz.underlying31 rfl xf_sizeO ?_)
    | (go_at_call 26; (with_reducible refine (hX _ hL.bel).mono ?_); rintro e w1 ⟨rfl, hb1⟩))
  have hL1 := hL.nx hb1
  have k8 : Bk w1 (w.heap.size + 1) 78 (rc_rectA a b c d) := hL1.k 0 (by simp)
  clear kx hX hL hb1
  rcases hcs with ⟨h0, HE⟩ | ⟨h0, h1, HE⟩ | ⟨h0, h1, h2, HE⟩ | ⟨h0, h1, h2, h3⟩
  · have hb : (C != 0) = true := by simp [h0]
    obtain rfl := HE.out
    clear h0 hAr hBo hz hs
    go_wp2_with fail
    go_returns
    exact ⟨rfl, hL1.bel⟩
  · subst h0
    obtain rfl := HE.out
    rw [hz.2 h1] at hAr
    clear h1 hBo hz hs
    go_upto_region 4 with fail
    obtain ⟨d0, d1, d2, d3⟩ := k8.cell4
    have r0 := fun (n : Nat) (os : Array Obj) => cell_regrown d0 n os
    have r1 := fun (n : Nat) (os : Array Obj) => cell_regrown d1 n os
    have r2 := fun (n : Nat) (os : Array Obj) => cell_regrown d2 n os
    have r3 := fun (n : Nat) (os : Array Obj) => cell_regrown d3 n os
    refine wp_region_quiet_below (by kernel_rfl) (by kernel_rfl) ?_
    repeat (first
      | go_big_quiet_step (with_reducible exact quiet_below (hAr _))
      | quiet_step (with_reducible exact quiet_below (hAr _)))
    refine wpQuiet_nil ?_
    intro _ hw'
    obtain ⟨⟨dd, os⟩, hw''⟩ := hw'
    subst hw''
    have hL2 := hL1.nx (below_regrown w1 dd os)
    generalize Go.Sort.grow (redrawn w1 dd) os = wx at *
    clear r0 r1 r2 r3 d0 d1 d2 d3 k8
    go_wp2_with fail
    go_returns
    exact ⟨rfl, hL2.bel⟩
  · subst h0
    obtain rfl := HE.out
    obtain ⟨z, hZ⟩ : ∃ z, rc_areaR a b c d = z := ⟨_, rfl⟩
    have hzb : (z == 0) = false := by
      have : ¬ rc_areaR a b c d = 0 := fun h => h1 (hz.1 h)
      rw [hZ] at this; simpa using this
    rw [hZ] at hAr
    obtain ⟨⟨hW0, hW1⟩, ⟨hH0, hH1⟩⟩ := hs rfl
    have hB := fun w' => hBo w' h1 (by simp only [rc_emptyR, rc_rightR, rc_inR]; omega)
    obtain ⟨⟨p, q, r, s⟩, hP⟩ : ∃ p, bothR a b c d 0 0 W H = p := ⟨_, rfl⟩
    rw [hP] at hB h2
    dsimp only [rcv] at hB
    have hq := neq_rect p q r s a b c d
    rw [decide_eq_false h2] at hq
    clear hP h1 h2 hBo hz hs hZ
    go_upto_region 4 with fail
    obtain ⟨d0, d1, d2, d3⟩ := k8.cell4
    have r0 := fun (n : Nat) (os : Array Obj) => cell_regrown d0 n os
    have r1 := fun (n : Nat) (os : Array Obj) => cell_regrown d1 n os
    have r2 := fun (n : Nat) (os : Array Obj) => cell_regrown d2 n os
    have r3 := fun (n : Nat) (os : Array Obj) => cell_regrown d3 n os
    refine wp_region_quiet_below (by kernel_rfl) (by kernel_rfl) ?_
    repeat (first
      | go_big_quiet_step ((first | with_reducible exact quiet_below (hAr _) | with_reducible exact quiet_below (hB _)))
      | quiet_step ((first | with_reducible exact quiet_below (hAr _) | with_reducible exact quiet_below (hB _))))
    refine wpQuiet_nil ?_
    intro _ hw'
    obtain ⟨⟨dd, os⟩, hw''⟩ := hw'
    subst hw''
    have hL2 := hL1.nx (below_regrown w1 dd os)
    generalize Go.Sort.grow (redrawn w1 dd) os = wx at *
    clear r0 r1 r2 r3 d0 d1 d2 d3 k8
    go_wp2_with fail
    go_returns
    exact ⟨rfl, hL2.bel⟩
  · subst h0
    obtain ⟨z, hZ⟩ : ∃ z, rc_areaR a b c d = z := ⟨_, rfl⟩
    have hzb : (z == 0) = false := by
      have : ¬ rc_areaR a b c d = 0 := fun h => h1 (hz.1 h)
      rw [hZ] at this; simpa using this
    rw [hZ] at hAr
    obtain ⟨⟨hW0, hW1⟩, ⟨hH0, hH1⟩⟩ := hs rfl
    have hB := fun w' => hBo w' h1 (by simp only [rc_emptyR, rc_rightR, rc_inR]; omega)
    rw [h2] at hB
    dsimp only [rcv] at hB
    have hq := neq_rect a b c d a b c d
    rw [decide_eq_true rfl] at hq
    clear h1 h2 hBo hz hs hZ
    go_upto_region 4 with fail
    obtain ⟨d0, d1, d2, d3⟩ := k8.cell4
    have r0 := fun (n : Nat) (os : Array Obj) => cell_regrown d0 n os
    have r1 := fun (n : Nat) (os : Array Obj) => cell_regrown d1 n os
    have r2 := fun (n : Nat) (os : Array Obj) => cell_regrown d2 n os
    have r3 := fun (n : Nat) (os : Array Obj) => cell_regrown d3 n os
    refine wp_region_quiet_below (by kernel_rfl) (by kernel_rfl) ?_
    repeat (first
      | go_big_quiet_step ((first | with_reducible exact quiet_below (hAr _) | with_reducible exact quiet_below (hB _)))
      | quiet_step ((first | with_reducible exact quiet_below (hAr _) | with_reducible exact quiet_below (hB _))))
    refine wpQuiet_nil ?_
    intro _ hw'
    obtain ⟨⟨dd, os⟩, hw''⟩ := hw'
    subst hw''
    have hL2 := hL1.nx (below_regrown w1 dd os)
    generalize Go.Sort.grow (redrawn w1 dd) os = wx at *
    clear r0 r1 r2 r3 d0 d1 d2 d3 k8
    rcases h3 with ⟨h3, HE⟩ | ⟨h3, h4, HE⟩ | ⟨h3, h4, HE⟩
    all_goals
      obtain rfl := HE.out
      go_wp2_with fail
      go_returns
      exact ⟨rfl, hL2.bel⟩
end Go.Proofs.YtlbiiljncacdoaaGreat
end
section
set_option linter.unusedVariables false
namespace Go.Proofs.YtlbiiljncacdoaaGreat
open Go.RowKit
attribute [local go_sem high] run_maxM run_minM
abbrev ptA (W H a b c d n : Int) : Array Value := #[.int .i64 W, .int .i64 H, .int .i64 a, .int .i64 b, .int .i64 c, .int .i64 d, .int .i64 n]
theorem Bk.cell7p {w : World} {g : Nat} {t : TypeId} {v0 v1 v2 v3 v4 v5 v6 : Value} (h : Bk w g t #[v0, v1, v2, v3, v4, v5, v6]) : w.cell? ⟨g, 0, none⟩ = some v0 ∧ w.cell? ⟨g, 1, none⟩ = some v1 ∧ w.cell? ⟨g, 2, none⟩ = some v2 ∧ w.cell? ⟨g, 3, none⟩ = some v3 ∧ w.cell? ⟨g, 4, none⟩ = some v4 ∧ w.cell? ⟨g, 5, none⟩ = some v5 ∧ w.cell? ⟨g, 6, none⟩ = some v6 :=
  ⟨by rw [h.cell]; rfl, by rw [h.cell]; rfl, by rw [h.cell]; rfl, by rw [h.cell]; rfl, by rw [h.cell]; rfl, by rw [h.cell]; rfl, by rw [h.cell]; rfl⟩
set_option maxRecDepth 100000 in
set_option maxHeartbeats 8000000 in
theorem soon_any (W H a b c d n : Int) (w : World) : Calls Tryz.prog 47 #[.agg (ptA W H a b c d n)] w fun e w' => ∃ s : Bool, e = .returned (.bool s) ∧ Below w.heap.size w w' := by
  have hL := (Lie.start w).alloc (ptA W H a b c d n) 80
  have hK := hL.k 0 (by simp)
  simp only [List.getElem_cons_zero] at hK
  have hAr := fun w' => rc_rarea_any a b c d w'
  obtain ⟨z, hZ⟩ : ∃ z, rc_areaR a b c d = z := ⟨_, rfl⟩
  rw [hZ] at hAr
  clear hZ
  rcases (show 200 < z ∨ (z ≤ 200 ∧ n < 0) ∨ (z ≤ 200 ∧ 0 ≤ n ∧ 8 < n) ∨ (z ≤ 200 ∧ 0 ≤ n ∧ n ≤ 8) by omega) with h0 | ⟨h0, h1⟩ | ⟨h0, h1, h2⟩ | ⟨h0, h1, h2⟩
  · have g0 : decide (z ≤ 200) = false := decide_eq_false (by omega)
    clear h0
    go_enter Tryz.func47, Tryz.ntmps47
    go_upto_region 1 with fail
    generalize hw1 : w.alloc (.cells (ptA W H a b c d n) 80) = w1 at *
    clear hw1
    obtain ⟨d0, d1, d2, d3, d4, d5, d6⟩ := hK.cell7p
    have r2 := fun (n : Nat) (os : Array Obj) => cell_regrown d2 n os
    have r3 := fun (n : Nat) (os : Array Obj) => cell_regrown d3 n os
    have r4 := fun (n : Nat) (os : Array Obj) => cell_regrown d4 n os
    have r5 := fun (n : Nat) (os : Array Obj) => cell_regrown d5 n os
    have r6 := fun (n : Nat) (os : Array Obj) => cell_regrown d6 n os
    refine wp_region_quiet_below (by kernel_rfl) (by kernel_rfl) ?_
    repeat (first
      | go_big_quiet_step (with_reducible exact quiet_below (hAr _))
      | quiet_step (with_reducible exact quiet_below (hAr _)))
    refine wpQuiet_nil ?_
    intro _ hw'
    obtain ⟨⟨dd, os⟩, hw''⟩ := hw'
    subst hw''
    have hL2 := hL.nx (below_regrown w1 dd os)
    generalize Go.Sort.grow (redrawn w1 dd) os = wx at *
    clear r2 r3 r4 r5 r6 d0 d1 d2 d3 d4 d5 d6 hK
    go_wp2_with fail
    go_returns
    exact ⟨_, rfl, hL2.bel⟩
  · have g0 : decide (z ≤ 200) = true := decide_eq_true h0
    have g1 : decide (n < 0) = true := decide_eq_true h1
    clear h0 h1
    go_enter Tryz.func47, Tryz.ntmps47
    go_upto_region 1 with fail
    generalize hw1 : w.alloc (.cells (ptA W H a b c d n) 80) = w1 at *
    clear hw1
    obtain ⟨d0, d1, d2, d3, d4, d5, d6⟩ := hK.cell7p
    have r2 := fun (n : Nat) (os : Array Obj) => cell_regrown d2 n os
    have r3 := fun (n : Nat) (os : Array Obj) => cell_regrown d3 n os
    have r4 := fun (n : Nat) (os : Array Obj) => cell_regrown d4 n os
    have r5 := fun (n : Nat) (os : Array Obj) => cell_regrown d5 n os
    have r6 := fun (n : Nat) (os : Array Obj) => cell_regrown d6 n os
    refine wp_region_quiet_below (by kernel_rfl) (by kernel_rfl) ?_
    repeat (first
      | go_big_quiet_step (with_reducible exact quiet_below (hAr _))
      | quiet_step (with_reducible exact quiet_below (hAr _)))
    refine wpQuiet_nil ?_
    intro _ hw'
    obtain ⟨⟨dd, os⟩, hw''⟩ := hw'
    subst hw''
    have hL2 := hL.nx (below_regrown w1 dd os)
    generalize Go.Sort.grow (redrawn w1 dd) os = wx at *
    clear r2 r3 r4 r5 r6 d0 d1 d2 d3 d4 d5 d6 hK
    go_wp2_with fail
    go_returns
    exact ⟨_, rfl, hL2.bel⟩
  · have g0 : decide (z ≤ 200) = true := decide_eq_true h0
    have g1 : decide (n < 0) = false := decide_eq_false (by omega)
    have g2 : decide (8 < n) = true := decide_eq_true h2
    clear h0 h1 h2
    go_enter Tryz.func47, Tryz.ntmps47
    go_upto_region 1 with fail
    generalize hw1 : w.alloc (.cells (ptA W H a b c d n) 80) = w1 at *
    clear hw1
    obtain ⟨d0, d1, d2, d3, d4, d5, d6⟩ := hK.cell7p
    have r2 := fun (n : Nat) (os : Array Obj) => cell_regrown d2 n os
    have r3 := fun (n : Nat) (os : Array Obj) => cell_regrown d3 n os
    have r4 := fun (n : Nat) (os : Array Obj) => cell_regrown d4 n os
    have r5 := fun (n : Nat) (os : Array Obj) => cell_regrown d5 n os
    have r6 := fun (n : Nat) (os : Array Obj) => cell_regrown d6 n os
    refine wp_region_quiet_below (by kernel_rfl) (by kernel_rfl) ?_
    repeat (first
      | go_big_quiet_step (with_reducible exact quiet_below (hAr _))
      | quiet_step (with_reducible exact quiet_below (hAr _)))
    refine wpQuiet_nil ?_
    intro _ hw'
    obtain ⟨⟨dd, os⟩, hw''⟩ := hw'
    subst hw''
    have hL2 := hL.nx (below_regrown w1 dd os)
    generalize Go.Sort.grow (redrawn w1 dd) os = wx at *
    clear r2 r3 r4 r5 r6 d0 d1 d2 d3 d4 d5 d6 hK
    go_wp2_with fail
    go_returns
    exact ⟨_, rfl, hL2.bel⟩
  · have g0 : decide (z ≤ 200) = true := decide_eq_true h0
    have g1 : decide (n < 0) = false := decide_eq_false (by omega)
    have g2 : decide (8 < n) = false := decide_eq_false (by omega)
    clear h0 h1 h2
    go_enter Tryz.func47, Tryz.ntmps47
    go_upto_region 1 with fail
    generalize hw1 : w.alloc (.cells (ptA W H a b c d n) 80) = w1 at *
    clear hw1
    obtain ⟨d0, d1, d2, d3, d4, d5, d6⟩ := hK.cell7p
    have r2 := fun (n : Nat) (os : Array Obj) => cell_regrown d2 n os
    have r3 := fun (n : Nat) (os : Array Obj) => cell_regrown d3 n os
    have r4 := fun (n : Nat) (os : Array Obj) => cell_regrown d4 n os
    have r5 := fun (n : Nat) (os : Array Obj) => cell_regrown d5 n os
    have r6 := fun (n : Nat) (os : Array Obj) => cell_regrown d6 n os
    refine wp_region_quiet_below (by kernel_rfl) (by kernel_rfl) ?_
    repeat (first
      | go_big_quiet_step (with_reducible exact quiet_below (hAr _))
      | quiet_step (with_reducible exact quiet_below (hAr _)))
    refine wpQuiet_nil ?_
    intro _ hw'
    obtain ⟨⟨dd, os⟩, hw''⟩ := hw'
    subst hw''
    have hL2 := hL.nx (below_regrown w1 dd os)
    generalize Go.Sort.grow (redrawn w1 dd) os = wx at *
    clear r2 r3 r4 r5 r6 d0 d1 d2 d3 d4 d5 d6 hK
    go_wp2_with fail
    go_returns
    exact ⟨_, rfl, hL2.bel⟩
end Go.Proofs.YtlbiiljncacdoaaGreat
end
