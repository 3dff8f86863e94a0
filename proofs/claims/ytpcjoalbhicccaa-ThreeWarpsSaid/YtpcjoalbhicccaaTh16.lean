/- A pass: places of one canvas, from another: the walk to its loop. -/
import Derived.Test.YtpcjoalbhicccaaTh15
import Derived.Test.YtpcjoalbhicccaaTh8
import Derived.Test.YtpcjoalbhicccaaTh13
set_option linter.unusedVariables false
namespace Go.Proofs.Ytpcjoalbhicccaa
open Go.RowKit Go.Shelf
attribute [local go_sem] Oper.semAt_some
abbrev canA (W H : Int) (C : Nat) (A : Option Addr) (n cp : Nat) (a b c d : Int) : Array Value := #[.int .i64 W, .int .i64 H, .int .i64 C, .slice A n cp, .int .i64 a, .int .i64 b, .int .i64 c, .int .i64 d]
/-- a pixel's bytes, at u, v of a canvas at a, b. -/
def cutP (P : List Int) (a b W : Int) (C : Nat) (u v : Int) : List Int := (P.drop (((v - b) * W + (u - a)) * C).toNat).take C
def outP (P : List Int) (a b W : Int) (C : Nat) (f : PT → Int × Int) (xs : List PT) : List Int := xs.flatMap (fun p => cutP P a b W C (f p).1 (f p).2)
def FB (bs : List (Nat × TypeId × Array Value)) (M : Nat) (W : World) : Prop := ∀ x ∈ bs, x.1 < M ∧ Bk W x.1 x.2.1 x.2.2
theorem FB.below {bs : List (Nat × TypeId × Array Value)} {M : Nat} {W W' : World} (h : FB bs M W) (hb : Below W.heap.size W W') : FB bs M W' := fun x hx => ⟨(h x hx).1, (h x hx).2.nx hb⟩
theorem FB.grown {bs : List (Nat × TypeId × Array Value)} {M : Nat} {W W' : World} {row : Option Nat} (h : FB bs M W) (hg : W.grownBy W' row) (hr : ∀ g, row = some g → M ≤ g) : FB bs M W' :=
  fun x hx => ⟨(h x hx).1, (h x hx).2.grown hg (fun e => by have := hr _ e.symm; have := (h x hx).1; omega)⟩
theorem FB.far {bs : List (Nat × TypeId × Array Value)} {M : Nat} {W : World} (h : FB bs M W) {p : Addr} (hp : ∀ x ∈ bs, x.1 ≠ p.block) (u : Value) : FB bs M (W.setCell p u) :=
  fun x hx => ⟨(h x hx).1, (h x hx).2.far (hp x hx) u⟩
/-- what is so between two rounds: some blocks lie as they lay; the image that is made has come so far. -/
structure PInv (w : World) (bs : List (Nat × TypeId × Array Value)) (base go : Nat) (X Y : Int) (C : Nat) (ok : PT → Prop) (px : PT → List Int) (pre : List PT) (W : World) : Prop where
  fb : FB bs base W
  img : ∃ v, Bk W go 24 #[.int .i64 X, .int .i64 Y, .int .i64 C, v] ∧ W.ownsRow base 5 1 v (pre.length * C) ((pre.flatMap px).map (Value.int .u8))
  oks : ∀ q ∈ pre, ok q
  bel : Below w.heap.size w W
  sz : base ≤ W.heap.size
  lt : go < base
  far : ∀ x ∈ bs, x.1 ≠ go
theorem own_kept' {w w' : World} {base n size : Nat} {e : TypeId} {v : Value} {xs : List Value} {row : Option Nat} (h : w.ownsRow base e size v n xs) (hg : w.grownBy w' row) (hr : ∀ r, row = some r → ∃ o : Obj, w.heap[r]? = some o ∧ o.isCells = false) : w'.ownsRow base e size v n xs := by
  refine h.kept hg ?_
  rcases h.2 with ⟨rfl, _⟩ | ⟨g, cap, cur, rfl, _, hgb, _⟩
  · exact .inl rfl
  · refine .inr fun e' => ?_
    obtain ⟨o, ho, hc⟩ := hr g e'.symm
    rw [hgb] at ho
    cases ho
    cases hc
theorem pinv_own {w : World} {bs : List (Nat × TypeId × Array Value)} {base go : Nat} {X Y : Int} {C : Nat} {ok : PT → Prop} {px : PT → List Int} {B : Nat} (hB : base ≤ B) (hw : w.heap.size ≤ go) : OwnFrom B (PInv w bs base go X Y C ok px) := by
  intro pre W W' row h hg hr
  obtain ⟨v, h1, h2⟩ := h.img
  refine ⟨h.fb.grown hg (fun g e => by have := (hr g e).1; omega), ⟨v, h1.grown hg (fun e => by have := (hr _ e.symm).1; have := h.lt; omega), own_kept' h2 hg (fun r e => (hr r e).2)⟩, h.oks, ?_, Nat.le_trans h.sz hg.size, h.lt, h.far⟩
  exact h.bel.grown hg h.bel.size (fun k e => by have := (hr k e).1; have := h.lt; omega)
theorem keeps_below {W W' : World} (h : Below W.heap.size W W') : KeepsOthers W W' := KeepsOthers.of_grownBy (gb_of_below (row := none) h) (fun _ _ e _ => by cases e)
theorem keeps_row {W W' : World} {base n size : Nat} {e : TypeId} {v : Value} {xs : List Value} (h : W.ownsRow base e size v n xs) (hg : W.grownBy W' v.ownBlock) : KeepsOthers W W' :=
  KeepsOthers.of_grownBy hg (fun j o ej ho => by
    rcases h.2 with ⟨rfl, _⟩ | ⟨g, cap, cur, rfl, _, hgb, _⟩
    · cases ej
    · have : g = j := by simpa [Value.ownBlock] using ej
      subst this
      rw [hgb] at ho
      cases ho
      rfl)
theorem pinv_step {w : World} {bs : List (Nat × TypeId × Array Value)} {base go : Nat} {X Y : Int} {C : Nat} {ok : PT → Prop} {px : PT → List Int} {pre : List PT} {W W1 W2 : World} {v v' : Value} {x : PT} {bb : Nat}
    (h : PInv w bs base go X Y C ok px pre W) (hKo : Bk W go 24 #[.int .i64 X, .int .i64 Y, .int .i64 C, v]) (hown : W.ownsRow base 5 1 v (pre.length * C) ((pre.flatMap px).map (Value.int .u8)))
    (hx : ok x) (hb : Below W.heap.size W W1) (hg : W1.grownBy W2 v.ownBlock) (hown' : W2.ownsRow base 5 1 v' (pre.length * C + C) ((pre.flatMap px).map (Value.int .u8) ++ (px x).map (Value.int .u8))) (hw : w.heap.size ≤ go) (hbb : bb ≠ go) (hbb2 : bb < base) :
    KeepsOthers W (W2.setCell ⟨go, 3, none⟩ v') ∧ KpB bb W (W2.setCell ⟨go, 3, none⟩ v') ∧ PInv w bs base go X Y C ok px (pre ++ [x]) (W2.setCell ⟨go, 3, none⟩ v') := by
  have hown1 := own_below hown hb (Nat.le_refl _)
  have hge := own_ge hown1
  have hlt := h.lt
  have hsz := h.sz
  have hKo2 : Bk W2 go 24 #[.int .i64 X, .int .i64 Y, .int .i64 C, v] := (hKo.nx hb).grown hg (fun e => by have := hge _ e.symm; omega)
  refine ⟨((keeps_below hb).trans (keeps_row hown1 hg)).trans (KeepsOthers.setCell _ _ _), ?_, ?_⟩
  · show (W2.setCell ⟨go, 3, none⟩ v').heap[bb]? = W.heap[bb]?
    rw [Below.heap_setCell W2 ⟨go, 3, none⟩ v' bb hbb, hg.block bb (Nat.lt_of_lt_of_le (by omega) hb.size) (fun e => by have := hge _ e.symm; omega), hb.block bb (by omega)]
  · refine ⟨((h.fb.below hb).grown hg (fun g e => hge g e)).far (fun x hx => h.far x hx) _, ⟨v', ?_, ?_⟩, ?_, ?_, ?_, hlt, h.far⟩
    · simpa using hKo2.set 3 v'
    · rw [List.flatMap_append, List.map_append, List.length_append, Nat.add_mul]
      have := own_far hown' ⟨go, 3, none⟩ v' (fun g e => by have := own_ge hown' g e; show g ≠ go; omega)
      simpa using this
    · intro q hq
      rcases List.mem_append.1 hq with hq | hq
      · exact h.oks q hq
      · rw [List.mem_singleton] at hq
        rw [hq]; exact hx
    · refine ((h.bel.trans (hb.mono h.bel.size)).grown hg (Nat.le_trans h.bel.size hb.size) (fun k e => by have := hge k e; omega)).setCell (p := ⟨go, 3, none⟩) hw _
    · have := hb.size
      have := hg.size
      simp [World.setCell]
      omega
structure PEx (w : World) (g3 g4 : Nat) (ok : PT → Prop) (c : Code) (pre : List PT) (W : World) : Prop where
  ret : c = .ret
  bad : ∃ q ∈ pre, ¬ ok q
  img : Bk W g3 24 #[.int .i64 0, .int .i64 0, .int .i64 0, .slice none 0 0]
  err : Bk W g4 32 #[.int .i64 11]
  bel : Below w.heap.size w W
theorem pex_own {w : World} {g3 g4 : Nat} {ok : PT → Prop} {c : Code} {B : Nat} (h3 : g3 < B) (h4 : g4 < B) (hw : w.heap.size ≤ B) : OwnFrom B (PEx w g3 g4 ok c) := by
  intro pre W W' row h hg hr
  exact ⟨h.ret, h.bad, h.img.grown hg (fun e => by have := (hr _ e.symm).1; omega), h.err.grown hg (fun e => by have := (hr _ e.symm).1; omega), h.bel.grown hg h.bel.size (fun k e => by have := (hr k e).1; omega)⟩
theorem allocs6 (w : World) (c1 c2 c3 c4 c5 c6 : Array Value) (t1 t2 t3 t4 t5 t6 : TypeId) :
    let W6 := (((((w.alloc (.cells c1 t1)).alloc (.cells c2 t2)).alloc (.cells c3 t3)).alloc (.cells c4 t4)).alloc (.cells c5 t5)).alloc (.cells c6 t6)
    Bk W6 w.heap.size t1 c1 ∧ Bk W6 (w.heap.size + 1) t2 c2 ∧ Bk W6 (w.heap.size + 2) t3 c3 ∧ Bk W6 (w.heap.size + 3) t4 c4 ∧ Bk W6 (w.heap.size + 4) t5 c5 ∧ Bk W6 (w.heap.size + 5) t6 c6 ∧ Below w.heap.size w W6 ∧ W6.heap.size = w.heap.size + 6 := by
  intro W6
  refine ⟨(((((Bk.new w t1 c1).alloc _).alloc _).alloc _).alloc _).alloc _, ?_, ?_, ?_, ?_, ?_, ?_, by simp [W6]⟩
  · simpa using (((((Bk.new (w.alloc (.cells c1 t1)) t2 c2).alloc (.cells c3 t3)).alloc (.cells c4 t4)).alloc (.cells c5 t5)).alloc (.cells c6 t6))
  · simpa using ((((Bk.new ((w.alloc (.cells c1 t1)).alloc (.cells c2 t2)) t3 c3).alloc (.cells c4 t4)).alloc (.cells c5 t5)).alloc (.cells c6 t6))
  · simpa using (((Bk.new (((w.alloc (.cells c1 t1)).alloc (.cells c2 t2)).alloc (.cells c3 t3)) t4 c4).alloc (.cells c5 t5)).alloc (.cells c6 t6))
  · simpa using ((Bk.new ((((w.alloc (.cells c1 t1)).alloc (.cells c2 t2)).alloc (.cells c3 t3)).alloc (.cells c4 t4)) t5 c5).alloc (.cells c6 t6))
  · simpa using (Bk.new (((((w.alloc (.cells c1 t1)).alloc (.cells c2 t2)).alloc (.cells c3 t3)).alloc (.cells c4 t4)).alloc (.cells c5 t5)) t6 c6)
  · show Below w.heap.size w _
    go_grown
end Go.Proofs.Ytpcjoalbhicccaa
