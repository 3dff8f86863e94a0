/- A bundle: below the first world all is as it was, and some blocks lie whole. -/
import Derived.Test.YtahiaeaobbofbaaGreatBase
set_option linter.unusedVariables false
namespace Go.Proofs.YtahiaeaobbofbaaGreat
open Go.RowKit
/-- Since w0 nothing old has changed, and each block of L lies whole in w. -/
def Lie (w0 : World) (L : List (Nat × TypeId × Array Value)) (w : World) : Prop := Below w0.heap.size w0 w ∧ ∀ x ∈ L, Bk w x.1 x.2.1 x.2.2
section
variable {w0 w w' : World} {L : List (Nat × TypeId × Array Value)}
theorem Lie.start (w : World) : Lie w [] w := ⟨Below.refl _ _, by simp⟩
theorem Lie.bel (h : Lie w0 L w) : Below w0.heap.size w0 w := h.1
theorem Lie.sz (h : Lie w0 L w) : w0.heap.size ≤ w.heap.size := h.1.size
theorem Lie.nx (h : Lie w0 L w) (hb : Below w.heap.size w w') : Lie w0 L w' := ⟨h.1.trans (hb.mono h.sz), fun x hx => (h.2 x hx).nx hb⟩
theorem Lie.alloc (h : Lie w0 L w) (cs : Array Value) (t : TypeId) : Lie w0 ((w.heap.size, t, cs) :: L) (w.alloc (.cells cs t)) := by
  refine ⟨h.1.alloc h.sz _, fun x hx => ?_⟩
  rcases List.mem_cons.1 hx with rfl | hx
  · exact Bk.new w t cs
  · exact (h.2 x hx).alloc _
theorem Lie.grown {g : Nat} (h : Lie w0 L w) (hg : w.grownBy w' (some g)) (hB : w0.heap.size ≤ g) (hne : ∀ x ∈ L, x.1 ≠ g) : Lie w0 L w' :=
  ⟨below_of_gb h.1 hg hB h.sz, fun x hx => (h.2 x hx).grown hg (fun e => hne x hx (by injection e))⟩
theorem Lie.set {g : Nat} {t t' : TypeId} {cs cs' : Array Value} (h : Lie w0 ((g, t, cs) :: L) w) (hg : w.grownBy w' (some g)) (hK : Bk w' g t' cs') (hB : w0.heap.size ≤ g) (hne : ∀ x ∈ L, x.1 ≠ g) : Lie w0 ((g, t', cs') :: L) w' := by
  refine ⟨below_of_gb h.1 hg hB h.sz, fun x hx => ?_⟩
  rcases List.mem_cons.1 hx with rfl | hx2
  · exact hK
  · exact (h.2 x (List.mem_cons_of_mem _ hx2)).grown hg (fun e => hne x hx2 (by injection e))
theorem Lie.drew (h : Lie w0 L w) : Lie w0 L w.drew := ⟨below_drewN h.1 1, h.2⟩
theorem Lie.drewN (h : Lie w0 L w) (n : Nat) : Lie w0 L (w.drewN n) := ⟨below_drewN h.1 n, h.2⟩
theorem Lie.sub {L' : List (Nat × TypeId × Array Value)} (h : Lie w0 L w) (hs : ∀ x ∈ L', x ∈ L) : Lie w0 L' w := ⟨h.1, fun x hx => h.2 x (hs x hx)⟩
theorem Lie.own {base n size : Nat} {e : TypeId} {v : Value} {xs : List Value} (hw : w.ownsRow base e size v n xs) (hb : Below w.heap.size w w') : w'.ownsRow base e size v n xs := own_below hw hb (Nat.le_refl _)
theorem Lie.rd {B : Nat} {A : Option Addr} {xs : List Value} (h : Lie w0 L w) (hr : Rd w0 B A xs) (hB : B ≤ w0.heap.size) : Rd w B A xs := hr.below' h.1 hB
theorem Lie.k (h : Lie w0 L w) (i : Nat) (hi : i < L.length) : Bk w (L[i]).1 (L[i]).2.1 (L[i]).2.2 := h.2 _ (List.getElem_mem hi)
end
section
variable {w : World} {g : Nat} {t : TypeId} {v0 v1 v2 v3 v4 v5 v6 v7 v8 v9 v10 : Value}
theorem Bk.cell5 (h : Bk w g t #[v0, v1, v2, v3, v4]) : w.cell? ⟨g, 0, none⟩ = some v0 ∧ w.cell? ⟨g, 1, none⟩ = some v1 ∧ w.cell? ⟨g, 2, none⟩ = some v2 ∧ w.cell? ⟨g, 3, none⟩ = some v3 ∧ w.cell? ⟨g, 4, none⟩ = some v4 :=
  ⟨by rw [h.cell]; rfl, by rw [h.cell]; rfl, by rw [h.cell]; rfl, by rw [h.cell]; rfl, by rw [h.cell]; rfl⟩
theorem Bk.cell8 (h : Bk w g t #[v0, v1, v2, v3, v4, v5, v6, v7]) : w.cell? ⟨g, 0, none⟩ = some v0 ∧ w.cell? ⟨g, 1, none⟩ = some v1 ∧ w.cell? ⟨g, 2, none⟩ = some v2 ∧ w.cell? ⟨g, 3, none⟩ = some v3 ∧ w.cell? ⟨g, 4, none⟩ = some v4 ∧ w.cell? ⟨g, 5, none⟩ = some v5 ∧ w.cell? ⟨g, 6, none⟩ = some v6 ∧ w.cell? ⟨g, 7, none⟩ = some v7 :=
  ⟨by rw [h.cell]; rfl, by rw [h.cell]; rfl, by rw [h.cell]; rfl, by rw [h.cell]; rfl, by rw [h.cell]; rfl, by rw [h.cell]; rfl, by rw [h.cell]; rfl, by rw [h.cell]; rfl⟩
theorem Bk.cell11 (h : Bk w g t #[v0, v1, v2, v3, v4, v5, v6, v7, v8, v9, v10]) : w.cell? ⟨g, 0, none⟩ = some v0 ∧ w.cell? ⟨g, 1, none⟩ = some v1 ∧ w.cell? ⟨g, 2, none⟩ = some v2 ∧ w.cell? ⟨g, 3, none⟩ = some v3 ∧ w.cell? ⟨g, 4, none⟩ = some v4 ∧ w.cell? ⟨g, 5, none⟩ = some v5 ∧ w.cell? ⟨g, 6, none⟩ = some v6 ∧ w.cell? ⟨g, 7, none⟩ = some v7 ∧ w.cell? ⟨g, 8, none⟩ = some v8 ∧ w.cell? ⟨g, 9, none⟩ = some v9 ∧ w.cell? ⟨g, 10, none⟩ = some v10 :=
  ⟨by rw [h.cell]; rfl, by rw [h.cell]; rfl, by rw [h.cell]; rfl, by rw [h.cell]; rfl, by rw [h.cell]; rfl, by rw [h.cell]; rfl, by rw [h.cell]; rfl, by rw [h.cell]; rfl, by rw [h.cell]; rfl, by rw [h.cell]; rfl, by rw [h.cell]; rfl⟩
end
end Go.Proofs.YtahiaeaobbofbaaGreat
