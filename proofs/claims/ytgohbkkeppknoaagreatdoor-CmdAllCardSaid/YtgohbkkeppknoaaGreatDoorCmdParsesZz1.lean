/- Several texts in one: Helpers of mine: small lemmas on returns; slices that read as lists ('Rd'), blocks that lie whole ('Bk'), and how both are kept. No condition. Appends onto slices that the call owns: laws of mine over the kit's. Structs that lie in a block of their own: loads, stores and results, the world behind a store under one name. A region that draws its order, by an invariant over what has been done of it. -/
import Derived.Test.YtgohbkkeppknoaaGreatDoorRows
import Derived.WalkKit
import Derived.WalkSpells
import Derived.WalkLawsBesides
import Derived.Lib.Hide
import Derived.Handy
import Derived.Deep.Draws
import Derived.Laws.Rows
import Derived.Maps.AppendAt
import Derived.OwnWalk
import Derived.Deep.AppendLies
import Derived.Laws.CopyOwn
section
set_option linter.unusedVariables false
namespace Go.Proofs.YtgohbkkeppknoaaGreatDoor
open Go.RowKit
theorem ret_bool {a b : Bool} (h : a = b) : Ending.returned (.bool a) = .returned (.bool b) := by rw [h]
theorem ret_int {k : IntKind} {a b : Int} (h : a = b) : Ending.returned (.int k a) = .returned (.int k b) := by rw [h]
theorem ret_t2 {k k' : IntKind} {a b c d : Int} (h : a = b) (h' : c = d) : Ending.returned (.tuple #[.int k a, .int k' c]) = .returned (.tuple #[.int k b, .int k' d]) := by rw [h, h']
theorem ret_t3 {k k' k2 : IntKind} {a b c d e f : Int} (h : a = b) (h' : c = d) (h2 : e = f) : Ending.returned (.tuple #[.int k a, .int k' c, .int k2 e]) = .returned (.tuple #[.int k b, .int k' d, .int k2 f]) := by rw [h, h', h2]
theorem ret_v2 {v v' u u' : Value} (h : v = v') (h' : u = u') : Ending.returned (.tuple #[v, u]) = .returned (.tuple #[v', u']) := by rw [h, h']
theorem val_int {k : IntKind} {a b : Int} (h : a = b) : Value.int k a = .int k b := by rw [h]
theorem bcell {W w1 : World} {B : Nat} (hb : Below B W w1) : (∀ b o, b < B → w1.cell? ⟨b, o, none⟩ = W.cell? ⟨b, o, none⟩) ∧ (∀ b o, b < B → w1.frozen? ⟨b, o, none⟩ = W.frozen? ⟨b, o, none⟩) :=
  ⟨fun b o h => hb.cell (p := ⟨b, o, none⟩) h, fun b o h => hb.frozen (p := ⟨b, o, none⟩) h⟩

/-- The slice that begins at A holds the cells xs; its block lies below B. -/
def Rd (w : World) (B : Nat) (A : Option Addr) (xs : List Value) : Prop :=
  ∀ k (h : k < xs.length), ∃ b o, A = some ⟨b, o, none⟩ ∧ b < B ∧ w.cell? ⟨b, o + k, none⟩ = some xs[k]
section
variable {w w' : World} {B B' : Nat} {A : Option Addr} {xs : List Value}
theorem Rd.nil : Rd w B A [] := fun k h => absurd h (by simp)
theorem Rd.get (h : Rd w B A xs) (k : Nat) (hk : k < xs.length) : ∃ b o, A = some ⟨b, o, none⟩ ∧ b < B ∧ w.cell? ⟨b, o + k, none⟩ = some xs[k] := h k hk
theorem Rd.keep (h : Rd w B A xs) (hk : ∀ p : Addr, p.block < B → w'.cell? p = w.cell? p) : Rd w' B A xs := fun k hx => by
  obtain ⟨b, o, e, hb, hc⟩ := h k hx
  exact ⟨b, o, e, hb, (hk _ hb).trans hc⟩
theorem Rd.more (h : Rd w B A xs) (hB : B ≤ B') : Rd w B' A xs := fun k hx => by
  obtain ⟨b, o, e, hb, hc⟩ := h k hx
  exact ⟨b, o, e, by omega, hc⟩
theorem Rd.below (h : Rd w B A xs) (hb : Below B w w') : Rd w' B A xs := h.keep fun _ hp => hb.cell hp
theorem Rd.below' (h : Rd w B A xs) (hb : Below B' w w') (hB : B ≤ B') : Rd w' B A xs := h.keep fun _ hp => hb.cell (by omega)
theorem Rd.drew (h : Rd w B A xs) : Rd w.drew B A xs := h
theorem Rd.drewN (h : Rd w B A xs) (k : Nat) : Rd (w.drewN k) B A xs := h
theorem Rd.alloc (h : Rd w B A xs) (hB : B ≤ w.heap.size) (o : Obj) : Rd (w.alloc o) B A xs := h.keep fun p hp => World.cell?_alloc_lt w o p (by omega)
theorem Rd.setCell (h : Rd w B A xs) {p : Addr} (hB : B ≤ p.block) (u : Value) : Rd (w.setCell p u) B A xs :=
  h.keep fun q hq => World.cell?_setCell_other w p q u (fun e => by subst e; omega)
theorem Rd.grown (h : Rd w B A xs) {row : Option Nat} (hg : w.grownBy w' row) (hB : B ≤ w.heap.size) (hr : ∀ g, row = some g → B ≤ g) : Rd w' B A xs :=
  h.keep fun p hp => World.cell?_of_block (hg.block p.block (by omega) (fun e => by have := hr _ e.symm; omega))
theorem Rd.of_own {base : Nat} {e : TypeId} {c n size : Nat} (h : w.ownsRow base e size (.slice A n c) n xs) : Rd w w.heap.size A xs := by
  intro k hk
  rcases h.2 with ⟨h1, h2⟩ | ⟨g, cap, cur, hv, _, hh, _, _, _, hx⟩
  · subst h2; have := h.1; omega
  · have hA : A = some ⟨g, 0, none⟩ := by injection hv
    have hlt : g < w.heap.size := by
      rcases Nat.lt_or_ge g w.heap.size with hl | hl
      · exact hl
      · rw [Array.getElem?_eq_none hl] at hh; cases hh
    refine ⟨g, 0, hA, hlt, ?_⟩
    rw [cell_of_row w g _ cur e (0, 0) hh, Nat.zero_add]
    have h3 : cur.toList[k]? = some xs[k] := by
      have h4 : (cur.toList.take (n * size))[k]? = some xs[k] := by rw [hx]; exact List.getElem?_eq_getElem hk
      rw [List.getElem?_take] at h4
      split at h4
      · exact h4
      · cases h4
    simpa using h3
/-- The form of an owned slice. -/
theorem own_form {base : Nat} {e : TypeId} {n size : Nat} {v : Value} (h : w.ownsRow base e size v n xs) : ∃ A c, v = .slice A n c ∧ n ≤ c ∧ c ≤ maxLen ∧ Rd w w.heap.size A xs ∧ xs.length = n * size := by
  rcases h.2 with ⟨h1, h2⟩ | ⟨g, cap, cur, hv, _, hh, h1, h2, _, hx⟩
  · subst h2; exact ⟨none, 0, h1, Nat.le_refl _, by simp [maxLen], by have := h.1; rw [List.eq_nil_of_length_eq_zero (by omega : xs.length = 0)]; exact Rd.nil, h.1⟩
  · subst hv
    exact ⟨_, cap, rfl, h1, h2, Rd.of_own h, h.1⟩
theorem own_form2 {base : Nat} {e : TypeId} {n size : Nat} {v : Value} (h : w.ownsRow base e size v n xs) : ∃ A c, v = .slice A n c ∧ n ≤ c ∧ c ≤ maxLen ∧ (A = none → c = 0) ∧ Rd w w.heap.size A xs ∧ xs.length = n * size := by
  rcases h.2 with ⟨h1, h2⟩ | ⟨g, cap, cur, hv, _, hh, h1, h2, _, hx⟩
  · subst h2; exact ⟨none, 0, h1, Nat.le_refl _, by simp [maxLen], fun _ => rfl, by have := h.1; rw [List.eq_nil_of_length_eq_zero (by omega : xs.length = 0)]; exact Rd.nil, h.1⟩
  · subst hv
    exact ⟨_, cap, rfl, h1, h2, (by intro e; cases e), Rd.of_own h, h.1⟩
end

/-- As Rd, in a block from lo on. -/
def RdL (w : World) (lo : Nat) (A : Option Addr) (xs : List Value) : Prop :=
  ∀ k (h : k < xs.length), ∃ b o, A = some ⟨b, o, none⟩ ∧ lo ≤ b ∧ b < w.heap.size ∧ w.cell? ⟨b, o + k, none⟩ = some xs[k]
section
variable {w w' : World} {lo lo' B : Nat} {A : Option Addr} {xs : List Value}
theorem RdL.rd (h : RdL w lo A xs) : Rd w w.heap.size A xs := fun k hk => by
  obtain ⟨b, o, h1, _, h2, h3⟩ := h k hk
  exact ⟨b, o, h1, h2, h3⟩
theorem Rd.rdl (h : Rd w w.heap.size A xs) : RdL w 0 A xs := fun k hk => by
  obtain ⟨b, o, h1, h2, h3⟩ := h k hk
  exact ⟨b, o, h1, Nat.zero_le _, h2, h3⟩
theorem RdL.less (h : RdL w lo A xs) (hl : lo' ≤ lo) : RdL w lo' A xs := fun k hk => by
  obtain ⟨b, o, h1, h0, h2, h3⟩ := h k hk
  exact ⟨b, o, h1, by omega, h2, h3⟩
theorem RdL.keep (h : RdL w lo A xs) (hz : w.heap.size ≤ w'.heap.size) (hk : ∀ p : Addr, lo ≤ p.block → p.block < w.heap.size → w'.cell? p = w.cell? p) : RdL w' lo A xs := fun k hx => by
  obtain ⟨b, o, h1, h0, h2, h3⟩ := h k hx
  exact ⟨b, o, h1, h0, by omega, (hk _ h0 h2).trans h3⟩
theorem RdL.below (h : RdL w lo A xs) (hb : Below B w w') (hB : w.heap.size ≤ B) : RdL w' lo A xs := h.keep hb.size fun p _ hp => hb.cell (by omega)
theorem RdL.grown (h : RdL w lo A xs) {row : Option Nat} (hg : w.grownBy w' row) (hr : ∀ g, row = some g → g < lo ∨ w.heap.size ≤ g) : RdL w' lo A xs :=
  h.keep hg.size fun p h0 hp => World.cell?_of_block (hg.block p.block hp (fun e => by have := hr _ e.symm; omega))
theorem RdL.take (h : RdL w lo A xs) (k : Nat) : RdL w lo A (xs.take k) := fun i hi => by
  have hi' : i < xs.length := by simp at hi; omega
  obtain ⟨b, o, h1, h0, h2, h3⟩ := h i hi'
  exact ⟨b, o, h1, h0, h2, by rw [h3]; simp⟩
theorem Rd.take (h : Rd w B A xs) (k : Nat) : Rd w B A (xs.take k) := fun i hi => by
  have hi' : i < xs.length := by simp at hi; omega
  obtain ⟨b, o, h1, h2, h3⟩ := h i hi'
  exact ⟨b, o, h1, h2, by rw [h3]; simp⟩
theorem RdL.of_own {base : Nat} {e : TypeId} {c n size : Nat} (h : w.ownsRow base e size (.slice A n c) n xs) : RdL w base A xs := fun k hk => by
  obtain ⟨b, o, h1, h2, h3⟩ := Rd.of_own h k hk
  subst h1
  exact ⟨b, o, rfl, (h.lt b rfl).1, h2, h3⟩
end

/-- Block g holds just the cells cs of element type t, none of them frozen. -/
def Bk (w : World) (g : Nat) (t : TypeId) (cs : Array Value) : Prop := w.heap[g]? = some (.cells cs t (0, 0))
section
variable {w w' : World} {g : Nat} {t : TypeId} {cs : Array Value}
theorem Bk.lt (h : Bk w g t cs) : g < w.heap.size := by
  rcases Nat.lt_or_ge g w.heap.size with hl | hl
  · exact hl
  · unfold Bk at h; rw [Array.getElem?_eq_none hl] at h; cases h
theorem Bk.cell (h : Bk w g t cs) (i : Nat) : w.cell? ⟨g, i, none⟩ = cs[i]? := cell_of_row w g i cs t (0, 0) h
theorem Bk.frozen (h : Bk w g t cs) (i : Nat) : w.frozen? ⟨g, i, none⟩ = false := frozen_of_row w g i cs t h
theorem Bk.cell3 {x y z : Value} (h : Bk w g t #[x, y, z]) : w.cell? ⟨g, 0, none⟩ = some x ∧ w.cell? ⟨g, 1, none⟩ = some y ∧ w.cell? ⟨g, 2, none⟩ = some z :=
  ⟨by rw [h.cell]; rfl, by rw [h.cell]; rfl, by rw [h.cell]; rfl⟩
theorem Bk.cell4 {x y z u : Value} (h : Bk w g t #[x, y, z, u]) : w.cell? ⟨g, 0, none⟩ = some x ∧ w.cell? ⟨g, 1, none⟩ = some y ∧ w.cell? ⟨g, 2, none⟩ = some z ∧ w.cell? ⟨g, 3, none⟩ = some u :=
  ⟨by rw [h.cell]; rfl, by rw [h.cell]; rfl, by rw [h.cell]; rfl, by rw [h.cell]; rfl⟩
theorem Bk.cell2 {x y : Value} (h : Bk w g t #[x, y]) : w.cell? ⟨g, 0, none⟩ = some x ∧ w.cell? ⟨g, 1, none⟩ = some y :=
  ⟨by rw [h.cell]; rfl, by rw [h.cell]; rfl⟩
theorem Bk.cell1 {x : Value} (h : Bk w g t #[x]) : w.cell? ⟨g, 0, none⟩ = some x := by rw [h.cell]; rfl
theorem Bk.new (w : World) (t : TypeId) (cs : Array Value) : Bk (w.alloc (.cells cs t)) w.heap.size t cs := heap_alloc_new w _
theorem Bk.alloc (h : Bk w g t cs) (o : Obj) : Bk (w.alloc o) g t cs := (Below.heap_alloc w o g h.lt).trans h
theorem Bk.drew (h : Bk w g t cs) : Bk w.drew g t cs := h
theorem Bk.drewN (h : Bk w g t cs) (n : Nat) : Bk (w.drewN n) g t cs := h
theorem Bk.set (h : Bk w g t cs) (i : Nat) (u : Value) : Bk (w.setCell ⟨g, i, none⟩ u) g t (cs.setIfInBounds i u) := by
  unfold Bk at h ⊢
  simp [World.setCell, Array.getElem?_modify, h]
theorem Bk.set1 {x : Value} (h : Bk w g t #[x]) (u : Value) : Bk (w.setCell ⟨g, 0, none⟩ u) g t #[u] := by simpa using h.set 0 u
theorem Bk.set2 {x y : Value} (h : Bk w g t #[x, y]) (u v : Value) : Bk ((w.setCell ⟨g, 0, none⟩ u).setCell ⟨g, 1, none⟩ v) g t #[u, v] := by simpa using (h.set 0 u).set 1 v
theorem Bk.set3 {x y z : Value} (h : Bk w g t #[x, y, z]) (u v a : Value) : Bk (((w.setCell ⟨g, 0, none⟩ u).setCell ⟨g, 1, none⟩ v).setCell ⟨g, 2, none⟩ a) g t #[u, v, a] := by simpa using ((h.set 0 u).set 1 v).set 2 a
theorem Bk.set4 {x y z o : Value} (h : Bk w g t #[x, y, z, o]) (u v a b : Value) : Bk ((((w.setCell ⟨g, 0, none⟩ u).setCell ⟨g, 1, none⟩ v).setCell ⟨g, 2, none⟩ a).setCell ⟨g, 3, none⟩ b) g t #[u, v, a, b] := by simpa using (((h.set 0 u).set 1 v).set 2 a).set 3 b
theorem Bk.far (h : Bk w g t cs) {p : Addr} (hp : g ≠ p.block) (u : Value) : Bk (w.setCell p u) g t cs := (Below.heap_setCell w p u g hp).trans h
theorem Bk.below {B : Nat} (h : Bk w g t cs) (hb : Below B w w') (hg : g < B) : Bk w' g t cs := (hb.block g hg).trans h
theorem Bk.nx (h : Bk w g t cs) (hb : Below w.heap.size w w') : Bk w' g t cs := h.below hb h.lt
theorem Bk.grown {row : Option Nat} (h : Bk w g t cs) (hb : w.grownBy w' row) (hg : some g ≠ row) : Bk w' g t cs := (hb.block g h.lt hg).trans h
end
theorem below_drewN {B : Nat} {a w : World} (h : Below B a w) (n : Nat) : Below B a (w.drewN n) := ⟨h.os, h.tape, h.output, h.size, h.block⟩
theorem own_ge {w : World} {base : Nat} {e : TypeId} {size n : Nat} {v : Value} {xs : List Value} (h : w.ownsRow base e size v n xs) : ∀ g, v.ownBlock = some g → base ≤ g := fun g hg => (h.lt g hg).1
theorem own_below {w w' : World} {B base : Nat} {e : TypeId} {size n : Nat} {v : Value} {xs : List Value} (h : w.ownsRow base e size v n xs) (hb : Below B w w') (hB : w.heap.size ≤ B) : w'.ownsRow base e size v n xs := by
  refine ⟨h.1, ?_⟩
  rcases h.2 with h2 | ⟨g, cap, cur, hv, hg, hh, r⟩
  · exact .inl h2
  · have hlt : g < w.heap.size := Bk.lt hh
    exact .inr ⟨g, cap, cur, hv, hg, by rw [hb.block g (by omega)]; exact hh, r⟩
theorem own_base {w : World} {b b' : Nat} {e : TypeId} {size n : Nat} {v : Value} {xs : List Value} (h : w.ownsRow b e size v n xs) (hb : b' ≤ b) : w.ownsRow b' e size v n xs := by
  refine ⟨h.1, ?_⟩
  rcases h.2 with h2 | ⟨g, cap, cur, hv, hg, hh, r⟩
  · exact .inl h2
  · exact .inr ⟨g, cap, cur, hv, by omega, hh, r⟩
theorem own_some {w : World} {base n c size : Nat} {e : TypeId} {A : Option Addr} {xs : List Value} (h : w.ownsRow base e size (.slice A n c) n xs) (hn : 0 < n) : ∃ g, A = some ⟨g, 0, none⟩ ∧ base ≤ g ∧ g < w.heap.size := by
  rcases h.2 with ⟨h1, h2⟩ | ⟨g', cap, cur, hv, hg, hh, r⟩
  · omega
  · cases hv
    exact ⟨g', rfl, hg, Bk.lt hh⟩
theorem Bk.ne_own {w : World} {g : Nat} {t : TypeId} {cs : Array Value} {base n size : Nat} {e : TypeId} {v : Value} {xs : List Value} (h : Bk w g t cs) (ho : w.ownsRow base e size v n xs) (hne : t ≠ e) : ∀ g', v.ownBlock = some g' → g ≠ g' := by
  rintro g' hg rfl
  rcases ho.2 with ⟨h1, h2⟩ | ⟨g1, cap, cur, hv, hg1, hh, r⟩
  · subst h1; cases hg
  · subst hv
    have : g1 = g := by simpa [Value.ownBlock] using hg
    subst this
    unfold Bk at h
    rw [h] at hh
    injection hh with hh
    injection hh with _ ht
    exact hne ht
theorem Bk.ne_Bk {w : World} {g g' : Nat} {t t' : TypeId} {cs cs' : Array Value} (h : Bk w g t cs) (h' : Bk w g' t' cs') (hne : t ≠ t') : g ≠ g' := by
  rintro rfl
  unfold Bk at h h'
  rw [h] at h'
  injection h' with h'
  injection h' with _ ht
  exact hne ht
section
variable {a b c w : World} {row row' : Option Nat}
theorem gb_drew (h : a.grownBy w row) : a.grownBy w.drew row := ⟨h.os, h.tape, h.output, h.size, h.block⟩
theorem gb_drewN (h : a.grownBy w row) (n : Nat) : a.grownBy (w.drewN n) row := ⟨h.os, h.tape, h.output, h.size, h.block⟩
theorem gb_of_below (h : Below a.heap.size a w) : a.grownBy w row := ⟨h.os, h.tape, h.output, h.size, fun i hi _ => h.block i hi⟩
theorem gb_below {B : Nat} (h : a.grownBy b row) (k : Below B b c) (hB : a.heap.size ≤ B) : a.grownBy c row :=
  ⟨k.os.trans h.os, k.tape.trans h.tape, k.output.trans h.output, Nat.le_trans h.size k.size, fun i hi hne => (k.block i (by omega)).trans (h.block i hi hne)⟩
theorem gb_alloc (h : a.grownBy w row) (o : Obj) : a.grownBy (w.alloc o) row :=
  ⟨h.os, h.tape, h.output, Nat.le_trans h.size (by simp), fun i hi hne => (Below.heap_alloc w o i (Nat.lt_of_lt_of_le hi h.size)).trans (h.block i hi hne)⟩
theorem gb_trans (h : a.grownBy b row) (k : b.grownBy c row') (hr : ∀ g, row' = some g → row = some g ∨ a.heap.size ≤ g) : a.grownBy c row :=
  ⟨k.os.trans h.os, k.tape.trans h.tape, k.output.trans h.output, Nat.le_trans h.size k.size, fun i hi hne => (k.block i (Nat.lt_of_lt_of_le hi h.size) (fun e => by
    rcases hr i e.symm with e2 | e2
    · exact hne e2.symm
    · omega)).trans (h.block i hi hne)⟩
theorem gb_setCell {g : Nat} (h : a.grownBy w (some g)) {p : Addr} (hp : p.block = g ∨ a.heap.size ≤ p.block) (u : Value) : a.grownBy (w.setCell p u) (some g) :=
  ⟨h.os, h.tape, h.output, by simpa [World.setCell] using h.size, fun i hi hne => (Below.heap_setCell w p u i (fun e => by
    rcases hp with hp | hp
    · exact hne (by rw [e, hp])
    · omega)).trans (h.block i hi hne)⟩
theorem below_of_gb {B g : Nat} {W : World} (hb : Below B W a) (hg : a.grownBy w (some g)) (hB : B ≤ g) (hB2 : B ≤ a.heap.size) : Below B W w :=
  hb.grown hg hB2 (fun k hk => by injection hk; omega)
theorem Rd.gb {B g : Nat} {A : Option Addr} {xs : List Value} (h : Rd a B A xs) (hg : a.grownBy w (some g)) (hB : B ≤ a.heap.size) (hr : B ≤ g) : Rd w B A xs :=
  h.grown hg hB (fun k hk => by injection hk; omega)
end
theorem gb2 (w : World) (g : Nat) (u v : Value) : w.grownBy ((w.setCell ⟨g, 0, none⟩ u).setCell ⟨g, 1, none⟩ v) (some g) :=
  gb_setCell (g := g) (p := ⟨g, 1, none⟩) (gb_setCell (g := g) (p := ⟨g, 0, none⟩) (World.grownBy.refl w _) (.inl rfl) u) (.inl rfl) v
theorem gb4 (w : World) (g : Nat) (u v a b : Value) : w.grownBy ((((w.setCell ⟨g, 0, none⟩ u).setCell ⟨g, 1, none⟩ v).setCell ⟨g, 2, none⟩ a).setCell ⟨g, 3, none⟩ b) (some g) :=
  gb_setCell (g := g) (p := ⟨g, 3, none⟩) (gb_setCell (g := g) (p := ⟨g, 2, none⟩) (gb2 w g u v) (.inl rfl) a) (.inl rfl) b
theorem gb_set1 (w : World) (p : Addr) (u : Value) : w.grownBy (w.setCell p u) (some p.block) :=
  gb_setCell (World.grownBy.refl w _) (.inl rfl) u
theorem own_far {w : World} {base n size : Nat} {e : TypeId} {v : Value} {xs : List Value} (h : w.ownsRow base e size v n xs) (p : Addr) (u : Value) (hp : ∀ g, v.ownBlock = some g → g ≠ p.block) : (w.setCell p u).ownsRow base e size v n xs :=
  h.kept (gb_set1 w p u) (by
    cases hv : v.ownBlock with
    | none => exact .inl rfl
    | some g => exact .inr (fun e => hp g hv (by injection e)))
theorem set_fill {α : Type} (L : List α) (n j : Nat) (z u : α) (hj : L.length = j) (hn : j < n) : (L ++ List.replicate (n - j) z).set j u = (L ++ [u]) ++ List.replicate (n - (j + 1)) z := by
  rw [List.set_append_right _ _ (by omega), hj, Nat.sub_self, show n - j = (n - (j + 1)) + 1 by omega, List.replicate_succ]
  simp
theorem madeCells_one (z : Value) (n : Nat) : madeCells #[z] n = Array.replicate n z := by
  apply Array.toList_inj.1
  rw [toList_madeCells_one]; simp
/-- make([]T, n) at an element of one cell: the new block is written out. -/
theorem run_make1 {P : Program} {t e : TypeId} {z : Value} {bytes : Nat} (ht : P.underlying t = some (.slice e)) (hi : (P.info? e).map (fun i => (i.zero, i.size, i.bytes)) = some (some z, 1, bytes)) (hz1 : z.cells = #[z])
    (N : Int) (n : Nat) (hN : N = n) (hb : bytes * n ≤ 281474976710656) (h63 : n ≤ 9223372036854775807) (w : World) :
    (Instr.makeSlice t (.int .i64 N) (.int .i64 N)).run P w = .ok (.slice (some ⟨w.heap.size, 0, none⟩) n n) (w.alloc (.cells (Array.replicate n z) e)) := by
  obtain ⟨i, hi', hz, hs, hby⟩ := info_parts hi
  subst hN
  rw [← hby] at hb
  have hb' : (i.bytes : Int) * (n : Int) ≤ 281474976710656 := by
    have h : ((i.bytes * n : Nat) : Int) ≤ 281474976710656 := by omega
    rwa [Int.natCast_mul] at h
  have hr := run_make (P := P) w t e i z ht hi' hz .i64 .i64 n n (by omega) (Int.le_refl _) hb' (by omega)
  rw [hz1, hs] at hr
  simp only [Int.toNat_natCast, Nat.mul_one, madeCells_one] at hr
  exact hr
/-- A block that lies whole, as an owned slice of its n elements. -/
theorem own_of_Bk {w : World} {g base : Nat} {e : TypeId} {cs : Array Value} (h : Bk w g e cs) (n : Nat) (hn : cs.size = n) (hm : n ≤ 9223372036854775807) (hb : base ≤ g) :
    w.ownsRow base e 1 (.slice (some ⟨g, 0, none⟩) n n) n cs.toList :=
  ⟨by simp [hn], .inr ⟨g, n, cs, rfl, hb, h, Nat.le_refl _, by simpa [maxLen] using hm, by omega, by rw [List.take_of_length_le]; simp [hn]⟩⟩
/-- An owned slice as its block. -/
theorem Bk_of_own {w : World} {g base n c : Nat} {e : TypeId} {xs : List Value} (h : w.ownsRow base e 1 (.slice (some ⟨g, 0, none⟩) n c) n xs) : ∃ cs, Bk w g e cs ∧ base ≤ g ∧ n ≤ c ∧ c = cs.size ∧ cs.toList.take n = xs := by
  rcases h.2 with ⟨h1, h2⟩ | ⟨g', cap, cur, hv, hg, hh, hn, _, hs, hx⟩
  · cases h1
  · cases hv
    exact ⟨cur, hh, hg, hn, by omega, by simpa using hx⟩
end Go.Proofs.YtgohbkkeppknoaaGreatDoor
end
section
set_option linter.unusedVariables false
namespace Go.Proofs.YtgohbkkeppknoaaGreatDoor
open Go.RowKit
section
variable {P : Program}
theorem add0 (g j : Nat) : (⟨g, 0, none⟩ : Addr).add j = ⟨g, j, none⟩ := by
  unfold Addr.add; split <;> simp_all
theorem addo (g i j : Nat) : (⟨g, i, none⟩ : Addr).add j = ⟨g, i + j, none⟩ := by
  unfold Addr.add; split <;> simp_all
/-- append(s, one element), the element's cells just laid in a block of their own. -/
theorem app1 {ops : Array Oper} {rest : List Oper} {o : Oper} {a : Act} {Q : Exit → Act → World → Prop} (hgd : o.guard = none) (s x : Operand) (t : TypeId)
    (ho : o.op = .call { callee := .builtin .append, args := #[s, x], argTypes := #[t, t] })
    {e : TypeId} {z : Value} {size bytes : Nat} (ht : P.underlying t = some (.slice e)) (hi : (P.info? e).map (fun i => (i.zero, i.size, i.bytes)) = some (some z, size, bytes)) (hzs : z.cells.size = size) (hsz : 0 < size)
    {w W : World} {B base n : Nat} {v : Value} {xs : List Value} {cs : Array Value} (hs : a.eval s = v) (hx : a.eval x = .slice (some ⟨w.heap.size, 0, none⟩) 1 1)
    (hown : w.ownsRow base e size v n xs) (hbel : Below B W w) (hB : B ≤ base) (hbase : base ≤ w.heap.size) (hcs : cs.size = size) (h1 : ∀ u ∈ cs.toList, u.oneCell' = true)
    (hbytes : (n + 1) * bytes ≤ 140737488355328) (h63 : n + 1 ≤ 9223372036854775807)
    (h : ∀ v' w', w'.ownsRow base e size v' (n + 1) (xs ++ cs.toList) → Below B W w' → w.heap.size < w'.heap.size → w.grownBy w' v.ownBlock → (v'.ownBlock = v.ownBlock ∨ v'.ownBlock = some (w.heap.size + 1)) → wpList P ops Q rest (a.put o.dst v') w') :
    wpList P ops Q (o :: rest) a (w.alloc (.cells cs e)) := by
  obtain ⟨i, hi', hz, hs0, hby⟩ := info_parts hi
  refine wpList_plain hgd fun K hK => ?_
  obtain ⟨v', w', hr, h2, h3, _, h5⟩ := run_append_own_at (P := P) (w.alloc (.cells cs e)) base t o.type e i z size bytes ht hi' hz hs0 hby hzs hsz v n xs (hown.alloc _) ⟨w.heap.size, 0, none⟩ 1 1 cs.toList (by simp [hcs])
    (fun j u hj => by rw [add0, World.cell?_alloc_new]; simpa using hj) h1 (by simpa [maxLen] using h63) hbytes (by simp; omega)
  unfold Oper.wp execOp
  simp only [ho, resolve, invoke, builtin, Sem.run_bind, Sem.run_pure, Result.andThen_ok, List.map_toArray, List.map_cons, List.map_nil, hs, hx, hr]
  have hsz2 : w.heap.size < w'.heap.size := by have := h3.size; simp at this; omega
  refine hK _ _ (h v' w' h2 ?_ hsz2 ?_ (by simpa using h5))
  · refine (hbel.alloc (by omega) (.cells cs e)).grown h3 (by simp; omega) (fun k hk => ?_)
    have := own_ge hown k hk; omega
  · exact ⟨h3.os, h3.tape, h3.output, by omega, fun k hk hne => (h3.block k (by simp; omega) hne).trans (Below.heap_alloc w _ k hk)⟩
/-- append(s, xs...), the source read as a list. -/
theorem appR {ops : Array Oper} {rest : List Oper} {o : Oper} {a : Act} {Q : Exit → Act → World → Prop} (hgd : o.guard = none) (s x : Operand) (t : TypeId)
    (ho : o.op = .call { callee := .builtin .append, args := #[s, x], argTypes := #[t, t] })
    {e : TypeId} {z : Value} {size bytes : Nat} (ht : P.underlying t = some (.slice e)) (hi : (P.info? e).map (fun i => (i.zero, i.size, i.bytes)) = some (some z, size, bytes)) (hzs : z.cells.size = size) (hsz : 0 < size)
    {w W : World} {B B' base n m c : Nat} {v : Value} {xs news : List Value} {A : Option Addr} (hs : a.eval s = v) (hx : a.eval x = .slice A m c)
    (hown : w.ownsRow base e size v n xs) (hbel : Below B W w) (hB : B ≤ base) (hbase : base ≤ w.heap.size) (hr : Rd w B' A news) (hl : news.length = m * size) (h1 : ∀ u ∈ news, u.oneCell' = true)
    (hbytes : (n + m) * bytes ≤ 140737488355328) (h63 : n + m ≤ 9223372036854775807)
    (h : ∀ v' w', w'.ownsRow base e size v' (n + m) (xs ++ news) → Below B W w' → w.heap.size ≤ w'.heap.size → w.grownBy w' v.ownBlock → (v'.ownBlock = v.ownBlock ∨ v'.ownBlock = some w.heap.size) → wpList P ops Q rest (a.put o.dst v') w') :
    wpList P ops Q (o :: rest) a w := by
  obtain ⟨i, hi', hz, hs0, hby⟩ := info_parts hi
  refine wpList_plain hgd fun K hK => ?_
  rcases A with _ | ad
  · have hm : m = 0 := by
      rcases Nat.eq_zero_or_pos m with h0 | h0
      · exact h0
      · have hlen : 0 < news.length := by rw [hl]; exact Nat.mul_pos h0 hsz
        obtain ⟨b, o', hA, _⟩ := hr.get 0 hlen
        cases hA
    subst hm
    have hn : news = [] := List.eq_nil_of_length_eq_zero (by simpa using hl)
    subst hn
    have hrun : (Builtin.append_ #[t, t] o.type #[v, .slice none 0 c]).run P w = .ok v w := by
      rcases hown.2 with ⟨hv, hn⟩ | ⟨g, cap, cur, hv, _, _, hnc, _⟩
      · subst hv; subst hn
        simp [Builtin.append_, run_underlying ht, sizeOf, typeInfo, hi', Builtin.lenOf, Builtin.firstCells]
      · subst hv
        simp [Builtin.append_, run_underlying ht, sizeOf, typeInfo, hi', Builtin.lenOf, Builtin.firstCells, hnc, storeCells]
    unfold Oper.wp execOp
    simp only [ho, resolve, invoke, builtin, Sem.run_bind, Sem.run_pure, Result.andThen_ok, List.map_toArray, List.map_cons, List.map_nil, hs, hx, hrun]
    exact hK _ _ (h v w (by simpa using hown) hbel (Nat.le_refl _) (World.grownBy.refl w _) (.inl rfl))
  · have hnews : ∀ j u, news[j]? = some u → w.cell? (ad.add j) = some u := fun j u hj => by
      obtain ⟨hjl, hju⟩ := List.getElem?_eq_some_iff.1 hj
      obtain ⟨b, o', hA, _, hc⟩ := hr.get j hjl
      injection hA with hA
      subst hA
      rw [addo, hc, hju]
    obtain ⟨v', w', hrun, h2, h3, _, h5⟩ := run_append_own_at (P := P) w base t o.type e i z size bytes ht hi' hz hs0 hby hzs hsz v n xs hown ad m c news hl hnews h1 (by simpa [maxLen] using h63) hbytes hbase
    unfold Oper.wp execOp
    simp only [ho, resolve, invoke, builtin, Sem.run_bind, Sem.run_pure, Result.andThen_ok, List.map_toArray, List.map_cons, List.map_nil, hs, hx, hrun]
    exact hK _ _ (h v' w' h2 (hbel.grown h3 (by omega) (fun k hk => by have := own_ge hown k hk; omega)) h3.size h3 h5)
end
theorem ints1 {k : IntKind} {n : Int} : ∀ u ∈ (#[Value.int k n] : Array Value).toList, u.oneCell' = true := by simp [Value.oneCell']
theorem intsL {k : IntKind} (zs : List Int) : ∀ u ∈ zs.map (Value.int k), u.oneCell' = true := ints_oneCell k zs
end Go.Proofs.YtgohbkkeppknoaaGreatDoor
end
section
set_option linter.unusedVariables false
namespace Go.Proofs.YtgohbkkeppknoaaGreatDoor
open Go.RowKit
section
variable {P : Program}
theorem Bk_setRow {w : World} {g : Nat} {t : TypeId} {old : Array Value} (h : Bk w g t old) (cs : Array Value) : Bk (w.setRow g cs) g t cs := setRow_heap w g old cs t (0, 0) h
theorem grown_setRow (w : World) (g : Nat) (cs : Array Value) : w.grownBy (w.setRow g cs) (some g) :=
  ⟨rfl, rfl, rfl, by simp, fun k hk hne => setRow_other w g k cs (fun e => hne (by rw [e]))⟩
theorem below_grown {B g : Nat} {W w w' : World} (hb : Below B W w) (hg : w.grownBy w' (some g)) (hB : B ≤ g) (hB2 : B ≤ w.heap.size) : Below B W w' :=
  hb.grown hg hB2 (fun k hk => by injection hk; omega)
/-- A field of one cell, out of a struct that is a value. -/
theorem run_field1 {T : TypeId} {fs : Array Field} {i : Nat} {f : Field} {d : TypeDesc} (hT : P.underlying T = some (.struct fs)) (hf : fs[i]? = some f) (hd : P.underlying f.type = some d)
    (hn : (match d with | .struct _ | .array _ _ => true | _ => false) = false) (cs : Array Value) (v : Value) (hv : cs[f.offset]? = some v) (w : World) : (Instr.field T (.agg cs) i).run P w = .ok v w := by
  have hagg : (isAgg f.type).run P w = .ok false w := by
    unfold isAgg
    rw [Sem.run_bind, run_underlying hd w]
    cases d <;> simp_all
  simp [Instr.field, run_underlying hT, hf, part, Sem.run_bind, hagg, asAgg, hv]
/-- A store of a whole struct into its block. -/
theorem stB {ops : Array Oper} {rest : List Oper} {o : Oper} {a : Act} {w : World} {Q : Exit → Act → World → Prop} (hgd : o.guard = none) (ty : TypeId) (x y : Operand) (ho : o.op = .store ty x y)
    {g : Nat} {t : TypeId} {old : Array Value} (hK : Bk w g t old) (cells : Array Value) (hx : a.eval x = .pointer (some ⟨g, 0, none⟩)) (hy : a.eval y = .agg cells)
    (hi : (P.info? ty).map (·.size) = some cells.size) (hold : old.size = cells.size) (h1 : cells.all (·.oneCell') = true)
    (h : ∀ w', Bk w' g t cells → w.grownBy w' (some g) → w'.heap.size = w.heap.size → wpList P ops Q rest (a.put o.dst undef) w') : wpList P ops Q (o :: rest) a w :=
  wpList_store_row hgd ty x y ho g cells hx hy t old hK hi hold h1 (h _ (Bk_setRow hK cells) (grown_setRow w g cells) (by simp))
/-- A load of a whole struct out of its block. -/
theorem ldB {ops : Array Oper} {rest : List Oper} {o : Oper} {a : Act} {w : World} {Q : Exit → Act → World → Prop} (hgd : o.guard = none) (ty : TypeId) (x : Operand) (ho : o.op = .load ty x)
    {g : Nat} {t : TypeId} {cs : Array Value} (hK : Bk w g t cs) (hx : a.eval x = .pointer (some ⟨g, 0, none⟩)) {d : TypeDesc}
    (hu : P.underlying ty = some d) (hd : (match d with | .struct _ | .array _ _ => true | _ => false) = true) (hi : (P.info? ty).map (·.size) = some cs.size)
    (h : wpList P ops Q rest (a.put o.dst (.agg cs)) w) : wpList P ops Q (o :: rest) a w :=
  wpList_load_row hgd ty x ho g hx t cs (0, 0) d hK hu hd hi h
theorem res_cell {fn : Func} {p : Tmp} {ty : TypeId} (h : fn.results = #[.cell p ty]) {tmps : Array Value} {w : World} {g : Nat} {t : TypeId} {cs : Array Value} (hK : Bk w g t cs) {d : TypeDesc}
    (hp : tmps.getD p undef = .pointer (some ⟨g, 0, none⟩)) (hu : P.underlying ty = some d) (hd : (match d with | .struct _ | .array _ _ => true | _ => false) = true) (hi : (P.info? ty).map (·.size) = some cs.size) :
    (results fn tmps).run P w = .ok (.agg cs) w := results_cell_row h tmps w g t cs (0, 0) d hp hK hu hd hi
theorem res_cell_tmp {fn : Func} {p q : Tmp} {ty : TypeId} (h : fn.results = #[.cell p ty, .tmp q]) {tmps : Array Value} {w : World} {g : Nat} {t : TypeId} {cs : Array Value} (hK : Bk w g t cs) {d : TypeDesc}
    (hp : tmps.getD p undef = .pointer (some ⟨g, 0, none⟩)) (hu : P.underlying ty = some d) (hd : (match d with | .struct _ | .array _ _ => true | _ => false) = true) (hi : (P.info? ty).map (·.size) = some cs.size) :
    (results fn tmps).run P w = .ok (.tuple #[.agg cs, tmps.getD q undef]) w := by
  have hp' : tmps[p]?.getD undef = .pointer (some ⟨g, 0, none⟩) := by simpa using hp
  simp [results, h, hp', asAddr, run_loadVar_row w g t ty cs (0, 0) d hK hu hd hi]
end
end Go.Proofs.YtgohbkkeppknoaaGreatDoor
end
section
set_option linter.unusedVariables false
namespace Go.Proofs.YtgohbkkeppknoaaGreatDoor
open Go.RowKit
section
variable {P : Program} {ops : Array Oper} {Q : Exit → Act → World → Prop}
/-- One operation alone, to K. -/
def StepTo (P : Program) (ops : Array Oper) (o : Oper) (K : Act → World → Prop) (a : Act) (w : World) : Prop :=
  wpList P ops (fun e a w => e = .normal ∧ K a w) [o] a w
theorem Oper.wp_alone {o : Oper} {a : Act} {w : World} {K : Act → World → Prop} (h : o.wp P a w (fun a w => True ∧ K a w) (fun e a w => e = .normal ∧ K a w)) : o.wp P a w K Q := by
  unfold Oper.wp at *
  generalize (execOp a.eval o).run P w = r at *
  cases r with
  | ok n w' =>
    cases n <;> simp only [Oper.upon] at h ⊢ <;>
      first
        | exact h.2
        | exact Calls.mono h (fun e w'' he => by
            cases e
            · exact he.2
            · exact absurd he.1 (by simp)
            · obtain ⟨_, _, h1, _⟩ := he; cases h1)
        | exact Rows.mono h (fun _ _ he => he.2)
  | halt x w' => cases x <;> simp only [Oper.upon] at h ⊢ <;> first | exact h.elim | exact absurd h.1 (by simp)
theorem wpOp_alone {i : Nat} {o : Oper} {a : Act} {w : World} {K : Act → World → Prop} (ho : ops[i]? = some o) (h : StepTo P ops o K a w) : wpOp P ops Q i K a w := by
  unfold wpOp
  simp only [ho]
  unfold StepTo at h
  simp only [wpList] at h
  split
  · rename_i hw
    rw [if_pos hw] at h
    rcases h with h | ⟨_, h⟩
    · exact .inl (Oper.wp_alone h)
    · obtain ⟨_, _, h1, _⟩ := h; cases h1
  · rename_i hw
    rw [if_neg hw] at h
    exact h.2
theorem all_listed {ls : Array Bool} (hb : ∀ i o, ops[i]? = some o → ∀ e ∈ o.after, Region.binds .any e = true → e.on < i) (hsz : ls.size = ops.size) (hr : Region.ready .any ops ls = []) : ∀ n i, i < n → i < ops.size → ls.getD i true = true := by
  intro n
  induction n with
  | zero => intro i h; omega
  | succ n ih =>
    intro i hi hs
    cases hl : ls.getD i true with
    | true => rfl
    | false =>
      have hm : i ∈ Region.ready .any ops ls := mem_ready.2 ⟨hl, ops[i], Array.getElem?_eq_getElem hs, fun e he hbd => by
        have h1 := hb i _ (Array.getElem?_eq_getElem hs) e he hbd
        have h2 := ih e.on (by omega) (by omega)
        have h3 : e.on < ls.size := by omega
        simpa [Array.getD, h3] using h2⟩
      rw [hr] at hm; cases hm
def unlst (ls : Array Bool) : Nat := ls.toList.countP (fun b => !b)
theorem unlst_set {ls : Array Bool} {i : Nat} (h : ls.getD i true = false) : unlst ls = unlst (ls.setIfInBounds i true) + 1 := by
  have hi : i < ls.size := by
    rcases Nat.lt_or_ge i ls.size with h1 | h1
    · exact h1
    · simp [Array.getD, Nat.not_lt.2 h1] at h
  have hv : ls.toList[i]'(by simpa using hi) = false := by simpa [Array.getD, hi] using h
  have hp : 0 < ls.toList.countP (fun b => !b) := List.countP_pos_iff.2 ⟨_, List.getElem_mem (by simpa using hi), by rw [hv]; rfl⟩
  unfold unlst
  rw [Array.toList_setIfInBounds, List.countP_set (by simpa using hi), hv]
  rw [Array.countP_toList] at *
  simp
  omega
theorem wpAny_inv {I : Array Bool → Act → World → Prop} (hb : ∀ i o, ops[i]? = some o → ∀ e ∈ o.after, Region.binds .any e = true → e.on < i)
    (hsz : ∀ ls a w, I ls a w → ls.size = ops.size)
    (hstep : ∀ ls a w i o, I ls a w → ops[i]? = some o → ls.getD i true = false → (∀ e ∈ o.after, Region.binds .any e = true → ls.getD e.on false = true) → StepTo P ops o (I (ls.setIfInBounds i true)) a w)
    (hend : ∀ ls a w, I ls a w → (∀ i, i < ops.size → ls.getD i true = true) → Q .normal a w) : ∀ n ls a w, unlst ls = n → I ls a w → wpAny P .any ops Q n ls a w := by
  intro n
  induction n with
  | zero =>
    intro ls a w hc hI
    have hr : Region.ready .any ops ls = [] := by
      cases hrl : Region.ready .any ops ls with
      | nil => rfl
      | cons j l =>
        have := unlst_set (mem_ready.1 (hrl ▸ List.mem_cons_self : j ∈ Region.ready .any ops ls)).1
        omega
    exact ⟨hr, hend ls a w hI (fun i hi => all_listed hb (hsz _ _ _ hI) hr (i + 1) i (by omega) hi)⟩
  | succ n ih =>
    intro ls a w hc hI
    refine ⟨fun hr => hend ls a w hI (fun i hi => all_listed hb (hsz _ _ _ hI) hr (i + 1) i (by omega) hi), fun i hi => ?_⟩
    obtain ⟨hl, o, ho, hall⟩ := mem_ready.1 hi
    exact wpOp_mono (fun a w h => ih _ a w (by have := unlst_set hl; omega) h) (wpOp_alone ho (hstep ls a w i o hI ho hl hall))
/-- What is left of a drawn region, by an invariant. -/
theorem wpAny_invB {P : Program} {l : List Oper} {Q : Exit → Act → World → Prop} (I : Array Bool → Act → World → Prop)
    (hb : ((List.range l.length).all fun i => match l[i]? with | none => true | some o => o.after.all fun e => !Region.binds .any e || decide (e.on < i)) = true) {n : Nat} {ls : Array Bool} {a : Act} {w : World}
    (hsz : ∀ ls a w, I ls a w → ls.size = l.length) (h0 : I ls a w) (hn : unlst ls = n)
    (hstep : ∀ ls a w i o, I ls a w → l[i]? = some o → ls.getD i true = false → (∀ e ∈ o.after, Region.binds .any e = true → ls.getD e.on false = true) → StepTo P l.toArray o (I (ls.setIfInBounds i true)) a w)
    (hend : ∀ ls a w, I ls a w → (∀ i, i < l.length → ls.getD i true = true) → Q .normal a w) : wpAny P .any l.toArray Q n ls a w := by
  refine wpAny_inv (I := I) ?_ (by simpa using hsz) (by simpa using hstep) (by simpa using hend) _ _ _ _ hn h0
  intro i o ho e he hbd
  have ho' : l[i]? = some o := by simpa using ho
  have hi : i < l.length := (List.getElem?_eq_some_iff.1 ho').1
  have h1 := List.all_eq_true.1 hb i (List.mem_range.2 hi)
  rw [ho'] at h1
  have h2 := Array.all_eq_true_iff_forall_mem.1 h1 e he
  rw [hbd] at h2
  simpa using h2
/-- A drawn region by an invariant: I over what has been done. -/
theorem wp_region_inv {P : Program} {id : Nat} {l : List Oper} {Q : Exit → Act → World → Prop} {a : Act} {w : World} (I : Array Bool → Act → World → Prop) (hm : P.follows .mixedOrders = true)
    (hb : ((List.range l.length).all fun i => match l[i]? with | none => true | some o => o.after.all fun e => !Region.binds .any e || decide (e.on < i)) = true)
    (hsz : ∀ ls a w, I ls a w → ls.size = l.length)
    (h0 : I (Array.replicate l.length false) a { w with drawn := w.drawn + 1 })
    (hstep : ∀ ls a w i o, I ls a w → l[i]? = some o → ls.getD i true = false → (∀ e ∈ o.after, Region.binds .any e = true → ls.getD e.on false = true) → StepTo P l.toArray o (I (ls.setIfInBounds i true)) a w)
    (hend : ∀ ls a w, I ls a w → (∀ i, i < l.length → ls.getD i true = true) → Q .normal a w) : (Code.region id l.toArray true).wp P Q a w := by
  refine wp_region_any hm ?_
  refine wpAny_inv (I := I) ?_ (by simpa using hsz) (by simpa using hstep) (by simpa using hend) _ _ _ _ (by unfold unlst; simp [List.countP_replicate]) (by simpa using h0)
  intro i o ho e he hbd
  have ho' : l[i]? = some o := by simpa using ho
  have hi : i < l.length := (List.getElem?_eq_some_iff.1 ho').1
  have h1 := List.all_eq_true.1 hb i (List.mem_range.2 hi)
  rw [ho'] at h1
  have h2 := Array.all_eq_true_iff_forall_mem.1 h1 e he
  rw [hbd] at h2
  simpa using h2
end
end Go.Proofs.YtgohbkkeppknoaaGreatDoor
end
