/- Helpers of mine: small lemmas on returns; slices that read as lists ('Rd'), blocks that lie whole ('Bk'), and how both are kept. No condition. -/
import Derived.Test.YtahiaeaobbofbaaGreatRows
import Derived.WalkKit
import Derived.WalkSpells
import Derived.WalkLawsBesides
import Derived.Lib.Hide
import Derived.Handy
import Derived.Deep.Draws
import Derived.Laws.Rows
import Derived.Maps.AppendAt
import Derived.OwnWalk
set_option linter.unusedVariables false
namespace Go.Proofs.YtahiaeaobbofbaaGreat
open Go.RowKit
theorem ret_bool {a b : Bool} (h : a = b) : Ending.returned (.bool a) = .returned (.bool b) := by rw [h]
theorem ret_int {k : IntKind} {a b : Int} (h : a = b) : Ending.returned (.int k a) = .returned (.int k b) := by rw [h]
theorem ret_t2 {k k' : IntKind} {a b c d : Int} (h : a = b) (h' : c = d) : Ending.returned (.tuple #[.int k a, .int k' c]) = .returned (.tuple #[.int k b, .int k' d]) := by rw [h, h']
theorem ret_t3 {k k' k2 : IntKind} {a b c d e f : Int} (h : a = b) (h' : c = d) (h2 : e = f) : Ending.returned (.tuple #[.int k a, .int k' c, .int k2 e]) = .returned (.tuple #[.int k b, .int k' d, .int k2 f]) := by rw [h, h', h2]
theorem ret_v2 {v v' u u' : Value} (h : v = v') (h' : u = u') : Ending.returned (.tuple #[v, u]) = .returned (.tuple #[v', u']) := by rw [h, h']
theorem val_int {k : IntKind} {a b : Int} (h : a = b) : Value.int k a = .int k b := by rw [h]
theorem bcell {W w1 : World} {B : Nat} (hb : Below B W w1) : (∀ b o, b < B → w1.cell? ⟨b, o, none⟩ = W.cell? ⟨b, o, none⟩) ∧ (∀ b o, b < B → w1.frozen? ⟨b, o, none⟩ = W.frozen? ⟨b, o, none⟩) :=
  ⟨fun b o h => hb.cell (p := ⟨b, o, none⟩) h, fun b o h => hb.frozen (p := ⟨b, o, none⟩) h⟩

/-- The slice that begins at A holds the cells xs; its block lies below B. -/
def Rd (w : World) (B : Nat) (A : Option Addr) (xs : List Value) : Prop :=
  ∀ k (h : k < xs.length), ∃ b o, A = some ⟨b, o, none⟩ ∧ b < B ∧ w.cell? ⟨b, o + k, none⟩ = some xs[k]
section
variable {w w' : World} {B B' : Nat} {A : Option Addr} {xs : List Value}
theorem Rd.nil : Rd w B A [] := fun k h => absurd h (by simp)
theorem Rd.get (h : Rd w B A xs) (k : Nat) (hk : k < xs.length) : ∃ b o, A = some ⟨b, o, none⟩ ∧ b < B ∧ w.cell? ⟨b, o + k, none⟩ = some xs[k] := h k hk
theorem Rd.keep (h : Rd w B A xs) (hk : ∀ p : Addr, p.block < B → w'.cell? p = w.cell? p) : Rd w' B A xs := fun k hx => by
  obtain ⟨b, o, e, hb, hc⟩ := h k hx
  exact ⟨b, o, e, hb, (hk _ hb).trans hc⟩
theorem Rd.more (h : Rd w B A xs) (hB : B ≤ B') : Rd w B' A xs := fun k hx => by
  obtain ⟨b, o, e, hb, hc⟩ := h k hx
  exact ⟨b, o, e, by omega, hc⟩
theorem Rd.below (h : Rd w B A xs) (hb : Below B w w') : Rd w' B A xs := h.keep fun _ hp => hb.cell hp
theorem Rd.below' (h : Rd w B A xs) (hb : Below B' w w') (hB : B ≤ B') : Rd w' B A xs := h.keep fun _ hp => hb.cell (by omega)
theorem Rd.drew (h : Rd w B A xs) : Rd w.drew B A xs := h
theorem Rd.drewN (h : Rd w B A xs) (k : Nat) : Rd (w.drewN k) B A xs := h
theorem Rd.alloc (h : Rd w B A xs) (hB : B ≤ w.heap.size) (o : Obj) : Rd (w.alloc o) B A xs := h.keep fun p hp => World.cell?_alloc_lt w o p (by omega)
theorem Rd.setCell (h : Rd w B A xs) {p : Addr} (hB : B ≤ p.block) (u : Value) : Rd (w.setCell p u) B A xs :=
  h.keep fun q hq => World.cell?_setCell_other w p q u (fun e => by subst e; omega)
theorem Rd.grown (h : Rd w B A xs) {row : Option Nat} (hg : w.grownBy w' row) (hB : B ≤ w.heap.size) (hr : ∀ g, row = some g → B ≤ g) : Rd w' B A xs :=
  h.keep fun p hp => World.cell?_of_block (hg.block p.block (by omega) (fun e => by have := hr _ e.symm; omega))
theorem Rd.of_own {base : Nat} {e : TypeId} {c n size : Nat} (h : w.ownsRow base e size (.slice A n c) n xs) : Rd w w.heap.size A xs := by
  intro k hk
  rcases h.2 with ⟨h1, h2⟩ | ⟨g, cap, cur, hv, _, hh, _, _, _, hx⟩
  · subst h2; have := h.1; omega
  · have hA : A = some ⟨g, 0, none⟩ := by injection hv
    have hlt : g < w.heap.size := by
      rcases Nat.lt_or_ge g w.heap.size with hl | hl
      · exact hl
      · rw [Array.getElem?_eq_none hl] at hh; cases hh
    refine ⟨g, 0, hA, hlt, ?_⟩
    rw [cell_of_row w g _ cur e (0, 0) hh, Nat.zero_add]
    have h3 : cur.toList[k]? = some xs[k] := by
      have h4 : (cur.toList.take (n * size))[k]? = some xs[k] := by rw [hx]; exact List.getElem?_eq_getElem hk
      rw [List.getElem?_take] at h4
      split at h4
      · exact h4
      · cases h4
    simpa using h3
/-- The form of an owned slice. -/
theorem own_form {base : Nat} {e : TypeId} {n size : Nat} {v : Value} (h : w.ownsRow base e size v n xs) : ∃ A c, v = .slice A n c ∧ n ≤ c ∧ c ≤ maxLen ∧ Rd w w.heap.size A xs ∧ xs.length = n * size := by
  rcases h.2 with ⟨h1, h2⟩ | ⟨g, cap, cur, hv, _, hh, h1, h2, _, hx⟩
  · subst h2; exact ⟨none, 0, h1, Nat.le_refl _, by simp [maxLen], by have := h.1; rw [List.eq_nil_of_length_eq_zero (by omega : xs.length = 0)]; exact Rd.nil, h.1⟩
  · subst hv
    exact ⟨_, cap, rfl, h1, h2, Rd.of_own h, h.1⟩
theorem own_form2 {base : Nat} {e : TypeId} {n size : Nat} {v : Value} (h : w.ownsRow base e size v n xs) : ∃ A c, v = .slice A n c ∧ n ≤ c ∧ c ≤ maxLen ∧ (A = none → c = 0) ∧ Rd w w.heap.size A xs ∧ xs.length = n * size := by
  rcases h.2 with ⟨h1, h2⟩ | ⟨g, cap, cur, hv, _, hh, h1, h2, _, hx⟩
  · subst h2; exact ⟨none, 0, h1, Nat.le_refl _, by simp [maxLen], fun _ => rfl, by have := h.1; rw [List.eq_nil_of_length_eq_zero (by omega : xs.length = 0)]; exact Rd.nil, h.1⟩
  · subst hv
    exact ⟨_, cap, rfl, h1, h2, (by intro e; cases e), Rd.of_own h, h.1⟩
end

/-- As Rd, in a block from lo on. -/
def RdL (w : World) (lo : Nat) (A : Option Addr) (xs : List Value) : Prop :=
  ∀ k (h : k < xs.length), ∃ b o, A = some ⟨b, o, none⟩ ∧ lo ≤ b ∧ b < w.heap.size ∧ w.cell? ⟨b, o + k, none⟩ = some xs[k]
section
variable {w w' : World} {lo lo' B : Nat} {A : Option Addr} {xs : List Value}
theorem RdL.rd (h : RdL w lo A xs) : Rd w w.heap.size A xs := fun k hk => by
  obtain ⟨b, o, h1, _, h2, h3⟩ := h k hk
  exact ⟨b, o, h1, h2, h3⟩
theorem Rd.rdl (h : Rd w w.heap.size A xs) : RdL w 0 A xs := fun k hk => by
  obtain ⟨b, o, h1, h2, h3⟩ := h k hk
  exact ⟨b, o, h1, Nat.zero_le _, h2, h3⟩
theorem RdL.less (h : RdL w lo A xs) (hl : lo' ≤ lo) : RdL w lo' A xs := fun k hk => by
  obtain ⟨b, o, h1, h0, h2, h3⟩ := h k hk
  exact ⟨b, o, h1, by omega, h2, h3⟩
theorem RdL.keep (h : RdL w lo A xs) (hz : w.heap.size ≤ w'.heap.size) (hk : ∀ p : Addr, lo ≤ p.block → p.block < w.heap.size → w'.cell? p = w.cell? p) : RdL w' lo A xs := fun k hx => by
  obtain ⟨b, o, h1, h0, h2, h3⟩ := h k hx
  exact ⟨b, o, h1, h0, by omega, (hk _ h0 h2).trans h3⟩
theorem RdL.below (h : RdL w lo A xs) (hb : Below B w w') (hB : w.heap.size ≤ B) : RdL w' lo A xs := h.keep hb.size fun p _ hp => hb.cell (by omega)
theorem RdL.grown (h : RdL w lo A xs) {row : Option Nat} (hg : w.grownBy w' row) (hr : ∀ g, row = some g → g < lo ∨ w.heap.size ≤ g) : RdL w' lo A xs :=
  h.keep hg.size fun p h0 hp => World.cell?_of_block (hg.block p.block hp (fun e => by have := hr _ e.symm; omega))
theorem RdL.take (h : RdL w lo A xs) (k : Nat) : RdL w lo A (xs.take k) := fun i hi => by
  have hi' : i < xs.length := by simp at hi; omega
  obtain ⟨b, o, h1, h0, h2, h3⟩ := h i hi'
  exact ⟨b, o, h1, h0, h2, by rw [h3]; simp⟩
theorem Rd.take (h : Rd w B A xs) (k : Nat) : Rd w B A (xs.take k) := fun i hi => by
  have hi' : i < xs.length := by simp at hi; omega
  obtain ⟨b, o, h1, h2, h3⟩ := h i hi'
  exact ⟨b, o, h1, h2, by rw [h3]; simp⟩
theorem RdL.of_own {base : Nat} {e : TypeId} {c n size : Nat} (h : w.ownsRow base e size (.slice A n c) n xs) : RdL w base A xs := fun k hk => by
  obtain ⟨b, o, h1, h2, h3⟩ := Rd.of_own h k hk
  subst h1
  exact ⟨b, o, rfl, (h.lt b rfl).1, h2, h3⟩
end

/-- Block g holds just the cells cs of element type t, none of them frozen. -/
def Bk (w : World) (g : Nat) (t : TypeId) (cs : Array Value) : Prop := w.heap[g]? = some (.cells cs t (0, 0))
section
variable {w w' : World} {g : Nat} {t : TypeId} {cs : Array Value}
theorem Bk.lt (h : Bk w g t cs) : g < w.heap.size := by
  rcases Nat.lt_or_ge g w.heap.size with hl | hl
  · exact hl
  · unfold Bk at h; rw [Array.getElem?_eq_none hl] at h; cases h
theorem Bk.cell (h : Bk w g t cs) (i : Nat) : w.cell? ⟨g, i, none⟩ = cs[i]? := cell_of_row w g i cs t (0, 0) h
theorem Bk.frozen (h : Bk w g t cs) (i : Nat) : w.frozen? ⟨g, i, none⟩ = false := frozen_of_row w g i cs t h
theorem Bk.cell3 {x y z : Value} (h : Bk w g t #[x, y, z]) : w.cell? ⟨g, 0, none⟩ = some x ∧ w.cell? ⟨g, 1, none⟩ = some y ∧ w.cell? ⟨g, 2, none⟩ = some z :=
  ⟨by rw [h.cell]; rfl, by rw [h.cell]; rfl, by rw [h.cell]; rfl⟩
theorem Bk.cell4 {x y z u : Value} (h : Bk w g t #[x, y, z, u]) : w.cell? ⟨g, 0, none⟩ = some x ∧ w.cell? ⟨g, 1, none⟩ = some y ∧ w.cell? ⟨g, 2, none⟩ = some z ∧ w.cell? ⟨g, 3, none⟩ = some u :=
  ⟨by rw [h.cell]; rfl, by rw [h.cell]; rfl, by rw [h.cell]; rfl, by rw [h.cell]; rfl⟩
theorem Bk.cell2 {x y : Value} (h : Bk w g t #[x, y]) : w.cell? ⟨g, 0, none⟩ = some x ∧ w.cell? ⟨g, 1, none⟩ = some y :=
  ⟨by rw [h.cell]; rfl, by rw [h.cell]; rfl⟩
theorem Bk.cell1 {x : Value} (h : Bk w g t #[x]) : w.cell? ⟨g, 0, none⟩ = some x := by rw [h.cell]; rfl
theorem Bk.new (w : World) (t : TypeId) (cs : Array Value) : Bk (w.alloc (.cells cs t)) w.heap.size t cs := heap_alloc_new w _
theorem Bk.alloc (h : Bk w g t cs) (o : Obj) : Bk (w.alloc o) g t cs := (Below.heap_alloc w o g h.lt).trans h
theorem Bk.drew (h : Bk w g t cs) : Bk w.drew g t cs := h
theorem Bk.drewN (h : Bk w g t cs) (n : Nat) : Bk (w.drewN n) g t cs := h
theorem Bk.set (h : Bk w g t cs) (i : Nat) (u : Value) : Bk (w.setCell ⟨g, i, none⟩ u) g t (cs.setIfInBounds i u) := by
  unfold Bk at h ⊢
  simp [World.setCell, Array.getElem?_modify, h]
theorem Bk.set1 {x : Value} (h : Bk w g t #[x]) (u : Value) : Bk (w.setCell ⟨g, 0, none⟩ u) g t #[u] := by simpa using h.set 0 u
theorem Bk.set2 {x y : Value} (h : Bk w g t #[x, y]) (u v : Value) : Bk ((w.setCell ⟨g, 0, none⟩ u).setCell ⟨g, 1, none⟩ v) g t #[u, v] := by simpa using (h.set 0 u).set 1 v
theorem Bk.set3 {x y z : Value} (h : Bk w g t #[x, y, z]) (u v a : Value) : Bk (((w.setCell ⟨g, 0, none⟩ u).setCell ⟨g, 1, none⟩ v).setCell ⟨g, 2, none⟩ a) g t #[u, v, a] := by simpa using ((h.set 0 u).set 1 v).set 2 a
theorem Bk.set4 {x y z o : Value} (h : Bk w g t #[x, y, z, o]) (u v a b : Value) : Bk ((((w.setCell ⟨g, 0, none⟩ u).setCell ⟨g, 1, none⟩ v).setCell ⟨g, 2, none⟩ a).setCell ⟨g, 3, none⟩ b) g t #[u, v, a, b] := by simpa using (((h.set 0 u).set 1 v).set 2 a).set 3 b
theorem Bk.far (h : Bk w g t cs) {p : Addr} (hp : g ≠ p.block) (u : Value) : Bk (w.setCell p u) g t cs := (Below.heap_setCell w p u g hp).trans h
theorem Bk.below {B : Nat} (h : Bk w g t cs) (hb : Below B w w') (hg : g < B) : Bk w' g t cs := (hb.block g hg).trans h
theorem Bk.nx (h : Bk w g t cs) (hb : Below w.heap.size w w') : Bk w' g t cs := h.below hb h.lt
theorem Bk.grown {row : Option Nat} (h : Bk w g t cs) (hb : w.grownBy w' row) (hg : some g ≠ row) : Bk w' g t cs := (hb.block g h.lt hg).trans h
end
theorem below_drewN {B : Nat} {a w : World} (h : Below B a w) (n : Nat) : Below B a (w.drewN n) := ⟨h.os, h.tape, h.output, h.size, h.block⟩
theorem own_ge {w : World} {base : Nat} {e : TypeId} {size n : Nat} {v : Value} {xs : List Value} (h : w.ownsRow base e size v n xs) : ∀ g, v.ownBlock = some g → base ≤ g := fun g hg => (h.lt g hg).1
theorem own_below {w w' : World} {B base : Nat} {e : TypeId} {size n : Nat} {v : Value} {xs : List Value} (h : w.ownsRow base e size v n xs) (hb : Below B w w') (hB : w.heap.size ≤ B) : w'.ownsRow base e size v n xs := by
  refine ⟨h.1, ?_⟩
  rcases h.2 with h2 | ⟨g, cap, cur, hv, hg, hh, r⟩
  · exact .inl h2
  · have hlt : g < w.heap.size := Bk.lt hh
    exact .inr ⟨g, cap, cur, hv, hg, by rw [hb.block g (by omega)]; exact hh, r⟩
theorem own_base {w : World} {b b' : Nat} {e : TypeId} {size n : Nat} {v : Value} {xs : List Value} (h : w.ownsRow b e size v n xs) (hb : b' ≤ b) : w.ownsRow b' e size v n xs := by
  refine ⟨h.1, ?_⟩
  rcases h.2 with h2 | ⟨g, cap, cur, hv, hg, hh, r⟩
  · exact .inl h2
  · exact .inr ⟨g, cap, cur, hv, by omega, hh, r⟩
theorem own_some {w : World} {base n c size : Nat} {e : TypeId} {A : Option Addr} {xs : List Value} (h : w.ownsRow base e size (.slice A n c) n xs) (hn : 0 < n) : ∃ g, A = some ⟨g, 0, none⟩ ∧ base ≤ g ∧ g < w.heap.size := by
  rcases h.2 with ⟨h1, h2⟩ | ⟨g', cap, cur, hv, hg, hh, r⟩
  · omega
  · cases hv
    exact ⟨g', rfl, hg, Bk.lt hh⟩
theorem Bk.ne_own {w : World} {g : Nat} {t : TypeId} {cs : Array Value} {base n size : Nat} {e : TypeId} {v : Value} {xs : List Value} (h : Bk w g t cs) (ho : w.ownsRow base e size v n xs) (hne : t ≠ e) : ∀ g', v.ownBlock = some g' → g ≠ g' := by
  rintro g' hg rfl
  rcases ho.2 with ⟨h1, h2⟩ | ⟨g1, cap, cur, hv, hg1, hh, r⟩
  · subst h1; cases hg
  · subst hv
    have : g1 = g := by simpa [Value.ownBlock] using hg
    subst this
    unfold Bk at h
    rw [h] at hh
    injection hh with hh
    injection hh with _ ht
    exact hne ht
theorem Bk.ne_Bk {w : World} {g g' : Nat} {t t' : TypeId} {cs cs' : Array Value} (h : Bk w g t cs) (h' : Bk w g' t' cs') (hne : t ≠ t') : g ≠ g' := by
  rintro rfl
  unfold Bk at h h'
  rw [h] at h'
  injection h' with h'
  injection h' with _ ht
  exact hne ht
section
variable {a b c w : World} {row row' : Option Nat}
theorem gb_drew (h : a.grownBy w row) : a.grownBy w.drew row := ⟨h.os, h.tape, h.output, h.size, h.block⟩
theorem gb_drewN (h : a.grownBy w row) (n : Nat) : a.grownBy (w.drewN n) row := ⟨h.os, h.tape, h.output, h.size, h.block⟩
theorem gb_of_below (h : Below a.heap.size a w) : a.grownBy w row := ⟨h.os, h.tape, h.output, h.size, fun i hi _ => h.block i hi⟩
theorem gb_below {B : Nat} (h : a.grownBy b row) (k : Below B b c) (hB : a.heap.size ≤ B) : a.grownBy c row :=
  ⟨k.os.trans h.os, k.tape.trans h.tape, k.output.trans h.output, Nat.le_trans h.size k.size, fun i hi hne => (k.block i (by omega)).trans (h.block i hi hne)⟩
theorem gb_alloc (h : a.grownBy w row) (o : Obj) : a.grownBy (w.alloc o) row :=
  ⟨h.os, h.tape, h.output, Nat.le_trans h.size (by simp), fun i hi hne => (Below.heap_alloc w o i (Nat.lt_of_lt_of_le hi h.size)).trans (h.block i hi hne)⟩
theorem gb_trans (h : a.grownBy b row) (k : b.grownBy c row') (hr : ∀ g, row' = some g → row = some g ∨ a.heap.size ≤ g) : a.grownBy c row :=
  ⟨k.os.trans h.os, k.tape.trans h.tape, k.output.trans h.output, Nat.le_trans h.size k.size, fun i hi hne => (k.block i (Nat.lt_of_lt_of_le hi h.size) (fun e => by
    rcases hr i e.symm with e2 | e2
    · exact hne e2.symm
    · omega)).trans (h.block i hi hne)⟩
theorem gb_setCell {g : Nat} (h : a.grownBy w (some g)) {p : Addr} (hp : p.block = g ∨ a.heap.size ≤ p.block) (u : Value) : a.grownBy (w.setCell p u) (some g) :=
  ⟨h.os, h.tape, h.output, by simpa [World.setCell] using h.size, fun i hi hne => (Below.heap_setCell w p u i (fun e => by
    rcases hp with hp | hp
    · exact hne (by rw [e, hp])
    · omega)).trans (h.block i hi hne)⟩
theorem below_of_gb {B g : Nat} {W : World} (hb : Below B W a) (hg : a.grownBy w (some g)) (hB : B ≤ g) (hB2 : B ≤ a.heap.size) : Below B W w :=
  hb.grown hg hB2 (fun k hk => by injection hk; omega)
theorem Rd.gb {B g : Nat} {A : Option Addr} {xs : List Value} (h : Rd a B A xs) (hg : a.grownBy w (some g)) (hB : B ≤ a.heap.size) (hr : B ≤ g) : Rd w B A xs :=
  h.grown hg hB (fun k hk => by injection hk; omega)
end
theorem gb2 (w : World) (g : Nat) (u v : Value) : w.grownBy ((w.setCell ⟨g, 0, none⟩ u).setCell ⟨g, 1, none⟩ v) (some g) :=
  gb_setCell (g := g) (p := ⟨g, 1, none⟩) (gb_setCell (g := g) (p := ⟨g, 0, none⟩) (World.grownBy.refl w _) (.inl rfl) u) (.inl rfl) v
theorem gb4 (w : World) (g : Nat) (u v a b : Value) : w.grownBy ((((w.setCell ⟨g, 0, none⟩ u).setCell ⟨g, 1, none⟩ v).setCell ⟨g, 2, none⟩ a).setCell ⟨g, 3, none⟩ b) (some g) :=
  gb_setCell (g := g) (p := ⟨g, 3, none⟩) (gb_setCell (g := g) (p := ⟨g, 2, none⟩) (gb2 w g u v) (.inl rfl) a) (.inl rfl) b
theorem gb_set1 (w : World) (p : Addr) (u : Value) : w.grownBy (w.setCell p u) (some p.block) :=
  gb_setCell (World.grownBy.refl w _) (.inl rfl) u
theorem own_far {w : World} {base n size : Nat} {e : TypeId} {v : Value} {xs : List Value} (h : w.ownsRow base e size v n xs) (p : Addr) (u : Value) (hp : ∀ g, v.ownBlock = some g → g ≠ p.block) : (w.setCell p u).ownsRow base e size v n xs :=
  h.kept (gb_set1 w p u) (by
    cases hv : v.ownBlock with
    | none => exact .inl rfl
    | some g => exact .inr (fun e => hp g hv (by injection e)))
theorem set_fill {α : Type} (L : List α) (n j : Nat) (z u : α) (hj : L.length = j) (hn : j < n) : (L ++ List.replicate (n - j) z).set j u = (L ++ [u]) ++ List.replicate (n - (j + 1)) z := by
  rw [List.set_append_right _ _ (by omega), hj, Nat.sub_self, show n - j = (n - (j + 1)) + 1 by omega, List.replicate_succ]
  simp
theorem madeCells_one (z : Value) (n : Nat) : madeCells #[z] n = Array.replicate n z := by
  apply Array.toList_inj.1
  rw [toList_madeCells_one]; simp
/-- make([]T, n) at an element of one cell: the new block is written out. -/
theorem run_make1 {P : Program} {t e : TypeId} {z : Value} {bytes : Nat} (ht : P.underlying t = some (.slice e)) (hi : (P.info? e).map (fun i => (i.zero, i.size, i.bytes)) = some (some z, 1, bytes)) (hz1 : z.cells = #[z])
    (N : Int) (n : Nat) (hN : N = n) (hb : bytes * n ≤ 281474976710656) (h63 : n ≤ 9223372036854775807) (w : World) :
    (Instr.makeSlice t (.int .i64 N) (.int .i64 N)).run P w = .ok (.slice (some ⟨w.heap.size, 0, none⟩) n n) (w.alloc (.cells (Array.replicate n z) e)) := by
  obtain ⟨i, hi', hz, hs, hby⟩ := info_parts hi
  subst hN
  rw [← hby] at hb
  have hb' : (i.bytes : Int) * (n : Int) ≤ 281474976710656 := by
    have h : ((i.bytes * n : Nat) : Int) ≤ 281474976710656 := by omega
    rwa [Int.natCast_mul] at h
  have hr := run_make (P := P) w t e i z ht hi' hz .i64 .i64 n n (by omega) (Int.le_refl _) hb' (by omega)
  rw [hz1, hs] at hr
  simp only [Int.toNat_natCast, Nat.mul_one, madeCells_one] at hr
  exact hr
/-- A block that lies whole, as an owned slice of its n elements. -/
theorem own_of_Bk {w : World} {g base : Nat} {e : TypeId} {cs : Array Value} (h : Bk w g e cs) (n : Nat) (hn : cs.size = n) (hm : n ≤ 9223372036854775807) (hb : base ≤ g) :
    w.ownsRow base e 1 (.slice (some ⟨g, 0, none⟩) n n) n cs.toList :=
  ⟨by simp [hn], .inr ⟨g, n, cs, rfl, hb, h, Nat.le_refl _, by simpa [maxLen] using hm, by omega, by rw [List.take_of_length_le]; simp [hn]⟩⟩
/-- An owned slice as its block. -/
theorem Bk_of_own {w : World} {g base n c : Nat} {e : TypeId} {xs : List Value} (h : w.ownsRow base e 1 (.slice (some ⟨g, 0, none⟩) n c) n xs) : ∃ cs, Bk w g e cs ∧ base ≤ g ∧ n ≤ c ∧ c = cs.size ∧ cs.toList.take n = xs := by
  rcases h.2 with ⟨h1, h2⟩ | ⟨g', cap, cur, hv, hg, hh, hn, _, hs, hx⟩
  · cases h1
  · cases hv
    exact ⟨cur, hh, hg, hn, by omega, by simpa using hx⟩
end Go.Proofs.YtahiaeaobbofbaaGreat
