/- SampleSources: the copies, and what is done to them. -/
import Derived.Test.YtnnbpmlllidkiaaSS9
import Derived.Deep.RegionHeld3
set_option linter.unusedVariables false
namespace Go.Proofs.Ytnnbpmlllidkiaa
open Go.RowKit
/-- Bytes of one's own whatever they are. -/
def U8Row (w : World) (lo hi : Nat) (s : Value) (n : Nat) : Prop := ∃ L : List Int, w.ownsRow lo 5 1 s n (L.map (Value.int .u8)) ∧ ∀ b, s.ownBlock = some b → b < hi
/-- A row of images of one's own whose bytes are whatever they are. -/
def Loose (w : World) (lo hi : Nat) (v : Value) (ns : List Nat) : Prop := ∃ xs : List (List Value), w.ownsRow lo 32 4 v ns.length xs.flatten ∧ xs.length = ns.length ∧ (∀ x ∈ xs, x.length = 4) ∧ (∀ b, v.ownBlock = some b → b < hi) ∧ ∀ (i : Nat) (h : i < ns.length) (h' : i < xs.length), ∃ (a b c : Int) (s : Value), xs[i] = [.int .i64 a, .int .i64 b, .int .i64 c, s] ∧ U8Row w lo hi s ns[i]
theorem ImsOwn.loose {w : World} {lo : Nat} {v : Value} {ims : List Im} (h : ImsOwn w lo v ims) : Loose w lo w.heap.size v (ims.map fun m => m.px.length) := by
  obtain ⟨xs, h1, h2, h3⟩ := h
  have h4 : ∀ x ∈ xs, x.length = 4 := fun x hx => by
    obtain ⟨i, hi, rfl⟩ := List.mem_iff_getElem.1 hx
    obtain ⟨s, e, _⟩ := h3 i (by omega) hi
    rw [e]; rfl
  refine ⟨xs, by simpa using h1, by simpa using h2, h4, fun b hb => (h1.lt b hb).2, fun i hi hi' => ?_⟩
  obtain ⟨s, e, ho⟩ := h3 i (by simpa using hi) hi'
  exact ⟨_, _, _, s, e, ims[i].px, by simpa using ho, fun b hb => (ho.lt b hb).2⟩
/-- Blocks from lo on, below hi, may change, and there may be more. -/
structure Btw (lo hi : Nat) (w w' : World) : Prop where
  bel : Below lo w w'
  out : ∀ i, hi ≤ i → i < w.heap.size → w'.heap[i]? = w.heap[i]?
theorem Btw.refl (lo hi : Nat) (w : World) : Btw lo hi w w := ⟨Below.refl _ _, fun _ _ _ => rfl⟩
theorem Btw.trans {lo hi : Nat} {w w' w'' : World} (h : Btw lo hi w w') (g : Btw lo hi w' w'') : Btw lo hi w w'' :=
  ⟨h.bel.trans g.bel, fun i h1 h2 => (g.out i h1 (Nat.lt_of_lt_of_le h2 h.bel.size)).trans (h.out i h1 h2)⟩
theorem Btw.of_below {lo hi : Nat} {w w' : World} (h : Below w.heap.size w w') (hl : lo ≤ w.heap.size) : Btw lo hi w w' := ⟨h.mono hl, fun i _ h2 => h.block i h2⟩
theorem Btw.set {lo hi : Nat} {w : World} {p : Addr} (u : Value) (h1 : lo ≤ p.block) (h2 : p.block < hi) : Btw lo hi w (w.setCell p u) :=
  ⟨(Below.refl _ _).setCell h1 u, fun i h3 _ => Below.heap_setCell w p u i (by omega)⟩
theorem ImsAt.btw {w w' : World} {lo a hi : Nat} {A : Option Addr} {ims : List Im} (h : ImsAt w hi A ims) (hb : Btw lo hi w w') : ImsAt w' hi A ims :=
  h.keep hb.bel.size fun p h1 h2 => World.cell?_of_block (hb.out p.block h1 h2)
/-- An own row when one of its cells is stored anew. -/
theorem U8Row.set {w : World} {lo hi n : Nat} {s : Value} (h : U8Row w lo hi s n) (b o : Nat) (z : Int) : U8Row (w.setCell ⟨b, o, none⟩ (.int .u8 z)) lo hi s n := by
  obtain ⟨L, ho, hh⟩ := h
  by_cases hb : s.ownBlock = some b
  · rcases ho.2 with ⟨e, _⟩ | ⟨g, cap, cur, e, hg, hk, hn, hm, hs, ht⟩
    · rw [e] at hb; cases hb
    · have hgb : g = b := by rw [e] at hb; simpa [Value.ownBlock] using hb
      subst hgb
      have hk2 : Bk (w.setCell ⟨g, o, none⟩ (.int .u8 z)) g 5 (cur.setIfInBounds o (.int .u8 z)) := Bk.set (show Bk w g _ cur from hk) o _
      refine ⟨L.set o z, ⟨by have := ho.1; simpa using this, .inr ⟨g, cap, _, e, hg, hk2, hn, hm, by simpa using hs, ?_⟩⟩, hh⟩
      rw [Array.toList_setIfInBounds, List.take_set, ht, List.map_set]
  · exact ⟨L, own_far ho _ _ (fun g hg e => hb (by rw [hg, show g = b from e])), hh⟩
theorem U8Row.nx {w w' : World} {lo hi n : Nat} {s : Value} (h : U8Row w lo hi s n) (hb : Below w.heap.size w w') : U8Row w' lo hi s n := by
  obtain ⟨L, ho, hh⟩ := h
  exact ⟨L, own_below ho hb (Nat.le_refl _), hh⟩
theorem Loose.nx {w w' : World} {lo hi : Nat} {v : Value} {ns : List Nat} (h : Loose w lo hi v ns) (hb : Below w.heap.size w w') : Loose w' lo hi v ns := by
  obtain ⟨xs, h1, h2, h4, h5, h3⟩ := h
  refine ⟨xs, own_below h1 hb (Nat.le_refl _), h2, h4, h5, fun i a b => ?_⟩
  obtain ⟨p, q, r, s, e, hu⟩ := h3 i a b
  exact ⟨p, q, r, s, e, hu.nx hb⟩
/-- A byte of one of them is stored anew. -/
theorem Loose.set {w : World} {lo hi : Nat} {v : Value} {ns : List Nat} (h : Loose w lo hi v ns) (b o : Nat) (z : Int) (hb : ∃ cs, Bk w b 5 cs) : Loose (w.setCell ⟨b, o, none⟩ (.int .u8 z)) lo hi v ns := by
  obtain ⟨xs, h1, h2, h4, h5, h3⟩ := h
  obtain ⟨cs, hK⟩ := hb
  refine ⟨xs, own_far h1 _ _ (fun g hg e => hK.ne_own h1 (by decide) g hg (show b = g from e.symm)), h2, h4, h5, fun i a c => ?_⟩
  obtain ⟨p, q, r, s, e, hu⟩ := h3 i a c
  exact ⟨p, q, r, s, e, hu.set b o z⟩
/-- One of them. -/
theorem Loose.get {w : World} {lo hi : Nat} {v : Value} {ns : List Nat} (h : Loose w lo hi v ns) (i : Nat) (hi' : i < ns.length) : ∃ (b o : Nat) (c : Nat) (a1 a2 a3 : Int) (s : Value), v = .slice (some ⟨b, o, none⟩) ns.length c ∧ w.cell? ⟨b, o + i * 4, none⟩ = some (.int .i64 a1) ∧ w.cell? ⟨b, o + i * 4 + 1, none⟩ = some (.int .i64 a2) ∧ w.cell? ⟨b, o + i * 4 + 2, none⟩ = some (.int .i64 a3) ∧ w.cell? ⟨b, o + i * 4 + 3, none⟩ = some s ∧ U8Row w lo hi s ns[i] := by
  obtain ⟨xs, h1, h2, h4, h5, h3⟩ := h
  have hx : i < xs.length := by omega
  have hl := flat_len4 xs h4
  obtain ⟨a1, a2, a3, s, e, hu⟩ := h3 i hi' hx
  obtain ⟨A, c, rfl, _, _, hr, _⟩ := own_form h1
  obtain ⟨b, o, rfl, hb, _⟩ := hr.get (i * 4) (by omega)
  have hg : ∀ j, j < 4 → w.cell? ⟨b, o + i * 4 + j, none⟩ = xs[i][j]? := fun j hj => by
    obtain ⟨b', o', e', _, hc'⟩ := hr.get (i * 4 + j) (by omega)
    injection e' with e'; injection e' with e1 e2
    subst e1; subst e2
    rw [show o + i * 4 + j = o + (i * 4 + j) by omega, hc', ← List.getElem?_eq_getElem, flat_get xs i hx h4 j hj]
  refine ⟨b, o, c, a1, a2, a3, s, rfl, ?_, ?_, ?_, ?_, hu⟩
  · have := hg 0 (by omega); rw [e] at this; exact this
  · have := hg 1 (by omega); rw [e] at this; exact this
  · have := hg 2 (by omega); rw [e] at this; exact this
  · have := hg 3 (by omega); rw [e] at this; exact this
/-- A byte of one of them: where it stands. -/
theorem U8Row.at {w : World} {lo hi n : Nat} {s : Value} (h : U8Row w lo hi s n) : ∃ A c, s = .slice A n c ∧ n ≤ c ∧ c ≤ maxLen ∧ ∀ j, j < n → ∃ b z, A = some ⟨b, 0, none⟩ ∧ lo ≤ b ∧ b < hi ∧ w.cell? ⟨b, j, none⟩ = some (.int .u8 z) ∧ w.frozen? ⟨b, j, none⟩ = false ∧ ∃ cs, Bk w b 5 cs := by
  obtain ⟨L, ho, hh⟩ := h
  have hl : L.length = n := by have := ho.1; simpa using this
  rcases ho.2 with ⟨e, e2⟩ | ⟨g, cap, cur, rfl, hg, hk, hn, hm, hs, ht⟩
  · subst e2
    exact ⟨none, 0, e, Nat.le_refl _, by simp [maxLen], fun j hj => absurd hj (by omega)⟩
  · refine ⟨_, cap, rfl, hn, hm, fun j hj => ?_⟩
    obtain ⟨b', o', e', _, hc⟩ := (Rd.of_own ho).get j (by simp; omega)
    injection e' with e'; injection e' with e1 e2
    subst e1; subst e2
    rw [List.getElem_map, Nat.zero_add] at hc
    exact ⟨g, _, rfl, hg, hh g rfl, hc, Bk.frozen (show Bk w g _ cur from hk) j, cur, hk⟩
end Go.Proofs.Ytnnbpmlllidkiaa
