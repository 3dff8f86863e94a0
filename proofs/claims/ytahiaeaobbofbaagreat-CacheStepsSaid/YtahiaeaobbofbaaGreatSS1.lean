/- Lists of images in memory. -/
import Derived.Test.YtahiaeaobbofbaaGreatOpenI
import Derived.Test.YtahiaeaobbofbaaGreatApp
import Derived.Test.YtahiaeaobbofbaaGreatRow
set_option linter.unusedVariables false
namespace Go.Proofs.YtahiaeaobbofbaaGreat
open Go.RowKit
/-- An image, plain. -/
structure Im where
  W : Int
  H : Int
  C : Int
  px : List Int
/-- cs are the cells of an image whose bytes lie from lo on. -/
def ImAt (w : World) (lo : Nat) (cs : List Value) (m : Im) : Prop := ∃ (A : Option Addr) (c : Nat), cs = [.int .i64 m.W, .int .i64 m.H, .int .i64 m.C, .slice A m.px.length c] ∧ m.px.length ≤ c ∧ RdL w lo A (m.px.map (Value.int .u8))
def ImsAt (w : World) (lo : Nat) (A : Option Addr) (ims : List Im) : Prop := ∃ xs : List (List Value), RdL w lo A xs.flatten ∧ xs.length = ims.length ∧ ∀ (i : Nat) (h : i < ims.length) (h' : i < xs.length), ImAt w lo xs[i] ims[i]
/-- Numbers as a parameter holds them. -/
def ImOk (m : Im) : Prop := (-9223372036854775808 ≤ m.W ∧ m.W ≤ 9223372036854775807) ∧ (-9223372036854775808 ≤ m.H ∧ m.H ≤ 9223372036854775807) ∧ (-9223372036854775808 ≤ m.C ∧ m.C ≤ 9223372036854775807) ∧ (∀ z ∈ m.px, 0 ≤ z ∧ z ≤ 255) ∧ m.px.length ≤ 9223372036854775807
section
variable {w w' : World} {lo lo' : Nat} {A : Option Addr} {ims : List Im} {m : Im} {cs : List Value}
theorem ImAt.keep (h : ImAt w lo cs m) (hz : w.heap.size ≤ w'.heap.size) (hk : ∀ p : Addr, lo ≤ p.block → p.block < w.heap.size → w'.cell? p = w.cell? p) : ImAt w' lo cs m := by
  obtain ⟨A, c, e, hc, hr⟩ := h
  exact ⟨A, c, e, hc, hr.keep hz hk⟩
theorem ImsAt.keep (h : ImsAt w lo A ims) (hz : w.heap.size ≤ w'.heap.size) (hk : ∀ p : Addr, lo ≤ p.block → p.block < w.heap.size → w'.cell? p = w.cell? p) : ImsAt w' lo A ims := by
  obtain ⟨xs, h1, h2, h3⟩ := h
  exact ⟨xs, h1.keep hz hk, h2, fun i a b => (h3 i a b).keep hz hk⟩
theorem ImAt.less (h : ImAt w lo cs m) (hl : lo' ≤ lo) : ImAt w lo' cs m := by
  obtain ⟨A, c, e, hc, hr⟩ := h
  exact ⟨A, c, e, hc, hr.less hl⟩
theorem ImsAt.less (h : ImsAt w lo A ims) (hl : lo' ≤ lo) : ImsAt w lo' A ims := by
  obtain ⟨xs, h1, h2, h3⟩ := h
  exact ⟨xs, h1.less hl, h2, fun i a b => (h3 i a b).less hl⟩
theorem ImAt.nx {B : Nat} (h : ImAt w lo cs m) (hb : Below B w w') (hB : w.heap.size ≤ B) : ImAt w' lo cs m := h.keep hb.size fun p _ hp => hb.cell (by omega)
theorem ImsAt.nx {B : Nat} (h : ImsAt w lo A ims) (hb : Below B w w') (hB : w.heap.size ≤ B) : ImsAt w' lo A ims := h.keep hb.size fun p _ hp => hb.cell (by omega)
theorem flat_get4 : ∀ (xs : List (List Value)) (i : Nat) (h : i < xs.length), (∀ x ∈ xs, x.length = 4) → ∀ j, j < 4 → xs.flatten[i * 4 + j]? = xs[i][j]?
  | [], i, h, _, _, _ => absurd h (by simp)
  | x :: xs, 0, _, hx, j, hj => by
    rw [List.flatten_cons, List.getElem?_append_left (by rw [hx x (by simp)]; omega)]
    simp
  | x :: xs, i + 1, h, hx, j, hj => by
    have ih := flat_get4 xs i (by simpa using h) (fun y hy => hx y (by simp [hy])) j hj
    rw [List.flatten_cons, List.getElem?_append_right (by rw [hx x (by simp)]; omega), hx x (by simp), show (i + 1) * 4 + j - 4 = i * 4 + j by omega, ih]
    rfl
theorem flat_len4 : ∀ (xs : List (List Value)), (∀ x ∈ xs, x.length = 4) → xs.flatten.length = xs.length * 4
  | [], _ => rfl
  | x :: xs, h => by
    rw [List.flatten_cons, List.length_append, h x (by simp), flat_len4 xs (fun y hy => h y (by simp [hy])), List.length_cons]; omega
theorem ImsAt.len4 {xs : List (List Value)} (h2 : xs.length = ims.length) (h3 : ∀ (i : Nat) (h : i < ims.length) (h' : i < xs.length), ImAt w lo xs[i] ims[i]) : ∀ x ∈ xs, x.length = 4 := fun x hx => by
  obtain ⟨i, hi, rfl⟩ := List.mem_iff_getElem.1 hx
  obtain ⟨A, c, e, _⟩ := h3 i (by omega) hi
  rw [e]; rfl
/-- An image of the list. -/
theorem ImsAt.get (h : ImsAt w lo A ims) (i : Nat) (hi : i < ims.length) : ∃ (b o : Nat) (Ai : Option Addr) (ci : Nat), A = some ⟨b, o, none⟩ ∧ lo ≤ b ∧ b < w.heap.size ∧ w.cell? ⟨b, o + i * 4, none⟩ = some (.int .i64 ims[i].W) ∧ w.cell? ⟨b, o + i * 4 + 1, none⟩ = some (.int .i64 ims[i].H) ∧ w.cell? ⟨b, o + i * 4 + 2, none⟩ = some (.int .i64 ims[i].C) ∧ w.cell? ⟨b, o + i * 4 + 3, none⟩ = some (.slice Ai ims[i].px.length ci) ∧ ims[i].px.length ≤ ci ∧ RdL w lo Ai (ims[i].px.map (Value.int .u8)) := by
  obtain ⟨xs, h1, h2, h3⟩ := h
  have h4 := ImsAt.len4 h2 h3
  have hx : i < xs.length := by omega
  have hl := flat_len4 xs h4
  obtain ⟨Ai, ci, e, hc, hr⟩ := h3 i hi hx
  obtain ⟨b, o, rfl, hlo, hb, _⟩ := h1 (i * 4) (by omega)
  have hg : ∀ j, j < 4 → w.cell? ⟨b, o + i * 4 + j, none⟩ = xs[i][j]? := fun j hj => by
    obtain ⟨b', o', e', _, _, hc'⟩ := h1 (i * 4 + j) (by omega)
    injection e' with e'; injection e' with e1 e2
    subst e1; subst e2
    rw [show o + i * 4 + j = o + (i * 4 + j) by omega, hc', ← List.getElem?_eq_getElem, flat_get4 xs i hx h4 j hj]
  refine ⟨b, o, Ai, ci, rfl, hlo, hb, ?_, ?_, ?_, ?_, hc, hr⟩
  · have := hg 0 (by omega); rw [e] at this; exact this
  · have := hg 1 (by omega); rw [e] at this; exact this
  · have := hg 2 (by omega); rw [e] at this; exact this
  · have := hg 3 (by omega); rw [e] at this; exact this
end
theorem open_im {w : World} {cs : List Value} (h : Rv Tryz.prog w 44 cs) : ∃ m : Im, ImAt w 0 cs m ∧ ImOk m := by
  obtain ⟨W, H, C, l, A, n, cp, rfl, hl, hn, hc, hw, hr, k0, k1, k2⟩ := open_img h
  subst hl
  refine ⟨⟨W, H, C, l⟩, ⟨A, cp, rfl, hn, hr.rdl⟩, wf_i64 k0, wf_i64 k1, wf_i64 k2, fun z hz => ?_, ?_⟩
  · have := hw z hz
    simp [Lit.wf, IntKind.min, IntKind.max, IntKind.bits, IntKind.signed] at this
    omega
  · unfold maxLen at hc; show l.length ≤ _; omega
theorem ims_of {w : World} : ∀ xs : List (List Value), (∀ x ∈ xs, x.length = 4 ∧ Rv Tryz.prog w 44 x) → ∃ ims : List Im, xs.length = ims.length ∧ (∀ (i : Nat) (h : i < ims.length) (h' : i < xs.length), ImAt w 0 xs[i] ims[i]) ∧ ∀ m ∈ ims, ImOk m
  | [], _ => ⟨[], rfl, fun i h _ => absurd h (by simp), by simp⟩
  | x :: xs, h => by
    obtain ⟨ims, h1, h2, h3⟩ := ims_of xs (fun y hy => h y (by simp [hy]))
    obtain ⟨m, hm, hok⟩ := open_im (h x (by simp)).2
    refine ⟨m :: ims, by simp [h1], ?_, ?_⟩
    · intro i hi hi'
      cases i with
      | zero => exact hm
      | succ i => exact h2 i (by simpa using hi) (by simpa using hi')
    · intro y hy
      rcases List.mem_cons.1 hy with rfl | hy
      · exact hok
      · exact h3 y hy
theorem open_ims {w : World} {A : Option Addr} {n c : Nat} (h : Rv Tryz.prog w 22 [.slice A n c]) : n ≤ c ∧ c ≤ maxLen ∧ ∃ ims : List Im, ims.length = n ∧ ImsAt w 0 A ims ∧ ∀ m ∈ ims, ImOk m := by
  obtain ⟨A', n', c', xs, e, h1, h2, h3, h4, h5⟩ := rv_rows Tryz.underlying22 co_img (by omega) h
  simp at e
  obtain ⟨rfl, rfl, rfl⟩ := e
  obtain ⟨ims, g1, g2, g3⟩ := ims_of xs h4
  exact ⟨h1, h2, ims, by omega, ⟨xs, h5.rdl, g1, g2⟩, g3⟩
end Go.Proofs.YtahiaeaobbofbaaGreat
