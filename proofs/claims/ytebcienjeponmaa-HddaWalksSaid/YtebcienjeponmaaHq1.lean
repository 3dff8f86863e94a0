/- The law HomogAsks. -/
import Derived.Test.YtebcienjeponmaaHa1
import Derived.Test.YtebcienjeponmaaHq0
import Derived.Test.YtebcienjeponmaaBig16
set_option linter.unusedVariables false
namespace Go.Proofs.Ytebcienjeponmaa
open Go.RowKit
theorem rcheck_any (l : List Int) (A : Option Addr) (n cp : Nat) (W H : Int) (w : World) {B : Nat} (hl : l.length = n) (hr : Rd w B A (l.map (Value.int .i64))) (hB : B ≤ w.heap.size) (hok : ∀ z ∈ l, -9223372036854775808 ≤ z ∧ z ≤ 9223372036854775807) (hW : I64 W) (hH : I64 H) :
    Calls Try.prog 10 #[.slice A n cp, .int .i64 W, .int .i64 H] w fun e w' => e = .returned (.int .i64 (newC l W H)) ∧ Below w.heap.size w w' := by
  rw [← chk_eq]
  exact chk_any A n cp l W H w hl hr hB hok hW hH
theorem CfOk.b62 {l : List Int} (h : CfOk l) : ∀ z ∈ l, -4611686018427387904 ≤ z ∧ z ≤ 4611686018427387904 := by
  intro z hz
  obtain ⟨i, hi, rfl⟩ := List.getElem_of_mem hz
  have h9 : i < 9 := by rw [← h.len]; exact hi
  have h1 := h.bd i h9
  have h2 := most_bd i
  have e : cf l i = l[i] := by simp [cf, List.getD_eq_getElem?_getD, List.getElem?_eq_getElem hi]
  rw [e] at h1
  omega
theorem rat19_none (l : List Int) (A : Option Addr) (cp : Nat) (X Y D : Int) (w : World) {B : Nat} (h : CfOk l) (hr : Rd w B A (l.map (Value.int .i64))) (hB : B ≤ w.heap.size) (hp : rightH X Y D = true) (h0 : undR (adK (cf l) 9) X Y D = 0) :
    Calls Try.prog 21 #[.slice A 9 cp, .int .i64 X, .int .i64 Y, .int .i64 D] w fun e w' => e = .returned (.tuple #[.int .i64 0, .int .i64 0, .bool false]) ∧ Below w.heap.size w w' := by
  obtain ⟨⟨a, b⟩, ⟨c, d⟩, e, f⟩ := rightH_iff.1 hp
  have := at_any A cp l X Y D w h.len hr hB h.b62 ⟨by omega, by omega⟩ ⟨by omega, by omega⟩ ⟨by omega, by omega⟩
  rw [at_eq l hp, if_pos h0] at this
  exact this
theorem rat19_some (l : List Int) (A : Option Addr) (cp : Nat) (X Y D : Int) (w : World) {B : Nat} (h : CfOk l) (hr : Rd w B A (l.map (Value.int .i64))) (hB : B ≤ w.heap.size) (hp : rightH X Y D = true) (h0 : undR (adK (cf l) 9) X Y D ≠ 0) :
    Calls Try.prog 21 #[.slice A 9 cp, .int .i64 X, .int .i64 Y, .int .i64 D] w fun e w' => e = .returned (.tuple #[.int .i64 (atX (adK (cf l) 9) X Y D), .int .i64 (atY (adK (cf l) 9) X Y D), .bool true]) ∧ Below w.heap.size w w' := by
  obtain ⟨⟨a, b⟩, ⟨c, d⟩, e, f⟩ := rightH_iff.1 hp
  have := at_any A cp l X Y D w h.len hr hB h.b62 ⟨by omega, by omega⟩ ⟨by omega, by omega⟩ ⟨by omega, by omega⟩
  rw [at_eq l hp, if_neg h0] at this
  exact this
/-- A row of places. -/
def Pls (w : World) (B : Nat) (A : Option Addr) (n : Nat) (f : Nat → Int × Int × Int) : Prop :=
  ∀ k, k < n → ∃ b o, A = some ⟨b, o, none⟩ ∧ b < B ∧ w.cell? ⟨b, o + k * 3, none⟩ = some (.int .i64 (f k).1) ∧ w.cell? ⟨b, o + k * 3 + 1, none⟩ = some (.int .i64 (f k).2.1) ∧ w.cell? ⟨b, o + k * 3 + 2, none⟩ = some (.int .i64 (f k).2.2)
theorem Pls.below {w w' : World} {B : Nat} {A : Option Addr} {n : Nat} {f : Nat → Int × Int × Int} (h : Pls w B A n f) (hb : Below B w w') : Pls w' B A n f := fun k hk => by
  obtain ⟨b, o, e, hlt, h1, h2, h3⟩ := h k hk
  exact ⟨b, o, e, hlt, (hb.cell (by exact hlt)).trans h1, (hb.cell (by exact hlt)).trans h2, (hb.cell (by exact hlt)).trans h3⟩
def I3 (p : Int × Int × Int) : Prop := I64 p.1 ∧ I64 p.2.1 ∧ I64 p.2.2
set_option maxRecDepth 100000 in
theorem open_places {w : World} {A : Option Addr} {n c : Nat} (h : Rv Try.prog w 46 [.slice A n c]) : n ≤ c ∧ c ≤ maxLen ∧ ∃ f : Nat → Int × Int × Int, (∀ k, k < n → I3 (f k)) ∧ Pls w w.heap.size A n f := by
  obtain ⟨A', n', c', e, h1, h2, _, h3⟩ := rv_slice Try.underlying46 h
  simp at e
  obtain ⟨rfl, rfl, rfl⟩ := e
  refine ⟨h1, h2, ?_⟩
  have hq : ∀ k, ∃ p : Int × Int × Int, k < n → (I3 p ∧ ∃ b o, A = some ⟨b, o, none⟩ ∧ b < w.heap.size ∧ w.cell? ⟨b, o + k * 3, none⟩ = some (.int .i64 p.1) ∧ w.cell? ⟨b, o + k * 3 + 1, none⟩ = some (.int .i64 p.2.1) ∧ w.cell? ⟨b, o + k * 3 + 2, none⟩ = some (.int .i64 p.2.2)) := by
    intro k
    by_cases hk : k < n
    · obtain ⟨a, xs, hA, hl, hc, hv⟩ := h3 k hk
      obtain ⟨x, y, d, rfl, bx, by', bd⟩ := open_place hv
      rw [ca_place] at hc
      have c0 := hc 0 (by omega)
      have c1 := hc 1 (by omega)
      have c2 := hc 2 (by omega)
      simp only [List.getElem?_cons_zero, List.getElem?_cons_succ] at c0 c1 c2
      have hb : ∃ b o, a = ⟨b, o, none⟩ := by
        obtain ⟨a0, xs0, hA0, hl0, hc0, hv0⟩ := h3 0 (by omega)
        have e : a = a0 := by rw [hA] at hA0; injection hA0
        subst e
        rw [ca_place] at hc0 hl0
        have c00 := hc0 0 (by omega)
        rw [List.getElem?_eq_getElem (show 0 < xs0.length by omega), Nat.zero_mul] at c00
        have ea : (a.add 0).add 0 = a := by simp [Addr.add]
        rw [ea] at c00
        obtain ⟨b, o, h, _⟩ := spot_none c00
        exact ⟨b, o, h⟩
      obtain ⟨b, o, rfl⟩ := hb
      rw [addo, addo] at c0 c1 c2
      refine ⟨(x, y, d), fun _ => ⟨⟨bx, by', bd⟩, b, o, hA, ?_, c0, c1, c2⟩⟩
      exact World.block_lt_of_cell? w _ c0
    · exact ⟨(0, 0, 0), fun h => absurd h hk⟩
  obtain ⟨f, hf⟩ := Classical.axiomOfChoice hq
  exact ⟨f, fun k hk => (hf k hk).1, fun k hk => (hf k hk).2⟩
end Go.Proofs.Ytebcienjeponmaa
