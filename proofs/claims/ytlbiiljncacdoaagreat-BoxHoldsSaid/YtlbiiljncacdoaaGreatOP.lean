/- Arguments of the rows, opened: sizes, places, rows of numbers and of places. -/
import Derived.Test.YtlbiiljncacdoaaGreatOpen
import Derived.Test.YtlbiiljncacdoaaGreatRowG
set_option linter.unusedVariables false
namespace Go.Proofs.YtlbiiljncacdoaaGreat
open Go.RowKit
def I64 (x : Int) : Prop := -9223372036854775808 ≤ x ∧ x ≤ 9223372036854775807
theorem ca_i64 : Tryz.prog.cellsOf 2 = 1 := by kernel_rfl
theorem ca_int : Tryz.prog.cellsOf 3 = 1 := by kernel_rfl
theorem ca_2 : Tryz.prog.cellsOf 22 = 2 := by kernel_rfl
theorem ca_place : Tryz.prog.cellsOf 24 = 3 := by kernel_rfl
theorem open_size {w : World} {cs : Array Value} (h : Rv Tryz.prog w 22 cs.toList) : ∃ a b : Int, cs = #[.int .i64 a, .int .i64 b] ∧ (-9223372036854775808 ≤ a ∧ a ≤ 9223372036854775807) ∧ (-9223372036854775808 ≤ b ∧ b ≤ 9223372036854775807) := by
  obtain ⟨hl, hel⟩ := rv_array Tryz.underlying22 h
  rw [ca_int] at hel
  rw [ca_2] at hl
  obtain ⟨l2⟩ := cs
  match l2, hl with
  | [v0, v1], _ =>
    obtain ⟨a, e4, i4⟩ := rv_int Tryz.underlying3 (hel 0 (by omega))
    obtain ⟨b, e5, i5⟩ := rv_int Tryz.underlying3 (hel 1 (by omega))
    simp at e4 e5
    subst e4 e5
    exact ⟨a, b, rfl, wf_i64 i4, wf_i64 i5⟩
set_option maxRecDepth 100000 in
theorem open_place {w : World} {cs : List Value} (h : Rv Tryz.prog w 24 cs) : ∃ a b c : Int, cs = [.int .i64 a, .int .i64 b, .int .i64 c] ∧ (-9223372036854775808 ≤ a ∧ a ≤ 9223372036854775807) ∧ (-9223372036854775808 ≤ b ∧ b ≤ 9223372036854775807) ∧ (-9223372036854775808 ≤ c ∧ c ≤ 9223372036854775807) := by
  obtain ⟨hl, hf⟩ := rv_struct Tryz.underlying24 h
  rw [ca_place] at hl
  match cs, hl with
  | [v0, v1, v2], _ =>
    have g0 : Rv Tryz.prog w 2 (([v0, v1, v2].drop 0).take (Tryz.prog.cellsOf 2)) := hf 0 _ rfl
    have g1 : Rv Tryz.prog w 2 (([v0, v1, v2].drop 1).take (Tryz.prog.cellsOf 2)) := hf 1 _ rfl
    have g2 : Rv Tryz.prog w 2 (([v0, v1, v2].drop 2).take (Tryz.prog.cellsOf 2)) := hf 2 _ rfl
    rw [ca_i64] at g0 g1 g2
    obtain ⟨a, e0, i0⟩ := rv_int Tryz.underlying2 g0
    obtain ⟨b, e1, i1⟩ := rv_int Tryz.underlying2 g1
    obtain ⟨c, e2, i2⟩ := rv_int Tryz.underlying2 g2
    simp at e0 e1 e2
    subst e0 e1 e2
    exact ⟨a, b, c, rfl, wf_i64 i0, wf_i64 i1, wf_i64 i2⟩
theorem open_nums {w : World} {A : Option Addr} {n c : Nat} (h : Rv Tryz.prog w 29 [.slice A n c]) : ∃ l : List Int, l.length = n ∧ n ≤ c ∧ c ≤ maxLen ∧ (∀ z ∈ l, -9223372036854775808 ≤ z ∧ z ≤ 9223372036854775807) ∧ Rd w w.heap.size A (l.map (Value.int .i64)) := by
  obtain ⟨A', n', c', l, e, h1, h2, h3, h4, h5⟩ := rv_ints Tryz.underlying29 Tryz.underlying2 ca_i64 h
  simp at e
  obtain ⟨rfl, rfl, rfl⟩ := e
  exact ⟨l, h3, h1, h2, fun z hz => wf_i64 (h4 z hz), h5⟩
/-- A row of places. -/
def Pls (w : World) (B : Nat) (A : Option Addr) (n : Nat) (f : Nat → Int × Int × Int) : Prop :=
  ∀ k, k < n → ∃ b o, A = some ⟨b, o, none⟩ ∧ b < B ∧ w.cell? ⟨b, o + k * 3, none⟩ = some (.int .i64 (f k).1) ∧ w.cell? ⟨b, o + k * 3 + 1, none⟩ = some (.int .i64 (f k).2.1) ∧ w.cell? ⟨b, o + k * 3 + 2, none⟩ = some (.int .i64 (f k).2.2)
theorem Pls.below {w w' : World} {B : Nat} {A : Option Addr} {n : Nat} {f : Nat → Int × Int × Int} (h : Pls w B A n f) (hb : Below B w w') : Pls w' B A n f := fun k hk => by
  obtain ⟨b, o, e, hlt, h1, h2, h3⟩ := h k hk
  exact ⟨b, o, e, hlt, (hb.cell (by exact hlt)).trans h1, (hb.cell (by exact hlt)).trans h2, (hb.cell (by exact hlt)).trans h3⟩
def I3 (p : Int × Int × Int) : Prop := I64 p.1 ∧ I64 p.2.1 ∧ I64 p.2.2
set_option maxRecDepth 100000 in
theorem open_places {w : World} {A : Option Addr} {n c : Nat} (h : Rv Tryz.prog w 43 [.slice A n c]) : n ≤ c ∧ c ≤ maxLen ∧ ∃ f : Nat → Int × Int × Int, (∀ k, k < n → I3 (f k)) ∧ Pls w w.heap.size A n f := by
  obtain ⟨A', n', c', e, h1, h2, _, h3⟩ := rv_slice Tryz.underlying43 h
  simp at e
  obtain ⟨rfl, rfl, rfl⟩ := e
  refine ⟨h1, h2, ?_⟩
  have hq : ∀ k, ∃ p : Int × Int × Int, k < n → (I3 p ∧ ∃ b o, A = some ⟨b, o, none⟩ ∧ b < w.heap.size ∧ w.cell? ⟨b, o + k * 3, none⟩ = some (.int .i64 p.1) ∧ w.cell? ⟨b, o + k * 3 + 1, none⟩ = some (.int .i64 p.2.1) ∧ w.cell? ⟨b, o + k * 3 + 2, none⟩ = some (.int .i64 p.2.2)) := by
    intro k
    by_cases hk : k < n
    · obtain ⟨a, xs, hA, hl, hc, hv⟩ := h3 k hk
      obtain ⟨x, y, d, rfl, bx, by', bd⟩ := open_place hv
      rw [ca_place] at hc
      have c0 := hc 0 (by omega)
      have c1 := hc 1 (by omega)
      have c2 := hc 2 (by omega)
      simp only [List.getElem?_cons_zero, List.getElem?_cons_succ] at c0 c1 c2
      have hb : ∃ b o, a = ⟨b, o, none⟩ := by
        obtain ⟨a0, xs0, hA0, hl0, hc0, hv0⟩ := h3 0 (by omega)
        have e : a = a0 := by rw [hA] at hA0; injection hA0
        subst e
        rw [ca_place] at hc0 hl0
        have c00 := hc0 0 (by omega)
        rw [List.getElem?_eq_getElem (show 0 < xs0.length by omega), Nat.zero_mul] at c00
        have ea : (a.add 0).add 0 = a := by simp [Addr.add]
        rw [ea] at c00
        obtain ⟨b, o, h, _⟩ := spot_none c00
        exact ⟨b, o, h⟩
      obtain ⟨b, o, rfl⟩ := hb
      rw [addo, addo] at c0 c1 c2
      refine ⟨(x, y, d), fun _ => ⟨⟨bx, by', bd⟩, b, o, hA, ?_, c0, c1, c2⟩⟩
      exact World.block_lt_of_cell? w _ c0
    · exact ⟨(0, 0, 0), fun h => absurd h hk⟩
  obtain ⟨f, hf⟩ := Classical.axiomOfChoice hq
  exact ⟨f, fun k hk => (hf k hk).1, fun k hk => (hf k hk).2⟩
end Go.Proofs.YtlbiiljncacdoaaGreat
