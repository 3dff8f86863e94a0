/- A pixel's bytes, in numbers. -/
import Derived.Test.YtahiaeaobbofbaaGreatSS9
set_option linter.unusedVariables false
namespace Go.Proofs.YtahiaeaobbofbaaGreat
open Go.RowKit
theorem pxB_parts {m : Im} {x y : Int} (hck : checkC m.W m.H m.C m.px.length = 0) (hx : 0 ≤ x ∧ x < m.W) (hy : 0 ≤ y ∧ y < m.H) :
    ∃ (z : Int) (q Cn : Nat), (y * m.W + x) * m.C = z ∧ z.toNat = q ∧ m.C.toNat = Cn ∧ (z + m.C).toNat = q + Cn ∧ q + Cn ≤ m.px.length ∧ 0 ≤ z ∧ z ≤ 4295098368 ∧ 1 ≤ Cn ∧ 1 ≤ m.C ∧ m.C ≤ 4 ∧ pxB m x y = (m.px.drop q).take Cn ∧ (pxB m x y).length = Cn ∧ m.px.length ≤ 16777216 := by
  obtain ⟨hf, hl⟩ := ck_parts hck
  obtain ⟨hc, hw1, hw2, hh1, hh2, hp⟩ := fitsC_ok hf
  obtain ⟨⟨a1, a2⟩, ⟨a3, a4⟩, ⟨a5, a6⟩, a7⟩ := at_bd (C := m.C) (by omega) ⟨hw1, hw2⟩ ⟨hh1, hh2⟩ hx hy
  have hpx : m.px.length ≤ 16777216 := by have := mul3_bd m.W m.H m.C (by have := Int.mul_nonneg (show 0 ≤ m.W by omega) (show 0 ≤ m.H by omega); omega) hp (by omega) (by omega); omega
  have hle : ((y * m.W + x) * m.C).toNat + m.C.toNat ≤ m.px.length := by omega
  exact ⟨_, _, _, rfl, rfl, rfl, by omega, hle, by omega, by omega, by omega, by omega, by omega, rfl, by unfold pxB; simp; omega, hpx⟩
/-- Bytes alike, one of them a piece of an image. -/
theorem same_px {m : Im} {x y : Int} {w : World} {A5 Ai : Option Addr} {c5 ci q Cn : Nat} (hr : Rd w w.heap.size A5 ((pxB m x y).map (Value.int .u8))) (hl : (pxB m x y).length = Cn) (hb : ∃ b o, Ai = some ⟨b, o, none⟩) (hi : RdL w 0 Ai (m.px.map (Value.int .u8))) (he : pxB m x y = (m.px.drop q).take Cn) :
    ∃ b o, Ai = some ⟨b, o, none⟩ ∧ Calls Tryz.prog 19 #[.slice A5 Cn c5, .slice (some ⟨b, o + q, none⟩) Cn (ci - q)] w fun e w' => e = .returned (.bool true) ∧ Below w.heap.size w w' := by
  obtain ⟨b, o, rfl⟩ := hb
  refine ⟨b, o, rfl, same14 (pxB m x y) A5 _ Cn c5 _ w hl hr (B' := w.heap.size) ?_⟩
  rw [he, List.map_take, List.map_drop]
  exact (hi.rd.dropk q).take Cn
end Go.Proofs.YtahiaeaobbofbaaGreat
