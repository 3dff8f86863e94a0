/- sample: the pixel of a column and a row of a source's image, and what stands beyond it; near.By. -/
import Derived.Test.YthgcfahacoonaaaGreatSS7
import Derived.Test.YthgcfahacoonaaaGreatSSD
import Derived.Test.YthgcfahacoonaaaGreatSP1
set_option linter.unusedVariables false
namespace Go.Proofs.YthgcfahacoonaaaGreat
open Go.RowKit
abbrev vwA (v : Value) (k W H mo c0 c1 c2 c3 : Int) : Array Value := #[.iface 65 v, .int .i64 k, .int .i64 W, .int .i64 H, .int .i64 mo, .int .u8 c0, .int .u8 c1, .int .u8 c2, .int .u8 c3]
/-- A pixel's bytes, in or beyond an image. -/
def pxM (m : Im) (mo c0 c1 c2 c3 x y : Int) : List Int := pxl m.px m.W m.H m.C.toNat mo c0 c1 c2 c3 x y
/-- What pixel answers: bytes of which the first are the pixel's. -/
def PxP (m : Im) (mo c0 c1 c2 c3 x y : Int) (w : World) (e : Ending) (w' : World) : Prop :=
  ∃ (A : Option Addr) (n c : Nat) (L : List Int), e = .returned (.slice A n c) ∧ L.length = n ∧ RdL w' w.heap.size A (L.map (Value.int .u8)) ∧ m.C.toNat ≤ n ∧ n ≤ 4 ∧ n ≤ c ∧ L.take m.C.toNat = pxM m mo c0 c1 c2 c3 x y ∧ Below w.heap.size w w'
theorem Bk.cell9 {w : World} {g : Nat} {t : TypeId} {v0 v1 v2 v3 v4 v5 v6 v7 v8 : Value} (h : Bk w g t #[v0, v1, v2, v3, v4, v5, v6, v7, v8]) : w.cell? ⟨g, 0, none⟩ = some v0 ∧ w.cell? ⟨g, 1, none⟩ = some v1 ∧ w.cell? ⟨g, 2, none⟩ = some v2 ∧ w.cell? ⟨g, 3, none⟩ = some v3 ∧ w.cell? ⟨g, 4, none⟩ = some v4 ∧ w.cell? ⟨g, 5, none⟩ = some v5 ∧ w.cell? ⟨g, 6, none⟩ = some v6 ∧ w.cell? ⟨g, 7, none⟩ = some v7 ∧ w.cell? ⟨g, 8, none⟩ = some v8 :=
  ⟨by rw [h.cell]; rfl, by rw [h.cell]; rfl, by rw [h.cell]; rfl, by rw [h.cell]; rfl, by rw [h.cell]; rfl, by rw [h.cell]; rfl, by rw [h.cell]; rfl, by rw [h.cell]; rfl, by rw [h.cell]; rfl⟩
theorem rd_bytes4 {w : World} {g lo : Nat} {t : TypeId} {v0 v1 v2 v3 v4 : Value} {c0 c1 c2 c3 : Int} (h : Bk w g t #[v0, v1, v2, v3, v4, .int .u8 c0, .int .u8 c1, .int .u8 c2, .int .u8 c3]) (hlo : lo ≤ g) : RdL w lo (some ⟨g, 5, none⟩) ([c0, c1, c2, c3].map (Value.int .u8)) := by
  obtain ⟨_, _, _, _, _, d5, d6, d7, d8⟩ := h.cell9
  intro k hk
  have hk4 : k = 0 ∨ k = 1 ∨ k = 2 ∨ k = 3 := by simp at hk; omega
  rcases hk4 with rfl | rfl | rfl | rfl
  · exact ⟨g, 5, rfl, hlo, h.lt, d5⟩
  · exact ⟨g, 5, rfl, hlo, h.lt, d6⟩
  · exact ⟨g, 5, rfl, hlo, h.lt, d7⟩
  · exact ⟨g, 5, rfl, hlo, h.lt, d8⟩
set_option maxRecDepth 100000 in
set_option maxHeartbeats 8000000 in
theorem vpix_any {ims : List Im} {A : Option Addr} {n c lo : Nat} {w : World} (hn : ims.length = n) (hA : ImsAt w lo A ims) (k : Nat) (hk : k < ims.length) (hck : checkC ims[k].W ims[k].H ims[k].C ims[k].px.length = 0) (mo c0 c1 c2 c3 x y : Int)
    (hx : -9223372036854775808 < x ∧ x ≤ 9223372036854775807) (hy : -9223372036854775808 < y ∧ y ≤ 9223372036854775807) :
    Calls Tryz.prog 26 #[.agg (vwA (.slice A n c) k ims[k].W ims[k].H mo c0 c1 c2 c3), .int .i64 x, .int .i64 y] w (PxP ims[k] mo c0 c1 c2 c3 x y w) := by
  obtain ⟨hf, hl⟩ := ck_parts hck
  obtain ⟨hc, hw1, hw2, hh1, hh2, hp⟩ := fitsC_ok hf
  have hX := fun w' => index_any mo x ims[k].W w' hx.1 hx.2 (by omega)
  have hY := fun w' => index_any mo y ims[k].H w' hy.1 hy.2 (by omega)
  have hR := fun (w' : World) (hb : Below w.heap.size w w') (x' y' : Int) => read_in (c := c) hn (hA.nx hb (Nat.le_refl _)) k hk x' y' hck
  have hb0 := (Below.refl w.heap.size w).alloc (Nat.le_refl _) (.cells (vwA (.slice A n c) k ims[k].W ims[k].H mo c0 c1 c2 c3) 80)
  have hK := Bk.new w 80 (vwA (.slice A n c) k ims[k].W ims[k].H mo c0 c1 c2 c3)
  clear hA hx hy
  generalize ims[k] = m at *
  clear hk
  have hcn : ((m.C.toNat : Nat) : Int) = m.C := by omega
  have hc4 : m.C.toNat ≤ 4 := by omega
  by_cases hok : pOk m.W m.H mo x y = true
  · have HP := Lib.hid (show pxM m mo c0 c1 c2 c3 x y = pxB m (idx mo x m.W).1 (idx mo y m.H).1 by
      unfold pxM pxl pxB; rw [if_pos hok]; unfold pAt; rw [hcn])
    have HL := Lib.hid (show (pxM m mo c0 c1 c2 c3 x y).length = m.C.toNat from pxl_len (n := m.px.length) rfl (by rw [hl, hcn]) ⟨hw1, hw2⟩ ⟨hh1, hh2⟩ hc4)
    unfold pOk at hok
    simp only [Bool.and_eq_true] at hok
    obtain ⟨ho1, ho2⟩ := hok
    have hxb := idx_bd ho1
    have hyb := idx_bd ho2
    obtain ⟨u, hu⟩ : ∃ u, (idx mo x m.W).1 = u := ⟨_, rfl⟩
    obtain ⟨v, hv⟩ : ∃ v, (idx mo y m.H).1 = v := ⟨_, rfl⟩
    have eX : idx mo x m.W = (u, true) := Prod.ext hu ho1
    have eY : idx mo y m.H = (v, true) := Prod.ext hv ho2
    rw [eX] at hX hxb HP
    rw [eY] at hY hyb HP
    simp only at hxb hyb HP
    replace hR := fun (w' : World) (hb : Below w.heap.size w w') => hR w' hb u v hxb hyb
    clear hu hv ho1 ho2 eX eY hxb hyb hf hl hc hp hck
    have hM := fun (v : Value) (w : World) => me_read v w
    generalize m.W = W at *
    generalize m.H = H at *
    obtain ⟨d0, d1, d2, d3, d4, d5, d6, d7, d8⟩ := hK.cell9
    go_enter Tryz.func26, Tryz.ntmps26
    go_wp2_with (first
      | (go_at_call 60; (with_reducible refine (hX _).mono ?_); rintro e w1 ⟨rfl, hb1⟩; have hK1 := hK.nx hb1; have hB1 := hb0.trans (hb1.mono hb0.size); obtain ⟨d0, d1, d2, d3, d4, d5, d6, d7, d8⟩ := hK1.cell9)
      | (go_at_call 60; (with_reducible refine (hY _).mono ?_); rintro e w2 ⟨rfl, hb2⟩; have hK2 := hK1.nx hb2; have hB2 := hB1.trans (hb2.mono hB1.size); obtain ⟨d0, d1, d2, d3, d4, d5, d6, d7, d8⟩ := hK2.cell9)
      | (go_at_call 275; (with_reducible refine (hR _ hB2).mono ?_); rintro e w3 ⟨s3, rfl, ho3, hb3⟩))
    go_returns
    obtain ⟨A3, c3', rfl, hc3, hm3, _, hl3⟩ := own_form ho3
    have hr3 := (RdL.of_own ho3).less hB2.size
    rw [← HP.out] at hr3 hc3 ho3
    rw [HL.out] at hc3
    refine ⟨A3, (pxB m u v).length, c3', pxB m u v, rfl, rfl, ?_, ?_, ?_, ?_, ?_, hB2.trans (hb3.mono hB2.size)⟩
    · rw [← HP.out]; exact hr3
    · rw [← HP.out, HL.out]; exact Nat.le_refl _
    · rw [← HP.out, HL.out]; exact hc4
    · rw [← HP.out, HL.out]; exact hc3
    · rw [← HP.out, List.take_of_length_le (by rw [HL.out]; exact Nat.le_refl _)]
  · have HP := Lib.hid (show pxM m mo c0 c1 c2 c3 x y = [c0, c1, c2, c3].take m.C.toNat by
      unfold pxM pxl; rw [if_neg hok])
    have hxy : (idx mo x m.W).2 = false ∨ ((idx mo x m.W).2 = true ∧ (idx mo y m.H).2 = false) := by
      unfold pOk at hok
      cases h1 : (idx mo x m.W).2
      · exact .inl rfl
      · right
        refine ⟨rfl, ?_⟩
        cases h2 : (idx mo y m.H).2
        · rfl
        · rw [h1, h2] at hok; simp at hok
    clear hok hR hf hl hc hp hck
    obtain ⟨u, hu⟩ : ∃ u, (idx mo x m.W).1 = u := ⟨_, rfl⟩
    obtain ⟨v, hv⟩ : ∃ v, (idx mo y m.H).1 = v := ⟨_, rfl⟩
    obtain ⟨o2, ho2'⟩ : ∃ o2, (idx mo y m.H).2 = o2 := ⟨_, rfl⟩
    have eY : idx mo y m.H = (v, o2) := Prod.ext hv ho2'
    rcases hxy with ho1 | ⟨ho1, ho2⟩
    · have eX : idx mo x m.W = (u, false) := Prod.ext hu ho1
      rw [eX] at hX
      rw [eY] at hY
      clear hu hv ho1 ho2' eX eY
      generalize m.W = W at *
      generalize m.H = H at *
      obtain ⟨d0, d1, d2, d3, d4, d5, d6, d7, d8⟩ := hK.cell9
      go_enter Tryz.func26, Tryz.ntmps26
      go_wp2_with (first
        | (go_at_call 60; (with_reducible refine (hX _).mono ?_); rintro e w1 ⟨rfl, hb1⟩; have hK1 := hK.nx hb1; have hB1 := hb0.trans (hb1.mono hb0.size); obtain ⟨d0, d1, d2, d3, d4, d5, d6, d7, d8⟩ := hK1.cell9)
        | (go_at_call 60; (with_reducible refine (hY _).mono ?_); rintro e w2 ⟨rfl, hb2⟩; have hK2 := hK1.nx hb2; have hB2 := hB1.trans (hb2.mono hB1.size); obtain ⟨d0, d1, d2, d3, d4, d5, d6, d7, d8⟩ := hK2.cell9))
      go_returns
      exact ⟨some ⟨w.heap.size, 5, none⟩, 4, 4, [c0, c1, c2, c3], rfl, rfl, rd_bytes4 hK2 (Nat.le_refl _), hc4, Nat.le_refl _, Nat.le_refl _, HP.out.symm, hB2⟩
    · have eX : idx mo x m.W = (u, true) := Prod.ext hu ho1
      rw [ho2] at ho2'
      subst ho2'
      rw [eX] at hX
      rw [eY] at hY
      clear hu hv ho1 ho2 eX eY
      generalize m.W = W at *
      generalize m.H = H at *
      obtain ⟨d0, d1, d2, d3, d4, d5, d6, d7, d8⟩ := hK.cell9
      go_enter Tryz.func26, Tryz.ntmps26
      go_wp2_with (first
        | (go_at_call 60; (with_reducible refine (hX _).mono ?_); rintro e w1 ⟨rfl, hb1⟩; have hK1 := hK.nx hb1; have hB1 := hb0.trans (hb1.mono hb0.size); obtain ⟨d0, d1, d2, d3, d4, d5, d6, d7, d8⟩ := hK1.cell9)
        | (go_at_call 60; (with_reducible refine (hY _).mono ?_); rintro e w2 ⟨rfl, hb2⟩; have hK2 := hK1.nx hb2; have hB2 := hB1.trans (hb2.mono hB1.size); obtain ⟨d0, d1, d2, d3, d4, d5, d6, d7, d8⟩ := hK2.cell9))
      go_returns
      exact ⟨some ⟨w.heap.size, 5, none⟩, 4, 4, [c0, c1, c2, c3], rfl, rfl, rd_bytes4 hK2 (Nat.le_refl _), hc4, Nat.le_refl _, Nat.le_refl _, HP.out.symm, hB2⟩
end Go.Proofs.YthgcfahacoonaaaGreat
