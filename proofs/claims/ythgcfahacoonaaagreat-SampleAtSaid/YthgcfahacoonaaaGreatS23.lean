/- Several texts in one: SampleAt: the parameters opened; Right; both sides by any kernel. SampleAt: the law walked. -/
import Derived.Test.YthgcfahacoonaaaGreatSP22
import Derived.Test.YthgcfahacoonaaaGreatS17
import Derived.Test.YthgcfahacoonaaaGreatS12
import Derived.Test.YthgcfahacoonaaaGreatS8
import Derived.Test.YthgcfahacoonaaaGreatSP6
import Derived.Test.YthgcfahacoonaaaGreatOP
import Derived.Test.YthgcfahacoonaaaGreatSS7
import Derived.Test.YthgcfahacoonaaaGreatSS9
import Derived.Deep.DeepCutAuto
section
set_option linter.unusedVariables false
namespace Go.Proofs.YthgcfahacoonaaaGreat
open Go.RowKit
theorem co_int34 : Tryz.prog.cellsOf 3 = 1 := by kernel_rfl
theorem co_i6434 : Tryz.prog.cellsOf 2 = 1 := by kernel_rfl
theorem co_4b34 : Tryz.prog.cellsOf 25 = 4 := by kernel_rfl
theorem co_4i34 : Tryz.prog.cellsOf 30 = 4 := by kernel_rfl
theorem co_bord34 : Tryz.prog.cellsOf 27 = 5 := by kernel_rfl
theorem co_how34 : Tryz.prog.cellsOf 29 = 7 := by kernel_rfl
set_option maxRecDepth 100000 in
theorem open_4i {w : World} {cs : List Value} (h : Rv Tryz.prog w 30 cs) : ∃ a b c d : Int, cs = [.int .i64 a, .int .i64 b, .int .i64 c, .int .i64 d] ∧ (-9223372036854775808 ≤ a ∧ a ≤ 9223372036854775807) ∧ (-9223372036854775808 ≤ b ∧ b ≤ 9223372036854775807) ∧ (-9223372036854775808 ≤ c ∧ c ≤ 9223372036854775807) ∧ (-9223372036854775808 ≤ d ∧ d ≤ 9223372036854775807) := by
  obtain ⟨hl, hel⟩ := rv_array Tryz.underlying30 h
  rw [co_4i34] at hl
  match cs, hl with
  | [v0, v1, v2, v3], _ =>
    rw [co_i6434] at hel
    obtain ⟨a, e0, i0⟩ := rv_int Tryz.underlying2 (hel 0 (by omega))
    obtain ⟨b, e1, i1⟩ := rv_int Tryz.underlying2 (hel 1 (by omega))
    obtain ⟨c, e2, i2⟩ := rv_int Tryz.underlying2 (hel 2 (by omega))
    obtain ⟨d, e3, i3⟩ := rv_int Tryz.underlying2 (hel 3 (by omega))
    simp at e0 e1 e2 e3
    subst e0 e1 e2 e3
    exact ⟨a, b, c, d, rfl, wf_i64 i0, wf_i64 i1, wf_i64 i2, wf_i64 i3⟩
set_option maxRecDepth 100000 in
theorem open_4b34 {w : World} {cs : List Value} (h : Rv Tryz.prog w 25 cs) : ∃ a b c d : Int, cs = [.int .u8 a, .int .u8 b, .int .u8 c, .int .u8 d] ∧ (0 ≤ a ∧ a ≤ 255) ∧ (0 ≤ b ∧ b ≤ 255) ∧ (0 ≤ c ∧ c ≤ 255) ∧ (0 ≤ d ∧ d ≤ 255) := by
  obtain ⟨hl, hel⟩ := rv_array Tryz.underlying25 h
  rw [co_4b34] at hl
  match cs, hl with
  | [v0, v1, v2, v3], _ =>
    rw [co_u8] at hel
    obtain ⟨a, e0, i0⟩ := rv_int Tryz.underlying5 (hel 0 (by omega))
    obtain ⟨b, e1, i1⟩ := rv_int Tryz.underlying5 (hel 1 (by omega))
    obtain ⟨c, e2, i2⟩ := rv_int Tryz.underlying5 (hel 2 (by omega))
    obtain ⟨d, e3, i3⟩ := rv_int Tryz.underlying5 (hel 3 (by omega))
    simp at e0 e1 e2 e3
    subst e0 e1 e2 e3
    exact ⟨a, b, c, d, rfl, wf_u8 i0, wf_u8 i1, wf_u8 i2, wf_u8 i3⟩
set_option maxRecDepth 100000 in
theorem open_bord34 {w : World} {cs : List Value} (h : Rv Tryz.prog w 27 cs) : ∃ m a b c d : Int, cs = [.int .i64 m, .int .u8 a, .int .u8 b, .int .u8 c, .int .u8 d] ∧ (0 ≤ a ∧ a ≤ 255) ∧ (0 ≤ b ∧ b ≤ 255) ∧ (0 ≤ c ∧ c ≤ 255) ∧ (0 ≤ d ∧ d ≤ 255) := by
  obtain ⟨hl, hf⟩ := rv_struct Tryz.underlying27 h
  rw [co_bord34] at hl
  match cs, hl with
  | [v0, v1, v2, v3, v4], _ =>
    have g0 : Rv Tryz.prog w 3 (([v0, v1, v2, v3, v4].drop 0).take (Tryz.prog.cellsOf 3)) := hf 0 _ rfl
    have g1 : Rv Tryz.prog w 25 (([v0, v1, v2, v3, v4].drop 1).take (Tryz.prog.cellsOf 25)) := hf 1 _ rfl
    rw [co_int34] at g0
    rw [co_4b34] at g1
    obtain ⟨m, e0, _⟩ := rv_int Tryz.underlying3 g0
    obtain ⟨a, b, c, d, e1, hh⟩ := open_4b34 g1
    simp at e0 e1
    obtain ⟨e1, e2, e3, e4⟩ := e1
    subst e0 e1 e2 e3 e4
    exact ⟨m, a, b, c, d, rfl, hh⟩
abbrev howV (kk nn m c0 c1 c2 c3 : Int) : Array Value := #[.int .i64 kk, .int .i64 nn, .int .i64 m, .int .u8 c0, .int .u8 c1, .int .u8 c2, .int .u8 c3]
set_option maxRecDepth 100000 in
theorem open_how34 {w : World} {cs : List Value} (h : Rv Tryz.prog w 29 cs) : ∃ k n m a b c d : Int, cs = [.int .i64 k, .int .i64 n, .int .i64 m, .int .u8 a, .int .u8 b, .int .u8 c, .int .u8 d] ∧ (0 ≤ a ∧ a ≤ 255) ∧ (0 ≤ b ∧ b ≤ 255) ∧ (0 ≤ c ∧ c ≤ 255) ∧ (0 ≤ d ∧ d ≤ 255) := by
  obtain ⟨hl, hf⟩ := rv_struct Tryz.underlying29 h
  rw [co_how34] at hl
  match cs, hl with
  | [v0, v1, v2, v3, v4, v5, v6], _ =>
    have g0 : Rv Tryz.prog w 3 (([v0, v1, v2, v3, v4, v5, v6].drop 0).take (Tryz.prog.cellsOf 3)) := hf 0 _ rfl
    have g1 : Rv Tryz.prog w 3 (([v0, v1, v2, v3, v4, v5, v6].drop 1).take (Tryz.prog.cellsOf 3)) := hf 1 _ rfl
    have g2 : Rv Tryz.prog w 27 (([v0, v1, v2, v3, v4, v5, v6].drop 2).take (Tryz.prog.cellsOf 27)) := hf 2 _ rfl
    rw [co_int34] at g0 g1
    rw [co_bord34] at g2
    obtain ⟨k, e0, _⟩ := rv_int Tryz.underlying3 g0
    obtain ⟨n, e1, _⟩ := rv_int Tryz.underlying3 g1
    obtain ⟨m, a, b, c, d, e2, hh⟩ := open_bord34 g2
    simp at e0 e1 e2
    obtain ⟨f0, f1, f2, f3, f4⟩ := e2
    subst e0 e1 f0 f1 f2 f3 f4
    exact ⟨k, n, m, a, b, c, d, rfl, hh⟩
theorem rin18 (a : Int) (w : World) : Calls Tryz.prog 28 #[.int .i64 a, .int .i64 70368744177664] w fun e w' => e = .returned (.bool (inF a)) ∧ Below w.heap.size w w' := by
  have HI := Lib.hid (inF_eq a)
  by_cases h1 : -70368744177664 ≤ a
  all_goals
    go_enter Tryz.func28, Tryz.ntmps28
    go_wp2
    go_returns
    exact ⟨ret_bool (by rw [HI.out]; simp [h1] <;> omega), by first | exact Below.refl _ _ | go_grown⟩
theorem right28 (u v : Int) (w : World) : Calls Tryz.prog 11 #[.int .i64 u, .int .i64 v] w fun e w' => e = .returned (.bool (inF u && inF v)) ∧ Below w.heap.size w w' := by
  cases h1 : inF u with
  | false =>
    have hI := fun w' => rin18 u w'
    rw [h1] at hI
    go_enter Tryz.func11, Tryz.ntmps11
    go_wp2_with (go_at_call 28; (with_reducible refine (hI _).mono ?_); rintro e w1 ⟨rfl, hb1⟩)
    go_returns
    exact ⟨rfl, hb1⟩
  | true =>
    have hI := fun w' => rin18 u w'
    have hJ := fun w' => rin18 v w'
    rw [h1] at hI
    go_enter Tryz.func11, Tryz.ntmps11
    go_wp2_with fail
    refine (hI _).mono ?_
    rintro e w1 ⟨rfl, hb1⟩
    go_wp2_with fail
    refine (hJ _).mono ?_
    rintro e w2 ⟨rfl, hb2⟩
    go_wp2_with fail
    go_returns
    exact ⟨by simp, hb1.trans (hb2.mono hb1.size)⟩
/-- A pixel's bytes are bytes. -/
theorem pxM_byte {m : Im} (h : ∀ j, 0 ≤ m.px.getD j 0 ∧ m.px.getD j 0 ≤ 255) {mo c0 c1 c2 c3 : Int} (h0 : 0 ≤ c0 ∧ c0 ≤ 255) (h1 : 0 ≤ c1 ∧ c1 ≤ 255) (h2 : 0 ≤ c2 ∧ c2 ≤ 255) (h3 : 0 ≤ c3 ∧ c3 ≤ 255) (x y : Int) (kk : Nat) :
    0 ≤ (pxM m mo c0 c1 c2 c3 x y).getD kk 0 ∧ (pxM m mo c0 c1 c2 c3 x y).getD kk 0 ≤ 255 := by
  unfold pxM pxl
  split
  · rw [List.getD_eq_getElem?_getD]
    by_cases hk : kk < m.C.toNat
    · rw [List.getElem?_take_of_lt hk, List.getElem?_drop, ← List.getD_eq_getElem?_getD]
      exact h _
    · rw [List.getElem?_eq_none (by simp; omega)]
      simp
  · rw [List.getD_eq_getElem?_getD]
    by_cases hk : kk < m.C.toNat
    · rw [List.getElem?_take_of_lt hk]
      match kk with
      | 0 => simpa using h0
      | 1 => simpa using h1
      | 2 => simpa using h2
      | 3 => simpa using h3
      | n + 4 => simp
    · rw [List.getElem?_eq_none (by simp; omega)]
      simp
theorem kerL_len {kn : Int} {m : Im} {C : Nat} {mo c0 c1 c2 c3 u v : Int} (h : checkC m.W m.H m.C m.px.length = 0) (hC : m.C = C) : (kerL kn m C mo c0 c1 c2 c3 u v).length = C := by
  obtain ⟨hf, hl⟩ := ck_parts h
  obtain ⟨hc, hw1, hw2, hh1, hh2, hp⟩ := fitsC_ok hf
  unfold kerL
  split
  · have e : m.C.toNat = C := by omega
    unfold pxM
    rw [e]
    exact pxl_len rfl (by rw [hC] at hl; exact hl) ⟨hw1, hw2⟩ ⟨hh1, hh2⟩ (by omega)
  · split <;> simp
/-- What both sides want. -/
structure AtOk (ims : List Im) (w : World) (A : Option Addr) (n c lo : Nat) (mo c0 c1 c2 c3 u v : Int) (k C : Nat) : Prop where
  hn : ims.length = n
  hA : ImsAt w lo A ims
  hk : k < ims.length
  hck : checkC ims[k].W ims[k].H ims[k].C ims[k].px.length = 0
  hC : ims[k].C = C
  hC0 : (im0 ims).C = C
  hby : ∀ x y kk, 0 ≤ (pxM ims[k] mo c0 c1 c2 c3 x y).getD kk 0 ∧ (pxM ims[k] mo c0 c1 c2 c3 x y).getD kk 0 ≤ 255
  hu : -70368744177664 ≤ u ∧ u ≤ 70368744177664
  hv : -70368744177664 ≤ v ∧ v ≤ 70368744177664
set_option maxHeartbeats 4000000 in
theorem rat33_any {ims : List Im} {A : Option Addr} {n c lo : Nat} {w : World} {mo c0 c1 c2 c3 u v : Int} {k C : Nat} (h : AtOk ims w A n c lo mo c0 c1 c2 c3 u v k C) (kn : Int) (hkn : 0 ≤ kn ∧ kn ≤ 3) :
    Calls Tryz.prog 14 #[.slice A n c, .int .i64 kn, bdV mo c0 c1 c2 c3, .int .i64 k, .int .i64 u, .int .i64 v] w fun e w' => ∃ s, e = .returned s ∧ w'.ownsRow w.heap.size 5 1 s C ((kerL kn (ims[k]'h.hk) C mo c0 c1 c2 c3 (lvTo u k) (lvTo v k)).map (Value.int .u8)) ∧ Below w.heap.size w w' := by
  rcases (show kn = 0 ∨ kn = 2 ∨ (kn = 1 ∨ kn = 3) by omega) with h1 | h1 | h1
  · unfold kerL
    rw [if_pos h1]
    exact rat33_near kn h1 h.hn h.hA mo c0 c1 c2 c3 u v k h.hk h.hck C h.hC h.hby h.hu h.hv
  · unfold kerL
    rw [if_neg (by omega), if_pos h1]
    exact rat33_cubic kn h1 h.hn h.hA mo c0 c1 c2 c3 u v k h.hk h.hck C h.hC h.hby h.hu h.hv
  · unfold kerL
    rw [if_neg (by omega), if_neg (by omega)]
    exact rat33_linear kn h1 h.hn h.hA mo c0 c1 c2 c3 u v k h.hk h.hck C h.hC h.hby h.hu h.hv
set_option maxHeartbeats 4000000 in
theorem smat_any {ims : List Im} {A : Option Addr} {n c lo : Nat} {w : World} {mo c0 c1 c2 c3 u v : Int} {k C : Nat} (h : AtOk ims w A n c lo mo c0 c1 c2 c3 u v k C) (kn : Int) {g : Nat} (nm fb fr : Value) (nn : Int) (sup : Bool) (hK : Bk w g 74 (samA (.slice A n c) nm fb fr nn sup mo c0 c1 c2 c3))
    (hfb : (kn = 0 ∧ fb = .func (.func 54) #[] #[]) ∨ (kn = 2 ∧ fb = .func (.func 58) #[] #[]) ∨ ((kn = 1 ∨ kn = 3) ∧ fb = .func (.func 56) #[] #[])) :
    Calls Tryz.prog 10 #[.pointer (some ⟨g, 0, none⟩), .int .i64 k, .int .i64 u, .int .i64 v] w fun e w' => ∃ s, e = .returned (.tuple #[s, .int .i64 0]) ∧ w'.ownsRow w.heap.size 5 1 s C ((kerL kn (ims[k]'h.hk) C mo c0 c1 c2 c3 (lvTo u k) (lvTo v k)).map (Value.int .u8)) ∧ Below w.heap.size w w' := by
  have hL : (kerL kn (ims[k]'h.hk) C mo c0 c1 c2 c3 (lvTo u k) (lvTo v k)).length = C := kerL_len h.hck h.hC
  have e : ∀ Q : Ending → World → Prop, Calls Tryz.prog 10 #[.pointer (some ⟨g, 0, none⟩), .int .i64 k, .int .i64 u, .int .i64 v] w Q → Calls Tryz.prog 10 #[.pointer (some ⟨g, 0, none⟩), .int .i64 k, .int .i64 u, .int .i64 v] w Q := fun _ x => x
  rcases hfb with ⟨h1, rfl⟩ | ⟨h1, rfl⟩ | ⟨h1, rfl⟩
  · refine (smat_near h.hn h.hA nm fr nn sup mo c0 c1 c2 c3 u v hK k h.hk h.hck C h.hC0 h.hu h.hv (kerL kn (ims[k]'h.hk) C mo c0 c1 c2 c3 (lvTo u k) (lvTo v k)) ?_).mono ?_
    · intro w' hb
      unfold kerL
      rw [if_pos h1]
      exact nearBy_any h.hn (h.hA.nx hb (Nat.le_refl _)) k h.hk h.hck mo c0 c1 c2 c3 _ _ C h.hC (lvTo_bd k h.hu) (lvTo_bd k h.hv)
    · rintro e w' ⟨s, h2, h3, h4⟩
      exact ⟨s, h2, by rw [hL] at h3; exact h3, h4⟩
  · refine (smat_cubic h.hn h.hA nm fr nn sup mo c0 c1 c2 c3 u v hK k h.hk h.hck C h.hC0 h.hu h.hv (kerL kn (ims[k]'h.hk) C mo c0 c1 c2 c3 (lvTo u k) (lvTo v k)) ?_).mono ?_
    · intro w' hb
      unfold kerL
      rw [if_neg (by omega), if_pos h1]
      exact cubBy_any h.hn (h.hA.nx hb (Nat.le_refl _)) k h.hk h.hck mo c0 c1 c2 c3 _ _ C h.hC h.hby (lvTo_bd k h.hu) (lvTo_bd k h.hv)
    · rintro e w' ⟨s, h2, h3, h4⟩
      exact ⟨s, h2, by rw [hL] at h3; exact h3, h4⟩
  · refine (smat_linear h.hn h.hA nm fr nn sup mo c0 c1 c2 c3 u v hK k h.hk h.hck C h.hC0 h.hu h.hv (kerL kn (ims[k]'h.hk) C mo c0 c1 c2 c3 (lvTo u k) (lvTo v k)) ?_).mono ?_
    · intro w' hb
      unfold kerL
      rw [if_neg (by omega), if_neg (by omega)]
      exact linBy_any h.hn (h.hA.nx hb (Nat.le_refl _)) k h.hk h.hck mo c0 c1 c2 c3 _ _ C h.hC h.hby (lvTo_bd k h.hu) (lvTo_bd k h.hv)
    · rintro e w' ⟨s, h2, h3, h4⟩
      exact ⟨s, h2, by rw [hL] at h3; exact h3, h4⟩
end Go.Proofs.YthgcfahacoonaaaGreat
end
section
set_option linter.unusedVariables false
namespace Go.Proofs.YthgcfahacoonaaaGreat
open Go.RowKit
abbrev p4V (a b c d : Int) : Array Value := #[.int .i64 a, .int .i64 b, .int .i64 c, .int .i64 d]
/-- What stays: the image, how, where. -/
structure AtW (w : World) (m : Im) (A : Option Addr) (cp : Nat) (kk nn mo c0 c1 c2 c3 u v k l : Int) (wx : World) : Prop where
  bel : Below w.heap.size w wx
  k3 : Bk wx w.heap.size 24 #[.int .i64 m.W, .int .i64 m.H, .int .i64 m.C, .slice A m.px.length cp]
  k4 : Bk wx (w.heap.size + 1) 29 (howV kk nn mo c0 c1 c2 c3)
  k5 : Bk wx (w.heap.size + 1 + 1) 30 (p4V u v k l)
section
variable {w : World} {m : Im} {A : Option Addr} {cp : Nat} {kk nn mo c0 c1 c2 c3 u v k l : Int} {wx wy : World}
theorem AtW.nx (h : AtW w m A cp kk nn mo c0 c1 c2 c3 u v k l wx) (hb : Below wx.heap.size wx wy) : AtW w m A cp kk nn mo c0 c1 c2 c3 u v k l wy :=
  ⟨h.bel.trans (hb.mono h.bel.size), h.k3.nx hb, h.k4.nx hb, h.k5.nx hb⟩
end
theorem Bk.cell7h {w : World} {g : Nat} {t : TypeId} {v0 v1 v2 v3 v4 v5 v6 : Value} (h : Bk w g t #[v0, v1, v2, v3, v4, v5, v6]) : w.cell? ⟨g, 0, none⟩ = some v0 ∧ w.cell? ⟨g, 1, none⟩ = some v1 ∧ w.cell? ⟨g, 2, none⟩ = some v2 ∧ w.cell? ⟨g, 3, none⟩ = some v3 ∧ w.cell? ⟨g, 4, none⟩ = some v4 ∧ w.cell? ⟨g, 5, none⟩ = some v5 ∧ w.cell? ⟨g, 6, none⟩ = some v6 :=
  ⟨by rw [h.cell]; rfl, by rw [h.cell]; rfl, by rw [h.cell]; rfl, by rw [h.cell]; rfl, by rw [h.cell]; rfl, by rw [h.cell]; rfl, by rw [h.cell]; rfl⟩
set_option maxRecDepth 100000 in
set_option maxHeartbeats 16000000 in
theorem at_walk (m : Im) (A : Option Addr) (cp : Nat) (kk nn mo c0 c1 c2 c3 u v k l : Int) (w : World) (hA : Rd w w.heap.size A (m.px.map (Value.int .u8))) (hcp : m.px.length ≤ cp) (hby : ∀ j, 0 ≤ m.px.getD j 0 ∧ m.px.getD j 0 ≤ 255) (hpl : m.px.length ≤ 9223372036854775807)
    (h0 : 0 ≤ c0 ∧ c0 ≤ 255) (h1 : 0 ≤ c1 ∧ c1 ≤ 255) (h2 : 0 ≤ c2 ∧ c2 ≤ 255) (h3 : 0 ≤ c3 ∧ c3 ≤ 255) :
    Calls Tryz.prog 3 #[.agg #[.int .i64 m.W, .int .i64 m.H, .int .i64 m.C, .slice A m.px.length cp], .agg (howV kk nn mo c0 c1 c2 c3), .agg (p4V u v k l)] w fun e w' => e = .returned (.bool true) ∧ Below w.heap.size w w' := by
  have hF := fun w' => fewi_any m A cp 5000 w'
  have HBY := Lib.hid hby
  have HCP := Lib.hid hcp
  have HH0 := Lib.hid h0
  have HH1 := Lib.hid h1
  have HH2 := Lib.hid h2
  have HH3 := Lib.hid h3
  clear hby hcp h0 h1 h2 h3
  have hS : AtW w m A cp kk nn mo c0 c1 c2 c3 u v k l (((w.alloc (.cells #[.int .i64 m.W, .int .i64 m.H, .int .i64 m.C, .slice A m.px.length cp] 24)).alloc (.cells (howV kk nn mo c0 c1 c2 c3) 29)).alloc (.cells (p4V u v k l) 30)) := by
    refine ⟨(((Below.refl _ w).alloc (Nat.le_refl _) _).alloc (by simp) _).alloc (by simp <;> omega) _, ((Bk.new w _ _).alloc _).alloc _, ?_, ?_⟩
    · have := (Bk.new (w.alloc (.cells #[.int .i64 m.W, .int .i64 m.H, .int .i64 m.C, .slice A m.px.length cp] 24)) 29 (howV kk nn mo c0 c1 c2 c3)).alloc (.cells (p4V u v k l) 30)
      simpa using this
    · have := Bk.new ((w.alloc (.cells #[.int .i64 m.W, .int .i64 m.H, .int .i64 m.C, .slice A m.px.length cp] 24)).alloc (.cells (howV kk nn mo c0 c1 c2 c3) 29)) 30 (p4V u v k l)
      simpa using this
  go_enter Tryz.func3, Tryz.ntmps3
  go_upto_region 1 with fail
  generalize (((w.alloc (.cells #[.int .i64 m.W, .int .i64 m.H, .int .i64 m.C, .slice A m.px.length cp] 24)).alloc (.cells (howV kk nn mo c0 c1 c2 c3) 29)).alloc (.cells (p4V u v k l) 30)) = w0 at *
  obtain ⟨d0, d1, d2, d3⟩ := hS.k3.cell4
  obtain ⟨f0, f1, f2, f3⟩ := hS.k5.cell4
  by_cases hc : m.px.length ≤ 5000 ∧ 0 ≤ l ∧ l ≤ 15
  · have g0 : decide ((m.px.length : Int) ≤ 5000) = true := by simp; omega
    have g1 : decide (l < 0) = false := by simp; omega
    have g2 : decide (l > 15) = false := by simp; omega
    have g3 : decide (15 < l) = false := by simp; omega
    simp only [g0] at hF
    go_wp2_with fail
    refine (hF _).mono ?_
    rintro e w1 ⟨rfl, hb1⟩
    have hS1 := hS.nx hb1
    obtain ⟨d0, d1, d2, d3⟩ := hS1.k3.cell4
    obtain ⟨f0, f1, f2, f3⟩ := hS1.k5.cell4
    have hP := rpyr_any m A cp l w1 (B := w.heap.size) (hA.below' hS1.bel (Nat.le_refl _)) hS1.bel.size HCP.out HBY.out
    have hall := pyrU_ok l.toNat m
    have hlen := pyrU_len l.toNat m
    have himg := pyrU_images (n := l.toNat) (m := m)
    unfold PyrP at hP
    obtain ⟨ims, hims⟩ : ∃ ims, pyrU l.toNat m = ims := ⟨_, rfl⟩
    simp only [hims] at hP hall hlen himg
    obtain ⟨n, hn⟩ : ∃ n, ims.length = n := ⟨_, rfl⟩
    simp only [hn] at hP hlen
    have hl16 : l.toNat ≤ 15 := by omega
    have hn16 : n ≤ 16 := by omega
    have hn1 : 1 ≤ n := hlen.1
    have HALL := Lib.hid hall
    have HIMG := Lib.hid himg
    have HN := Lib.hid hn
    clear hb1 hS hF hims hall himg hn hl16 hlen
    go_wp2_with fail
    refine hP.mono ?_
    rintro e w2 ⟨hb2, hP2⟩
    have hS2 := hS1.nx hb2
    clear hP hb2 hS1 d0 d1 d2 d3 f0 f1 f2 f3
    obtain ⟨f0, f1, f2, f3⟩ := hS2.k5.cell4
    obtain ⟨e0, e1, e2, e3, e4, e5, e6⟩ := hS2.k4.cell7h
    have hR := fun w' => rkchk_any kk nn mo c0 c1 c2 c3 w'
    rcases hP2 with ⟨z, hz, rfl⟩ | ⟨hIm, hl0, hl1, A2, q2, rfl, hq2, hqm, hA2⟩
    · have hzb : (z != 0) = true := by simpa using hz
      have HZ := Lib.hid hz
      clear hz
      go_wp2_with (go_at_call 7; (with_reducible refine (hR _).mono ?_); rintro e w3 ⟨rfl, hb3⟩)
      go_returns
      exact ⟨rfl, (hS2.nx hb3).bel⟩
    · by_cases hk : kerC kk nn mo = 0
      · rw [hk] at hR
        have HK := Lib.hid hk
        clear hk
        go_wp2_with fail
        refine (hR _).mono ?_
        rintro e w3 ⟨rfl, hb3⟩
        have hS3 := hS2.nx hb3
        have hA3 := hA2.nx hb3 (Nat.le_refl _)
        clear hR hS2 hA2 hb3 f0 f1 f2 f3 e0 e1 e2 e3 e4 e5 e6
        obtain ⟨f0, f1, f2, f3⟩ := hS3.k5.cell4
        obtain ⟨e0, e1, e2, e3, e4, e5, e6⟩ := hS3.k4.cell7h
        have hO := of_ims ims A2 n q2 0 w3 HN.out hA3 (by omega) (fun x hx => by
          have h1 := (HALL.out hIm x hx).1
          obtain ⟨W, H, C, _, _, _, hWb, hHb, hCb, hpp, hnn⟩ := h1.nat
          have h2 : W * H * C ≤ W * H * 4 := Nat.mul_le_mul_left _ (by omega)
          omega)
        have hI0 := HIMG.out hIm
        go_wp2_with fail
        refine hO.mono ?_
        rintro e w4 ⟨hb4, ⟨h1, _⟩ | ⟨_, v4, rfl, ho4⟩⟩
        · exact absurd hI0 h1
        have hS4 := hS3.nx hb4
        have hA4 := hA3.nx hb4 (Nat.le_refl _)
        have hz34 := hb4.size
        clear hO hS3 hA3 hb4 f0 f1 f2 f3 e0 e1 e2 e3 e4 e5 e6
        have hfm := ho4.form
        rw [HN.out] at hfm
        obtain ⟨A5, q5, rfl, hq5, hqm5, hB4⟩ := hfm
        have hN2 := fun w' => snew_ok (.slice A5 n q5) kk nn mo c0 c1 c2 c3 w' HK.out
        clear ho4
        obtain ⟨f0, f1, f2, f3⟩ := hS4.k5.cell4
        obtain ⟨e0, e1, e2, e3, e4, e5, e6⟩ := hS4.k4.cell7h
        go_wp2_with fail
        refine (hN2 _).mono ?_
        rintro e w5 ⟨g, nm, fb, fr, rfl, hg, hK5, hfb, hb5⟩
        have hS5 := hS4.nx hb5
        have hA5 := hA4.nx hb5 (Nat.le_refl _)
        have hB5 := hB4.nx hb5 (Nat.le_refl _)
        have hgs := hK5.lt
        clear hN2 hS4 hA4 hB4 hb5 hg f0 f1 f2 f3 e0 e1 e2 e3 e4 e5 e6
        obtain ⟨f0, f1, f2, f3⟩ := hS5.k5.cell4
        have hAl := fun w' => alive33 w'
        by_cases ho : k < 0 ∨ (n : Int) ≤ k
        · have hAt := smat_out (ims := ims) (lo := 0) nm fb fr nn (kk == 3) mo c0 c1 c2 c3 u v hK5 k ho
          clear hfb hK5 hA5 hB5
          by_cases hk0 : k < 0
          · have b1 : decide (k < 0) = true := by simp; omega
            clear ho hk0
            go_wp2_with fail
            refine hAt.mono ?_
            rintro e w6 ⟨rfl, hb6⟩
            have hS6 := hS5.nx hb6
            obtain ⟨f0, f1, f2, f3⟩ := hS6.k5.cell4
            go_wp2_with fail
            refine (hAl _).mono ?_
            rintro e w7 ⟨rfl, hb7⟩
            go_wp2_with fail
            go_returns
            exact ⟨rfl, (hS6.nx hb7).bel⟩
          · have b1 : decide (k < 0) = false := by simp; omega
            have b2 : decide ((n : Int) ≤ k) = true := by simp; omega
            have b3 : decide (k ≥ (n : Int)) = true := by simp; omega
            clear ho hk0
            go_wp2_with fail
            refine hAt.mono ?_
            rintro e w6 ⟨rfl, hb6⟩
            have hS6 := hS5.nx hb6
            obtain ⟨f0, f1, f2, f3⟩ := hS6.k5.cell4
            go_wp2_with fail
            refine (hAl _).mono ?_
            rintro e w7 ⟨rfl, hb7⟩
            go_wp2_with fail
            go_returns
            exact ⟨rfl, (hS6.nx hb7).bel⟩
        · obtain ⟨kN, hkN⟩ : ∃ kN : Nat, k = kN := ⟨k.toNat, by omega⟩
          subst hkN
          have hkn : kN < ims.length := by rw [HN.out]; omega
          have b1 : decide ((kN : Int) < 0) = false := by simp
          have hkn2 : kN < n := by omega
          have hkn3 : ¬ (n ≤ kN) := by omega
          have b2 : decide ((n : Int) ≤ (kN : Int)) = false := by simp; omega
          have b3 : decide ((kN : Int) ≥ (n : Int)) = false := by simp; omega
          have hR := fun w' => right28 u v w'
          have hx := HALL.out hIm ims[kN] (List.getElem_mem hkn)
          clear ho
          by_cases hin : (inF u && inF v) = true
          · rw [hin] at hR
            simp only [Bool.and_eq_true] at hin
            have hu := inF_iff.1 hin.1
            have hv := inF_iff.1 hin.2
            obtain ⟨W, H, C, _, _, hC, _, _, _, _, _⟩ := hIm.nat
            have hCk : ims[kN].C = C := hx.2.trans hC
            have hC0 : (im0 ims).C = C := by
              have h1 := HALL.out hIm ims[0] (List.getElem_mem (by omega))
              have h2 : im0 ims = ims[0]'(by omega) := by
                unfold im0
                cases ims with
                | nil => simp at hkn
                | cons a r => rfl
              rw [h2]; exact h1.2.trans hC
            have hk1 := HK.out
            have hkk : 0 ≤ kk ∧ kk ≤ 3 := by
              unfold kerC at hk1
              split at hk1
              · cases hk1
              · omega
            have hOk : AtOk ims w5 A5 n q5 w3.heap.size mo c0 c1 c2 c3 u v kN C := ⟨HN.out, hB5, hkn, hx.1.1, hCk, hC0, fun x y j => pxM_byte hx.1.2 HH0.out HH1.out HH2.out HH3.out x y j, hu, hv⟩
            have hAt : Calls Tryz.prog 10 #[.pointer (some ⟨g, 0, none⟩), .int .i64 kN, .int .i64 u, .int .i64 v] w5 (fun e w' => ∃ s, e = .returned (.tuple #[s, .int .i64 0]) ∧ w'.ownsRow w5.heap.size 5 1 s C ((kerL kk ims[kN] C mo c0 c1 c2 c3 (lvTo u kN) (lvTo v kN)).map (Value.int .u8)) ∧ Below w5.heap.size w5 w') := smat_any hOk kk nm fb fr nn (kk == 3) hK5 hfb
            have hOk2 : ∀ w', ImsAt w' 0 A2 ims → Calls Tryz.prog 14 #[.slice A2 n q2, .int .i64 kk, bdV mo c0 c1 c2 c3, .int .i64 kN, .int .i64 u, .int .i64 v] w' (fun e w'' => ∃ s, e = .returned s ∧ w''.ownsRow w'.heap.size 5 1 s C ((kerL kk ims[kN] C mo c0 c1 c2 c3 (lvTo u kN) (lvTo v kN)).map (Value.int .u8)) ∧ Below w'.heap.size w' w'') := fun w' (h : ImsAt w' 0 A2 ims) => rat33_any (ims := ims) (w := w') (A := A2) (n := n) (c := q2) (lo := 0) (mo := mo) (c0 := c0) (c1 := c1) (c2 := c2) (c3 := c3) (u := u) (v := v) (k := kN) (C := C) ⟨HN.out, h, hkn, hx.1.1, hCk, hC0, fun x y j => pxM_byte hx.1.2 HH0.out HH1.out HH2.out HH3.out x y j, hu, hv⟩ kk hkk
            have hL := kerL_len (kn := kk) (mo := mo) (c0 := c0) (c1 := c1) (c2 := c2) (c3 := c3) (u := lvTo u kN) (v := lvTo v kN) hx.1.1 hCk
            generalize kerL kk ims[kN] C mo c0 c1 c2 c3 (lvTo u kN) (lvTo v kN) = L at *
            clear hOk hk1 hkk hC0 hCk hC hin hu hv hx hfb hK5 hB5
            go_wp2_with fail
            refine hAt.mono ?_
            rintro e w6 ⟨s6, rfl, ho6, hb6⟩
            have hS6 := hS5.nx hb6
            have hA6 := hA5.nx hb6 (Nat.le_refl _)
            obtain ⟨A6, q6, rfl, hq6, _, hr6, _⟩ := own_form ho6
            obtain ⟨f0, f1, f2, f3⟩ := hS6.k5.cell4
            clear hAt hS5 hA5 hb6 ho6
            go_wp2_with fail
            refine (hR _).mono ?_
            rintro e w7 ⟨rfl, hb7⟩
            have hS7 := hS6.nx hb7
            have hA7 := hA6.nx hb7 (Nat.le_refl _)
            have hr7 := (hr6.below hb7).more hb7.size
            obtain ⟨f0, f1, f2, f3⟩ := hS7.k5.cell4
            clear hR hS6 hA6 hb7 hr6
            go_wp2_with fail
            refine (smat_nil _ _ _ _).mono ?_
            rintro e w8 ⟨rfl, rfl⟩
            obtain ⟨e0, e1, e2, e3, e4, e5, e6⟩ := hS7.k4.cell7h
            have hG := hOk2 _ hA7
            clear hOk2
            go_wp2_with fail
            refine hG.mono ?_
            rintro e w8 ⟨s8, rfl, ho8, hb8⟩
            have hS8 := hS7.nx hb8
            have hr8 := (hr7.below hb8).more hb8.size
            obtain ⟨A8, q8, rfl, hq8, _, hs8, _⟩ := own_form ho8
            clear hG hS7 hA7 hb8 hr7 ho8 f0 f1 f2 f3 e0 e1 e2 e3 e4 e5 e6
            go_wp2_with fail
            refine (same14 L A6 A8 C q6 q8 _ hL hr8 hs8).mono ?_
            rintro e w9 ⟨rfl, hb9⟩
            have hS9 := hS8.nx hb9
            go_wp2_with fail
            refine (hAl _).mono ?_
            rintro e wz ⟨rfl, hbz⟩
            go_wp2_with fail
            go_returns
            exact ⟨rfl, (hS9.nx hbz).bel⟩
          · have hin2 : (inF u && inF v) = false := by simpa using hin
            have hin3 : inF u = false ∨ inF v = false := by
              cases h1 : inF u with
              | false => exact .inl rfl
              | true => rw [h1] at hin2; exact .inr (by simpa using hin2)
            rw [hin2] at hR
            have hAt := smat_far (c := q5) HN.out hB5 nm fb fr nn (kk == 3) mo c0 c1 c2 c3 u v hK5 kN hkn hx.1.1 hin3
            clear hfb hK5 hA5 hB5 hin hin2 hin3 hx
            go_wp2_with fail
            refine hAt.mono ?_
            rintro e w6 ⟨rfl, hb6⟩
            have hS6 := hS5.nx hb6
            obtain ⟨f0, f1, f2, f3⟩ := hS6.k5.cell4
            clear hAt
            go_wp2_with fail
            refine (hR _).mono ?_
            rintro e w7 ⟨rfl, hb7⟩
            have hS7 := hS6.nx hb7
            go_wp2_with fail
            refine (hAl _).mono ?_
            rintro e w8 ⟨rfl, hb8⟩
            go_wp2_with fail
            go_returns
            exact ⟨rfl, (hS7.nx hb8).bel⟩
      · have hkb : (kerC kk nn mo != 0) = true := by simpa using hk
        generalize kerC kk nn mo = kc at *
        have HK := Lib.hid hk
        clear hk
        go_wp2_with (go_at_call 7; (with_reducible refine (hR _).mono ?_); rintro e w3 ⟨rfl, hb3⟩)
        go_returns
        exact ⟨rfl, (hS2.nx hb3).bel⟩
  · by_cases hc1 : m.px.length ≤ 5000
    · have g0 : decide ((m.px.length : Int) ≤ 5000) = true := by simp; omega
      simp only [g0] at hF
      by_cases hc2 : l < 0
      · have g1 : decide (l < 0) = true := by simp; omega
        clear hc hc2
        go_wp2_with fail
        refine (hF _).mono ?_
        rintro e w1 ⟨rfl, hb1⟩
        have hS1 := hS.nx hb1
        obtain ⟨f0, f1, f2, f3⟩ := hS1.k5.cell4
        go_wp2_with fail
        go_returns
        exact ⟨rfl, hS1.bel⟩
      · have g1 : decide (l < 0) = false := by simp; omega
        have g2 : decide (l > 15) = true := by simp; omega
        have g3 : decide (15 < l) = true := by simp; omega
        clear hc hc2
        go_wp2_with fail
        refine (hF _).mono ?_
        rintro e w1 ⟨rfl, hb1⟩
        have hS1 := hS.nx hb1
        obtain ⟨f0, f1, f2, f3⟩ := hS1.k5.cell4
        go_wp2_with fail
        go_returns
        exact ⟨rfl, hS1.bel⟩
    · have g0 : decide ((m.px.length : Int) ≤ 5000) = false := by simp; omega
      simp only [g0] at hF
      clear hc hc1
      go_wp2_with fail
      refine (hF _).mono ?_
      rintro e w1 ⟨rfl, hb1⟩
      have hS1 := hS.nx hb1
      go_wp2_with fail
      go_returns
      exact ⟨rfl, hS1.bel⟩
theorem lawSampleAt (cs0 cs1 cs2 : Array Value) (w : World) (h0 : Rv Tryz.prog w 24 cs0.toList) (h1 : Rv Tryz.prog w 29 cs1.toList) (h2 : Rv Tryz.prog w 30 cs2.toList) :
    Calls Tryz.prog 3 #[.agg cs0, .agg cs1, .agg cs2] w fun e w' => e = .returned (.bool true) ∧ Below w.heap.size w w' := by
  obtain ⟨m, ⟨A, cp, e0, hcp, hr⟩, hok⟩ := open_im h0
  obtain ⟨kk, nn, mo, c0, c1, c2, c3, e1, i0, i1, i2, i3⟩ := open_how34 h1
  obtain ⟨u, v, k, l, e2, _⟩ := open_4i h2
  have f0 : cs0 = #[.int .i64 m.W, .int .i64 m.H, .int .i64 m.C, .slice A m.px.length cp] := by rw [← Array.toArray_toList (xs := cs0), e0]
  have f1 : cs1 = howV kk nn mo c0 c1 c2 c3 := by rw [← Array.toArray_toList (xs := cs1), e1]
  have f2 : cs2 = p4V u v k l := by rw [← Array.toArray_toList (xs := cs2), e2]
  subst f0 f1 f2
  refine at_walk m A cp kk nn mo c0 c1 c2 c3 u v k l w hr.rd hcp (fun j => ?_) hok.2.2.2.2 i0 i1 i2 i3
  rw [List.getD_eq_getElem?_getD]
  rcases Nat.lt_or_ge j m.px.length with hj | hj
  · rw [List.getElem?_eq_getElem hj]
    exact hok.2.2.2.1 _ (List.getElem_mem hj)
  · rw [List.getElem?_eq_none hj]
    simp
end Go.Proofs.YthgcfahacoonaaaGreat
end
