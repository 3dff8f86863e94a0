/- Lists of warps in memory. -/
import Derived.Test.YtfkifghfaaeoiaaGreatMW3
set_option linter.unusedVariables false
namespace Go.Proofs.YtfkifghfaaeoiaaGreat
open Go.RowKit
/-- A warp, plain. -/
structure Wp where
  k : Int
  l : List Int
  W : Int
  H : Int
  kn : Int
  n : Int
  mo : Int
  c0 : Int
  c1 : Int
  c2 : Int
  c3 : Int
  mi : Int
def WpAt (w : World) (B : Nat) (cs : List Value) (m : Wp) : Prop := ∃ (A : Option Addr) (c : Nat), cs = (wrA m.k A m.l.length c m.W m.H m.kn m.n m.mo m.c0 m.c1 m.c2 m.c3 m.mi).toList ∧ m.l.length ≤ c ∧ c ≤ maxLen ∧ Rd w B A (m.l.map (Value.int .i64))
def WpsAt (w : World) (B : Nat) (A : Option Addr) (ws : List Wp) : Prop := ∃ xs : List (List Value), Rd w B A xs.flatten ∧ xs.length = ws.length ∧ ∀ (i : Nat) (h : i < ws.length) (h' : i < xs.length), WpAt w B xs[i] ws[i]
/-- Numbers as a parameter holds them. -/
def WpOk (m : Wp) : Prop := ∀ z ∈ m.l, -9223372036854775808 ≤ z ∧ z ≤ 9223372036854775807
section
variable {w w' : World} {B : Nat} {A : Option Addr} {ws : List Wp} {m : Wp} {cs : List Value}
theorem WpAt.below (h : WpAt w B cs m) (hb : Below B w w') : WpAt w' B cs m := by
  obtain ⟨A, c, e, h1, h2, hr⟩ := h
  exact ⟨A, c, e, h1, h2, hr.below hb⟩
theorem WpsAt.below (h : WpsAt w B A ws) (hb : Below B w w') : WpsAt w' B A ws := by
  obtain ⟨xs, h1, h2, h3⟩ := h
  exact ⟨xs, h1.below hb, h2, fun i a b => (h3 i a b).below hb⟩
theorem flat_getn (q : Nat) : ∀ (xs : List (List Value)) (i : Nat) (h : i < xs.length), (∀ x ∈ xs, x.length = q) → ∀ j, j < q → xs.flatten[i * q + j]? = xs[i][j]?
  | [], i, h, _, _, _ => absurd h (by simp)
  | x :: xs, 0, _, hx, j, hj => by
    rw [List.flatten_cons, List.getElem?_append_left (by rw [hx x (by simp)]; omega)]
    simp
  | x :: xs, i + 1, h, hx, j, hj => by
    have ih := flat_getn q xs i (by simpa using h) (fun y hy => hx y (by simp [hy])) j hj
    rw [List.flatten_cons, List.getElem?_append_right (by rw [hx x (by simp), Nat.add_mul]; omega), hx x (by simp), show (i + 1) * q + j - q = i * q + j by rw [Nat.add_mul]; omega, ih]
    rfl
theorem flat_lenn (q : Nat) : ∀ (xs : List (List Value)), (∀ x ∈ xs, x.length = q) → xs.flatten.length = xs.length * q
  | [], _ => by simp
  | x :: xs, h => by
    rw [List.flatten_cons, List.length_append, h x (by simp), flat_lenn q xs (fun y hy => h y (by simp [hy])), List.length_cons, Nat.add_mul]; omega
theorem WpsAt.len12 {xs : List (List Value)} (h2 : xs.length = ws.length) (h3 : ∀ (i : Nat) (h : i < ws.length) (h' : i < xs.length), WpAt w B xs[i] ws[i]) : ∀ x ∈ xs, x.length = 12 := fun x hx => by
  obtain ⟨i, hi, rfl⟩ := List.mem_iff_getElem.1 hx
  obtain ⟨A, c, e, _⟩ := h3 i (by omega) hi
  rw [e]; rfl
/-- A warp of the list. -/
theorem WpsAt.get (h : WpsAt w B A ws) (i : Nat) (hi : i < ws.length) : ∃ (b o : Nat) (Ai : Option Addr) (ci : Nat), A = some ⟨b, o, none⟩ ∧ b < B ∧
    (∀ j, j < 12 → w.cell? ⟨b, o + i * 12 + j, none⟩ = (wrA ws[i].k Ai ws[i].l.length ci ws[i].W ws[i].H ws[i].kn ws[i].n ws[i].mo ws[i].c0 ws[i].c1 ws[i].c2 ws[i].c3 ws[i].mi)[j]?) ∧ ws[i].l.length ≤ ci ∧ ci ≤ maxLen ∧ Rd w B Ai (ws[i].l.map (Value.int .i64)) := by
  obtain ⟨xs, h1, h2, h3⟩ := h
  have h4 := WpsAt.len12 h2 h3
  have hx : i < xs.length := by omega
  have hl := flat_lenn 12 xs h4
  obtain ⟨Ai, ci, e, hc, hm, hr⟩ := h3 i hi hx
  obtain ⟨b, o, rfl, hb, _⟩ := h1 (i * 12) (by omega)
  refine ⟨b, o, Ai, ci, rfl, hb, fun j hj => ?_, hc, hm, hr⟩
  obtain ⟨b', o', e', _, hc'⟩ := h1 (i * 12 + j) (by omega)
  injection e' with e'; injection e' with e1 e2
  subst e1; subst e2
  rw [show o + i * 12 + j = o + (i * 12 + j) by omega, hc', ← List.getElem?_eq_getElem, flat_getn 12 xs i hx h4 j hj, e]
  simp
end
theorem wps_of {w : World} : ∀ xs : List (List Value), (∀ x ∈ xs, x.length = 12 ∧ Rv Tryz.prog w 33 x) → ∃ ws : List Wp, xs.length = ws.length ∧ (∀ (i : Nat) (h : i < ws.length) (h' : i < xs.length), WpAt w w.heap.size xs[i] ws[i]) ∧ ∀ m ∈ ws, WpOk m
  | [], _ => ⟨[], rfl, fun i h _ => absurd h (by simp), by simp⟩
  | x :: xs, h => by
    obtain ⟨ws, h1, h2, h3⟩ := wps_of xs (fun y hy => h y (by simp [hy]))
    obtain ⟨k, A, n, c, l, W, H, kn, s, mo, c0, c1, c2, c3, mi, e, hl, hn, hc, hok, hr⟩ := open_warp (h x (by simp)).2
    subst hl
    refine ⟨⟨k, l, W, H, kn, s, mo, c0, c1, c2, c3, mi⟩ :: ws, by simp [h1], ?_, ?_⟩
    · intro i hi hi'
      cases i with
      | zero => exact ⟨A, c, e, hn, hc, hr⟩
      | succ i => exact h2 i (by simpa using hi) (by simpa using hi')
    · intro y hy
      rcases List.mem_cons.1 hy with rfl | hy
      · exact hok
      · exact h3 y hy
theorem open_warps {w : World} {A : Option Addr} {n c : Nat} (h : Rv Tryz.prog w 22 [.slice A n c]) : n ≤ c ∧ c ≤ maxLen ∧ ∃ ws : List Wp, ws.length = n ∧ WpsAt w w.heap.size A ws ∧ ∀ m ∈ ws, WpOk m := by
  obtain ⟨A', n', c', xs, e, h1, h2, h3, h4, h5⟩ := rv_rows Tryz.underlying22 ca_warp (by omega) h
  simp at e
  obtain ⟨rfl, rfl, rfl⟩ := e
  obtain ⟨ws, g1, g2, g3⟩ := wps_of xs h4
  exact ⟨h1, h2, ws, by omega, ⟨xs, h5, g1, g2⟩, g3⟩
/-- What several warps cost: from so many on. -/
def wpC (m : Wp) : Int := wrC m.W m.H m.kn m.n m.mo m.mi (xC m.k m.l m.W m.H)
def wpK (m : Wp) : Int := m.W * m.H * eaC m.kn m.n
def wpsR (s : Int) (i : Nat) : List Wp → Int × Nat × Int
  | [] => (s, i, 0)
  | m :: r => if wpC m ≠ 0 then (s, i, wpC m) else wpsR (s + wpK m) (i + 1) r
theorem wpsR_step {s : Int} {ws : List Wp} {i : Nat} (h : i < ws.length) : wpsR s i (ws.drop i) = if wpC ws[i] ≠ 0 then (s, i, wpC ws[i]) else wpsR (s + wpK ws[i]) (i + 1) (ws.drop (i + 1)) := by
  rw [List.drop_eq_getElem_cons h]; rfl
theorem wpK_bd {m : Wp} (h : wpC m = 0) : 0 ≤ wpK m ∧ wpK m ≤ 1073741824 := by
  unfold wpC at h
  obtain ⟨z1, z2, z3, z4⟩ := wrC_zero.1 h
  obtain ⟨y0, y2, y3⟩ := smC_zero.1 z1
  obtain ⟨x0, x2, x4⟩ := msC_zero.1 z2
  obtain ⟨e0, e1⟩ := ea_bd y2
  have m0 : 1 * 1 ≤ m.W * m.H := Int.mul_le_mul x0.1 x2.1 (by omega) (by omega)
  have m1 := Int.mul_le_mul x4 e1 (by omega) (by omega)
  have m2 : 0 ≤ m.W * m.H * eaC m.kn m.n := Int.mul_nonneg (by omega) (by omega)
  unfold wpK
  omega
end Go.Proofs.YtfkifghfaaeoiaaGreat
