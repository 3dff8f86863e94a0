/- AgesSteps: the steps; two new Ages. -/
import Derived.Test.YtiefhmbffmphdaaAG28
import Derived.Deep.CutBlock
set_option linter.unusedVariables false
namespace Go.Proofs.Ytiefhmbffmphdaa
open Go.RowKit
def encSp (r : Int × Int) : List Value := [.int .i64 r.1, .int .i64 r.2]
def encSs (rs : List (Int × Int)) : List Value := rs.flatMap encSp
theorem encSs_len (rs : List (Int × Int)) : (encSs rs).length = rs.length * 2 := by
  induction rs with
  | nil => rfl
  | cons r rs ih => show (encSp r ++ encSs rs).length = _; rw [List.length_append, ih]; simp [encSp]; omega
theorem encSs_get : ∀ (rs : List (Int × Int)) (k : Nat) (hk : k < rs.length), (encSs rs)[k * 2]? = some (.int .i64 rs[k].1) ∧ (encSs rs)[k * 2 + 1]? = some (.int .i64 rs[k].2)
  | [], k, hk => absurd hk (by simp)
  | r :: rs, 0, _ => by simp [encSs, encSp]
  | r :: rs, k + 1, hk => by
    have ih := encSs_get rs k (by simpa using hk)
    have e : encSs (r :: rs) = [.int .i64 r.1, .int .i64 r.2] ++ encSs rs := rfl
    rw [e, show (k + 1) * 2 = k * 2 + 2 by omega, show k * 2 + 2 + 1 = (k * 2 + 1) + 2 by omega]
    simpa using ih
theorem rd_step {w : World} {B : Nat} {A : Option Addr} {rs : List (Int × Int)} (h : Rd w B A (encSs rs)) (k : Nat) (hk : k < rs.length) :
    ∃ b o, A = some ⟨b, o, none⟩ ∧ b < B ∧ w.cell? ⟨b, o + k * 2, none⟩ = some (.int .i64 rs[k].1) ∧ w.cell? ⟨b, o + k * 2 + 1, none⟩ = some (.int .i64 rs[k].2) := by
  have hl := encSs_len rs
  obtain ⟨g0, g1⟩ := encSs_get rs k hk
  obtain ⟨b, o, e, hb, hc⟩ := h.get (k * 2) (by omega)
  obtain ⟨b', o', e', hb', hc'⟩ := h.get (k * 2 + 1) (by omega)
  rw [e] at e'
  injection e' with e'
  injection e' with e1 e2
  subst e1; subst e2
  refine ⟨b, o, e, hb, ?_, ?_⟩
  · rw [hc, ← List.getElem?_eq_getElem, g0]
  · rw [show o + k * 2 + 1 = o + (k * 2 + 1) by omega, hc', ← List.getElem?_eq_getElem, g1]
def I64P (r : Int × Int) : Prop := (-9223372036854775808 ≤ r.1 ∧ r.1 ≤ 9223372036854775807) ∧ (-9223372036854775808 ≤ r.2 ∧ r.2 ≤ 9223372036854775807)
theorem cb_stepI : Try.prog.cellsOf 3 = 1 := by kernel_rfl
theorem cb_step : Try.prog.cellsOf 32 = 2 := by kernel_rfl
set_option maxRecDepth 100000 in
theorem open_step {w : World} {cs : List Value} (h : Rv Try.prog w 32 cs) : ∃ r : Int × Int, cs = encSp r ∧ I64P r := by
  obtain ⟨hl, hf⟩ := rv_struct Try.underlying32 h
  rw [cb_step] at hl
  match cs, hl with
  | [v0, v1], _ =>
    have g0 : Rv Try.prog w 3 (([v0, v1].drop 0).take (Try.prog.cellsOf 3)) := hf 0 _ rfl
    have g1 : Rv Try.prog w 3 (([v0, v1].drop 1).take (Try.prog.cellsOf 3)) := hf 1 _ rfl
    rw [cb_stepI] at g0 g1
    obtain ⟨a, e0, i0⟩ := rv_int Try.underlying3 g0
    obtain ⟨b, e1, i1⟩ := rv_int Try.underlying3 g1
    simp at e0 e1
    subst e0 e1
    exact ⟨(a, b), rfl, wf_i64 i0, wf_i64 i1⟩
theorem steps_of {w : World} : ∀ xs : List (List Value), (∀ x ∈ xs, x.length = 2 ∧ Rv Try.prog w 32 x) → ∃ rs : List (Int × Int), xs.flatten = encSs rs ∧ rs.length = xs.length ∧ ∀ r ∈ rs, I64P r
  | [], _ => ⟨[], rfl, rfl, by simp⟩
  | x :: xs, h => by
    obtain ⟨rs, h1, h2, h3⟩ := steps_of xs (fun y hy => h y (by simp [hy]))
    obtain ⟨r, e, hr⟩ := open_step (h x (by simp)).2
    refine ⟨r :: rs, ?_, by simp [h2], ?_⟩
    · rw [List.flatten_cons, h1, e]; rfl
    · intro y hy
      rcases List.mem_cons.1 hy with rfl | hy
      · exact hr
      · exact h3 y hy
theorem open_steps {w : World} {A : Option Addr} {n c : Nat} (h : Rv Try.prog w 22 [.slice A n c]) : n ≤ c ∧ c ≤ maxLen ∧ ∃ rs : List (Int × Int), rs.length = n ∧ Rd w w.heap.size A (encSs rs) ∧ ∀ r ∈ rs, I64P r := by
  obtain ⟨A', n', c', xs, e, h1, h2, h3, h4, h5⟩ := rv_rows Try.underlying22 cb_step (by omega) h
  simp at e
  obtain ⟨rfl, rfl, rfl⟩ := e
  obtain ⟨rs, g1, g2, g3⟩ := steps_of xs h4
  rw [g1] at h5
  exact ⟨h1, h2, rs, by omega, h5, g3⟩
theorem st_new (w : World) : St w w.heap.size (w.heap.size + 1) 0 [] 0 [] (.slice none 0 0) [] [] ((w.alloc (.cells agZ 29)).alloc (.cells agZ 29)) := by
  have k1 := (Bk.new w 29 agZ).alloc (.cells agZ 29)
  have k2 := Bk.new (w.alloc (.cells agZ 29)) 29 agZ
  have hz : (w.alloc (.cells agZ 29)).heap.size = w.heap.size + 1 := by simp
  rw [hz] at k2
  refine ⟨⟨_, _, ag_zero k1, ag_zero k2, fun i e => ?_, fun i e => ?_, fun i e e2 => ?_, (fun b hb => by cases hb), (fun x hx => by cases hx)⟩, World.ownsRow_nil _ _ _ _, (fun x hx => by cases hx), ((Below.refl _ w).alloc (Nat.le_refl _) _).alloc (by simp) _⟩
  · have e : i = w.heap.size := e; omega
  · have e : i = w.heap.size + 1 := e; omega
  · have e : i = w.heap.size := e
    have e2 : i = w.heap.size + 1 := e2
    omega
section
variable {W w w' : World} {g z : Nat} {n1 n2 : Int} {m1 m2 m : List Int} {v : Value} {L : List (Nat × TypeId × Array Value)}
/-- The block beside is stored anew. -/
theorem St.set {q : Nat} {t : TypeId} {cs cs' : Array Value} (h : St W g z n1 m1 n2 m2 v m [(q, t, cs)] w) (hg : w.grownBy w' (some q)) (hk : Bk w' q t cs') (hq : W.heap.size ≤ q) (hv : ∀ b, v.ownBlock = some b → b ≠ q) : St W g z n1 m1 n2 m2 v m [(q, t, cs')] w' := by
  obtain ⟨F, G, h1, h2, h3, h4, h5, h6, h7⟩ := h.ex
  obtain ⟨hFq, hGq⟩ := h7 _ (List.mem_singleton.2 rfl)
  have hO : Only (fun i => i = q) w w' := only_gb hg rfl
  refine ⟨⟨F, G, h1.keep (fun i hi => hO.out i (h1.lt i hi) (fun e => hFq (by show F q; rw [← (show i = q from e)]; exact hi))) hO.bel.size, h2.keep (fun i hi => hO.out i (h2.lt i hi) (fun e => hGq (by show G q; rw [← (show i = q from e)]; exact hi))) hO.bel.size, h3, h4, h5, h6, fun x hx => ?_⟩, own_only h.own hO hv, fun x hx => ?_, only_bel h.bel hO (fun i e => by have e : i = q := e; omega) h.bel.size⟩
  · rw [List.mem_singleton.1 hx]; exact ⟨hFq, hGq⟩
  · rw [List.mem_singleton.1 hx]; exact hk
theorem St.kk {q : Nat} {t : TypeId} {cs : Array Value} (h : St W g z n1 m1 n2 m2 v m [(q, t, cs)] w) : Bk w q t cs := h.bk _ (List.mem_singleton.2 rfl)
end
end Go.Proofs.Ytiefhmbffmphdaa
