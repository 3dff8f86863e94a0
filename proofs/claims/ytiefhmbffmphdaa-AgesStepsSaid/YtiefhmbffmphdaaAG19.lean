/- ages: Touch of a thing that is there, of an Ages as a whole. -/
import Derived.Test.YtiefhmbffmphdaaAG18
set_option linter.unusedVariables false
namespace Go.Proofs.Ytiefhmbffmphdaa
open Go.RowKit
/-- What Touch leaves: k is the last one. -/
def Touched (F : Nat → Prop) (w : World) (g : Nat) (now : Int) (m : List Int) (k : Int) (e : Ending) (w' : World) : Prop :=
  e = .returned (.tuple #[]) ∧ ∃ F', Ag F' w' g (now + 1) (m.filter (· ≠ k) ++ [k]) ∧ (∀ i, F' i → F i ∨ w.heap.size ≤ i) ∧ Only F w w'
theorem Ag.touch_old {F : Nat → Prop} {w : World} {g : Nat} {A : Option Addr} {n c cnt : Nat} {mv : Value} {now : Int} {a : Nat → Nat} {K W : Nat → Int} {s : List Nat} {M : Int → Option Nat} {Fh : Nat → Prop} (hH : Hw Fh w g A n c mv now a K W) (hp : Hp W a n) (hS : AgS K W now a n s) (hFh : ∀ i, Fh i → F i) (hM : MapIs F Fh w mv cnt M) (hcn : (cnt : Int) ≤ now) (hMk : ∀ k b, M k = some b ↔ b ∈ s ∧ K b = k) (hnn : (n : Int) ≤ now) (hlt : ∀ i, F i → i < w.heap.size)
    {k : Int} (hk : -9223372036854775808 ≤ k ∧ k ≤ 9223372036854775807) (hnow : now ≤ 1000000) (b : Nat) (hq : M k = some b) :
    Calls Try.prog 6 #[.pointer (some ⟨g, 0, none⟩), .int .i64 k] w (Touched F w g now (s.map K) k) := by
  obtain ⟨hb, hkb⟩ := (hMk k b).1 hq
  obtain ⟨i, hi, hai⟩ := (hS.mem b).1 hb
  rcases hM with ⟨_, hM0⟩ | ⟨mb, rfl, hFm, hnF, hM⟩
  · rw [hM0] at hq; cases hq
  · refine (atouch_old hH hp hM hnF i hi k hk (by rw [hq, hai]) (by omega) ⟨by omega, by omega⟩).mono ?_
    rintro e w' ⟨rfl, b', hH', hp', hP', hO⟩
    have hS2 := ag_pm (ag_touch hS hb) hP'
    rw [hai] at hH' hp'
    have hOF : Only F w w' := ⟨hO.bel, fun i hi hn => hO.out i hi (fun e => hn (hFh i e))⟩
    have hM' := hM.same (hO.out mb hM.lt hnF)
    have hmem : ∀ x, x ∈ s.filter (· ≠ b) ++ [b] ↔ x ∈ s := by
      intro x
      rw [hS2.mem, (ag_pm hS hP').mem]
    refine ⟨rfl, F, ⟨⟨A, n, c, cnt, .map (some mb), b', K, _, s.filter (· ≠ b) ++ [b], M, Fh, hH', hp', hS2, ?_, hFh, .inr ⟨mb, rfl, hFm, hnF, hM'⟩, by omega, ?_, by omega⟩, fun i hi => Nat.lt_of_lt_of_le (hlt i hi) hO.bel.size⟩, fun i h => .inl h, hOF⟩
    · rw [List.map_append, map_without (fun x hx e => hS.key x b hx hb e), hkb]; simp [hkb]
    · intro z x
      rw [hMk z x, hmem]
theorem Hw.upd {F : Nat → Prop} {w : World} {g : Nat} {A : Option Addr} {n c : Nat} {mv : Value} {now : Int} {a : Nat → Nat} {K W : Nat → Int} (h : Hw F w g A n c mv now a K W) {K' W' : Nat → Int} (hK : ∀ j, j < n → K' (a j) = K (a j)) (hW : ∀ j, j < n → W' (a j) = W (a j)) : Hw F w g A n c mv now a K' W' :=
  ⟨h.hg, h.row, fun j hj => by rw [hK j hj, hW j hj]; exact h.th j hj, h.inj, h.fg, h.fr, h.ft⟩
theorem hp_upd {a : Nat → Nat} {W W' : Nat → Int} {n : Nat} (h : Hp W a n) (hW : ∀ j, j < n → W' (a j) = W (a j)) : Hp W' a n := fun j h0 h1 => by
  rw [hW j h1, hW _ (by omega)]; exact h j h0 h1
/-- Another map. -/
theorem Hw.remap {F : Nat → Prop} {w : World} {g : Nat} {A : Option Addr} {n c : Nat} {mv : Value} {now : Int} {a : Nat → Nat} {K W : Nat → Int} (h : Hw F w g A n c mv now a K W) (mv' : Value) : Hw F (w.setCell ⟨g, 1, none⟩ mv') g A n c mv' now a K W :=
  ⟨h.hg.set 1 _, own_far h.row _ _ (fun b hb => (h.row_ne b hb).1), fun j hj => (h.th j hj).far (by simpa using h.ga j hj) _, h.inj, h.fg, h.fr, h.ft⟩
theorem Hw.alloc {F : Nat → Prop} {w : World} {g : Nat} {A : Option Addr} {n c : Nat} {mv : Value} {now : Int} {a : Nat → Nat} {K W : Nat → Int} (h : Hw F w g A n c mv now a K W) (o : Obj) : Hw F (w.alloc o) g A n c mv now a K W :=
  h.nx ((Below.refl _ _).alloc (Nat.le_refl _) _)
/-- What Touch leaves of a new thing. -/
def NewTh (F : Nat → Prop) (w : World) (g n cnt : Nat) (now : Int) (a : Nat → Nat) (K W : Nat → Int) (M : Int → Option Nat) (k : Int) (mo : Option Nat) (e : Ending) (w' : World) : Prop :=
  e = .returned (.tuple #[]) ∧ ∃ A' c' F' b mb q, Hw F' w' g A' (n + 1) c' (.map (some mb)) (now + 1) b (fun x => if x = q then k else K x) (fun x => if x = q then now + 1 else W x) ∧ Hp (fun x => if x = q then now + 1 else W x) b (n + 1) ∧ Pm (fun j => if j = n then q else a j) b (n + 1) ∧
    Mp Try.prog 3 w' mb (cnt + 1) (fun z => if z = k then some q else M z) ∧ w.heap.size ≤ q ∧ q < w'.heap.size ∧ (∀ i, F' i → F i ∨ w.heap.size ≤ i) ∧ (∀ i, F' i → i < w'.heap.size) ∧ ¬ F' mb ∧ (mo = some mb ∨ w.heap.size ≤ mb) ∧ mb < w'.heap.size ∧ Only (fun i => F i ∨ some i = mo) w w'
end Go.Proofs.Ytiefhmbffmphdaa
