/- ages: one Ages, and a list; the chapter's example; AgesPops. -/
import Derived.Test.YtiefhmbffmphdaaAG26
import Derived.Test.YtiefhmbffmphdaaAG27
import Derived.Test.YtiefhmbffmphdaaOpen
set_option linter.unusedVariables false
namespace Go.Proofs.Ytiefhmbffmphdaa
open Go.RowKit
theorem Ag.nodup {F : Nat → Prop} {w : World} {g : Nat} {now : Int} {m : List Int} (h : Ag F w g now m) : m.Nodup := by
  obtain ⟨A, n, c, cnt, mv, a, K, W, s, M, Fh, hH, hp, hS, rfl, _⟩ := h.ex
  unfold List.Nodup
  rw [List.pairwise_map]
  refine (ag_nodup hS).imp_of_mem ?_
  intro x y hx hy hne e
  exact hne (hS.key x y hx hy e)
structure S1 (W : World) (g : Nat) (n1 : Int) (m1 : List Int) (v : Value) (m : List Int) (w : World) : Prop where
  ex : ∃ F : Nat → Prop, Ag F w g n1 m1 ∧ (∀ i, F i → W.heap.size ≤ i) ∧ (∀ b, v.ownBlock = some b → ¬ F b)
  own : w.ownsRow W.heap.size 3 1 v m.length (m.map (Value.int .i64))
  bel : Below W.heap.size W w
section
variable {W w w' : World} {g : Nat} {n1 : Int} {m1 m : List Int} {v : Value}
theorem S1.nx (h : S1 W g n1 m1 v m w) (hb : Below w.heap.size w w') : S1 W g n1 m1 v m w' := by
  obtain ⟨F, h1, h3, h6⟩ := h.ex
  exact ⟨⟨F, h1.keep (fun i hi => hb.block i (h1.lt i hi)) hb.size, h3, h6⟩, own_below h.own hb (Nat.le_refl _), h.bel.trans (hb.mono h.bel.size)⟩
theorem S1.drew (h : S1 W g n1 m1 v m w) : S1 W g n1 m1 v m w.drew := h.nx (below_drewN (Below.refl _ _) 1)
theorem S1.on {F F' : Nat → Prop} {n1' : Int} {m1' : List Int} (hFl : ∀ i, F i → i < w.heap.size) (h3 : ∀ i, F i → W.heap.size ≤ i) (h6 : ∀ b, v.ownBlock = some b → ¬ F b)
    (own : w.ownsRow W.heap.size 3 1 v m.length (m.map (Value.int .i64))) (bel : Below W.heap.size W w)
    (hA : Ag F' w' g n1' m1') (hF' : ∀ i, F' i → F i ∨ w.heap.size ≤ i) (hO : Only F w w') : S1 W g n1' m1' v m w' := by
  have hsz := bel.size
  refine ⟨⟨F', hA, ?_, ?_⟩, own_only own hO h6, only_bel bel hO h3 hsz⟩
  · intro i hi
    rcases hF' i hi with e | e
    · exact h3 i e
    · omega
  · intro b hb hi
    rcases hF' b hi with e | e
    · exact h6 b hb e
    · have := (own.lt b hb).2; omega
theorem S1.touch (h : S1 W g n1 m1 v m w) {k : Int} (hk : -9223372036854775808 ≤ k ∧ k ≤ 9223372036854775807) (hn : n1 ≤ 99999) :
    Calls Try.prog 6 #[.pointer (some ⟨g, 0, none⟩), .int .i64 k] w fun e w' => e = .returned (.tuple #[]) ∧ S1 W g (n1 + 1) (tch m1 k) v m w' := by
  obtain ⟨F, h1, h3, h6⟩ := h.ex
  refine (h1.touch hk hn).mono ?_
  rintro e w' ⟨rfl, F', hA, hF', hO⟩
  exact ⟨rfl, S1.on h1.lt h3 h6 h.own h.bel hA hF' hO⟩
theorem S1.drop (h : S1 W g n1 m1 v m w) {k : Int} (hk : -9223372036854775808 ≤ k ∧ k ≤ 9223372036854775807) (hn : n1 ≤ 99999) :
    Calls Try.prog 8 #[.pointer (some ⟨g, 0, none⟩), .int .i64 k] w fun e w' => e = .returned (.bool (decide (k ∈ m1))) ∧ S1 W g n1 (wo m1 k) v m w' := by
  obtain ⟨F, h1, h3, h6⟩ := h.ex
  refine (h1.drop hk (by omega)).mono ?_
  rintro e w' ⟨rfl, hA, hO⟩
  exact ⟨rfl, S1.on h1.lt h3 h6 h.own h.bel hA (fun i hi => .inl hi) hO⟩
theorem S1.pop (h : S1 W g n1 m1 v m w) (hm : Rng m1) (hn : n1 ≤ 99999) :
    Calls Try.prog 11 #[.pointer (some ⟨g, 0, none⟩)] w fun e w' => e = .returned (.tuple #[.int .i64 (m1.headD 0), .bool (decide (m1 ≠ []))]) ∧ S1 W g n1 (wo m1 (m1.headD 0)) v m w' := by
  obtain ⟨F, h1, h3, h6⟩ := h.ex
  refine (h1.pop hm (by omega)).mono ?_
  rintro e w' ⟨rfl, hA, hO⟩
  exact ⟨rfl, S1.on h1.lt h3 h6 h.own h.bel hA (fun i hi => .inl hi) hO⟩
theorem S1.old (h : S1 W g n1 m1 v m w) : Calls Try.prog 12 #[.pointer (some ⟨g, 0, none⟩)] w fun e w' => e = .returned (.tuple #[.int .i64 (m1.headD 0), .bool (decide (m1 ≠ []))]) ∧ w = w' := by
  obtain ⟨F, h1, _⟩ := h.ex
  exact h1.old
theorem S1.len (h : S1 W g n1 m1 v m w) : Calls Try.prog 14 #[.pointer (some ⟨g, 0, none⟩)] w fun e w' => e = .returned (.int .i64 (m1.length : Nat)) ∧ w = w' := by
  obtain ⟨F, h1, _⟩ := h.ex
  exact h1.len
theorem S1.has (h : S1 W g n1 m1 v m w) {k : Int} (hk : -9223372036854775808 ≤ k ∧ k ≤ 9223372036854775807) : Calls Try.prog 13 #[.pointer (some ⟨g, 0, none⟩), .int .i64 k] w fun e w' => e = .returned (.bool (decide (k ∈ m1))) ∧ w = w' := by
  obtain ⟨F, h1, _⟩ := h.ex
  exact h1.has hk
/-- All, and the list is that. -/
theorem S1.all (h : S1 W g n1 m1 v m w) (hn : n1 ≤ 99999) : Calls Try.prog 15 #[.pointer (some ⟨g, 0, none⟩)] w fun e w' => ∃ v', e = .returned v' ∧ S1 W g n1 m1 v' m1 w' := by
  obtain ⟨F, h1, h3, h6⟩ := h.ex
  refine (h1.all (by omega)).mono ?_
  rintro e w' ⟨v', rfl, ho, hb⟩
  exact ⟨v', rfl, ⟨F, h1.keep (fun i hi => hb.block i (h1.lt i hi)) hb.size, h3, fun b hb e => by have := h1.lt b e; have := (ho.lt b hb).1; omega⟩, own_base ho h.bel.size, (h.nx hb).bel⟩
theorem S1.nodup (h : S1 W g n1 m1 v m w) : m1.Nodup := by
  obtain ⟨F, h1, _⟩ := h.ex
  exact h1.nodup
end
theorem s1_new (w : World) : S1 w w.heap.size 0 [] (.slice none 0 0) [] (w.alloc (.cells agZ 29)) :=
  ⟨⟨_, ag_zero (Bk.new w _ _), fun i e => by have e : i = w.heap.size := e; omega, (fun b hb => by cases hb)⟩, World.ownsRow_nil _ _ _ _, (Below.refl _ w).alloc (Nat.le_refl _) _⟩
def exL : Nat → List Int
  | 0 => []
  | 1 => [1]
  | 2 => [1, 2]
  | _ => [2, 1]
def exA : Nat → Int
  | 0 => 1
  | 1 => 2
  | _ => 1
theorem ex_tch (k : Nat) (h : k < 3) : tch (exL k) (exA k) = exL (k + 1) := by
  match k, h with
  | 0, _ => decide
  | 1, _ => decide
  | 2, _ => decide
set_option maxRecDepth 100000 in
set_option maxHeartbeats 4000000 in
theorem alive40 (w : World) : Calls Try.prog 17 #[] w fun e w' => e = .returned (.bool true) ∧ Below w.heap.size w w' := by
  have h0 := s1_new w
  have hb1 : Below (w.heap.size + 1) (w.alloc (.cells agZ 29)) ((w.alloc (.cells agZ 29)).alloc (.cells #[.int .i64 1, .int .i64 2, .int .i64 1] 3)) := (Below.refl _ _).alloc (by simp) _
  have ho : ((w.alloc (.cells agZ 29)).alloc (.cells #[.int .i64 1, .int .i64 2, .int .i64 1] 3)).ownsRow (w.heap.size + 1) 3 1 (.slice (some ⟨w.heap.size + 1, 0, none⟩) 3 3) 3 [.int .i64 1, .int .i64 2, .int .i64 1] := by
    have := own_of_Bk (base := w.heap.size + 1) (Bk.new (w.alloc (.cells agZ 29)) 3 #[.int .i64 1, .int .i64 2, .int .i64 1]) 3 rfl (by omega) (by simp)
    simpa using this
  have h1 : S1 w w.heap.size 0 [] (.slice (some ⟨w.heap.size + 1, 0, none⟩) 3 3) [1, 2, 1] ((w.alloc (.cells agZ 29)).alloc (.cells #[.int .i64 1, .int .i64 2, .int .i64 1] 3)) := by
    obtain ⟨F, hA, h3, h6⟩ := h0.ex
    refine ⟨⟨F, hA.keep (fun i hi => hb1.block i (by have := hA.lt i hi; simpa using this)) hb1.size, h3, fun b hb e => ?_⟩, own_base ho (by omega), h0.bel.trans (hb1.mono (by omega))⟩
    have hb2 : w.heap.size + 1 = b := by injection hb
    have h9 := hA.lt b e
    rw [← hb2] at h9
    simp at h9
  have hsz : w.heap.size < ((w.alloc (.cells agZ 29)).alloc (.cells #[.int .i64 1, .int .i64 2, .int .i64 1] 3)).heap.size := by simp; omega
  clear h0 hb1 ho
  go_enter Try.func17, Try.ntmps17
  go_wp2_with (go_at_call 5; (with_reducible refine (agnew_any _).mono ?_); rintro e w1 ⟨rfl, rfl⟩)
  go_loopw [11] (fun i wr => ∃ k : Nat, k ≤ 3 ∧ i = .int .i64 k ∧ S1 w w.heap.size k (exL k) (.slice (some ⟨w.heap.size + 1, 0, none⟩) 3 3) [1, 2, 1] wr) (fun i _ => 3 - (intOf i).toNat)
  case atStart => exact ⟨0, by omega, rfl, h1⟩
  case round =>
    obtain ⟨k, hk, rfl, h⟩ := hrel
    by_cases hlt : k < 3
    · have hc : wr.cell? ⟨w.heap.size + 1, k, none⟩ = some (.int .i64 (exA k)) := by
        obtain ⟨b, o, e, _, hc⟩ := (Rd.of_own h.own).get k (by simpa using hlt)
        injection e with e; injection e with e1 e2
        subst e1; subst e2
        rw [show (0 : Nat) + k = k by omega] at hc
        rw [hc]
        match k, hlt with
        | 0, _ => rfl
        | 1, _ => rfl
        | 2, _ => rfl
      have hx : -9223372036854775808 ≤ exA k ∧ exA k ≤ 9223372036854775807 := by
        match k, hlt with
        | 0, _ => decide
        | 1, _ => decide
        | 2, _ => decide
      have hT := h.touch hx (by omega)
      rw [ex_tch k hlt] at hT
      clear h1 hx
      generalize exA k = x at *
      go_wp2_with (go_at_call 6; (with_reducible refine hT.mono ?_); rintro e w2 ⟨rfl, h2⟩)
      exact ⟨⟨k + 1, by omega, by go_num, h2⟩, by simp [intOf]; omega⟩
    · obtain rfl : k = 3 := by omega
      have hO : Calls Try.prog 12 #[.pointer (some ⟨w.heap.size, 0, none⟩)] wr fun e w' => e = .returned (.tuple #[.int .i64 2, .bool true]) ∧ wr = w' := h.old
      have hL : Calls Try.prog 14 #[.pointer (some ⟨w.heap.size, 0, none⟩)] wr fun e w' => e = .returned (.int .i64 2) ∧ wr = w' := h.len
      have hB := h.bel
      clear h h1 hlt
      go_wp2_with (first
        | (go_at_call 12; (with_reducible refine hO.mono ?_); rintro e w2 ⟨rfl, rfl⟩)
        | (go_at_call 14; (with_reducible refine hL.mono ?_); rintro e w2 ⟨rfl, rfl⟩))
      go_returns
      exact ⟨rfl, hB⟩
end Go.Proofs.Ytiefhmbffmphdaa
