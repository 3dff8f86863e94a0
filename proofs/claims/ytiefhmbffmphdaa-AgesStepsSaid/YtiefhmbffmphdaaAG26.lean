/- ages: two Ages side by side, a list of the reference's, and blocks beside. -/
import Derived.Test.YtiefhmbffmphdaaAG24
set_option linter.unusedVariables false
namespace Go.Proofs.Ytiefhmbffmphdaa
open Go.RowKit
theorem Hw.keep {F : Nat → Prop} {w w' : World} {g : Nat} {A : Option Addr} {n c : Nat} {mv : Value} {now : Int} {a : Nat → Nat} {K W : Nat → Int} (h : Hw F w g A n c mv now a K W) (hk : ∀ i, F i → w'.heap[i]? = w.heap[i]?) : Hw F w' g A n c mv now a K W :=
  ⟨(hk g h.fg).trans h.hg, by
    refine ⟨h.row.1, ?_⟩
    rcases h.row.2 with h2 | ⟨r, cap, cur, hv, hb, hh, rest⟩
    · exact .inl h2
    · exact .inr ⟨r, cap, cur, hv, hb, (hk r (h.fr r (by rw [hv]; rfl))).trans hh, rest⟩,
   fun j hj => (hk (a j) (h.ft j hj)).trans (h.th j hj), h.inj, h.fg, h.fr, h.ft⟩
theorem Ag.keep {F : Nat → Prop} {w w' : World} {g : Nat} {now : Int} {m : List Int} (h : Ag F w g now m) (hk : ∀ i, F i → w'.heap[i]? = w.heap[i]?) (hz : w.heap.size ≤ w'.heap.size) : Ag F w' g now m := by
  obtain ⟨A, n, c, cnt, mv, a, K, W, s, M, Fh, hH, hp, hS, rfl, hFh, hM, rest⟩ := h.ex
  refine ⟨⟨A, n, c, cnt, mv, a, K, W, s, M, Fh, hH.keep (fun i hi => hk i (hFh i hi)), hp, hS, rfl, hFh, ?_, rest⟩, fun i hi => Nat.lt_of_lt_of_le (h.lt i hi) hz⟩
  rcases hM with h1 | ⟨mb, e, h1, h2, h3⟩
  · exact .inl h1
  · exact .inr ⟨mb, e, h1, h2, h3.same (hk mb h1)⟩
theorem only_bel {F : Nat → Prop} {B : Nat} {W w w' : World} (h : Below B W w) (g : Only F w w') (hF : ∀ i, F i → B ≤ i) (hB : B ≤ w.heap.size) : Below B W w' :=
  h.trans ⟨g.bel.os, g.bel.tape, g.bel.output, g.bel.size, fun i hi => g.out i (by omega) (fun e => by have := hF i e; omega)⟩
theorem own_only {F : Nat → Prop} {w w' : World} {base n size : Nat} {e : TypeId} {v : Value} {xs : List Value} (h : w.ownsRow base e size v n xs) (g : Only F w w') (hv : ∀ b, v.ownBlock = some b → ¬ F b) : w'.ownsRow base e size v n xs := by
  refine ⟨h.1, ?_⟩
  rcases h.2 with h2 | ⟨r, cap, cur, e1, hb, hh, rest⟩
  · exact .inl h2
  · exact .inr ⟨r, cap, cur, e1, hb, (g.out r (h.lt r (by rw [e1]; rfl)).2 (hv r (by rw [e1]; rfl))).trans hh, rest⟩
def wo (m : List Int) (k : Int) : List Int := m.filter (· ≠ k)
def tch (m : List Int) (k : Int) : List Int := m.filter (· ≠ k) ++ [k]
def Rng (m : List Int) : Prop := ∀ k, k ∈ m → -9223372036854775808 ≤ k ∧ k ≤ 9223372036854775807
theorem Rng.wo {m : List Int} (h : Rng m) (k : Int) : Rng (wo m k) := fun x hx => h x (List.mem_filter.1 hx).1
theorem Rng.tch {m : List Int} (h : Rng m) {k : Int} (hk : -9223372036854775808 ≤ k ∧ k ≤ 9223372036854775807) : Rng (tch m k) := fun x hx => by
  rcases List.mem_append.1 hx with hx | hx
  · exact h x (List.mem_filter.1 hx).1
  · rw [List.mem_singleton.1 hx]; exact hk
theorem wo_len (m : List Int) (k : Int) : (wo m k).length ≤ m.length := List.length_filter_le _ _
theorem tch_len (m : List Int) (k : Int) : (tch m k).length ≤ m.length + 1 := by
  unfold tch; rw [List.length_append]; have := wo_len m k; unfold wo at this; simp at this ⊢; omega
structure St (W : World) (g z : Nat) (n1 : Int) (m1 : List Int) (n2 : Int) (m2 : List Int) (v : Value) (m : List Int) (L : List (Nat × TypeId × Array Value)) (w : World) : Prop where
  ex : ∃ F G : Nat → Prop, Ag F w g n1 m1 ∧ Ag G w z n2 m2 ∧ (∀ i, F i → W.heap.size ≤ i) ∧ (∀ i, G i → W.heap.size ≤ i) ∧ (∀ i, F i → ¬ G i) ∧ (∀ b, v.ownBlock = some b → ¬ F b ∧ ¬ G b) ∧ (∀ x ∈ L, ¬ F x.1 ∧ ¬ G x.1)
  own : w.ownsRow W.heap.size 3 1 v m.length (m.map (Value.int .i64))
  bk : ∀ x ∈ L, Bk w x.1 x.2.1 x.2.2
  bel : Below W.heap.size W w
section
variable {W w w' : World} {g z : Nat} {n1 n2 : Int} {m1 m2 m : List Int} {v : Value} {L : List (Nat × TypeId × Array Value)}
theorem St.swap (h : St W g z n1 m1 n2 m2 v m L w) : St W z g n2 m2 n1 m1 v m L w := by
  obtain ⟨F, G, h1, h2, h3, h4, h5, h6, h7⟩ := h.ex
  exact ⟨⟨G, F, h2, h1, h4, h3, fun i hi hf => h5 i hf hi, fun b hb => ⟨(h6 b hb).2, (h6 b hb).1⟩, fun x hx => ⟨(h7 x hx).2, (h7 x hx).1⟩⟩, h.own, h.bk, h.bel⟩
theorem St.nx (h : St W g z n1 m1 n2 m2 v m L w) (hb : Below w.heap.size w w') : St W g z n1 m1 n2 m2 v m L w' := by
  obtain ⟨F, G, h1, h2, h3, h4, h5, h6, h7⟩ := h.ex
  exact ⟨⟨F, G, h1.keep (fun i hi => hb.block i (h1.lt i hi)) hb.size, h2.keep (fun i hi => hb.block i (h2.lt i hi)) hb.size, h3, h4, h5, h6, h7⟩, own_below h.own hb (Nat.le_refl _), fun x hx => (h.bk x hx).nx hb, h.bel.trans (hb.mono h.bel.size)⟩
theorem St.drew (h : St W g z n1 m1 n2 m2 v m L w) : St W g z n1 m1 n2 m2 v m L w.drew := h.nx (below_drewN (Below.refl _ _) 1)
theorem St.drewN (h : St W g z n1 m1 n2 m2 v m L w) (k : Nat) : St W g z n1 m1 n2 m2 v m L (w.drewN k) := h.nx (below_drewN (Below.refl _ _) k)
theorem St.on {F G F' : Nat → Prop} {n1' : Int} {m1' : List Int} (h2 : Ag G w z n2 m2) (hFl : ∀ i, F i → i < w.heap.size) (h3 : ∀ i, F i → W.heap.size ≤ i) (h4 : ∀ i, G i → W.heap.size ≤ i) (h5 : ∀ i, F i → ¬ G i) (h6 : ∀ b, v.ownBlock = some b → ¬ F b ∧ ¬ G b) (h7 : ∀ x ∈ L, ¬ F x.1 ∧ ¬ G x.1)
    (own : w.ownsRow W.heap.size 3 1 v m.length (m.map (Value.int .i64))) (bk : ∀ x ∈ L, Bk w x.1 x.2.1 x.2.2) (bel : Below W.heap.size W w)
    (hA : Ag F' w' g n1' m1') (hF' : ∀ i, F' i → F i ∨ w.heap.size ≤ i) (hO : Only F w w') : St W g z n1' m1' n2 m2 v m L w' := by
  have hsz := bel.size
  refine ⟨⟨F', G, hA, h2.keep (fun i hi => hO.out i (h2.lt i hi) (fun e => h5 i e hi)) hO.bel.size, ?_, h4, ?_, ?_, ?_⟩, own_only own hO (fun b hb => (h6 b hb).1), fun x hx => (hO.out x.1 (bk x hx).lt (h7 x hx).1).trans (bk x hx), only_bel bel hO h3 hsz⟩
  · intro i hi
    rcases hF' i hi with e | e
    · exact h3 i e
    · omega
  · intro i hi hg
    rcases hF' i hi with e | e
    · exact h5 i e hg
    · have := h2.lt i hg; omega
  · intro b hb
    refine ⟨fun hi => ?_, (h6 b hb).2⟩
    rcases hF' b hi with e | e
    · exact (h6 b hb).1 e
    · have := (own.lt b hb).2; omega
  · intro x hx
    refine ⟨fun hi => ?_, (h7 x hx).2⟩
    rcases hF' x.1 hi with e | e
    · exact (h7 x hx).1 e
    · have := (bk x hx).lt; omega
theorem St.touch1 (h : St W g z n1 m1 n2 m2 v m L w) {k : Int} (hk : -9223372036854775808 ≤ k ∧ k ≤ 9223372036854775807) (hn : n1 ≤ 99999) :
    Calls Try.prog 6 #[.pointer (some ⟨g, 0, none⟩), .int .i64 k] w fun e w' => e = .returned (.tuple #[]) ∧ St W g z (n1 + 1) (tch m1 k) n2 m2 v m L w' := by
  obtain ⟨F, G, h1, h2, h3, h4, h5, h6, h7⟩ := h.ex
  refine (h1.touch hk hn).mono ?_
  rintro e w' ⟨rfl, F', hA, hF', hO⟩
  exact ⟨rfl, St.on h2 h1.lt h3 h4 h5 h6 h7 h.own h.bk h.bel hA hF' hO⟩
theorem St.touch2 (h : St W g z n1 m1 n2 m2 v m L w) {k : Int} (hk : -9223372036854775808 ≤ k ∧ k ≤ 9223372036854775807) (hn : n2 ≤ 99999) :
    Calls Try.prog 6 #[.pointer (some ⟨z, 0, none⟩), .int .i64 k] w fun e w' => e = .returned (.tuple #[]) ∧ St W g z n1 m1 (n2 + 1) (tch m2 k) v m L w' :=
  (h.swap.touch1 hk hn).mono fun e w' ⟨he, hs⟩ => ⟨he, hs.swap⟩
theorem St.drop1 (h : St W g z n1 m1 n2 m2 v m L w) {k : Int} (hk : -9223372036854775808 ≤ k ∧ k ≤ 9223372036854775807) (hn : n1 ≤ 99999) :
    Calls Try.prog 8 #[.pointer (some ⟨g, 0, none⟩), .int .i64 k] w fun e w' => e = .returned (.bool (decide (k ∈ m1))) ∧ St W g z n1 (wo m1 k) n2 m2 v m L w' := by
  obtain ⟨F, G, h1, h2, h3, h4, h5, h6, h7⟩ := h.ex
  refine (h1.drop hk (by omega)).mono ?_
  rintro e w' ⟨rfl, hA, hO⟩
  exact ⟨rfl, St.on h2 h1.lt h3 h4 h5 h6 h7 h.own h.bk h.bel hA (fun i hi => .inl hi) hO⟩
theorem St.drop2 (h : St W g z n1 m1 n2 m2 v m L w) {k : Int} (hk : -9223372036854775808 ≤ k ∧ k ≤ 9223372036854775807) (hn : n2 ≤ 99999) :
    Calls Try.prog 8 #[.pointer (some ⟨z, 0, none⟩), .int .i64 k] w fun e w' => e = .returned (.bool (decide (k ∈ m2))) ∧ St W g z n1 m1 n2 (wo m2 k) v m L w' :=
  (h.swap.drop1 hk hn).mono fun e w' ⟨he, hs⟩ => ⟨he, hs.swap⟩
theorem St.pop1 (h : St W g z n1 m1 n2 m2 v m L w) (hm : Rng m1) (hn : n1 ≤ 99999) :
    Calls Try.prog 11 #[.pointer (some ⟨g, 0, none⟩)] w fun e w' => e = .returned (.tuple #[.int .i64 (m1.headD 0), .bool (decide (m1 ≠ []))]) ∧ St W g z n1 (wo m1 (m1.headD 0)) n2 m2 v m L w' := by
  obtain ⟨F, G, h1, h2, h3, h4, h5, h6, h7⟩ := h.ex
  refine (h1.pop hm (by omega)).mono ?_
  rintro e w' ⟨rfl, hA, hO⟩
  exact ⟨rfl, St.on h2 h1.lt h3 h4 h5 h6 h7 h.own h.bk h.bel hA (fun i hi => .inl hi) hO⟩
theorem St.pop2 (h : St W g z n1 m1 n2 m2 v m L w) (hm : Rng m2) (hn : n2 ≤ 99999) :
    Calls Try.prog 11 #[.pointer (some ⟨z, 0, none⟩)] w fun e w' => e = .returned (.tuple #[.int .i64 (m2.headD 0), .bool (decide (m2 ≠ []))]) ∧ St W g z n1 m1 n2 (wo m2 (m2.headD 0)) v m L w' :=
  (h.swap.pop1 hm hn).mono fun e w' ⟨he, hs⟩ => ⟨he, hs.swap⟩
theorem St.old1 (h : St W g z n1 m1 n2 m2 v m L w) : Calls Try.prog 12 #[.pointer (some ⟨g, 0, none⟩)] w fun e w' => e = .returned (.tuple #[.int .i64 (m1.headD 0), .bool (decide (m1 ≠ []))]) ∧ w = w' := by
  obtain ⟨F, G, h1, _⟩ := h.ex
  exact h1.old
theorem St.old2 (h : St W g z n1 m1 n2 m2 v m L w) : Calls Try.prog 12 #[.pointer (some ⟨z, 0, none⟩)] w fun e w' => e = .returned (.tuple #[.int .i64 (m2.headD 0), .bool (decide (m2 ≠ []))]) ∧ w = w' := h.swap.old1
theorem St.len1 (h : St W g z n1 m1 n2 m2 v m L w) : Calls Try.prog 14 #[.pointer (some ⟨g, 0, none⟩)] w fun e w' => e = .returned (.int .i64 (m1.length : Nat)) ∧ w = w' := by
  obtain ⟨F, G, h1, _⟩ := h.ex
  exact h1.len
theorem St.len2 (h : St W g z n1 m1 n2 m2 v m L w) : Calls Try.prog 14 #[.pointer (some ⟨z, 0, none⟩)] w fun e w' => e = .returned (.int .i64 (m2.length : Nat)) ∧ w = w' := h.swap.len1
theorem St.has1 (h : St W g z n1 m1 n2 m2 v m L w) {k : Int} (hk : -9223372036854775808 ≤ k ∧ k ≤ 9223372036854775807) : Calls Try.prog 13 #[.pointer (some ⟨g, 0, none⟩), .int .i64 k] w fun e w' => e = .returned (.bool (decide (k ∈ m1))) ∧ w = w' := by
  obtain ⟨F, G, h1, _⟩ := h.ex
  exact h1.has hk
theorem Ag.all {F : Nat → Prop} {w : World} {g : Nat} {now : Int} {m : List Int} (h : Ag F w g now m) (hn : now ≤ 1000000) : Calls Try.prog 15 #[.pointer (some ⟨g, 0, none⟩)] w (OwnI m w) := by
  obtain ⟨A, n, c, cnt, mv, a, K, W, s, M, Fh, hH, hp, hS, rfl, hFh, hM, _, _, hnn⟩ := h.ex
  exact all_walk hH hS (by omega)
theorem St.all1 (h : St W g z n1 m1 n2 m2 v m L w) (hn : n1 ≤ 99999) : Calls Try.prog 15 #[.pointer (some ⟨g, 0, none⟩)] w (OwnI m1 w) := by
  obtain ⟨F, G, h1, _⟩ := h.ex
  exact h1.all (by omega)
theorem St.all2 (h : St W g z n1 m1 n2 m2 v m L w) (hn : n2 ≤ 99999) : Calls Try.prog 15 #[.pointer (some ⟨z, 0, none⟩)] w (OwnI m2 w) := h.swap.all1 hn
/-- Another list of the reference's. -/
theorem St.row (h : St W g z n1 m1 n2 m2 v m L w) {v' : Value} {m' : List Int} (hb : Below w.heap.size w w') (ho : w'.ownsRow w.heap.size 3 1 v' m'.length (m'.map (Value.int .i64))) : St W g z n1 m1 n2 m2 v' m' L w' := by
  have h' := h.nx hb
  obtain ⟨F, G, h1, h2, h3, h4, h5, h6, h7⟩ := h.ex
  exact ⟨⟨F, G, h1.keep (fun i hi => hb.block i (h1.lt i hi)) hb.size, h2.keep (fun i hi => hb.block i (h2.lt i hi)) hb.size, h3, h4, h5, fun b hb => ⟨fun e => by have := h1.lt b e; have := (ho.lt b hb).1; omega, fun e => by have := h2.lt b e; have := (ho.lt b hb).1; omega⟩, h7⟩, own_base ho h.bel.size, h'.bk, h'.bel⟩
theorem St.nil (h : St W g z n1 m1 n2 m2 v m L w) : St W g z n1 m1 n2 m2 (.slice none 0 0) [] L w := by
  obtain ⟨F, G, h1, h2, h3, h4, h5, h6, h7⟩ := h.ex
  exact ⟨⟨F, G, h1, h2, h3, h4, h5, (fun b hb => by cases hb), h7⟩, World.ownsRow_nil _ _ _ _, h.bk, h.bel⟩
theorem St.rtouch (h : St W g z n1 m1 n2 m2 v m L w) (k : Int) (hn : m.length ≤ 10000) : Calls Try.prog 7 #[v, .int .i64 k] w fun e w' => ∃ v', e = .returned v' ∧ St W g z n1 m1 n2 m2 v' (tch m k) L w' := by
  obtain ⟨A, c, rfl, _, _, hr, _⟩ := own_form h.own
  refine (rtouch_any m A m.length c k w rfl hr (Nat.le_refl _) (by omega)).mono ?_
  rintro e w' ⟨v', rfl, ho, hb⟩
  exact ⟨v', rfl, h.row hb ho⟩
theorem St.rwithout (h : St W g z n1 m1 n2 m2 v m L w) (k : Int) (hn : m.length ≤ 10000) : Calls Try.prog 10 #[v, .int .i64 k] w fun e w' => ∃ v', e = .returned v' ∧ St W g z n1 m1 n2 m2 v' (wo m k) L w' := by
  obtain ⟨A, c, rfl, _, _, hr, _⟩ := own_form h.own
  refine (without_any m A m.length c k w rfl hr (Nat.le_refl _) (by omega)).mono ?_
  rintro e w' ⟨v', rfl, ho, hb⟩
  exact ⟨v', rfl, h.row hb ho⟩
theorem St.rhas (h : St W g z n1 m1 n2 m2 v m L w) (k : Int) (hn : m.length ≤ 10000) : Calls Try.prog 9 #[v, .int .i64 k] w fun e w' => e = .returned (.bool (decide (k ∈ m))) ∧ Below w.heap.size w w' := by
  obtain ⟨A, c, rfl, _, _, hr, _⟩ := own_form h.own
  exact rhas_any' m A m.length c k w rfl hr (Nat.le_refl _) (by omega)
/-- A block beside. -/
theorem St.box (h : St W g z n1 m1 n2 m2 v m L w) (cs : Array Value) (t : TypeId) : St W g z n1 m1 n2 m2 v m ((w.heap.size, t, cs) :: L) (w.alloc (.cells cs t)) := by
  have h' := h.nx ((Below.refl _ w).alloc (Nat.le_refl _) (.cells cs t))
  obtain ⟨F, G, h1, h2, h3, h4, h5, h6, h7⟩ := h.ex
  have hb := (Below.refl w.heap.size w).alloc (Nat.le_refl _) (.cells cs t)
  refine ⟨⟨F, G, h1.keep (fun i hi => hb.block i (h1.lt i hi)) hb.size, h2.keep (fun i hi => hb.block i (h2.lt i hi)) hb.size, h3, h4, h5, h6, fun x hx => ?_⟩, h'.own, fun x hx => ?_, h'.bel⟩
  · rcases List.mem_cons.1 hx with rfl | hx
    · exact ⟨fun e => Nat.lt_irrefl _ (h1.lt _ e), fun e => Nat.lt_irrefl _ (h2.lt _ e)⟩
    · exact h7 x hx
  · rcases List.mem_cons.1 hx with rfl | hx
    · exact Bk.new w t cs
    · exact h'.bk x hx
theorem St.less (h : St W g z n1 m1 n2 m2 v m L w) : St W g z n1 m1 n2 m2 v m [] w := by
  obtain ⟨F, G, h1, h2, h3, h4, h5, h6, h7⟩ := h.ex
  exact ⟨⟨F, G, h1, h2, h3, h4, h5, h6, fun x hx => by cases hx⟩, h.own, fun x hx => (by cases hx), h.bel⟩
end
end Go.Proofs.Ytiefhmbffmphdaa
