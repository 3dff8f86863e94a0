/- Rows of the reference's numbers. -/
import Derived.Test.YtebcienjeponmaaBig8
set_option linter.unusedVariables false
namespace Go.Proofs.Ytebcienjeponmaa
open Go.RowKit
def cel : Value → List Value | .agg cs => cs.toList | _ => []
def flat (vs : List Value) : List Value := vs.flatMap cel
/-- v is a row of numbers zs, as they lie in w, in blocks from lo on. -/
def Bigs (lo : Nat) (w : World) (v : Value) (zs : List Int) : Prop :=
  ∃ A c vs, v = .slice A zs.length c ∧ zs.length ≤ c ∧ c ≤ maxLen ∧ (A = none → c = 0) ∧ vs.length = zs.length ∧ RdL w lo A (flat vs) ∧ ∀ k, k < zs.length → BigN lo w (vs.getD k undef) (zs.getD k 0)
theorem flat_len (lo : Nat) (w : World) (vs : List Value) (zs : List Int) (hl : vs.length = zs.length) (h : ∀ k, k < zs.length → BigN lo w (vs.getD k undef) (zs.getD k 0)) : (flat vs).length = 2 * zs.length := by
  induction vs generalizing zs with
  | nil => cases zs <;> simp_all [flat]
  | cons v vs ih =>
    cases zs with
    | nil => simp at hl
    | cons z zs =>
      obtain ⟨s, A, n, c, e⟩ := (h 0 (by simp)).shape
      simp at e
      have := ih zs (by simpa using hl) (fun k hk => by simpa using h (k + 1) (by simpa using hk))
      simp only [flat, List.flatMap_cons, List.length_append, e, cel]
      simp only [flat] at this
      rw [this]
      simp; omega
theorem flat_get {lo : Nat} {w : World} (vs : List Value) (zs : List Int) (hl : vs.length = zs.length) (h : ∀ k, k < zs.length → BigN lo w (vs.getD k undef) (zs.getD k 0)) (k : Nat) (hk : k < zs.length) {s : Bool} {A : Option Addr} {n c : Nat} (hv : vs.getD k undef = .agg #[.bool s, .slice A n c]) :
    (flat vs)[2 * k]? = some (.bool s) ∧ (flat vs)[2 * k + 1]? = some (.slice A n c) := by
  induction vs generalizing zs k with
  | nil => simp at hl; omega
  | cons v vs ih =>
    cases zs with
    | nil => simp at hl
    | cons z zs =>
      obtain ⟨s0, A0, n0, c0, e⟩ := (h 0 (by simp)).shape
      simp at e
      subst e
      cases k with
      | zero => simp at hv; obtain ⟨rfl, rfl, rfl, rfl⟩ := hv; simp [flat, cel]
      | succ k =>
        have := ih zs (by simpa using hl) (fun k hk => by simpa using h (k + 1) (by simpa using hk)) k (by simpa using hk) (by simpa using hv)
        have e1 : 2 * (k + 1) = 2 * k + 2 := by omega
        rw [e1]
        simpa [flat, cel] using this
theorem Bigs.get {lo : Nat} {w : World} {A : Option Addr} {n c : Nat} {zs : List Int} (h : Bigs lo w (.slice A n c) zs) (k : Nat) (hk : k < zs.length) :
    ∃ b o s A' n' c', A = some ⟨b, o, none⟩ ∧ lo ≤ b ∧ b < w.heap.size ∧ w.cell? ⟨b, o + k * 2, none⟩ = some (.bool s) ∧ w.cell? ⟨b, o + k * 2 + 1, none⟩ = some (.slice A' n' c') ∧ BigN lo w (.agg #[.bool s, .slice A' n' c']) (zs.getD k 0) := by
  obtain ⟨A0, c0, vs, e, h1, h2, h3, h4, h5, h6⟩ := h
  injection e with e1 e2 e3
  subst e1
  obtain ⟨s, A', n', c', e⟩ := (h6 k hk).shape
  obtain ⟨g1, g2⟩ := flat_get vs zs h4 h6 k hk e
  have hl := flat_len lo w vs zs h4 h6
  obtain ⟨b, o, rfl, b1, b2, hc⟩ := h5 (2 * k) (by omega)
  obtain ⟨b', o', e', b1', b2', hc'⟩ := h5 (2 * k + 1) (by omega)
  injection e' with e'
  injection e' with e1 e2
  subst e1 e2
  rw [(List.getElem_eq_iff _).2 g1] at hc
  rw [(List.getElem_eq_iff _).2 g2] at hc'
  rw [Nat.mul_comm 2 k] at hc hc'
  exact ⟨b, o, s, A', n', c', rfl, b1, b2, hc, hc', by rw [← e]; exact h6 k hk⟩
theorem Bigs.keep {lo : Nat} {w w' : World} {B : Nat} {v : Value} {zs : List Int} (h : Bigs lo w v zs) (hb : Below B w w') (hB : w.heap.size ≤ B) : Bigs lo w' v zs := by
  obtain ⟨A0, c0, vs, e, h1, h2, h3, h4, h5, h6⟩ := h
  exact ⟨A0, c0, vs, e, h1, h2, h3, h4, h5.below hb hB, fun k hk => (h6 k hk).keep hb hB⟩
theorem Bigs.nx {lo : Nat} {w w' : World} {v : Value} {zs : List Int} (h : Bigs lo w v zs) (hb : Below w.heap.size w w') : Bigs lo w' v zs := h.keep hb (Nat.le_refl _)
theorem Bigs.less {lo lo' : Nat} {w : World} {v : Value} {zs : List Int} (h : Bigs lo w v zs) (hl : lo' ≤ lo) : Bigs lo' w v zs := by
  obtain ⟨A0, c0, vs, e, h1, h2, h3, h4, h5, h6⟩ := h
  exact ⟨A0, c0, vs, e, h1, h2, h3, h4, h5.less hl, fun k hk => (h6 k hk).less hl⟩
theorem Bigs.drew {lo : Nat} {w : World} {v : Value} {zs : List Int} (h : Bigs lo w v zs) : Bigs lo w.drew v zs := h.keep (Below.refl w.heap.size w).drew (Nat.le_refl _)
theorem Bigs.grown {lo : Nat} {w w' : World} {v : Value} {zs : List Int} {g : Nat} (h : Bigs lo w v zs) (hg : w.grownBy w' (some g)) (hr : g < lo ∨ w.heap.size ≤ g) : Bigs lo w' v zs := by
  obtain ⟨A0, c0, vs, e, h1, h2, h3, h4, h5, h6⟩ := h
  exact ⟨A0, c0, vs, e, h1, h2, h3, h4, h5.grown hg (fun g' e => by injection e with e; subst e; exact hr), fun k hk => (h6 k hk).grown hg hr⟩
theorem Bigs.form {lo : Nat} {w : World} {v : Value} {zs : List Int} (h : Bigs lo w v zs) : ∃ A c, v = .slice A zs.length c ∧ zs.length ≤ c ∧ c ≤ maxLen := by
  obtain ⟨A0, c0, vs, e, h1, h2, _⟩ := h
  exact ⟨A0, c0, e, h1, h2⟩
theorem Bigs.get2 {lo : Nat} {w wr : World} {A : Option Addr} {n c : Nat} {zs : List Int} (h : Bigs lo w (.slice A n c) zs) (hb : Below w.heap.size w wr) (k : Nat) (hk : k < zs.length) :
    ∃ b o s A' n' c', A = some ⟨b, o, none⟩ ∧ lo ≤ b ∧ b < w.heap.size ∧ wr.cell? ⟨b, o + k * 2, none⟩ = some (.bool s) ∧ wr.cell? ⟨b, o + k * 2 + 1, none⟩ = some (.slice A' n' c') ∧ BigN lo w (.agg #[.bool s, .slice A' n' c']) (zs.getD k 0) ∧ BigN lo wr (.agg #[.bool s, .slice A' n' c']) (zs.getD k 0) := by
  obtain ⟨b, o, s, A', n', c', e, b1, b2, c1, c2, hN⟩ := h.get k hk
  exact ⟨b, o, s, A', n', c', e, b1, b2, (hb.cell b2).trans c1, (hb.cell b2).trans c2, hN, hN.nx hb⟩
/-- The number's digits don't lie in the block g. -/
def Off (g : Option Nat) (v : Value) : Prop := ∀ s a n c, v = .agg #[s, .slice (some a) n c] → 0 < n → some a.block ≠ g
theorem BigN.off {lo : Nat} {w : World} {v : Value} {z : Int} (h : BigN lo w v z) {g : Option Nat} (hg : ∀ k, g = some k → k < lo ∨ w.heap.size ≤ k) : Off g v := by
  obtain ⟨A, c, l, rfl, h2, h3, h4, h5, h6, h7⟩ := h
  intro s a n c' e hn
  injection e with e
  have e2 := congrArg (fun x : Array Value => x[1]?) e
  simp at e2
  obtain ⟨rfl, rfl, rfl⟩ := e2
  obtain ⟨b, o, e3, b1, b2, _⟩ := h5 0 (by simpa using hn)
  injection e3 with e3
  subst e3
  intro hh
  have := hg _ hh.symm
  simp at this
  omega
theorem BigN.kept {lo : Nat} {w w' : World} {v : Value} {z : Int} {g : Option Nat} (h : BigN lo w v z) (ho : Off g v) (hg : w.grownBy w' g) : BigN lo w' v z := by
  obtain ⟨A, c, l, rfl, h2, h3, h4, h5, h6, h7⟩ := h
  refine ⟨A, c, l, rfl, h2, h3, h4, ?_, h6, h7⟩
  intro k hk
  obtain ⟨b, o, e, b1, b2, hc⟩ := h5 k hk
  refine ⟨b, o, e, b1, Nat.lt_of_lt_of_le b2 hg.size, ?_⟩
  refine (World.cell?_of_block (hg.block b b2 ?_)).trans hc
  exact ho _ ⟨b, o, none⟩ _ _ (by rw [e]) (by simp at hk; omega)
/-- A growing row of numbers: owned from base on. -/
def BigsO (lo base : Nat) (w : World) (v : Value) (zs : List Int) : Prop :=
  ∃ vs, vs.length = zs.length ∧ w.ownsRow base 42 2 v zs.length (flat vs) ∧ ∀ k, k < zs.length → BigN lo w (vs.getD k undef) (zs.getD k 0) ∧ Off v.ownBlock (vs.getD k undef)
theorem BigsO.nil (lo base : Nat) (w : World) : BigsO lo base w (.slice none 0 0) [] := ⟨[], rfl, World.ownsRow_nil _ _ _ _, fun k hk => absurd hk (by simp)⟩
theorem BigsO.bigs {lo base : Nat} {w : World} {v : Value} {zs : List Int} (h : BigsO lo base w v zs) (hlo : lo ≤ base) : Bigs lo w v zs := by
  obtain ⟨vs, h1, h2, h3⟩ := h
  have h4 := RdL.of_own (A := slA v) (c := 0) (n := zs.length) (w := w) (base := base) (e := 42) (size := 2) (xs := flat vs)
  obtain ⟨A, c, rfl, k1, k2, k3, k4, k5⟩ := own_form2 h2
  exact ⟨A, c, vs, rfl, k1, k2, k3, h1, (RdL.of_own h2).less hlo, fun k hk => (h3 k hk).1⟩
theorem BigsO.kept {lo base : Nat} {w w' : World} {v : Value} {zs : List Int} (h : BigsO lo base w v zs) (hg : w.grownBy w' none) : BigsO lo base w' v zs := by
  obtain ⟨vs, h1, h2, h3⟩ := h
  exact ⟨vs, h1, h2.kept hg (by cases v.ownBlock <;> simp), fun k hk => ⟨(h3 k hk).1.kept (fun s a n c e hn => by simp) hg, (h3 k hk).2⟩⟩
theorem BigsO.nx {lo base : Nat} {w w' : World} {v : Value} {zs : List Int} (h : BigsO lo base w v zs) (hb : Below w.heap.size w w') : BigsO lo base w' v zs :=
  h.kept ⟨hb.os, hb.tape, hb.output, hb.size, fun k hk _ => hb.block k hk⟩
theorem BigsO.lt {lo base : Nat} {w : World} {v : Value} {zs : List Int} (h : BigsO lo base w v zs) : ∀ k, v.ownBlock = some k → base ≤ k ∧ k < w.heap.size := by
  obtain ⟨vs, h1, h2, h3⟩ := h
  exact h2.lt
theorem big_info2 : (Try.prog.info? 42).map (fun i => (i.zero, i.size, i.bytes)) = some (some (.agg #[.bool false, .slice none 0 0]), 2, 32) := by kernel_rfl
theorem getD_snoc_lt {α : Type} (l : List α) (x d : α) (k : Nat) (h : k < l.length) : (l ++ [x]).getD k d = l.getD k d := by rw [List.getD_eq_getElem?_getD, List.getD_eq_getElem?_getD, List.getElem?_append_left h]
theorem getD_snoc_eq {α : Type} (l : List α) (x d : α) : (l ++ [x]).getD l.length d = x := by simp
/-- append(v, e): one number more. -/
theorem appBig {ops : Array Oper} {rest : List Oper} {o : Oper} {a : Act} {Q : Exit → Act → World → Prop} (hgd : o.guard = none) (s x : Operand)
    (ho : o.op = .call { callee := .builtin .append, args := #[s, x], argTypes := #[36, 36] })
    {w W : World} {B lo base g : Nat} {v : Value} {zs : List Int} {z : Int} {b : Bool} {A : Option Addr} {n c : Nat}
    (hK : Bk w g 42 #[.bool b, .slice A n c]) (hO : BigsO lo base w v zs) (hz : BigN lo w (.agg #[.bool b, .slice A n c]) z) (hoff : Off v.ownBlock (.agg #[.bool b, .slice A n c]))
    (hs : a.eval s = v) (hx : a.eval x = .slice (some ⟨g, 0, none⟩) 1 1)
    (hbel : Below B W w) (hB : B ≤ base) (hbase : base ≤ w.heap.size) (hlen : zs.length ≤ 100000)
    (h : ∀ v' w', BigsO lo base w' v' (zs ++ [z]) → Below B W w' → w.heap.size ≤ w'.heap.size → w.grownBy w' v.ownBlock → (v'.ownBlock = v.ownBlock ∨ v'.ownBlock = some w.heap.size) → wpList Try.prog ops Q rest (a.put o.dst v') w') :
    wpList Try.prog ops Q (o :: rest) a w := by
  obtain ⟨vs, h1, h2, h3⟩ := hO
  have hown : w.ownsRow 0 42 2 (.slice (some ⟨g, 0, none⟩) 1 1) 1 [.bool b, .slice A n c] := by
    exact ⟨rfl, .inr ⟨g, 1, _, rfl, Nat.zero_le _, hK, Nat.le_refl _, by simp [maxLen], rfl, rfl⟩⟩
  refine appR hgd s x _ ho Try.underlying36 big_info2 rfl (by omega) hs hx h2 hbel hB hbase (Rd.of_own hown) rfl (by simp [Value.oneCell']) (by omega) (by omega) ?_
  intro v' w' k1 k2 k3 k4 k5
  refine h v' w' ⟨vs ++ [.agg #[.bool b, .slice A n c]], by simp [h1], by simpa [flat, cel] using k1, ?_⟩ k2 k3 k4 k5
  intro k hk
  have hsep : ∀ e y, BigN lo w e y → Off v.ownBlock e → BigN lo w' e y ∧ Off v'.ownBlock e := fun e y he hoe => by
    refine ⟨he.kept hoe k4, ?_⟩
    rcases k5 with e5 | e5
    · rw [e5]; exact hoe
    · rw [e5]; exact he.off (fun k hk => by injection hk; omega)
  rcases Nat.lt_or_ge k zs.length with hlt | hge
  · rw [getD_snoc_lt _ _ _ _ (by omega), getD_snoc_lt _ _ _ _ hlt]
    exact hsep _ _ (h3 k hlt).1 (h3 k hlt).2
  · obtain rfl : k = vs.length := by simp at hk; omega
    rw [getD_snoc_eq, h1, getD_snoc_eq]
    exact hsep _ _ hz hoff
set_option maxHeartbeats 1000000 in
theorem bigs_of (A : Option Addr) (n c : Nat) (l : List Int) (w : World) {B : Nat} (hn : l.length = n) (hl : n ≤ 1000) (hr : Rd w B A (l.map (Value.int .i64))) (hB : B ≤ w.heap.size) (hok : ∀ z ∈ l, -9223372036854775808 ≤ z ∧ z ≤ 9223372036854775807) :
    Calls Try.prog 16 #[.slice A n c] w fun e w' => ∃ v, e = .returned v ∧ Bigs w.heap.size w' v l ∧ Below w.heap.size w w' := by
  have HOK := Lib.hid hok
  have HN := Lib.hid hn
  clear hok hn
  go_enter Try.func16, Try.ntmps16
  go_wp2_with fail
  go_loopw [3, 4] (fun v iv wr => ∃ k : Nat, k ≤ n ∧ iv = .int .i64 k ∧ BigsO w.heap.size w.heap.size wr v (l.take k) ∧ Below w.heap.size w wr) (fun _ iv _ => n - (intOf iv).toNat)
  case atStart => exact ⟨0, Nat.zero_le _, rfl, BigsO.nil _ _ _, Below.refl _ _⟩
  case round =>
    obtain ⟨k, hk, rfl, hO, hb⟩ := hrel
    rcases Nat.lt_or_ge k n with hlt | hge
    · obtain ⟨b, o, rfl, hb1, hc1⟩ := (hr.below' hb (by omega)).get k (by simp [HN.out]; omega)
      obtain ⟨z, hz⟩ : ∃ z, l[k]? = some z := ⟨l[k]'(by rw [HN.out]; exact hlt), by simp [HN.out, hlt]⟩
      have hc2 : wr.cell? ⟨b, o + k, none⟩ = some (.int .i64 z) := by
        rw [hc1]; congr 1
        rw [List.getElem_map]
        congr 1
        exact (List.getElem_eq_iff _).2 hz
      obtain ⟨hz1, hz2⟩ := HOK.out z (List.mem_of_getElem? hz)
      have HZ := Lib.hid hz
      clear hc1 hz
      have hbs := hb.size
      have hlt2 := hO.lt
      have HL2 := Lib.hid hlt2
      clear hlt2
      go_wp2_with (first
        | (go_at_call 39; (with_reducible refine (of_any z _ hz1 hz2).mono ?_); rintro e w1 ⟨v1, rfl, hN1, hb2⟩; obtain ⟨s1, A1, n1, c1, rfl⟩ := hN1.shape; have hoff1 := hN1.off (fun k hk => .inl (HL2.out k hk).2))
        | (at_builtin; go_loud (refine appBig rfl _ _ rfl (Bk.new w1 _ _) ((hO.nx hb2).nx ((Below.refl _ w1).alloc (Nat.le_refl _) _)) ((hN1.alloc _).less hbs) hoff1 rfl rfl (((hb.trans (hb2.mono hbs))).alloc (Nat.le_trans hbs hb2.size) _) (Nat.le_refl _) (by have := hb2.size; simp; omega) (by simp; omega) ?_); intro v' w' k1 k2 k3 k4 k5))
      have ht : l.take (k + 1) = l.take k ++ [z] := by rw [List.take_add_one, HZ.out]; rfl
      rw [← ht] at k1
      exact ⟨⟨k + 1, by omega, by go_num, k1, k2⟩, by simp only [intOf]; omega⟩
    · obtain rfl : k = n := by omega
      have hO2 := hO.bigs (Nat.le_refl _)
      rw [List.take_of_length_le (by rw [HN.out]; omega)] at hO2
      go_wp2_with fail
      go_returns
      exact ⟨_, rfl, hO2, hb⟩
end Go.Proofs.Ytebcienjeponmaa
