/- Several texts in one: A region that draws its order: each operation once, over what it leans on. Plain mathematics of digits of base 32768: values, normal forms, sums, rests, products, trial digits. No program in sight. -/
import Derived.Test.YtgohbkkeppknoaaGreatDoorCmdParsesZz1
import Derived.StillTail
section
set_option linter.unusedVariables false
namespace Go.Proofs.YtgohbkkeppknoaaGreatDoor
open Go.RowKit
/-- The act with these values laid, one for each operation. -/
def puts (a : Act) : List (Option Tmp) → (Nat → Value) → Nat → Act
  | [], _, _ => a
  | d :: D, y, k => puts (a.put d (y k)) D y (k + 1)
def updV (y : Nat → Value) (i : Nat) (v : Value) : Nat → Value := fun j => if j = i then v else y j
theorem updV_same (y : Nat → Value) (i : Nat) (v : Value) : updV y i v i = v := if_pos rfl
theorem updV_other (y : Nat → Value) (i : Nat) (v : Value) {j : Nat} (h : j ≠ i) : updV y i v j = y j := if_neg h
theorem StepTo.mono {P : Program} {ops : Array Oper} {o : Oper} {K K' : Act → World → Prop} {a : Act} {w : World} (h : ∀ a w, K a w → K' a w) (hs : StepTo P ops o K a w) : StepTo P ops o K' a w := by
  unfold StepTo at hs ⊢
  simp only [wpList] at hs ⊢
  split
  · rename_i hw
    rw [if_pos hw] at hs
    rcases hs with hs | ⟨_, hs⟩
    · exact .inl (Oper.wp_mono (fun a w hk => ⟨trivial, h _ _ hk⟩) (Oper.wp_alone hs))
    · obtain ⟨_, _, h1, _⟩ := hs; cases h1
  · rename_i hw
    rw [if_neg hw] at hs
    exact ⟨trivial, h _ _ hs.2⟩
/-- Whether A are operations on which s leans, each through s or an earlier one. -/
def leans (l : List Oper) (s : Nat) : List Nat → List Nat → Bool
  | _, [] => true
  | B, i :: A => ((s :: B).any fun j => match l[j]? with | none => false | some o => o.after.any fun e => Region.binds .any e && decide (e.on = i)) && leans l s (i :: B) A
theorem leans_done {l : List Oper} {s : Nat} {ls : Array Bool} (hc : ∀ i o, l[i]? = some o → ls.getD i false = true → ∀ e ∈ o.after, Region.binds .any e = true → ls.getD e.on false = true) (hs : ls.getD s false = true) :
    ∀ (A B : List Nat), (∀ j ∈ B, ls.getD j false = true) → leans l s B A = true → ∀ i ∈ A, ls.getD i false = true
  | [], _, _, _, i, hi => absurd hi (by simp)
  | k :: A, B, hB, h, i, hi => by
    simp only [leans, Bool.and_eq_true] at h
    have hk : ls.getD k false = true := by
      obtain ⟨j, hj, h1⟩ := List.any_eq_true.1 h.1
      have hj2 : ls.getD j false = true := by
        rcases List.mem_cons.1 hj with e | e
        · subst e; exact hs
        · exact hB j e
      split at h1
      · cases h1
      · rename_i o ho
        obtain ⟨e, he, h2⟩ := Array.any_eq_true'.1 h1
        simp only [Bool.and_eq_true, decide_eq_true_eq] at h2
        rw [← h2.2]
        exact hc j o ho hj2 e he h2.1
    rcases List.mem_cons.1 hi with e | e
    · subst e; exact hk
    · exact leans_done hc hs A (k :: B) (fun j hj => by rcases List.mem_cons.1 hj with e | e; subst e; exact hk; exact hB j e) h.2 i e
/-- Region by what each operation tells: F i v v' w: what is so of operation i's value, of its partner's (an operation on which it leans, or itself), and of the world; G b: what is so of the world, b: whether s has been done (the one that writes over what others read; its forerunners A come before it). -/
theorem wp_region_dag {P : Program} {id : Nat} {l : List Oper} {Q : Exit → Act → World → Prop} {a : Act} {w : World} (D : List (Option Tmp)) (y0 : Nat → Value) (s : Nat) (A : List Nat) (p : Nat → Nat) (F : Nat → Value → Value → World → Prop) (G : Bool → World → Prop) (hm : P.follows .mixedOrders = true)
    (hb : ((List.range l.length).all fun i => match l[i]? with | none => true | some o => o.after.all fun e => !Region.binds .any e || decide (e.on < i)) = true)
    (hA : leans l s [] A = true) (hp : ((List.range l.length).all fun i => match l[i]? with | none => true | some o => decide (p i = i) || o.after.any fun e => Region.binds .any e && decide (e.on = p i)) = true)
    (h0 : puts a D y0 0 = a) (hG0 : G false { w with drawn := w.drawn + 1 })
    (hstep : ∀ i o y wr b, l[i]? = some o → G b wr → (i ∈ A ∨ i = s → b = false ∧ y s = y0 s) → (∀ e ∈ o.after, Region.binds .any e = true → F e.on (y e.on) (y (p e.on)) wr) →
      StepTo P l.toArray o (fun A' w' => ∃ v, A' = puts a D (updV y i v) 0 ∧ F i v (if p i = i then v else y (p i)) w' ∧ G (b || decide (i = s)) w' ∧ ∀ j x x', F j x x' wr → F j x x' w') (puts a D y 0) wr)
    (hend : ∀ y wr b, G b wr → (∀ i, i < l.length → F i (y i) (y (p i)) wr) → (s < l.length → b = true) → Q .normal (puts a D y 0) wr) : (Code.region id l.toArray true).wp P Q a w := by
  refine wp_region_inv (fun ls A' wr => ls.size = l.length ∧ (∀ i o, l[i]? = some o → ls.getD i false = true → ∀ e ∈ o.after, Region.binds .any e = true → ls.getD e.on false = true) ∧ G (ls.getD s false) wr ∧ ∃ y, A' = puts a D y 0 ∧ (∀ i, ls.getD i false = false → y i = y0 i) ∧ ∀ i, ls.getD i false = true → F i (y i) (y (p i)) wr) hm hb (fun ls A wr h => h.1)
    ⟨by simp, (fun i o _ hi => by rw [getD_replicate_false] at hi; cases hi), (by rw [getD_replicate_false]; exact hG0), y0, h0.symm, (fun _ _ => rfl), (fun i hi => by rw [getD_replicate_false] at hi; cases hi)⟩ ?_ ?_
  · rintro ls A' wr i o ⟨hz, hcl, hG, y, rfl, hun, hF⟩ ho hl hall
    have hil : i < ls.size := by rw [hz]; exact (List.getElem?_eq_some_iff.1 ho).1
    have hlf : ls.getD i false = false := by simpa [Array.getD, hil] using hl
    have hset : ∀ j, (ls.setIfInBounds i true).getD j false = if j = i then true else ls.getD j false := fun j => by
      simp only [Array.getD_eq_getD_getElem?, Array.getElem?_setIfInBounds]
      by_cases hji : j = i
      · subst hji; simp [hil]
      · rw [if_neg (fun e => hji e.symm), if_neg hji]
    refine (hstep i o y wr _ ho hG (fun hi => ?_) (fun e he hbd => hF e.on (hall e he hbd))).mono ?_
    · have hsf : ls.getD s false = false := by
        cases hs : ls.getD s false with
        | false => rfl
        | true =>
          rcases hi with hi | hi
          · rw [leans_done hcl hs A [] (fun j hj => absurd hj (by simp)) hA i hi] at hlf; cases hlf
          · subst hi; rw [hs] at hlf; cases hlf
      exact ⟨hsf, hun s hsf⟩
    · rintro A2 w' ⟨v, rfl, hFv, hG', hst⟩
      refine ⟨by simpa using hz, fun j oj hoj hj e he hbd => ?_, ?_, updV y i v, rfl, fun j hj => ?_, fun j hj => ?_⟩
      · rw [hset] at hj ⊢
        split
        · rfl
        · by_cases hji : j = i
          · subst hji
            rw [ho] at hoj
            injection hoj with hoj
            subst hoj
            exact hall e he hbd
          · rw [if_neg hji] at hj
            exact hcl j oj hoj hj e he hbd
      · rw [hset]
        by_cases hsi : s = i
        · subst hsi; simpa using hG'
        · rw [if_neg hsi]
          rw [decide_eq_false (fun e => hsi e.symm), Bool.or_false] at hG'
          exact hG'
      · rw [hset] at hj
        split at hj
        · cases hj
        · rename_i hji
          rw [updV_other _ _ _ hji]
          exact hun j hj
      · rw [hset] at hj
        by_cases hji : j = i
        · subst hji
          rw [updV_same]
          by_cases hpj : p j = j
          · rw [if_pos hpj] at hFv
            rw [hpj, updV_same]
            exact hFv
          · rw [if_neg hpj] at hFv
            rw [updV_other _ _ _ hpj]
            exact hFv
        · rw [if_neg hji] at hj
          rw [updV_other _ _ _ hji]
          have hpi : p j ≠ i := fun e => by
            have hjl : j < l.length := by
              rcases Nat.lt_or_ge j l.length with h | h
              · exact h
              · rw [← hz] at h
                simp [Array.getD, Nat.not_lt.2 h] at hj
            have h1 := List.all_eq_true.1 hp j (List.mem_range.2 hjl)
            rw [List.getElem?_eq_getElem hjl] at h1
            simp only [Bool.or_eq_true, decide_eq_true_eq] at h1
            rcases h1 with h1 | h1
            · exact hji (h1.symm.trans e)
            · obtain ⟨e', he', h2⟩ := Array.any_eq_true'.1 h1
              simp only [Bool.and_eq_true, decide_eq_true_eq] at h2
              have := hcl j _ (List.getElem?_eq_getElem hjl) hj e' he' h2.1
              rw [h2.2, e, hlf] at this
              cases this
          rw [updV_other _ _ _ hpi]
          exact hst j _ _ (hF j hj)
  · rintro ls A' wr ⟨hz, hcl, hG, y, rfl, hun, hF⟩ hall
    have hd : ∀ i, i < l.length → ls.getD i false = true := fun i hi => by
      have h1 := hall i hi
      have h2 : i < ls.size := by omega
      simpa [Array.getD, h2] using h1
    exact hend y wr _ hG (fun i hi => hF i (hd i hi)) (fun h => hd s h)
theorem put_old (a : Act) (d : Option Tmp) (v : Value) (h : ∀ t, d = some t → v = a.tmps.getD t undef) : a.put d v = a := by
  cases d with
  | none => rfl
  | some t =>
    rw [h t rfl]
    have e : a.tmps.setIfInBounds t (a.tmps.getD t undef) = a.tmps := by
      apply Array.ext_getElem?
      intro i
      rw [Array.getElem?_setIfInBounds]
      split
      · rename_i e
        subst e
        split
        · rename_i h
          simp [h]
        · rename_i h
          rw [Array.getElem?_eq_none (by omega)]
      · rfl
    show ({ tmps := a.tmps.setIfInBounds t (a.tmps.getD t undef), defers := a.defers } : Act) = a
    rw [e]
/-- The slots' old values. -/
def oldV (a : Act) (D : List (Option Tmp)) (i : Nat) : Value := match D.getD i none with
  | none => undef
  | some t => a.tmps.getD t undef
theorem puts_old (a : Act) (y : Nat → Value) : ∀ (D : List (Option Tmp)) (k : Nat), (∀ i t, D[i]? = some (some t) → y (k + i) = a.tmps.getD t undef) → puts a D y k = a
  | [], _, _ => rfl
  | d :: D, k, h => by
    unfold puts
    rw [put_old a d (y k) (fun t ht => h 0 t (by rw [ht]; rfl))]
    exact puts_old a y D (k + 1) (fun i t hi => by
      have := h (i + 1) t (by simpa using hi)
      rw [← this]
      congr 1
      omega)
/-- The same, with the slots and their old values read off the region. -/
theorem wp_region_dag' {P : Program} {id : Nat} {l : List Oper} {Q : Exit → Act → World → Prop} {a : Act} {w : World} (s : Nat) (A : List Nat) (p : Nat → Nat) (F : Nat → Value → Value → World → Prop) (G : Bool → World → Prop) (hm : P.follows .mixedOrders = true)
    (hb : ((List.range l.length).all fun i => match l[i]? with | none => true | some o => o.after.all fun e => !Region.binds .any e || decide (e.on < i)) = true)
    (hA : leans l s [] A = true) (hp : ((List.range l.length).all fun i => match l[i]? with | none => true | some o => decide (p i = i) || o.after.any fun e => Region.binds .any e && decide (e.on = p i)) = true)
    (hG0 : G false { w with drawn := w.drawn + 1 })
    (hstep : ∀ (K : Act → World → Prop) i o y wr b, l[i]? = some o → G b wr → (i ∈ A ∨ i = s → b = false ∧ y s = oldV a (l.map (·.dst)) s) → (∀ e ∈ o.after, Region.binds .any e = true → F e.on (y e.on) (y (p e.on)) wr) →
      (∀ v w', F i v (if p i = i then v else y (p i)) w' → G (if i = s then true else b) w' → (∀ j x x', F j x x' wr → F j x x' w') → K (puts a (l.map (·.dst)) (updV y i v) 0) w') → StepTo P l.toArray o K (puts a (l.map (·.dst)) y 0) wr)
    (hend : ∀ y wr b, G b wr → (∀ i, i < l.length → F i (y i) (y (p i)) wr) → (s < l.length → b = true) → Q .normal (puts a (l.map (·.dst)) y 0) wr) : (Code.region id l.toArray true).wp P Q a w := by
  refine wp_region_dag (l.map (·.dst)) (oldV a (l.map (·.dst))) s A p F G hm hb hA hp (puts_old a _ _ 0 (fun i t hi => ?_)) hG0 ?_ hend
  · unfold oldV
    rw [Nat.zero_add, List.getD_eq_getElem?_getD, hi]
    rfl
  · intro i o y wr b ho hG hs hd
    refine hstep _ i o y wr b ho hG hs hd ?_
    intro v w' h1 h2 h3
    refine ⟨v, rfl, h1, ?_, h3⟩
    by_cases his : i = s
    · rw [if_pos his] at h2
      rw [decide_eq_true his, Bool.or_true]
      exact h2
    · rw [if_neg his] at h2
      rw [decide_eq_false his, Bool.or_false]
      exact h2
end Go.Proofs.YtgohbkkeppknoaaGreatDoor
end
section
set_option linter.unusedVariables false
namespace Go.Proofs.YtgohbkkeppknoaaGreatDoor
/-- The value of digits, the lowest one first. -/
def vd : List Int → Int
  | [] => 0
  | d :: l => d + 32768 * vd l
def okd (l : List Int) : Prop := ∀ d ∈ l, 0 ≤ d ∧ d ≤ 32767
/-- Digits without noughts at the end. -/
def Norm (l : List Int) : Prop := okd l ∧ ∀ d, l.getLast? = some d → d ≠ 0
/-- 32768 to the power of n. -/
def Bp : Nat → Int
  | 0 => 1
  | n + 1 => 32768 * Bp n
theorem Bp_pos (n : Nat) : 1 ≤ Bp n := by
  induction n with
  | zero => simp [Bp]
  | succ n ih => rw [Bp]; omega
theorem Bp_add (m n : Nat) : Bp (m + n) = Bp m * Bp n := by
  induction m with
  | zero => simp [Bp]
  | succ m ih => rw [Nat.succ_add, Bp, Bp, ih, Int.mul_assoc]
theorem Bp_mono {m n : Nat} (h : m ≤ n) : Bp m ≤ Bp n := by
  obtain ⟨k, rfl⟩ := Nat.exists_eq_add_of_le h
  rw [Bp_add]
  have h1 := Bp_pos m
  have h2 := Bp_pos k
  have := Int.mul_le_mul_of_nonneg_left h2 (by omega : 0 ≤ Bp m)
  omega
theorem okd_nil : okd [] := fun d h => by cases h
theorem okd_cons {d : Int} {l : List Int} : okd (d :: l) ↔ (0 ≤ d ∧ d ≤ 32767) ∧ okd l := by simp [okd]
theorem okd_append {l m : List Int} : okd (l ++ m) ↔ okd l ∧ okd m := by
  simp only [okd, List.mem_append]
  exact ⟨fun h => ⟨fun d hd => h d (.inl hd), fun d hd => h d (.inr hd)⟩, fun h d hd => hd.elim (h.1 d) (h.2 d)⟩
theorem okd_take {l : List Int} (h : okd l) (n : Nat) : okd (l.take n) := fun d hd => h d (List.mem_of_mem_take hd)
theorem okd_drop {l : List Int} (h : okd l) (n : Nat) : okd (l.drop n) := fun d hd => h d (List.mem_of_mem_drop hd)
theorem vd_nonneg {l : List Int} (h : okd l) : 0 ≤ vd l := by
  induction l with
  | nil => simp [vd]
  | cons d l ih => rw [okd_cons] at h; rw [vd]; have := ih h.2; omega
theorem vd_lt {l : List Int} (h : okd l) : vd l < Bp l.length := by
  induction l with
  | nil => simp [vd, Bp]
  | cons d l ih => rw [okd_cons] at h; rw [vd, List.length_cons, Bp]; have := ih h.2; omega
theorem vd_append (l m : List Int) : vd (l ++ m) = vd l + Bp l.length * vd m := by
  induction l with
  | nil => simp [vd, Bp]
  | cons d l ih => rw [List.cons_append, vd, vd, ih, List.length_cons, Bp, Int.mul_add, Int.mul_assoc]; omega
theorem vd_snoc (l : List Int) (d : Int) : vd (l ++ [d]) = vd l + Bp l.length * d := by rw [vd_append]; simp [vd]
theorem vd_zeros (n : Nat) : vd (List.replicate n 0) = 0 := by
  induction n with
  | zero => rfl
  | succ n ih => rw [List.replicate_succ, vd, ih]; rfl
/-- The digits without the noughts at the end. -/
def tr (l : List Int) : List Int := (l.reverse.dropWhile (· == 0)).reverse
theorem tr_snoc (l : List Int) (d : Int) : tr (l ++ [d]) = if d = 0 then tr l else l ++ [d] := by
  unfold tr
  rw [List.reverse_append]
  simp only [List.reverse_cons, List.reverse_nil, List.nil_append, List.cons_append, List.dropWhile_cons]
  by_cases h : d = 0
  · simp [h]
  · simp [h]
theorem list_snoc {α : Type} (l : List α) (h : l ≠ []) : ∃ m d, l = m ++ [d] := ⟨l.dropLast, l.getLast h, (List.dropLast_concat_getLast h).symm⟩
theorem snoc_ind {α : Type} {P : List α → Prop} (h0 : P []) (h1 : ∀ l d, P l → P (l ++ [d])) : ∀ (n : Nat) (l : List α), l.length = n → P l := by
  intro n
  induction n with
  | zero => intro l hl; rw [List.eq_nil_of_length_eq_zero hl]; exact h0
  | succ n ih =>
    intro l hl
    obtain ⟨m, d, rfl⟩ := list_snoc l (by rintro rfl; simp at hl)
    exact h1 m d (ih m (by simpa using hl))
theorem tr_vd (l : List Int) : vd (tr l) = vd l := by
  refine snoc_ind (P := fun l => vd (tr l) = vd l) rfl (fun l d ih => ?_) _ l rfl
  rw [tr_snoc]
  split
  · rename_i h; subst h; rw [vd_snoc, ih]; omega
  · rfl
theorem tr_le (l : List Int) : (tr l).length ≤ l.length := by
  refine snoc_ind (P := fun l => (tr l).length ≤ l.length) (by simp [tr]) (fun l d ih => ?_) _ l rfl
  rw [tr_snoc]
  split
  · simp; omega
  · simp
theorem tr_take (l : List Int) : tr l = l.take (tr l).length := by
  refine snoc_ind (P := fun l => tr l = l.take (tr l).length) (by simp [tr]) (fun l d ih => ?_) _ l rfl
  rw [tr_snoc]
  split
  · rw [List.take_append_of_le_length (tr_le l)]; exact ih
  · rw [List.take_length]
theorem tr_norm {l : List Int} (h : okd l) : Norm (tr l) := by
  refine ⟨by rw [tr_take]; exact okd_take h _, ?_⟩
  refine snoc_ind (P := fun l => ∀ d, (tr l).getLast? = some d → d ≠ 0) (by simp [tr]) (fun l d ih => ?_) _ l rfl
  rw [tr_snoc]
  split
  · exact ih
  · rename_i hd; intro e he; simp at he; subst he; exact hd
/-- Trimming by one: what the loop does. -/
theorem tr_step (l : List Int) (k : Nat) (hk : k < l.length) : tr (l.take (k + 1)) = if l[k] = 0 then tr (l.take k) else l.take (k + 1) := by
  rw [List.take_succ_eq_append_getElem hk, tr_snoc]
theorem norm_nil : Norm [] := ⟨okd_nil, by simp⟩
theorem norm_pos {l : List Int} (h : Norm l) (hl : l ≠ []) : Bp (l.length - 1) ≤ vd l := by
  obtain ⟨m, d, rfl⟩ := list_snoc l hl
  have hd := h.2 d (by simp)
  have hok := okd_append.1 h.1
  have h1 := vd_nonneg hok.1
  have h2 := hok.2 d (by simp)
  rw [vd_snoc]
  simp only [List.length_append, List.length_cons, List.length_nil, Nat.zero_add, Nat.add_sub_cancel]
  have h3 := Bp_pos m.length
  have := Int.mul_le_mul_of_nonneg_left (show 1 ≤ d by omega) (by omega : 0 ≤ Bp m.length)
  omega
theorem norm_len {l : List Int} (h : Norm l) {n : Nat} (hv : vd l < Bp n) : l.length ≤ n := by
  by_cases hl : l = []
  · subst hl; simp
  · have h1 := norm_pos h hl
    rcases Nat.lt_or_ge n l.length with h2 | h2
    · exfalso
      have := Bp_mono (show n ≤ l.length - 1 by omega)
      omega
    · exact h2
theorem norm_zero {l : List Int} (h : Norm l) : l = [] ↔ vd l = 0 := by
  constructor
  · rintro rfl; rfl
  · intro hv
    by_cases hl : l = []
    · exact hl
    · have := norm_pos h hl; have := Bp_pos (l.length - 1); omega
theorem tr_self {l : List Int} (h : Norm l) : tr l = l := by
  by_cases hl : l = []
  · subst hl; rfl
  · obtain ⟨m, d, rfl⟩ := list_snoc l hl
    rw [tr_snoc, if_neg (h.2 d (by simp))]
/-- The i-th digit. -/
def dgt (l : List Int) (i : Nat) : Int := l[i]?.getD 0
theorem dgt_ok {l : List Int} (h : okd l) (i : Nat) : 0 ≤ dgt l i ∧ dgt l i ≤ 32767 := by
  unfold dgt
  by_cases hi : i < l.length
  · rw [List.getElem?_eq_getElem hi]; exact h _ (List.getElem_mem _)
  · rw [List.getElem?_eq_none (by omega)]; simp
theorem vd_take_succ (l : List Int) (k : Nat) : vd (l.take (k + 1)) = vd (l.take k) + Bp k * dgt l k := by
  by_cases hk : k < l.length
  · rw [List.take_succ_eq_append_getElem hk, vd_snoc]
    simp only [List.length_take, dgt, List.getElem?_eq_getElem hk, Option.getD_some]
    rw [Nat.min_eq_left (by omega)]
  · rw [List.take_of_length_le (by omega), List.take_of_length_le (by omega)]
    simp [dgt, List.getElem?_eq_none (by omega : l.length ≤ k)]
theorem vd_drop (l : List Int) (k : Nat) : vd (l.drop k) = dgt l k + 32768 * vd (l.drop (k + 1)) := by
  by_cases hk : k < l.length
  · rw [List.drop_eq_getElem_cons hk, vd]; simp [dgt, List.getElem?_eq_getElem hk]
  · rw [List.drop_eq_nil_of_le (by omega), List.drop_eq_nil_of_le (by omega)]
    simp [dgt, List.getElem?_eq_none (by omega : l.length ≤ k), vd]
theorem vd_split (l : List Int) (k : Nat) (hk : k ≤ l.length) : vd l = vd (l.take k) + Bp k * vd (l.drop k) := by
  conv => lhs; rw [← List.take_append_drop k l]
  rw [vd_append]; simp [Nat.min_eq_left hk]
theorem vd_set (l : List Int) (k : Nat) (x : Int) (hk : k < l.length) : vd (l.set k x) = vd l + Bp k * (x - dgt l k) := by
  induction l generalizing k with
  | nil => simp at hk
  | cons d l ih =>
    cases k with
    | zero => simp [vd, Bp, dgt]; omega
    | succ k =>
      simp only [List.set_cons_succ, vd, Bp]
      rw [ih k (by simpa using hk)]
      have : dgt (d :: l) (k + 1) = dgt l k := by simp [dgt]
      rw [this, Int.mul_add, Int.mul_assoc]; omega
theorem okd_set {l : List Int} (h : okd l) (k : Nat) (x : Int) (hx : 0 ≤ x ∧ x ≤ 32767) : okd (l.set k x) := by
  intro d hd
  rcases List.mem_or_eq_of_mem_set hd with h1 | h1
  · exact h d h1
  · subst h1; exact hx
theorem dgt_set (l : List Int) (k j : Nat) (x : Int) (hk : k < l.length) : dgt (l.set k x) j = if j = k then x else dgt l j := by
  unfold dgt
  rw [List.getElem?_set]
  by_cases h : k = j
  · subst h; simp [hk]
  · rw [if_neg h, if_neg (fun e => h e.symm)]
theorem Bp4 : Bp 4 = 1152921504606846976 := by decide
theorem Bp5 : Bp 5 = 37778931862957161709568 := by decide
theorem Bp20 : Bp 20 = 2037035976334486086268445688409378161051468393665936250636140449354381299763336706183397376 := by decide
theorem Bp40 : Bp 40 = 4149515568880992958512407863691161151012446232242436899995657329690652811412908146399707048947103794288197886611300789182395151075411775307886874834113963687061181803401509523685376 := by decide
theorem Bp39s : Bp 40 = 32768 * Bp 39 := rfl
theorem Bp38s : Bp 39 = 32768 * Bp 38 := rfl
theorem Bp1s (n : Nat) : Bp (n + 1) = 32768 * Bp n := rfl
theorem Bp0s : Bp 0 = 1 := rfl
attribute [irreducible] Bp
end Go.Proofs.YtgohbkkeppknoaaGreatDoor
end
