/- Several texts in one: A text as commands: rows of lines in memory. A text as commands: the scanner's line. -/
import Derived.Test.YtgohbkkeppknoaaGreatDoorCmdAllZz1
import Derived.BigRegion
import Derived.RegionTactic
section
set_option linter.unusedVariables false
namespace Go.Proofs.YtgohbkkeppknoaaGreatDoor
open Go.RowKit
/-- A row of texts, in a block of texts at B or above. -/
def RowS (w : World) (B : Nat) (A : Option Addr) (ws : List (List UInt8)) : Prop := ws = [] ∨ ∃ b o cs, A = some ⟨b, o, none⟩ ∧ B ≤ b ∧ Bk w b 9 cs ∧ ∀ i (h : i < ws.length), cs[o + i]? = some (strV ws[i])
theorem RowS.gb {w w' : World} {B g : Nat} {A : Option Addr} {ws : List (List UInt8)} {t : TypeId} {gs : Array Value} (h : RowS w B A ws) (hg : w.grownBy w' (some g)) (hK : Bk w g t gs) (ht : t ≠ 9) : RowS w' B A ws := by
  rcases h with h | ⟨b, o, cs, rfl, hB, hb, hx⟩
  · exact .inl h
  · refine .inr ⟨b, o, cs, rfl, hB, hb.grown hg ?_, hx⟩
    intro e
    injection e with e
    exact hb.ne_Bk hK (fun e => ht e.symm) e
theorem RowS.row {w w' : World} {B base n size : Nat} {v : Value} {e : TypeId} {xs : List Value} {A : Option Addr} {ws : List (List UInt8)} (h : RowS w B A ws) (ho : w.ownsRow base e size v n xs) (he : 9 ≠ e) (hg : w.grownBy w' v.ownBlock) : RowS w' B A ws := by
  rcases h with h | ⟨b, o, cs, rfl, hB, hb, hx⟩
  · exact .inl h
  · exact .inr ⟨b, o, cs, rfl, hB, hb.grown hg (fun e2 => hb.ne_own ho he b e2.symm rfl), hx⟩
theorem RowS.nx {w w' : World} {B : Nat} {A : Option Addr} {ws : List (List UInt8)} (h : RowS w B A ws) (hb : Below w.heap.size w w') : RowS w' B A ws := by
  rcases h with h | ⟨b, o, cs, rfl, hB, hk, hx⟩
  · exact .inl h
  · exact .inr ⟨b, o, cs, rfl, hB, hk.nx hb, hx⟩
theorem RowS.rd {w : World} {B : Nat} {A : Option Addr} {ws : List (List UInt8)} (h : RowS w B A ws) : Rd w w.heap.size A ((ws.map (fun l => (⟨l.toArray⟩ : ByteArray))).map Value.string) := by
  rcases h with rfl | ⟨b, o, cs, rfl, hB, hk, hx⟩
  · exact Rd.nil
  · intro i hi
    have hi' : i < ws.length := by simpa using hi
    refine ⟨b, o, rfl, hk.lt, ?_⟩
    rw [hk.cell, hx i hi']
    simp [strV]
/-- The row of lines: each line's cells are its number and its words. -/
def LinesAt (t : TypeId) (w : World) (B : Nat) (vo : Value) (D : List (List (List UInt8))) : Prop := ∃ xs : List Value, w.ownsRow B t 2 vo D.length xs ∧ xs.length = 2 * D.length ∧ ∀ j (h : j < D.length), ∃ (nj : Int) (A : Option Addr) (c : Nat), xs[2 * j]? = some (.int .i64 nj) ∧ xs[2 * j + 1]? = some (.slice A D[j].length c) ∧ D[j].length ≤ c ∧ RowS w B A D[j]
theorem LinesAt.nil (t : TypeId) (w : World) (B : Nat) : LinesAt t w B (.slice none 0 0) [] := ⟨[], World.ownsRow_nil _ _ _ _, rfl, fun j h => absurd h (by simp)⟩
theorem LinesAt.gb {t t2 : TypeId} {w w' : World} {B g : Nat} {vo : Value} {D : List (List (List UInt8))} {gs : Array Value} (h : LinesAt t w B vo D) (hg : w.grownBy w' (some g)) (hK : Bk w g t2 gs) (ht : t2 ≠ 9) (ht2 : t2 ≠ t) : LinesAt t w' B vo D := by
  obtain ⟨xs, h1, h2, h3⟩ := h
  refine ⟨xs, own_gb50 h1 hg (fun b hb e => ?_), h2, fun j hj => ?_⟩
  · injection e with e
    subst e
    exact hK.ne_own h1 ht2 _ hb rfl
  · obtain ⟨nj, A, c, a1, a2, a3, a4⟩ := h3 j hj
    exact ⟨nj, A, c, a1, a2, a3, a4.gb hg hK ht⟩
theorem LinesAt.nx {t : TypeId} {w w' : World} {B : Nat} {vo : Value} {D : List (List (List UInt8))} (h : LinesAt t w B vo D) (hb : Below w.heap.size w w') : LinesAt t w' B vo D := by
  obtain ⟨xs, h1, h2, h3⟩ := h
  exact ⟨xs, own_below h1 hb (Nat.le_refl _), h2, fun j hj => by obtain ⟨nj, A, c, a1, a2, a3, a4⟩ := h3 j hj; exact ⟨nj, A, c, a1, a2, a3, a4.nx hb⟩⟩
/-- One line more. -/
theorem LinesAt.app {t : TypeId} {w w' : World} {B : Nat} {vo vo' : Value} {D : List (List (List UInt8))} {xs : List Value} {nj : Int} {A : Option Addr} {c : Nat} {ws : List (List UInt8)} (h : w.ownsRow B t 2 vo D.length xs) (hl : xs.length = 2 * D.length)
    (hx : ∀ j (h : j < D.length), ∃ (nj : Int) (A : Option Addr) (c : Nat), xs[2 * j]? = some (.int .i64 nj) ∧ xs[2 * j + 1]? = some (.slice A D[j].length c) ∧ D[j].length ≤ c ∧ RowS w B A D[j]) (ht : 9 ≠ t)
    (hg : w.grownBy w' vo.ownBlock) (ho : w'.ownsRow B t 2 vo' (D.length + 1) (xs ++ [.int .i64 nj, .slice A ws.length c])) (hc : ws.length ≤ c) (hr : RowS w B A ws) : LinesAt t w' B vo' (D ++ [ws]) := by
  refine ⟨_, by rw [List.length_append]; exact ho, by simp [hl]; omega, fun j hj => ?_⟩
  by_cases hlt : j < D.length
  · obtain ⟨n1, A1, c1, a1, a2, a3, a4⟩ := hx j hlt
    refine ⟨n1, A1, c1, ?_, ?_, ?_, ?_⟩
    · rw [List.getElem?_append_left (by omega)]; exact a1
    · rw [List.getElem?_append_left (by omega), List.getElem_append_left hlt]; exact a2
    · rw [List.getElem_append_left hlt]; exact a3
    · rw [List.getElem_append_left hlt]; exact a4.row h ht hg
  · have hj2 : j = D.length := by simp at hj; omega
    subst hj2
    refine ⟨nj, A, c, ?_, ?_, ?_, ?_⟩
    · rw [List.getElem?_append_right (by omega), hl]; simp
    · rw [List.getElem?_append_right (by omega), hl]; simp
    · simpa using hc
    · simpa using hr.row h ht hg
/-- A row of one's own of texts is such a row. -/
theorem RowS.of_own {w : World} {base n c : Nat} {A : Option Addr} {ws : List (List UInt8)} {xs : List Value} (h : w.ownsRow base 9 1 (.slice A n c) n xs) (hx : xs = ws.map strV) (hn : ws.length = n) : RowS w base A ws := by
  rcases ws with _ | ⟨l, r⟩
  · exact .inl rfl
  · rcases h.2 with ⟨h1, h2⟩ | ⟨g, cap, cur, hv, hB, hh, _, _, hs, htk⟩
    · rw [h2] at hn; simp at hn
    · injection hv with hv
      refine .inr ⟨g, 0, cur, hv, hB, hh, fun i hi => ?_⟩
      have hi2 : i < xs.length := by rw [hx, List.length_map]; exact hi
      have e : cur.toList[i]? = xs[i]? := by rw [← htk, List.getElem?_take]; rw [if_pos (by rw [← hn]; omega)]
      rw [Nat.zero_add, ← Array.getElem?_toList, e, hx, List.getElem?_map, List.getElem?_eq_getElem hi]
      rfl
end Go.Proofs.YtgohbkkeppknoaaGreatDoor
end
section
set_option linter.unusedVariables false
namespace Go.Proofs.YtgohbkkeppknoaaGreatDoor
open Go.RowKit
theorem li_size : (Tryz.prog.info? 88).map (·.size) = some 2 := by kernel_rfl
theorem str_info : (Tryz.prog.info? 9).map (fun i => (i.zero, i.size, i.bytes)) = some (some (.string ⟨#[]⟩), 1, 16) := by kernel_rfl
theorem li_info : (Tryz.prog.info? 88).map (fun i => (i.zero.map Value.cells, i.size, i.bytes)) = some (some #[.int .i64 0, .slice none 0 0], 2, 32) := by kernel_rfl
theorem dropB (S : ByteArray) (p q : Nat) : (bl S).drop (p + q) = ((bl S).drop p).drop q := by rw [List.drop_drop]
theorem skB_le (S : ByteArray) (p : Nat) (hp : p ≤ S.size) : p ≤ skB S p ∧ skB S p ≤ S.size := by
  have := span_le isBl ((bl S).drop p)
  rw [List.length_drop, bl_len] at this
  unfold skB; omega
theorem skP_le (S : ByteArray) (p : Nat) (hp : p ≤ S.size) : p ≤ skP S p ∧ skP S p ≤ S.size := by
  have h1 := skB_le S p hp
  have := span_le isNl ((bl S).drop (skB S p))
  rw [List.length_drop, bl_len] at this
  unfold skP
  split <;> omega
theorem tok_skip : ∀ (l : List UInt8), tokR (lnO (l.drop (spanM isBl l))) [] = tokR (lnO l) [] ∧ nxO (l.drop (spanM isBl l)) = nxO l
  | [] => ⟨rfl, rfl⟩
  | b :: r => by
    cases hb : isBl b with
    | false =>
      have e : spanM isBl (b :: r) = 0 := by simp [spanM, List.takeWhile, hb]
      rw [e]; exact ⟨rfl, rfl⟩
    | true =>
      have e : spanM isBl (b :: r) = spanM isBl r + 1 := by simp [spanM, List.takeWhile, hb]
      rw [e, List.drop_succ_cons, tok_blank hb, nx_cons (bl_ten hb).1]
      exact tok_skip r
theorem nx_eq (l : List UInt8) : l.drop (spanM isNl l) = nxO l := by
  rw [← (span_take isNl l).2]; rfl
theorem nx_head (l : List UInt8) : nxO l = [] ∨ ∃ r, nxO l = 10 :: r := by
  induction l with
  | nil => exact .inl rfl
  | cons b r ih =>
    by_cases h : b = 10
    · subst h; exact .inr ⟨r, by simp [nxO, List.dropWhile]⟩
    · rw [nx_cons h]; exact ih
/-- Past blanks and a remark. -/
theorem tok_skP (S : ByteArray) (p : Nat) (hp : p ≤ S.size) : tokR (lnO ((bl S).drop (skP S p))) [] = tokR (lnO ((bl S).drop p)) [] ∧ nxO ((bl S).drop (skP S p)) = nxO ((bl S).drop p) := by
  have h1 : tokR (lnO ((bl S).drop (skB S p))) [] = tokR (lnO ((bl S).drop p)) [] ∧ nxO ((bl S).drop (skB S p)) = nxO ((bl S).drop p) := by
    unfold skB; rw [dropB]; exact tok_skip _
  unfold skP
  split
  · rename_i h35
    have h2 := nx_eq ((bl S).drop (skB S p))
    rw [dropB, h2]
    have h3 := nx_head ((bl S).drop (skB S p))
    have h4 := tok_end _ h3
    have hc : ∃ r, (bl S).drop (skB S p) = 35 :: r := by
      obtain ⟨hl, hg⟩ := List.getElem?_eq_some_iff.1 h35
      exact ⟨_, by rw [List.drop_eq_getElem_cons hl, hg]⟩
    obtain ⟨r, hr⟩ := hc
    rw [← h1.1, ← h1.2, hr, tok_rem]
    rw [hr] at h4
    exact ⟨h4.1, h4.2⟩
  · exact h1
theorem dw_head (f : UInt8 → Bool) : ∀ (l : List UInt8) (b : UInt8) (r : List UInt8), l.dropWhile f = b :: r → f b = false
  | [], b, r, h => by cases h
  | a :: l, b, r, h => by
    cases ha : f a with
    | true => simp only [List.dropWhile, ha] at h; exact dw_head f l b r h
    | false =>
      simp only [List.dropWhile, ha] at h
      injection h with h _
      subst h
      exact ha
/-- What stands there is no blank, and no remark. -/
theorem skP_head (S : ByteArray) (p : Nat) (b : UInt8) (r : List UInt8) (h : (bl S).drop (skP S p) = b :: r) : b ≠ 35 ∧ isBl b = false := by
  have hB : ∀ b r, (bl S).drop (skB S p) = b :: r → isBl b = false := fun b r h => by
    unfold skB at h
    rw [dropB, ← (span_take isBl _).2] at h
    exact dw_head _ _ _ _ h
  unfold skP at h
  split at h
  · rename_i h35
    rw [dropB, nx_eq] at h
    rcases nx_head ((bl S).drop (skB S p)) with h2 | ⟨r2, h2⟩
    · rw [h2] at h; cases h
    · rw [h2] at h; injection h with h _; subst h; exact ⟨by decide, by decide⟩
  · rename_i h35
    refine ⟨fun e => h35 ?_, hB b r h⟩
    subst e
    have hl : skB S p < (bl S).length := by
      rcases Nat.lt_or_ge (skB S p) (bl S).length with h3 | h3
      · exact h3
      · rw [List.drop_eq_nil_of_le h3] at h; cases h
    rw [List.drop_eq_getElem_cons hl] at h
    injection h with h _
    rw [List.getElem?_eq_getElem hl, h]
theorem tok_marks : ∀ (l cur : List UInt8), tokR (lnO l) cur = tokR (lnO (l.drop (spanM isMk l))) (cur ++ l.takeWhile isMk) ∧ nxO (l.drop (spanM isMk l)) = nxO l
  | [], cur => ⟨by simp [spanM], rfl⟩
  | b :: r, cur => by
    cases hb : isMk b with
    | false =>
      have e : spanM isMk (b :: r) = 0 := by simp [spanM, List.takeWhile, hb]
      rw [e]; simp [List.takeWhile, hb]
    | true =>
      have e : spanM isMk (b :: r) = spanM isMk r + 1 := by simp [spanM, List.takeWhile, hb]
      have ih := tok_marks r (cur ++ [b])
      rw [e, List.drop_succ_cons, tok_mark hb, nx_cons (mk_ten hb).1, ih.1, ih.2]
      simp [List.takeWhile, hb]
theorem mark_end (l : List UInt8) (b : UInt8) (r : List UInt8) (h : l.drop (spanM isMk l) = b :: r) : isMk b = false := by
  rw [← (span_take isMk _).2] at h
  exact dw_head _ _ _ _ h
/-- A word more. -/
theorem tok_next (S : ByteArray) (p : Nat) (hp : p ≤ S.size) (wd : List UInt8) (hw : ((bl S).drop (skP S p)).takeWhile isMk = wd) (hne : wd ≠ []) :
    tokR (lnO ((bl S).drop p)) [] = (tokR (lnO ((bl S).drop (skP S p + spanM isMk ((bl S).drop (skP S p))))) []).map ([wd] ++ ·) ∧ nxO ((bl S).drop (skP S p + spanM isMk ((bl S).drop (skP S p)))) = nxO ((bl S).drop p) := by
  have h1 := tok_skP S p hp
  have h2 := tok_marks ((bl S).drop (skP S p)) []
  rw [List.nil_append, hw] at h2
  rw [dropB, ← h1.1, ← h1.2, h2.1]
  exact ⟨tok_word _ _ hne (fun b r h => mark_end _ b r h), h2.2⟩
/-- No word more. -/
theorem tok_last (S : ByteArray) (p : Nat) (hp : p ≤ S.size) (hw : ((bl S).drop (skP S p)).takeWhile isMk = []) :
    (((bl S)[skP S p]? = none ∨ (bl S)[skP S p]? = some 10) → tokR (lnO ((bl S).drop p)) [] = some [] ∧ (bl S).drop (skP S p) = nxO ((bl S).drop p)) ∧ (∀ b, (bl S)[skP S p]? = some b → b ≠ 10 → tokR (lnO ((bl S).drop p)) [] = none) := by
  have h1 := tok_skP S p hp
  constructor
  · intro h
    have hd : (bl S).drop (skP S p) = [] ∨ ∃ r, (bl S).drop (skP S p) = 10 :: r := by
      rcases h with h | h
      · left; exact List.drop_eq_nil_of_le (List.getElem?_eq_none_iff.1 h)
      · obtain ⟨hl, hg⟩ := List.getElem?_eq_some_iff.1 h
        exact .inr ⟨_, by rw [List.drop_eq_getElem_cons hl, hg]⟩
    have h2 := tok_end _ hd
    rw [← h1.1, ← h1.2]
    exact ⟨h2.1, h2.2.symm⟩
  · intro b hb h10
    obtain ⟨hl, hg⟩ := List.getElem?_eq_some_iff.1 hb
    have hd : (bl S).drop (skP S p) = b :: (bl S).drop (skP S p + 1) := by rw [List.drop_eq_getElem_cons hl, hg]
    have h2 := skP_head S p b _ hd
    rw [← h1.1, hd]
    refine tok_bad h10 h2.1 h2.2 ?_
    cases hm : isMk b with
    | false => rfl
    | true => rw [hd] at hw; simp [List.takeWhile, hm] at hw
end Go.Proofs.YtgohbkkeppknoaaGreatDoor
end
