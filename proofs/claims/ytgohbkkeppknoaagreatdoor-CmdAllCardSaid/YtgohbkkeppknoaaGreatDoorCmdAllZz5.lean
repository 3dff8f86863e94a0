/- Several texts in one: A text as commands: rows of commands in memory; bounds. A text as commands: all of a text, by the program and by the reference (printed by wip/tools/gencql.py). -/
import Derived.Test.YtgohbkkeppknoaaGreatDoorCmdAllZz4
section
set_option linter.unusedVariables false
namespace Go.Proofs.YtgohbkkeppknoaaGreatDoor
open Go.RowKit
theorem tok_bd : ∀ (l cur : List UInt8) (ws : List (List UInt8)), tokR l cur = some ws → ws.length ≤ l.length + 1 ∧ ∀ x ∈ ws, x.length ≤ l.length + cur.length
  | [], cur, ws, h => by
    simp [tokR] at h
    subst h
    unfold fl
    split <;> simp
  | b :: r, cur, ws, h => by
    unfold tokR at h
    split at h
    · injection h with h; subst h; unfold fl; split <;> simp
    split at h
    · cases h1 : tokR r [] with
      | none => rw [h1] at h; cases h
      | some x =>
        rw [h1] at h
        simp at h
        have ih := tok_bd r [] x h1
        subst h
        refine ⟨by unfold fl; split <;> simp <;> omega, fun y hy => ?_⟩
        rcases List.mem_append.1 hy with h2 | h2
        · unfold fl at h2
          split at h2
          · cases h2
          · rw [List.mem_singleton.1 h2]; simp
        · have := ih.2 y h2; simp at this ⊢; omega
    split at h
    · have ih := tok_bd r (cur ++ [b]) ws h
      refine ⟨by have := ih.1; simp; omega, fun y hy => by have := ih.2 y hy; simp at this ⊢; omega⟩
    · cases h
theorem spl_bd : ∀ (l cur : List UInt8), ∀ x ∈ splN l cur, x.length ≤ l.length + cur.length
  | [], cur, x, h => by simp [splN] at h; simp [h]
  | b :: r, cur, x, h => by
    unfold splN at h
    split at h
    · rcases List.mem_cons.1 h with rfl | h
      · simp
      · have := spl_bd r [] x h; simp at this ⊢; omega
    · have := spl_bd r (cur ++ [b]) x h; simp at this ⊢; omega
theorem tokL_bd : ∀ (L : List (List UInt8)) (D : List (List (List UInt8))) (n : Nat), (∀ l ∈ L, l.length ≤ n) → tokL L = some D → ∀ ws ∈ D, ws.length ≤ n + 1 ∧ ∀ x ∈ ws, x.length ≤ n
  | [], D, n, h, hD, ws, hw => by simp [tokL] at hD; rw [hD] at hw; cases hw
  | l :: L, D, n, h, hD, ws, hw => by
    rw [tokL] at hD
    cases h1 : tokR l [] with
    | none => rw [h1] at hD; cases hD
    | some w =>
      rw [h1] at hD
      cases h2 : tokL L with
      | none => rw [h2] at hD; cases hD
      | some E =>
        rw [h2] at hD
        simp at hD
        subst hD
        rcases List.mem_cons.1 hw with rfl | hw
        · have := tok_bd l [] _ h1
          have hl := h l (by simp)
          exact ⟨by omega, fun x hx => by have := this.2 x hx; simp at this; omega⟩
        · exact tokL_bd L E n (fun x hx => h x (by simp [hx])) h2 ws hw
/-- The lines are few, and so are their words. -/
theorem linL_bd (S : List UInt8) : (linL S).length ≤ 4096 ∧ ∀ ws ∈ linL S, ws.length ≤ 65537 ∧ ∀ x ∈ ws, x.length ≤ 65536 := by
  unfold linL
  split
  · simp
  · rename_i h
    cases ht : tokT S with
    | none => simp
    | some D =>
      simp only
      split
      · simp
      · rename_i h4
        refine ⟨by omega, fun ws hw => ?_⟩
        have hm : ws ∈ D := (List.mem_filter.1 hw).1
        have := tokL_bd _ D S.length (fun l hl => by have := spl_bd S [] l hl; simpa using this) ht ws hm
        exact ⟨by omega, fun x hx => by have := this.2 x hx; omega⟩
def wdB (l : List (List UInt8)) : List ByteArray := l.map fun x => ⟨x.toArray⟩
/-- What the lines are, as commands. -/
def cmdL (S : List UInt8) : List CmdR := (linL S).map fun l => prs (wdB l)
def badK : List CmdR → Nat
  | [] => 0
  | R :: r => if R.L.isNone then 0 else badK r + 1
theorem badK_le : ∀ (l : List CmdR), badK l ≤ l.length
  | [] => Nat.le_refl _
  | R :: r => by have := badK_le r; unfold badK; split <;> simp <;> omega
theorem badK_hit : ∀ (l : List CmdR) (k : Nat) (h : k < l.length), (∀ j (hj : j < k), (l[j]'(by omega)).L.isSome = true) → l[k].L = none → badK l = k
  | R :: r, 0, h, h1, h2 => by
    have : R.L = none := h2
    simp [badK, this]
  | R :: r, k + 1, h, h1, h2 => by
    have h0 : R.L.isSome = true := h1 0 (by omega)
    have ih := badK_hit r k (by simpa using h) (fun j hj => h1 (j + 1) (by omega)) h2
    unfold badK
    rw [if_neg (by cases hR : R.L <;> simp [hR] at h0 ⊢), ih]
theorem badK_no : ∀ (l : List CmdR), (∀ j (hj : j < l.length), l[j].L.isSome = true) → badK l = l.length
  | [], _ => rfl
  | R :: r, h1 => by
    have h0 : R.L.isSome = true := h1 0 (by simp)
    have ih := badK_no r (fun j hj => h1 (j + 1) (by simpa using hj))
    unfold badK
    rw [if_neg (by cases hR : R.L <;> simp [hR] at h0 ⊢), ih]; rfl
def allE (S : List UInt8) : Int := if linC S ≠ 0 then linC S else match (cmdL S)[badK (cmdL S)]? with | none => 0 | some R => R.c
def allI (S : List UInt8) : Int := if linC S ≠ 0 then 0 else badK (cmdL S)
def allL (S : List UInt8) : List CmdR := if linC S ≠ 0 then [] else if badK (cmdL S) < (cmdL S).length then [] else cmdL S
/-- A row of numbers in a block at B or above. -/
def RowI (w : World) (B : Nat) (A : Option Addr) (L : List Int) : Prop := L = [] ∨ ∃ b o cs, A = some ⟨b, o, none⟩ ∧ B ≤ b ∧ Bk w b 2 cs ∧ ∀ i (h : i < L.length), cs[o + i]? = some (.int .i64 L[i])
theorem RowI.gb {w w' : World} {B g : Nat} {A : Option Addr} {L : List Int} {t : TypeId} {gs : Array Value} (h : RowI w B A L) (hg : w.grownBy w' (some g)) (hK : Bk w g t gs) (ht : t ≠ 2) : RowI w' B A L := by
  rcases h with h | ⟨b, o, cs, rfl, hB, hb, hx⟩
  · exact .inl h
  · refine .inr ⟨b, o, cs, rfl, hB, hb.grown hg ?_, hx⟩
    intro e
    injection e with e
    exact hb.ne_Bk hK (fun e => ht e.symm) e
theorem RowI.row {w w' : World} {B base n size : Nat} {v : Value} {e : TypeId} {xs : List Value} {A : Option Addr} {L : List Int} (h : RowI w B A L) (ho : w.ownsRow base e size v n xs) (he : 2 ≠ e) (hg : w.grownBy w' v.ownBlock) : RowI w' B A L := by
  rcases h with h | ⟨b, o, cs, rfl, hB, hb, hx⟩
  · exact .inl h
  · exact .inr ⟨b, o, cs, rfl, hB, hb.grown hg (fun e2 => hb.ne_own ho he b e2.symm rfl), hx⟩
theorem RowI.nx {w w' : World} {B : Nat} {A : Option Addr} {L : List Int} (h : RowI w B A L) (hb : Below w.heap.size w w') : RowI w' B A L := by
  rcases h with h | ⟨b, o, cs, rfl, hB, hk, hx⟩
  · exact .inl h
  · exact .inr ⟨b, o, cs, rfl, hB, hk.nx hb, hx⟩
theorem RowI.mono {w : World} {B B' : Nat} {A : Option Addr} {L : List Int} (h : RowI w B A L) (hB : B' ≤ B) : RowI w B' A L := by
  rcases h with h | ⟨b, o, cs, rfl, h1, h2, h3⟩
  · exact .inl h
  · exact .inr ⟨b, o, cs, rfl, by omega, h2, h3⟩
theorem RowI.rd {w : World} {B : Nat} {A : Option Addr} {L : List Int} (h : RowI w B A L) : Rd w w.heap.size A (L.map (Value.int .i64)) := by
  rcases h with rfl | ⟨b, o, cs, rfl, hB, hk, hx⟩
  · exact Rd.nil
  · intro i hi
    have hi' : i < L.length := by simpa using hi
    refine ⟨b, o, rfl, hk.lt, ?_⟩
    rw [hk.cell, hx i hi']
    simp
theorem RowI.of_own {w : World} {base n c : Nat} {A : Option Addr} {L : List Int} (h : w.ownsRow base 2 1 (.slice A n c) n (L.map (Value.int .i64))) (hn : L.length = n) : RowI w base A L := by
  rcases L with _ | ⟨l, r⟩
  · exact .inl rfl
  · rcases h.2 with ⟨h1, h2⟩ | ⟨g, cap, cur, hv, hB, hh, _, _, hs, htk⟩
    · rw [h2] at hn; simp at hn
    · injection hv with hv
      refine .inr ⟨g, 0, cur, hv, hB, hh, fun i hi => ?_⟩
      have hi2 : i < ((l :: r).map (Value.int .i64)).length := by rw [List.length_map]; exact hi
      have e : cur.toList[i]? = ((l :: r).map (Value.int .i64))[i]? := by rw [← htk, List.getElem?_take]; rw [if_pos (by rw [← hn]; omega)]
      rw [Nat.zero_add, ← Array.getElem?_toList, e, List.getElem?_map, List.getElem?_eq_getElem hi]
      rfl
/-- The row of commands: each command's cells. -/
def CmdsAt (t : TypeId) (w : World) (B : Nat) (vo : Value) (D : List CmdR) : Prop := ∃ xs : List Value, w.ownsRow B t 3 vo D.length xs ∧ xs.length = 3 * D.length ∧ ∀ j (h : j < D.length), ∃ (L : List Int) (A : Option Addr) (c : Nat), D[j].L = some L ∧ xs[3 * j]? = some (.int .i64 D[j].op) ∧ xs[3 * j + 1]? = some (.int .i64 D[j].k) ∧ xs[3 * j + 2]? = some (.slice A L.length c) ∧ RowI w B A L
theorem CmdsAt.nil (t : TypeId) (w : World) (B : Nat) : CmdsAt t w B (.slice none 0 0) [] := ⟨[], World.ownsRow_nil _ _ _ _, rfl, fun j h => absurd h (by simp)⟩
theorem CmdsAt.gb {t t2 : TypeId} {w w' : World} {B g : Nat} {vo : Value} {D : List CmdR} {gs : Array Value} (h : CmdsAt t w B vo D) (hg : w.grownBy w' (some g)) (hK : Bk w g t2 gs) (ht : t2 ≠ 2) (ht2 : ∀ b, vo.ownBlock = some b → b ≠ g) : CmdsAt t w' B vo D := by
  obtain ⟨xs, h1, h2, h3⟩ := h
  refine ⟨xs, own_gb50 h1 hg (fun b hb e => ?_), h2, fun j hj => ?_⟩
  · injection e with e
    exact ht2 b hb e
  · obtain ⟨L, A, c, a0, a1, a2, a3, a4⟩ := h3 j hj
    exact ⟨L, A, c, a0, a1, a2, a3, a4.gb hg hK ht⟩
theorem CmdsAt.nx {t : TypeId} {w w' : World} {B : Nat} {vo : Value} {D : List CmdR} (h : CmdsAt t w B vo D) (hb : Below w.heap.size w w') : CmdsAt t w' B vo D := by
  obtain ⟨xs, h1, h2, h3⟩ := h
  exact ⟨xs, own_below h1 hb (Nat.le_refl _), h2, fun j hj => by obtain ⟨L, A, c, a0, a1, a2, a3, a4⟩ := h3 j hj; exact ⟨L, A, c, a0, a1, a2, a3, a4.nx hb⟩⟩
theorem CmdsAt.app {t : TypeId} {w w' : World} {B : Nat} {vo vo' : Value} {D : List CmdR} {R : CmdR} {xs : List Value} {A : Option Addr} {c : Nat} {L : List Int} (h : w.ownsRow B t 3 vo D.length xs) (hl : xs.length = 3 * D.length)
    (hx : ∀ j (h : j < D.length), ∃ (L : List Int) (A : Option Addr) (c : Nat), D[j].L = some L ∧ xs[3 * j]? = some (.int .i64 D[j].op) ∧ xs[3 * j + 1]? = some (.int .i64 D[j].k) ∧ xs[3 * j + 2]? = some (.slice A L.length c) ∧ RowI w B A L) (ht : 2 ≠ t)
    (hg : w.grownBy w' vo.ownBlock) (ho : w'.ownsRow B t 3 vo' (D.length + 1) (xs ++ [.int .i64 R.op, .int .i64 R.k, .slice A L.length c])) (hR : R.L = some L) (hr : RowI w B A L) : CmdsAt t w' B vo' (D ++ [R]) := by
  refine ⟨_, by rw [List.length_append]; exact ho, by simp [hl]; omega, fun j hj => ?_⟩
  by_cases hlt : j < D.length
  · obtain ⟨L1, A1, c1, a0, a1, a2, a3, a4⟩ := hx j hlt
    refine ⟨L1, A1, c1, ?_, ?_, ?_, ?_, a4.row h ht hg⟩
    · rw [List.getElem_append_left hlt]; exact a0
    · rw [List.getElem?_append_left (by omega), List.getElem_append_left hlt]; exact a1
    · rw [List.getElem?_append_left (by omega), List.getElem_append_left hlt]; exact a2
    · rw [List.getElem?_append_left (by omega)]; exact a3
  · have hj2 : j = D.length := by simp at hj; omega
    subst hj2
    refine ⟨L, A, c, by simpa using hR, ?_, ?_, ?_, hr.row h ht hg⟩
    · rw [List.getElem?_append_right (by omega), hl]; simp
    · rw [List.getElem?_append_right (by omega), hl]; simp
    · rw [List.getElem?_append_right (by omega), hl]; simp
end Go.Proofs.YtgohbkkeppknoaaGreatDoor
end
section
set_option linter.unusedVariables false
namespace Go.Proofs.YtgohbkkeppknoaaGreatDoor
open Go.RowKit
theorem wdB_len (l : List (List UInt8)) : (wdB l).length = l.length := by simp [wdB]
theorem LinesAt.row {t e : TypeId} {w w' : World} {B base n size : Nat} {vo v : Value} {D : List (List (List UInt8))} {ys : List Value} (h : LinesAt t w B vo D) (ho : w.ownsRow base e size v n ys) (he : 9 ≠ e) (he2 : t ≠ e) (hg : w.grownBy w' v.ownBlock) : LinesAt t w' B vo D := by
  obtain ⟨xs, h1, h2, h3⟩ := h
  refine ⟨xs, own_gb50 h1 hg (fun b hb e2 => ?_), h2, fun j hj => ?_⟩
  · obtain ⟨cur, hcur⟩ : ∃ cur, Bk w b t cur := by
      rcases h1.2 with ⟨h5, _⟩ | ⟨g, cap, cur, hv, _, hh, _⟩
      · rw [h5] at hb; cases hb
      · rw [hv] at hb; injection hb with hb; simp at hb; subst hb; exact ⟨cur, hh⟩
    exact hcur.ne_own ho he2 b e2.symm rfl
  · obtain ⟨nj, A, c, a1, a2, a3, a4⟩ := h3 j hj
    exact ⟨nj, A, c, a1, a2, a3, a4.row ho he hg⟩
theorem LinesAt.at {t : TypeId} {w : World} {B : Nat} {A : Option Addr} {m c : Nat} {D : List (List (List UInt8))} (h : LinesAt t w B (.slice A m c) D) (k : Nat) (hk : k < D.length) : ∃ b o nj A1 c1, A = some ⟨b, o, none⟩ ∧ w.cell? ⟨b, o + k * 2, none⟩ = some (.int .i64 nj) ∧ w.cell? ⟨b, o + k * 2 + 1, none⟩ = some (.slice A1 D[k].length c1) ∧ D[k].length ≤ c1 ∧ RowS w B A1 D[k] := by
  obtain ⟨hDm, hmc⟩ := own_slice h
  obtain ⟨xs, h1, h2, h3⟩ := h
  obtain ⟨nj, A1, c1, a1, a2, a3, a4⟩ := h3 k hk
  rw [hDm] at h1
  have hr := Rd.of_own h1
  obtain ⟨b, o, hA, _, e0⟩ := hr (2 * k) (by omega)
  obtain ⟨b', o', hA', _, e1⟩ := hr (2 * k + 1) (by omega)
  rw [hA] at hA'
  injection hA' with hA'
  injection hA' with e2 e3
  subst e2 e3
  rw [List.getElem?_eq_getElem (by omega)] at a1 a2
  exact ⟨b, o, nj, A1, c1, hA, by rw [Nat.mul_comm k 2, e0]; exact a1, by rw [Nat.mul_comm k 2, Nat.add_assoc, e1]; exact a2, a3, a4⟩
/-- What all of a text is told as. -/
def AllR (t : TypeId) (S : ByteArray) (B : Nat) (e : Ending) (w' : World) : Prop := ∃ (A : Option Addr) (m c : Nat), m = (allL (bl S)).length ∧ e = .returned (.tuple #[.slice A m c, .int .i64 (allI (bl S)), .int .i64 (allE (bl S))]) ∧ CmdsAt t w' B (.slice A m c) (allL (bl S))
theorem all_line (S : List UInt8) (h : linC S ≠ 0) : allL S = [] ∧ allI S = 0 ∧ allE S = linC S := by
  unfold allL allI allE
  rw [if_pos h, if_pos h, if_pos h]; exact ⟨rfl, rfl, rfl⟩
theorem all_bad (S : List UInt8) (h : linC S = 0) (Rs : List CmdR) (hRs : cmdL S = Rs) (k : Nat) (hk : k < Rs.length) (h1 : ∀ j (hj : j < k), (Rs[j]'(by omega)).L.isSome = true) (h2 : Rs[k].L = none) : allL S = [] ∧ allI S = k ∧ allE S = Rs[k].c := by
  subst hRs
  have hb := badK_hit _ k hk h1 h2
  have h0 : ¬ linC S ≠ 0 := by simp [h]
  unfold allL allI allE
  rw [if_neg h0, if_neg h0, if_neg h0, hb, if_pos hk, List.getElem?_eq_getElem hk]; exact ⟨rfl, rfl, rfl⟩
theorem all_ok (S : List UInt8) (h : linC S = 0) (Rs : List CmdR) (hRs : cmdL S = Rs) (h1 : ∀ j (hj : j < Rs.length), Rs[j].L.isSome = true) : allL S = Rs ∧ allI S = Rs.length ∧ allE S = 0 := by
  subst hRs
  have hb := badK_no _ h1
  have h0 : ¬ linC S ≠ 0 := by simp [h]
  unfold allL allI allE
  rw [if_neg h0, if_neg h0, if_neg h0, hb, if_neg (by omega), List.getElem?_eq_none (by omega)]; exact ⟨rfl, rfl, rfl⟩
theorem cli_size : (Tryz.prog.info? 88).map (·.size) = some 2 := by kernel_rfl
theorem ccm_info : (Tryz.prog.info? 26).map (fun i => (i.zero, i.size, i.bytes)) = some (some (.agg #[.int .i64 0, .int .i64 0, .slice none 0 0]), 3, 40) := by kernel_rfl
set_option maxRecDepth 100000 in
set_option maxHeartbeats 32000000 in
theorem call_any (S : ByteArray) (hS : S.size ≤ 9223372036854775807) (w : World) (hl : LaidT w) : Calls Tryz.prog 13 #[.string S] w fun e w' => AllR 26 S w.heap.size e w' ∧ Below w.heap.size w w' := by
  have hLi := lines_any S hS w
  have hbd := linL_bd (bl S)
  by_cases hC : linC (bl S) = 0
  · have hLi2 : Calls Tryz.prog 42 #[.string S] w fun e w' => ∃ (A : Option Addr) (m c : Nat) (z : Int), e = .returned (.tuple #[.slice A m c, .int .i64 z, .int .i64 0]) ∧ LinesAt 88 w' w.heap.size (.slice A m c) (linL (bl S)) ∧ Below w.heap.size w w' :=
      hLi.mono fun e w' h => by obtain ⟨⟨A, m, c, z, h1, h2⟩, h3⟩ := h; rw [hC] at h1; exact ⟨A, m, c, z, h1, h2, h3⟩
    obtain ⟨Rs, hRs⟩ : ∃ Rs, cmdL (bl S) = Rs := ⟨_, rfl⟩
    have HBAD := Lib.hid (all_bad (bl S) hC Rs hRs)
    have HOK := Lib.hid (all_ok (bl S) hC Rs hRs)
    have HP : Hid (∀ (ws : List (List UInt8)) (A : Option Addr) (c : Nat) (w' : World), ws ∈ linL (bl S) → ws.length ≤ c → RowS w' w.heap.size A ws → Below w.heap.size w w' → Calls Tryz.prog 7 #[.slice A ws.length c] w' fun e w2 => AnsC (prs (wdB ws)) w'.heap.size e w2 ∧ Below w'.heap.size w' w2) := fun ws A c w' hm hc hr hb => by
      have h := hbd.2 ws hm
      have := cparse_any A c (wdB ws) w' (by rw [wdB_len]; exact hc) ⟨hr.rd, fun b hb2 => by
        obtain ⟨x, hx, rfl⟩ := List.mem_map.1 hb2
        have := h.2 x hx
        rw [str_size]; omega, by rw [wdB_len]; omega⟩ (hl.nx hb)
      rw [wdB_len] at this
      exact this
    unfold cmdL at hRs
    generalize linL (bl S) = D at *
    have hcl : Rs.length = D.length := by rw [← hRs, List.length_map]
    have hck : ∀ k (h : k < D.length) (h2 : k < Rs.length), Rs[k] = prs (wdB D[k]) := fun k h h2 => by subst hRs; simp
    have HCL := Lib.hid hcl
    have HCK := Lib.hid hck
    have hD4 := hbd.1
    clear hLi hC hcl hck hbd hRs
    go_enter Tryz.func13, Tryz.ntmps13
    go_wp2_with (go_at_call 42; refine Calls.mono (show Calls _ _ _ _ _ from hLi2) ?_; rintro e w1 ⟨A, m, c, z, rfl, hL1, hb1⟩)
    obtain ⟨hDm, hmc⟩ := own_slice hL1
    subst hDm
    go_loopw [8, 24] (fun ov iv wr => ∃ (k co : Nat) (Ao : Option Addr), k ≤ D.length ∧ iv = .int .i64 k ∧ ov = .slice Ao k co ∧ Hid (∀ j (hj : j < k) (h2 : j < Rs.length), Rs[j].L.isSome = true) ∧ LinesAt 88 wr w.heap.size (.slice A D.length c) D ∧ CmdsAt 26 wr w.heap.size (.slice Ao k co) (Rs.take k) ∧ Below w.heap.size w wr) (fun _ iv _ => D.length - (intOf iv).toNat)
    case atStart => exact ⟨0, 0, none, by omega, rfl, rfl, (fun j hj => absurd hj (by omega)), hL1, CmdsAt.nil _ _ _, hb1⟩
    case round =>
      clear hL1 hb1 hLi2
      obtain ⟨k, co, Ao, hk, rfl, rfl, hall, hLr, hCr, hbr⟩ := hrel
      obtain ⟨wq, rfl⟩ : ∃ wq : World, wq = wr := ⟨_, rfl⟩
      have hqz := hbr.size
      by_cases hlt : k < D.length
      · have hlt' : (k : Int) < (D.length : Int) := by omega
        obtain ⟨b, o, nj, A1, c1, hA, e0, e1, hc1, hR1⟩ := hLr.at k hlt
        subst hA
        have hkR : k < Rs.length := by rw [HCL.out]; exact hlt
        have hpk := HCK.out k hlt hkR
        obtain ⟨R, hR⟩ : ∃ R, Rs[k] = R := ⟨_, rfl⟩
        rw [hR] at hpk
        have hP : ∀ w', Below wq.heap.size wq w' → Calls Tryz.prog 7 #[.slice A1 D[k].length c1] w' fun e w2 => AnsC R w'.heap.size e w2 ∧ Below w'.heap.size w' w2 := fun w' hb => by
          rw [hpk]
          exact HP.out _ A1 c1 w' (List.getElem_mem hlt) hc1 (hR1.nx hb) (hbr.trans (hb.mono hqz))
        have HBK := Lib.hid (fun h2 => HBAD.out k hkR (fun j hj => hall.out j hj (by omega)) h2)
        have HRK := Lib.hid hR
        rw [hR] at HBK
        generalize D[k].length = lk at *
        have hnew := Bk.new wq 88 li0
        have hRc : (R.c = 0) ↔ R.L.isSome = true := by rw [hpk]; exact prs_c _
        have HNX : Hid (R.L.isSome = true → ∀ j (hj : j < k + 1) (h2 : j < Rs.length), Rs[j].L.isSome = true) := fun hs j hj h2 => by
          rcases Nat.lt_or_ge j k with h | h
          · exact hall.out j h h2
          · obtain rfl : j = k := by omega
            rw [hR]; exact hs
        have HTK : Hid (Rs.take (k + 1) = Rs.take k ++ [R]) := by show _ = _; rw [List.take_succ_eq_append_getElem hkR, hR]
        have htl : (Rs.take k).length = k := by rw [List.length_take]; omega
        have HTL := Lib.hid htl
        clear hpk hR1 hc1 htl hkR hR HRK
        cases hRL : R.L with
        | none =>
          have hz := HBK.out hRL
          have hcn : (R.c != 0) = true := by
            have : R.c ≠ 0 := fun e => by have := hRc.1 e; rw [hRL] at this; cases this
            simpa using this
          have HZ := Lib.hid hz
          clear hz hRc hRL HBK HNX HTK
          go_wp2_with (first
            | (refine stB (ty := 88) (cells := #[.int .i64 nj, .slice A1 lk c1]) rfl _ _ rfl hnew rfl rfl cli_size rfl (by simp [Value.oneCell']) ?_; intro w3 hK3 hg3 hs3; have hb3 : Below wq.heap.size wq w3 := below_of_gb ((Below.refl wq.heap.size wq).alloc (Nat.le_refl _) _) hg3 (Nat.le_refl _) (by simp); obtain ⟨x0, x1⟩ := hK3.cell2)
            | (go_at_call 7; refine Calls.mono (show Calls _ _ _ _ _ from hP w3 hb3) ?_; rintro e w4 ⟨⟨cs, rfl, hcs⟩, hb4⟩; obtain ⟨a1, a2, A5, n5, c5, hcf⟩ := hcs.form; subst hcf; have hnew4 := Bk.new w4 26 cm0; have hb34 := hb3.trans (hb4.mono hb3.size))
            | (refine stB (ty := 26) (cells := cmA a1 a2 A5 n5 c5) rfl _ _ rfl hnew4 rfl rfl cc50_size rfl (by simp [Value.oneCell']) ?_; intro w5 hK5 hg5 hs5; have hb5 : Below w4.heap.size w4 w5 := below_of_gb ((Below.refl w4.heap.size w4).alloc (Nat.le_refl _) _) hg5 (Nat.le_refl _) (by simp)))
          go_returns
          have hbf := hbr.trans ((hb34.trans (hb5.mono hb34.size)).mono hqz)
          exact ⟨⟨none, 0, 0, by rw [HZ.out.1]; rfl, by rw [HZ.out.2.1, HZ.out.2.2]; rfl, by rw [HZ.out.1]; exact CmdsAt.nil _ _ _⟩, hbf⟩
        | some L =>
          have hc0 : R.c = 0 := hRc.2 (by rw [hRL]; rfl)
          have HN1 := Lib.hid (HNX.out (by rw [hRL]; rfl))
          have hP2 : ∀ w', Below wq.heap.size wq w' → Calls Tryz.prog 7 #[.slice A1 lk c1] w' fun e w2 => ∃ A5 c5, e = .returned (.tuple #[.agg (cmA R.op R.k A5 L.length c5), .int .i64 0]) ∧ w2.ownsRow w'.heap.size 2 1 (.slice A5 L.length c5) L.length (L.map (Value.int .i64)) ∧ Below w'.heap.size w' w2 := fun w' hb =>
            (hP w' hb).mono fun e w2 h => by
              obtain ⟨⟨cs, he, hcs⟩, hb2⟩ := h
              rw [hRL] at hcs
              obtain ⟨A5, c5, h1, h2⟩ := hcs
              rw [hc0, h1] at he
              exact ⟨A5, c5, he, h2, hb2⟩
          have HRL := Lib.hid hRL
          obtain ⟨op, hop⟩ : ∃ op, R.op = op := ⟨_, rfl⟩
          obtain ⟨kk, hkk⟩ : ∃ kk, R.k = kk := ⟨_, rfl⟩
          obtain ⟨ln, hln⟩ : ∃ ln, L.length = ln := ⟨_, rfl⟩
          have HOP := Lib.hid hop
          have HKK := Lib.hid hkk
          have HLN := Lib.hid hln
          simp only [hop, hkk, hln] at hP2
          clear hP hRc hRL HBK HNX hop hkk hln hc0
          go_upto_region 11 with (first
            | (refine stB (ty := 88) (cells := #[.int .i64 nj, .slice A1 lk c1]) rfl _ _ rfl hnew rfl rfl cli_size rfl (by simp [Value.oneCell']) ?_; intro w3 hK3 hg3 hs3; have hb3 : Below wq.heap.size wq w3 := below_of_gb ((Below.refl wq.heap.size wq).alloc (Nat.le_refl _) _) hg3 (Nat.le_refl _) (by simp); obtain ⟨x0, x1⟩ := hK3.cell2)
            | (go_at_call 7; refine Calls.mono (show Calls _ _ _ _ _ from hP2 w3 hb3) ?_; rintro e w4 ⟨A5, c5, rfl, ho4, hb4⟩; have hnew4 := Bk.new w4 26 cm0; have hb34 := hb3.trans (hb4.mono hb3.size))
            | (refine stB (ty := 26) (cells := cmA op kk A5 ln c5) rfl _ _ rfl hnew4 rfl rfl cc50_size rfl (by simp [Value.oneCell']) ?_; intro w5 hK5 hg5 hs5; have hb5 : Below w4.heap.size w4 w5 := below_of_gb ((Below.refl w4.heap.size w4).alloc (Nat.le_refl _) _) hg5 (Nat.le_refl _) (by simp)))
          have hbf := hb34.trans (hb5.mono hb34.size)
          have hRI := ((RowI.of_own ho4 HLN.out).mono (show w.heap.size ≤ w3.heap.size from Nat.le_trans hqz hb3.size)).nx hb5
          have hC5 := hCr.nx hbf
          have hL5 := hLr.nx hbf
          have hb05 := hbr.trans (hbf.mono hqz)
          have hz5 := hb05.size
          obtain ⟨xs, y1, y2, y3⟩ := hC5
          rw [HTL.out] at y1
          clear hP2 hnew hnew4 hCr hLr hb34 hb5 hb4 hb3 hg5 hg3 hs5 hs3 ho4 x0 x1 hK3 e0 e1
          go_wp2_with (first
            | (refine ldB rfl _ _ rfl hK5 rfl Tryz.underlying26 rfl cc50_size ?_)
            | (at_builtin; refine app1 (cs := cmA op kk A5 ln c5) rfl _ _ _ rfl Tryz.underlying37 ccm_info rfl (by decide) rfl rfl y1 (Below.refl w.heap.size w5) (Nat.le_refl _) hz5 rfl (by simp [Value.oneCell']) (by omega) (by omega) ?_; intro v9 w9 hown9 hb9 hlt9 hg9 _; obtain ⟨A9, c9, rfl, hc9, _⟩ := own_form hown9))
          have hLA : CmdsAt 26 w9 w.heap.size (.slice A9 (k + 1) c9) (Rs.take (k + 1)) := by
            rw [HTK.out]
            refine CmdsAt.app (R := R) (L := L) (A := A5) (c := c5) (by rw [HTL.out]; exact y1) y2 y3 (by decide) hg9 ?_ HRL.out hRI
            rw [HTL.out, HOP.out, HKK.out, HLN.out]; exact hown9
          have hLL := hL5.row y1 (by decide) (by decide) hg9
          exact ⟨⟨k + 1, c9, A9, by omega, by go_num, rfl, HN1.out, hLL, hLA, hb05.trans hb9⟩, by simp [intOf]; omega⟩
      · obtain rfl : k = D.length := by omega
        have hz := HOK.out (fun j hj => hall.out j (by rw [← HCL.out]; exact hj) hj)
        have HZ := Lib.hid hz
        rw [List.take_of_length_le (by rw [HCL.out]; exact Nat.le_refl _)] at hCr
        have hcc := HCL.out
        clear hz
        go_wp2_with fail
        go_returns
        exact ⟨⟨Ao, D.length, co, by rw [HZ.out.1, HCL.out], by rw [HZ.out.2.1, HZ.out.2.2, HCL.out]; rfl, by rw [HZ.out.1]; exact hCr⟩, hbr⟩
  · have HA := Lib.hid (all_line (bl S) hC)
    have hne : (linC (bl S) != 0) = true := by simpa using hC
    have hLi2 : Calls Tryz.prog 42 #[.string S] w fun e w' => ∃ (A : Option Addr) (m c : Nat) (z : Int), e = .returned (.tuple #[.slice A m c, .int .i64 z, .int .i64 (linC (bl S))]) ∧ Below w.heap.size w w' :=
      hLi.mono fun e w' h => by obtain ⟨⟨A, m, c, z, h1, h2⟩, h3⟩ := h; exact ⟨A, m, c, z, h1, h3⟩
    clear hLi hbd hC
    generalize linC (bl S) = lc at *
    go_enter Tryz.func13, Tryz.ntmps13
    go_wp2_with (go_at_call 42; refine Calls.mono (show Calls _ _ _ _ _ from hLi2) ?_; rintro e w1 ⟨A, m, c, z, rfl, hb1⟩)
    go_returns
    exact ⟨⟨none, 0, 0, by rw [HA.out.1]; rfl, by rw [HA.out.2.1, HA.out.2.2]; rfl, by rw [HA.out.1]; exact CmdsAt.nil _ _ _⟩, hb1⟩
theorem rli_size : (Tryz.prog.info? 92).map (·.size) = some 2 := by kernel_rfl
theorem rcm_info : (Tryz.prog.info? 30).map (fun i => (i.zero, i.size, i.bytes)) = some (some (.agg #[.int .i64 0, .int .i64 0, .slice none 0 0]), 3, 40) := by kernel_rfl
set_option maxRecDepth 100000 in
set_option maxHeartbeats 32000000 in
theorem rall_any (S : ByteArray) (hS : S.size ≤ 9223372036854775807) (w : World) : Calls Tryz.prog 14 #[.string S] w fun e w' => AllR 30 S w.heap.size e w' ∧ Below w.heap.size w w' := by
  have hLi := rlines_any S hS w
  have hbd := linL_bd (bl S)
  by_cases hC : linC (bl S) = 0
  · have hLi2 : Calls Tryz.prog 43 #[.string S] w fun e w' => ∃ (A : Option Addr) (m c : Nat) (z : Int), e = .returned (.tuple #[.slice A m c, .int .i64 z, .int .i64 0]) ∧ LinesAt 92 w' w.heap.size (.slice A m c) (linL (bl S)) ∧ Below w.heap.size w w' :=
      hLi.mono fun e w' h => by obtain ⟨⟨A, m, c, z, h1, h2⟩, h3⟩ := h; rw [hC] at h1; exact ⟨A, m, c, z, h1, h2, h3⟩
    obtain ⟨Rs, hRs⟩ : ∃ Rs, cmdL (bl S) = Rs := ⟨_, rfl⟩
    have HBAD := Lib.hid (all_bad (bl S) hC Rs hRs)
    have HOK := Lib.hid (all_ok (bl S) hC Rs hRs)
    have HP : Hid (∀ (ws : List (List UInt8)) (A : Option Addr) (c : Nat) (w' : World), ws ∈ linL (bl S) → ws.length ≤ c → RowS w' w.heap.size A ws → Below w.heap.size w w' → Calls Tryz.prog 8 #[.slice A ws.length c] w' fun e w2 => AnsC (prs (wdB ws)) w'.heap.size e w2 ∧ Below w'.heap.size w' w2) := fun ws A c w' hm hc hr hb => by
      have h := hbd.2 ws hm
      have := rparse_any A c (wdB ws) w' (by rw [wdB_len]; exact hc) ⟨hr.rd, fun b hb2 => by
        obtain ⟨x, hx, rfl⟩ := List.mem_map.1 hb2
        have := h.2 x hx
        rw [str_size]; omega, by rw [wdB_len]; omega⟩
      rw [wdB_len] at this
      exact this
    unfold cmdL at hRs
    generalize linL (bl S) = D at *
    have hcl : Rs.length = D.length := by rw [← hRs, List.length_map]
    have hck : ∀ k (h : k < D.length) (h2 : k < Rs.length), Rs[k] = prs (wdB D[k]) := fun k h h2 => by subst hRs; simp
    have HCL := Lib.hid hcl
    have HCK := Lib.hid hck
    have hD4 := hbd.1
    clear hLi hC hcl hck hbd hRs
    go_enter Tryz.func14, Tryz.ntmps14
    go_wp2_with (go_at_call 43; refine Calls.mono (show Calls _ _ _ _ _ from hLi2) ?_; rintro e w1 ⟨A, m, c, z, rfl, hL1, hb1⟩)
    obtain ⟨hDm, hmc⟩ := own_slice hL1
    subst hDm
    go_loopw [8, 24] (fun ov iv wr => ∃ (k co : Nat) (Ao : Option Addr), k ≤ D.length ∧ iv = .int .i64 k ∧ ov = .slice Ao k co ∧ Hid (∀ j (hj : j < k) (h2 : j < Rs.length), Rs[j].L.isSome = true) ∧ LinesAt 92 wr w.heap.size (.slice A D.length c) D ∧ CmdsAt 30 wr w.heap.size (.slice Ao k co) (Rs.take k) ∧ Below w.heap.size w wr) (fun _ iv _ => D.length - (intOf iv).toNat)
    case atStart => exact ⟨0, 0, none, by omega, rfl, rfl, (fun j hj => absurd hj (by omega)), hL1, CmdsAt.nil _ _ _, hb1⟩
    case round =>
      clear hL1 hb1 hLi2
      obtain ⟨k, co, Ao, hk, rfl, rfl, hall, hLr, hCr, hbr⟩ := hrel
      obtain ⟨wq, rfl⟩ : ∃ wq : World, wq = wr := ⟨_, rfl⟩
      have hqz := hbr.size
      by_cases hlt : k < D.length
      · have hlt' : (k : Int) < (D.length : Int) := by omega
        obtain ⟨b, o, nj, A1, c1, hA, e0, e1, hc1, hR1⟩ := hLr.at k hlt
        subst hA
        have hkR : k < Rs.length := by rw [HCL.out]; exact hlt
        have hpk := HCK.out k hlt hkR
        obtain ⟨R, hR⟩ : ∃ R, Rs[k] = R := ⟨_, rfl⟩
        rw [hR] at hpk
        have hP : ∀ w', Below wq.heap.size wq w' → Calls Tryz.prog 8 #[.slice A1 D[k].length c1] w' fun e w2 => AnsC R w'.heap.size e w2 ∧ Below w'.heap.size w' w2 := fun w' hb => by
          rw [hpk]
          exact HP.out _ A1 c1 w' (List.getElem_mem hlt) hc1 (hR1.nx hb) (hbr.trans (hb.mono hqz))
        have HBK := Lib.hid (fun h2 => HBAD.out k hkR (fun j hj => hall.out j hj (by omega)) h2)
        have HRK := Lib.hid hR
        rw [hR] at HBK
        generalize D[k].length = lk at *
        have hnew := Bk.new wq 92 li0
        have hRc : (R.c = 0) ↔ R.L.isSome = true := by rw [hpk]; exact prs_c _
        have HNX : Hid (R.L.isSome = true → ∀ j (hj : j < k + 1) (h2 : j < Rs.length), Rs[j].L.isSome = true) := fun hs j hj h2 => by
          rcases Nat.lt_or_ge j k with h | h
          · exact hall.out j h h2
          · obtain rfl : j = k := by omega
            rw [hR]; exact hs
        have HTK : Hid (Rs.take (k + 1) = Rs.take k ++ [R]) := by show _ = _; rw [List.take_succ_eq_append_getElem hkR, hR]
        have htl : (Rs.take k).length = k := by rw [List.length_take]; omega
        have HTL := Lib.hid htl
        clear hpk hR1 hc1 htl hkR hR HRK
        cases hRL : R.L with
        | none =>
          have hz := HBK.out hRL
          have hcn : (R.c != 0) = true := by
            have : R.c ≠ 0 := fun e => by have := hRc.1 e; rw [hRL] at this; cases this
            simpa using this
          have HZ := Lib.hid hz
          clear hz hRc hRL HBK HNX HTK
          go_wp2_with (first
            | (refine stB (ty := 92) (cells := #[.int .i64 nj, .slice A1 lk c1]) rfl _ _ rfl hnew rfl rfl rli_size rfl (by simp [Value.oneCell']) ?_; intro w3 hK3 hg3 hs3; have hb3 : Below wq.heap.size wq w3 := below_of_gb ((Below.refl wq.heap.size wq).alloc (Nat.le_refl _) _) hg3 (Nat.le_refl _) (by simp); obtain ⟨x0, x1⟩ := hK3.cell2)
            | (go_at_call 8; refine Calls.mono (show Calls _ _ _ _ _ from hP w3 hb3) ?_; rintro e w4 ⟨⟨cs, rfl, hcs⟩, hb4⟩; obtain ⟨a1, a2, A5, n5, c5, hcf⟩ := hcs.form; subst hcf; have hnew4 := Bk.new w4 30 cm0; have hb34 := hb3.trans (hb4.mono hb3.size))
            | (refine stB (ty := 30) (cells := cmA a1 a2 A5 n5 c5) rfl _ _ rfl hnew4 rfl rfl cr50_size rfl (by simp [Value.oneCell']) ?_; intro w5 hK5 hg5 hs5; have hb5 : Below w4.heap.size w4 w5 := below_of_gb ((Below.refl w4.heap.size w4).alloc (Nat.le_refl _) _) hg5 (Nat.le_refl _) (by simp)))
          go_returns
          have hbf := hbr.trans ((hb34.trans (hb5.mono hb34.size)).mono hqz)
          exact ⟨⟨none, 0, 0, by rw [HZ.out.1]; rfl, by rw [HZ.out.2.1, HZ.out.2.2]; rfl, by rw [HZ.out.1]; exact CmdsAt.nil _ _ _⟩, hbf⟩
        | some L =>
          have hc0 : R.c = 0 := hRc.2 (by rw [hRL]; rfl)
          have HN1 := Lib.hid (HNX.out (by rw [hRL]; rfl))
          have hP2 : ∀ w', Below wq.heap.size wq w' → Calls Tryz.prog 8 #[.slice A1 lk c1] w' fun e w2 => ∃ A5 c5, e = .returned (.tuple #[.agg (cmA R.op R.k A5 L.length c5), .int .i64 0]) ∧ w2.ownsRow w'.heap.size 2 1 (.slice A5 L.length c5) L.length (L.map (Value.int .i64)) ∧ Below w'.heap.size w' w2 := fun w' hb =>
            (hP w' hb).mono fun e w2 h => by
              obtain ⟨⟨cs, he, hcs⟩, hb2⟩ := h
              rw [hRL] at hcs
              obtain ⟨A5, c5, h1, h2⟩ := hcs
              rw [hc0, h1] at he
              exact ⟨A5, c5, he, h2, hb2⟩
          have HRL := Lib.hid hRL
          obtain ⟨op, hop⟩ : ∃ op, R.op = op := ⟨_, rfl⟩
          obtain ⟨kk, hkk⟩ : ∃ kk, R.k = kk := ⟨_, rfl⟩
          obtain ⟨ln, hln⟩ : ∃ ln, L.length = ln := ⟨_, rfl⟩
          have HOP := Lib.hid hop
          have HKK := Lib.hid hkk
          have HLN := Lib.hid hln
          simp only [hop, hkk, hln] at hP2
          clear hP hRc hRL HBK HNX hop hkk hln hc0
          go_upto_region 11 with (first
            | (refine stB (ty := 92) (cells := #[.int .i64 nj, .slice A1 lk c1]) rfl _ _ rfl hnew rfl rfl rli_size rfl (by simp [Value.oneCell']) ?_; intro w3 hK3 hg3 hs3; have hb3 : Below wq.heap.size wq w3 := below_of_gb ((Below.refl wq.heap.size wq).alloc (Nat.le_refl _) _) hg3 (Nat.le_refl _) (by simp); obtain ⟨x0, x1⟩ := hK3.cell2)
            | (go_at_call 8; refine Calls.mono (show Calls _ _ _ _ _ from hP2 w3 hb3) ?_; rintro e w4 ⟨A5, c5, rfl, ho4, hb4⟩; have hnew4 := Bk.new w4 30 cm0; have hb34 := hb3.trans (hb4.mono hb3.size))
            | (refine stB (ty := 30) (cells := cmA op kk A5 ln c5) rfl _ _ rfl hnew4 rfl rfl cr50_size rfl (by simp [Value.oneCell']) ?_; intro w5 hK5 hg5 hs5; have hb5 : Below w4.heap.size w4 w5 := below_of_gb ((Below.refl w4.heap.size w4).alloc (Nat.le_refl _) _) hg5 (Nat.le_refl _) (by simp)))
          have hbf := hb34.trans (hb5.mono hb34.size)
          have hRI := ((RowI.of_own ho4 HLN.out).mono (show w.heap.size ≤ w3.heap.size from Nat.le_trans hqz hb3.size)).nx hb5
          have hC5 := hCr.nx hbf
          have hL5 := hLr.nx hbf
          have hb05 := hbr.trans (hbf.mono hqz)
          have hz5 := hb05.size
          obtain ⟨xs, y1, y2, y3⟩ := hC5
          rw [HTL.out] at y1
          clear hP2 hnew hnew4 hCr hLr hb34 hb5 hb4 hb3 hg5 hg3 hs5 hs3 ho4 x0 x1 hK3 e0 e1
          go_wp2_with (first
            | (refine ldB rfl _ _ rfl hK5 rfl Tryz.underlying30 rfl cr50_size ?_)
            | (at_builtin; refine app1 (cs := cmA op kk A5 ln c5) rfl _ _ _ rfl Tryz.underlying40 rcm_info rfl (by decide) rfl rfl y1 (Below.refl w.heap.size w5) (Nat.le_refl _) hz5 rfl (by simp [Value.oneCell']) (by omega) (by omega) ?_; intro v9 w9 hown9 hb9 hlt9 hg9 _; obtain ⟨A9, c9, rfl, hc9, _⟩ := own_form hown9))
          have hLA : CmdsAt 30 w9 w.heap.size (.slice A9 (k + 1) c9) (Rs.take (k + 1)) := by
            rw [HTK.out]
            refine CmdsAt.app (R := R) (L := L) (A := A5) (c := c5) (by rw [HTL.out]; exact y1) y2 y3 (by decide) hg9 ?_ HRL.out hRI
            rw [HTL.out, HOP.out, HKK.out, HLN.out]; exact hown9
          have hLL := hL5.row y1 (by decide) (by decide) hg9
          exact ⟨⟨k + 1, c9, A9, by omega, by go_num, rfl, HN1.out, hLL, hLA, hb05.trans hb9⟩, by simp [intOf]; omega⟩
      · obtain rfl : k = D.length := by omega
        have hz := HOK.out (fun j hj => hall.out j (by rw [← HCL.out]; exact hj) hj)
        have HZ := Lib.hid hz
        rw [List.take_of_length_le (by rw [HCL.out]; exact Nat.le_refl _)] at hCr
        have hcc := HCL.out
        clear hz
        go_wp2_with fail
        go_returns
        exact ⟨⟨Ao, D.length, co, by rw [HZ.out.1, HCL.out], by rw [HZ.out.2.1, HZ.out.2.2, HCL.out]; rfl, by rw [HZ.out.1]; exact hCr⟩, hbr⟩
  · have HA := Lib.hid (all_line (bl S) hC)
    have hne : (linC (bl S) != 0) = true := by simpa using hC
    have hLi2 : Calls Tryz.prog 43 #[.string S] w fun e w' => ∃ (A : Option Addr) (m c : Nat) (z : Int), e = .returned (.tuple #[.slice A m c, .int .i64 z, .int .i64 (linC (bl S))]) ∧ Below w.heap.size w w' :=
      hLi.mono fun e w' h => by obtain ⟨⟨A, m, c, z, h1, h2⟩, h3⟩ := h; exact ⟨A, m, c, z, h1, h3⟩
    clear hLi hbd hC
    generalize linC (bl S) = lc at *
    go_enter Tryz.func14, Tryz.ntmps14
    go_wp2_with (go_at_call 43; refine Calls.mono (show Calls _ _ _ _ _ from hLi2) ?_; rintro e w1 ⟨A, m, c, z, rfl, hb1⟩)
    go_returns
    exact ⟨⟨none, 0, 0, by rw [HA.out.1]; rfl, by rw [HA.out.2.1, HA.out.2.2]; rfl, by rw [HA.out.1]; exact CmdsAt.nil _ _ _⟩, hb1⟩
end Go.Proofs.YtgohbkkeppknoaaGreatDoor
end
