/- Several texts in one: A text as commands: what a text is, in plain terms. A text as commands: the scanner's small steps. A text as commands: the scanner's word. A text as commands: the scanner's blanks and remarks. -/
import Derived.Test.YtgohbkkeppknoaaGreatDoorCmdParsesZz31
section
set_option linter.unusedVariables false
namespace Go.Proofs.YtgohbkkeppknoaaGreatDoor
open Go.RowKit
def isBl (b : UInt8) : Bool := b == 9 || b == 13 || b == 32
def isMk (b : UInt8) : Bool := decide (33 ≤ b.toNat) && decide (b.toNat ≤ 126) && b != 35
def fl (cur : List UInt8) : List (List UInt8) := if cur = [] then [] else [cur]
/-- A line's words, behind so much of a word; none: a byte that may not be. -/
def tokR : List UInt8 → List UInt8 → Option (List (List UInt8))
  | [], cur => some (fl cur)
  | b :: r, cur => if b = 35 then some (fl cur) else if isBl b then (tokR r []).map (fl cur ++ ·) else if isMk b then tokR r (cur ++ [b]) else none
/-- What is left of a line. -/
def lnO (l : List UInt8) : List UInt8 := l.takeWhile (· != 10)
def nxO (l : List UInt8) : List UInt8 := l.dropWhile (· != 10)
theorem ln_cons {b : UInt8} {r : List UInt8} (h : b ≠ 10) : lnO (b :: r) = b :: lnO r := by
  have hb : (b != 10) = true := by simpa using h
  simp only [lnO, List.takeWhile, hb]
theorem nx_cons {b : UInt8} {r : List UInt8} (h : b ≠ 10) : nxO (b :: r) = nxO r := by
  have hb : (b != 10) = true := by simpa using h
  simp only [nxO, List.dropWhile, hb]
theorem bl_ten {b : UInt8} (h : isBl b = true) : b ≠ 10 ∧ b ≠ 35 ∧ isMk b = false := by
  refine ⟨?_, ?_, ?_⟩
  · rintro rfl; revert h; decide
  · rintro rfl; revert h; decide
  · simp only [isBl, Bool.or_eq_true, beq_iff_eq] at h
    rcases h with (rfl | rfl) | rfl <;> decide
theorem mk_ten {b : UInt8} (h : isMk b = true) : b ≠ 10 ∧ b ≠ 35 ∧ isBl b = false := by
  refine ⟨?_, ?_, ?_⟩
  · rintro rfl; revert h; decide
  · rintro rfl; revert h; decide
  · cases hb : isBl b with
    | false => rfl
    | true => rw [(bl_ten hb).2.2] at h; cases h
/-- Past a blank. -/
theorem tok_blank {b : UInt8} {r : List UInt8} (h : isBl b = true) : tokR (lnO (b :: r)) [] = tokR (lnO r) [] := by
  rw [ln_cons (bl_ten h).1]
  simp [tokR, (bl_ten h).2.1, h, fl]
/-- At a remark. -/
theorem tok_rem {r : List UInt8} : tokR (lnO (35 :: r)) [] = some [] := by
  rw [ln_cons (by decide)]
  simp [tokR, fl]
theorem tok_end (l : List UInt8) (h : l = [] ∨ ∃ r, l = 10 :: r) : tokR (lnO l) [] = some [] ∧ nxO l = l := by
  rcases h with rfl | ⟨r, rfl⟩
  · exact ⟨rfl, rfl⟩
  · constructor
    · simp [lnO, List.takeWhile, tokR, fl]
    · simp [nxO, List.dropWhile]
theorem tok_bad {b : UInt8} {r : List UInt8} (h1 : b ≠ 10) (h2 : b ≠ 35) (h3 : isBl b = false) (h4 : isMk b = false) : tokR (lnO (b :: r)) [] = none := by
  rw [ln_cons h1]
  simp [tokR, h2, h3, h4]
/-- A mark goes to the word. -/
theorem tok_mark {b : UInt8} {r cur : List UInt8} (h : isMk b = true) : tokR (lnO (b :: r)) cur = tokR (lnO r) (cur ++ [b]) := by
  rw [ln_cons (mk_ten h).1]
  simp [tokR, (mk_ten h).2.1, (mk_ten h).2.2, h]
/-- Where no mark follows, the word ends. -/
theorem tok_word (l cur : List UInt8) (hc : cur ≠ []) (h : ∀ b r, l = b :: r → isMk b = false) : tokR (lnO l) cur = (tokR (lnO l) []).map ([cur] ++ ·) := by
  rcases l with _ | ⟨b, r⟩
  · simp [lnO, tokR, fl, hc]
  · have hb := h b r rfl
    by_cases h10 : b = 10
    · subst h10; simp [lnO, List.takeWhile, tokR, fl, hc]
    · rw [ln_cons h10]
      by_cases h35 : b = 35
      · subst h35; simp [tokR, fl, hc]
      · cases hbl : isBl b with
        | true =>
          simp [tokR, h35, hbl, fl, hc]
        | false => simp [tokR, h35, hbl, hb]
/-- A text's lines. -/
def splN : List UInt8 → List UInt8 → List (List UInt8)
  | [], cur => [cur]
  | b :: r, cur => if b = 10 then cur :: splN r [] else splN r (cur ++ [b])
theorem spl_app (r : List UInt8) : ∀ (cur : List UInt8), splN r cur = match nxO r with | [] => [cur ++ lnO r] | _ :: q => (cur ++ lnO r) :: splN q [] := by
  induction r with
  | nil => intro cur; simp [splN, nxO, lnO]
  | cons b r ih =>
    intro cur
    by_cases h : b = 10
    · subst h; simp [splN, nxO, lnO, List.dropWhile, List.takeWhile]
    · rw [splN, if_neg h, ih, nx_cons h, ln_cons h]
      simp
theorem spl_end {r : List UInt8} (h : nxO r = []) : splN r [] = [lnO r] := by rw [spl_app, h]; simp
theorem spl_more {r q : List UInt8} {b : UInt8} (h : nxO r = b :: q) : splN r [] = lnO r :: splN q [] := by rw [spl_app, h]; simp
/-- All lines' words. -/
def tokL : List (List UInt8) → Option (List (List (List UInt8)))
  | [] => some []
  | l :: r => match tokR l [] with | none => none | some w => (tokL r).map (w :: ·)
def tokT (S : List UInt8) : Option (List (List (List UInt8))) := tokL (splN S [])
def full (D : List (List (List UInt8))) : List (List (List UInt8)) := D.filter (fun w => !w.isEmpty)
/-- The lines that are told; or why there are none. -/
def linC (S : List UInt8) : Int := if 65536 < S.length then 30 else match tokT S with | none => 21 | some D => if 4096 < (full D).length then 30 else 0
def linL (S : List UInt8) : List (List (List UInt8)) := if 65536 < S.length then [] else match tokT S with | none => [] | some D => if 4096 < (full D).length then [] else full D
theorem tokL_app : ∀ (a b : List (List UInt8)), tokL (a ++ b) = (tokL a).bind fun x => (tokL b).map (x ++ ·)
  | [], b => by simp [tokL]
  | l :: a, b => by
    rw [List.cons_append, tokL, tokL, tokL_app a b]
    cases tokR l [] with
    | none => rfl
    | some w =>
      cases tokL a with
      | none => rfl
      | some x => cases tokL b <;> rfl
end Go.Proofs.YtgohbkkeppknoaaGreatDoor
end
section
set_option linter.unusedVariables false
namespace Go.Proofs.YtgohbkkeppknoaaGreatDoor
open Go.RowKit
theorem u8_cases (b : UInt8) : b = 9 ∨ b = 13 ∨ b = 32 ∨ ((b.toNat : Int) ≠ 9 ∧ (b.toNat : Int) ≠ 13 ∧ (b.toNat : Int) ≠ 32 ∧ isBl b = false) := by
  by_cases h1 : b = 9
  · exact .inl h1
  by_cases h2 : b = 13
  · exact .inr (.inl h2)
  by_cases h3 : b = 32
  · exact .inr (.inr (.inl h3))
  refine .inr (.inr (.inr ⟨fun e => h1 (UInt8.toNat_inj.1 ?_), fun e => h2 (UInt8.toNat_inj.1 ?_), fun e => h3 (UInt8.toNat_inj.1 ?_), ?_⟩))
  · show b.toNat = 9; omega
  · show b.toNat = 13; omega
  · show b.toNat = 32; omega
  · simp [isBl, h1, h2, h3]
set_option maxRecDepth 100000 in
theorem wblank_any (b : UInt8) (w : World) : Calls Tryz.prog 203 #[.int .u8 b.toNat] w fun e w' => e = .returned (.bool (isBl b)) ∧ w = w' := by
  rcases u8_cases b with rfl | rfl | rfl | ⟨h1, h2, h3, h4⟩
  · go_enter Tryz.func203, Tryz.ntmps203
    go_wp2_with fail
    go_returns
    exact ⟨rfl, rfl⟩
  · go_enter Tryz.func203, Tryz.ntmps203
    go_wp2_with fail
    go_returns
    exact ⟨rfl, rfl⟩
  · go_enter Tryz.func203, Tryz.ntmps203
    go_wp2_with fail
    go_returns
    exact ⟨rfl, rfl⟩
  · have n1 : ((b.toNat : Int) == 9) = false := beq_eq_false_iff_ne.2 h1
    have n2 : ((b.toNat : Int) == 13) = false := beq_eq_false_iff_ne.2 h2
    have n3 : ((b.toNat : Int) == 32) = false := beq_eq_false_iff_ne.2 h3
    have H := Lib.hid h4
    clear h1 h2 h3 h4
    go_enter Tryz.func203, Tryz.ntmps203
    go_wp2_with fail
    go_returns
    exact ⟨by rw [H.out]; rfl, rfl⟩
set_option maxRecDepth 100000 in
theorem rblank_any (b : UInt8) (w : World) : Calls Tryz.prog 140 #[.int .u8 b.toNat] w fun e w' => e = .returned (.bool (isBl b)) ∧ w = w' := by
  rcases u8_cases b with rfl | rfl | rfl | ⟨h1, h2, h3, h4⟩
  · go_enter Tryz.func140, Tryz.ntmps140
    go_wp2_with fail
    go_returns
    exact ⟨rfl, rfl⟩
  · go_enter Tryz.func140, Tryz.ntmps140
    go_wp2_with fail
    go_returns
    exact ⟨rfl, rfl⟩
  · go_enter Tryz.func140, Tryz.ntmps140
    go_wp2_with fail
    go_returns
    exact ⟨rfl, rfl⟩
  · have n1 : ((b.toNat : Int) == 9) = false := beq_eq_false_iff_ne.2 h1
    have n2 : ((b.toNat : Int) == 13) = false := beq_eq_false_iff_ne.2 h2
    have n3 : ((b.toNat : Int) == 32) = false := beq_eq_false_iff_ne.2 h3
    have H := Lib.hid h4
    clear h1 h2 h3 h4
    go_enter Tryz.func140, Tryz.ntmps140
    go_wp2_with fail
    go_returns
    exact ⟨by rw [H.out]; rfl, rfl⟩
set_option maxRecDepth 100000 in
theorem wmark_any (b : UInt8) (w : World) : Calls Tryz.prog 204 #[.int .u8 b.toNat] w fun e w' => e = .returned (.bool (isMk b)) ∧ w = w' := by
  by_cases h1 : 33 ≤ b.toNat
  · by_cases h2 : b.toNat ≤ 126
    · by_cases h3 : b = 35
      · subst h3
        go_enter Tryz.func204, Tryz.ntmps204
        go_wp2_with fail
        go_returns
        exact ⟨rfl, rfl⟩
      · have H : Hid (isMk b = true) := by show _ = _; simp [isMk, h1, h2, h3]
        have g1 : (b.toNat : Int) ≥ 33 := by omega
        have g2 : (b.toNat : Int) ≤ 126 := by omega
        have g3 : ((b.toNat : Int) != 35) = true := by
          have : (b.toNat : Int) ≠ 35 := fun e => h3 (UInt8.toNat_inj.1 (show b.toNat = 35 by omega))
          simpa using this
        clear h1 h2 h3
        go_enter Tryz.func204, Tryz.ntmps204
        go_wp2_with fail
        go_returns
        exact ⟨by rw [H.out]; rfl, rfl⟩
    · have H : Hid (isMk b = false) := by show _ = _; simp [isMk, h2]
      have g1 : (b.toNat : Int) ≥ 33 := by omega
      have g2 : ¬ (b.toNat : Int) ≤ 126 := by omega
      clear h1 h2
      go_enter Tryz.func204, Tryz.ntmps204
      go_wp2_with fail
      go_returns
      exact ⟨by rw [H.out]; rfl, rfl⟩
  · have H : Hid (isMk b = false) := by show _ = _; simp [isMk, h1]
    have g1 : ¬ (b.toNat : Int) ≥ 33 := by omega
    clear h1
    go_enter Tryz.func204, Tryz.ntmps204
    go_wp2_with fail
    go_returns
    exact ⟨by rw [H.out]; rfl, rfl⟩
/-- The scanner's cells. -/
abbrev scA (S : ByteArray) (i n : Int) (A : Option Addr) (m c : Nat) (v : Int) : Array Value := #[.string S, .int .i64 i, .int .i64 n, .slice A m c, .int .i64 v]
theorem str_ix (S : ByteArray) (p : Nat) (h : p < S.size) (W : World) : (Instr.index 9 (.string S) (.int .i64 p)).run Tryz.prog W = .ok (.int .u8 (S[p]'h).toNat) W := by
  rw [run_index_string (P := Tryz.prog) W 9 S .i64 (p : Int) Tryz.underlying9, dif_pos ⟨by omega, by omega⟩]
  rfl
/-- How far marks go. -/
def spanM (f : UInt8 → Bool) (l : List UInt8) : Nat := (l.takeWhile f).length
end Go.Proofs.YtgohbkkeppknoaaGreatDoor
end
section
set_option linter.unusedVariables false
namespace Go.Proofs.YtgohbkkeppknoaaGreatDoor
open Go.RowKit
theorem span_le (f : UInt8 → Bool) (l : List UInt8) : spanM f l ≤ l.length := (List.takeWhile_sublist f).length_le
theorem span_step (f : UInt8 → Bool) : ∀ (l : List UInt8) (k : Nat) (hk : k ≤ spanM f l) (hl : k < l.length), (f l[k] = true → k + 1 ≤ spanM f l) ∧ (f l[k] = false → k = spanM f l)
  | b :: r, 0, hk, hl => by
    cases hb : f b with
    | true => exact ⟨fun _ => by simp [spanM, List.takeWhile, hb], fun h => by simp [hb] at h⟩
    | false => exact ⟨fun h => by simp [hb] at h, fun _ => by simp [spanM, List.takeWhile, hb]⟩
  | b :: r, k + 1, hk, hl => by
    cases hb : f b with
    | true =>
      have e : spanM f (b :: r) = spanM f r + 1 := by simp [spanM, List.takeWhile, hb]
      rw [e] at hk ⊢
      have ih := span_step f r k (by omega) (by simpa using hl)
      exact ⟨fun h => by have := ih.1 (by simpa using h); omega, fun h => by have := ih.2 (by simpa using h); omega⟩
    | false =>
      have e : spanM f (b :: r) = 0 := by simp [spanM, List.takeWhile, hb]
      omega
theorem span_take (f : UInt8 → Bool) (l : List UInt8) : l.takeWhile f = l.take (spanM f l) ∧ l.dropWhile f = l.drop (spanM f l) := by
  induction l with
  | nil => exact ⟨rfl, rfl⟩
  | cons b r ih =>
    cases hb : f b with
    | true =>
      have e : spanM f (b :: r) = spanM f r + 1 := by simp [spanM, List.takeWhile, hb]
      rw [e]
      simp [List.takeWhile, List.dropWhile, hb, ih.1, ih.2]
    | false =>
      have e : spanM f (b :: r) = 0 := by simp [spanM, List.takeWhile, hb]
      rw [e]
      simp [List.takeWhile, List.dropWhile, hb]
theorem drop_at (S : ByteArray) (p k : Nat) (h : p + k < S.size) (h2 : k < ((bl S).drop p).length) : ((bl S).drop p)[k] = S[p + k]'h := by
  rw [List.getElem_drop]
  exact bl_get S (p + k) h
theorem str_cut (S : ByteArray) (i j : Nat) (hij : i ≤ j) (hj : j ≤ S.size) (W : World) : (Instr.slice 9 (.string S) (some (.int .i64 i)) (some (.int .i64 j)) none).run Tryz.prog W = .ok (.string ⟨(((bl S).drop i).take (j - i)).toArray⟩) W := by
  have h := run_slice_string (P := Tryz.prog) (w := W) 9 S .i64 .i64 (i : Int) (j : Int) Tryz.underlying9 (by omega) (by omega) (by omega)
  have e := ByteArray.extract_mk (bl S) i j
  rw [mk_bl] at e
  rw [h, Int.toNat_natCast, Int.toNat_natCast, e]
/-- The byte at a place, as the model tells it. -/
theorem ix_at (S : ByteArray) (p k : Nat) (h : p + k < S.size) (h2 : k < ((bl S).drop p).length) (W : World) : (Instr.index 9 (.string S) (.int .i64 ((p + k : Nat) : Int))).run Tryz.prog W = .ok (.int .u8 (((bl S).drop p)[k]).toNat) W := by
  rw [drop_at S p k h h2]
  exact str_ix S (p + k) h W
theorem Bk.cell5s {w : World} {g : Nat} {t : TypeId} {x y z u v : Value} (h : Bk w g t #[x, y, z, u, v]) : w.cell? ⟨g, 0, none⟩ = some x ∧ w.cell? ⟨g, 1, none⟩ = some y ∧ w.cell? ⟨g, 2, none⟩ = some z ∧ w.cell? ⟨g, 3, none⟩ = some u ∧ w.cell? ⟨g, 4, none⟩ = some v :=
  ⟨by rw [h.cell]; rfl, by rw [h.cell]; rfl, by rw [h.cell]; rfl, by rw [h.cell]; rfl, by rw [h.cell]; rfl⟩
set_option maxRecDepth 100000 in
set_option maxHeartbeats 8000000 in
theorem word_any (S : ByteArray) (hS : S.size ≤ 1000000) (p : Nat) (hp : p ≤ S.size) (g : Nat) (n : Int) (A : Option Addr) (m c : Nat) (v : Int) (w : World) (hK : Bk w g 136 (scA S p n A m c v)) :
    Calls Tryz.prog 139 #[.pointer (some ⟨g, 0, none⟩)] w fun e w' => e = .returned (strV (((bl S).drop p).takeWhile isMk)) ∧ Bk w' g 136 (scA S ((p + spanM isMk ((bl S).drop p) : Nat)) n A m c v) ∧ w.grownBy w' (some g) := by
  have hll : ((bl S).drop p).length = S.size - p := by rw [List.length_drop, bl_len]
  have hsp := span_le isMk ((bl S).drop p)
  obtain ⟨c0, c1, c2, c3, c4⟩ := hK.cell5s
  obtain ⟨K, hKs⟩ : ∃ K, spanM isMk ((bl S).drop p) = K := ⟨_, rfl⟩
  have HR : Hid (((bl S).drop p).takeWhile isMk = ((bl S).drop p).take K) := by show _ = _; rw [← hKs]; exact (span_take isMk _).1
  rw [hKs] at hsp ⊢
  have HK := Lib.hid hKs
  clear hKs
  obtain ⟨E, hE⟩ : ∃ E, p + K = E := ⟨_, rfl⟩
  rw [hE]
  have HE := Lib.hid hE
  clear hE
  go_enter Tryz.func139, Tryz.ntmps139
  go_wp2_with fail
  go_loopw [8] (fun _ wr => ∃ k : Nat, k ≤ K ∧ Bk wr g 136 (scA S ((p + k : Nat)) n A m c v) ∧ w.grownBy wr (some g)) (fun _ wr => S.size - (intOf ((wr.cell? ⟨g, 1, none⟩).getD undef)).toNat)
  case atStart => exact ⟨0, by omega, hK, World.grownBy.refl w _⟩
  case round =>
    clear c0 c1 c2 c3 c4
    obtain ⟨k, hk, hKr, hgr⟩ := hrel
    obtain ⟨wq, rfl⟩ : ∃ wq : World, wq = wr := ⟨_, rfl⟩
    obtain ⟨d0, d1, d2, d3, d4⟩ := hKr.cell5s
    have q0 := fun (d : Nat) (os : Array Obj) => cell_regrown d0 d os
    have q1 := fun (d : Nat) (os : Array Obj) => cell_regrown d1 d os
    obtain ⟨P, hP⟩ : ∃ P, p + k = P := ⟨_, rfl⟩
    by_cases hlt : P < S.size
    · have hkl : k < ((bl S).drop p).length := by omega
      have hix := ix_at S p k (by omega) hkl
      have hst := span_step isMk ((bl S).drop p) k (by rw [HK.out]; exact hk) hkl
      rw [HK.out] at hst
      obtain ⟨b, hb⟩ : ∃ b, ((bl S).drop p)[k] = b := ⟨_, rfl⟩
      rw [hb] at hix hst
      have hMk := fun w' => wmark_any b w'
      simp only [hP] at hix q1 d1
      have HD1 := Lib.hid d1
      have hlt' : (P : Int) < (S.size : Int) := by omega
      have HP := Lib.hid hP
      have HST := Lib.hid hst
      clear hP hb hkl hst
      go_upto_region 2 with fail
      refine wp_region_quiet_below (by kernel_rfl) (by kernel_rfl) ?_
      repeat (first
        | go_big_quiet_step (with_reducible exact quiet_eq' (hMk _))
        | quiet_step (with_reducible exact quiet_eq' (hMk _)))
      refine wpQuiet_nil ?_
      intro _ hw'
      obtain ⟨⟨d9, os⟩, hw''⟩ := hw'
      subst hw''
      have hbx := below_regrown wq d9 os
      have hKx := hKr.nx hbx
      have hgx := gb_below hgr hbx (hgr.size)
      clear q0 q1 d0 d1 d2 d3 d4 hKr hgr
      generalize Go.Sort.grow (redrawn wq d9) os = wx at *
      cases hm : isMk b with
      | false =>
        obtain rfl : P = E := by have h1 : k = K := HST.out.2 hm; have := HP.out; have := HE.out; omega
        have hcut := str_cut S p P (by have := HP.out; omega) (by omega)
        rw [show P - p = K by have := HE.out; omega] at hcut
        rw [HP.out] at hKx
        obtain ⟨d0, d1, d2, d3, d4⟩ := hKx.cell5s
        rw [hm] at hMk
        clear hix hMk hm HST
        go_upto_region 4 with fail
        have q0 := fun (d : Nat) (os : Array Obj) => cell_regrown d0 d os
        have q1 := fun (d : Nat) (os : Array Obj) => cell_regrown d1 d os
        refine wp_region_quiet_below (by kernel_rfl) (by kernel_rfl) ?_
        repeat (first
          | go_big_quiet_step (fail)
          | quiet_step (fail))
        refine wpQuiet_nil ?_
        intro _ hw'
        obtain ⟨⟨d8, os8⟩, hw''⟩ := hw'
        subst hw''
        have hby := below_regrown wx d8 os8
        have hKy := hKx.nx hby
        have hgy := gb_below hgx hby (hgx.size)
        clear q0 q1 d0 d1 d2 d3 d4
        generalize Go.Sort.grow (redrawn wx d8) os8 = wy at *
        go_wp2_with fail
        go_returns
        exact ⟨by rw [HR.out]; rfl, hKy, hgy⟩
      | true =>
        have hk1 : k + 1 ≤ K := HST.out.1 hm
        have hzz : (P : Int) + 1 = ((p + (k + 1) : Nat) : Int) := by have := HP.out; omega
        have hK1 := hKx.set 1 (.int .i64 ((p + (k + 1) : Nat) : Int))
        simp only [List.setIfInBounds_toArray, List.set_cons_zero, List.set_cons_succ] at hK1
        have hg1 := gb_setCell hgx (p := ⟨g, 1, none⟩) (.inl rfl) (.int .i64 ((p + (k + 1) : Nat) : Int))
        rw [HP.out] at hKx
        obtain ⟨d0, d1, d2, d3, d4⟩ := hKx.cell5s
        have e1 := hKx.frozen 1
        have hms : S.size - (intOf (((wx.setCell ⟨g, 1, none⟩ (.int .i64 ((p + (k + 1) : Nat) : Int))).cell? ⟨g, 1, none⟩).getD undef)).toNat < S.size - P := by
          rw [hK1.cell5s.2.1]
          have := HP.out
          simp [intOf]
          omega
        have hm0 : wq.cell? ⟨g, 1, none⟩ = some (.int .i64 P) := HD1.out
        have HZ := Lib.hid hzz
        clear hix hMk HST hzz
        go_wp2_with fail
        rw [HZ.out]
        exact ⟨⟨k + 1, hk1, hK1, hg1⟩, by rw [hm0]; exact hms⟩
    · obtain rfl : P = E := by have := HE.out; omega
      have hcut := str_cut S p P (by omega) (by omega)
      rw [show P - p = K by have := HE.out; omega] at hcut
      have hlt' : ¬ (P : Int) < (S.size : Int) := by omega
      simp only [hP] at q1 d1 hKr
      have HP := Lib.hid hP
      clear hP
      go_upto_region 2 with fail
      refine wp_region_quiet_below (by kernel_rfl) (by kernel_rfl) ?_
      repeat (first
        | go_big_quiet_step (fail)
        | quiet_step (fail))
      refine wpQuiet_nil ?_
      intro _ hw'
      obtain ⟨⟨d9, os⟩, hw''⟩ := hw'
      subst hw''
      have hbx := below_regrown wq d9 os
      have hKx := hKr.nx hbx
      have hgx := gb_below hgr hbx (hgr.size)
      clear q0 q1 d0 d1 d2 d3 d4 hKr hgr
      generalize Go.Sort.grow (redrawn wq d9) os = wx at *
      obtain ⟨d0, d1, d2, d3, d4⟩ := hKx.cell5s
      go_upto_region 4 with fail
      have q0 := fun (d : Nat) (os : Array Obj) => cell_regrown d0 d os
      have q1 := fun (d : Nat) (os : Array Obj) => cell_regrown d1 d os
      refine wp_region_quiet_below (by kernel_rfl) (by kernel_rfl) ?_
      repeat (first
        | go_big_quiet_step (fail)
        | quiet_step (fail))
      refine wpQuiet_nil ?_
      intro _ hw'
      obtain ⟨⟨d8, os8⟩, hw''⟩ := hw'
      subst hw''
      have hby := below_regrown wx d8 os8
      have hKy := hKx.nx hby
      have hgy := gb_below hgx hby (hgx.size)
      clear q0 q1 d0 d1 d2 d3 d4
      generalize Go.Sort.grow (redrawn wx d8) os8 = wy at *
      go_wp2_with fail
      go_returns
      exact ⟨by rw [HR.out]; rfl, hKy, hgy⟩
end Go.Proofs.YtgohbkkeppknoaaGreatDoor
end
section
set_option linter.unusedVariables false
namespace Go.Proofs.YtgohbkkeppknoaaGreatDoor
open Go.RowKit
def isNl (b : UInt8) : Bool := b != 10
/-- Where blanks, and a remark, end. -/
def skB (S : ByteArray) (p : Nat) : Nat := p + spanM isBl ((bl S).drop p)
def skP (S : ByteArray) (p : Nat) : Nat := if (bl S)[skB S p]? = some 35 then skB S p + spanM isNl ((bl S).drop (skB S p)) else skB S p
theorem isNl_any (b : UInt8) : ((b.toNat : Int) != 10) = isNl b := by
  unfold isNl
  by_cases h : b = 10
  · subst h; rfl
  · have : (b.toNat : Int) ≠ 10 := fun e => h (UInt8.toNat_inj.1 (show b.toNat = 10 by omega))
    rw [show (b != 10) = true by simpa using h]; simpa using this
theorem is35_any (b : UInt8) : ((b.toNat : Int) == 35) = (b == 35) := by
  by_cases h : b = 35
  · subst h; rfl
  · have : (b.toNat : Int) ≠ 35 := fun e => h (UInt8.toNat_inj.1 (show b.toNat = 35 by omega))
    rw [show (b == 35) = false by simpa using h]; simpa using this
set_option maxRecDepth 100000 in
set_option maxHeartbeats 16000000 in
theorem blanks_any (S : ByteArray) (hS : S.size ≤ 1000000) (p : Nat) (hp : p ≤ S.size) (g : Nat) (n : Int) (A : Option Addr) (m c : Nat) (v : Int) (w : World) (hK : Bk w g 136 (scA S p n A m c v)) :
    Calls Tryz.prog 138 #[.pointer (some ⟨g, 0, none⟩)] w fun e w' => e = .returned (.tuple #[]) ∧ Bk w' g 136 (scA S ((skP S p : Nat)) n A m c v) ∧ w.grownBy w' (some g) := by
  have hll : ((bl S).drop p).length = S.size - p := by rw [List.length_drop, bl_len]
  have hsp := span_le isBl ((bl S).drop p)
  obtain ⟨c0, c1, c2, c3, c4⟩ := hK.cell5s
  obtain ⟨K, hKs⟩ : ∃ K, spanM isBl ((bl S).drop p) = K := ⟨_, rfl⟩
  have hE0 : skB S p = p + K := by unfold skB; rw [hKs]
  rw [hKs] at hsp
  have HK := Lib.hid hKs
  clear hKs
  obtain ⟨F, hF⟩ : ∃ F, skP S p = F := ⟨_, rfl⟩
  rw [hF]
  have hF0 := hF
  unfold skP at hF0
  rw [hE0] at hF0
  obtain ⟨E, hE⟩ : ∃ E, p + K = E := ⟨_, rfl⟩
  rw [hE] at hF0
  have HE := Lib.hid hE
  have HF := Lib.hid hF0
  clear hE hF hF0 hE0
  go_enter Tryz.func138, Tryz.ntmps138
  go_wp2_with fail
  go_loopw [2] (fun _ wr => ∃ k : Nat, k ≤ K ∧ Bk wr g 136 (scA S ((p + k : Nat)) n A m c v) ∧ w.grownBy wr (some g)) (fun _ wr => S.size - (intOf ((wr.cell? ⟨g, 1, none⟩).getD undef)).toNat)
  case atStart => exact ⟨0, by omega, hK, World.grownBy.refl w _⟩
  case round =>
    clear c0 c1 c2 c3 c4
    obtain ⟨k, hk, hKr, hgr⟩ := hrel
    obtain ⟨wq, rfl⟩ : ∃ wq : World, wq = wr := ⟨_, rfl⟩
    obtain ⟨d0, d1, d2, d3, d4⟩ := hKr.cell5s
    have q0 := fun (d : Nat) (os : Array Obj) => cell_regrown d0 d os
    have q1 := fun (d : Nat) (os : Array Obj) => cell_regrown d1 d os
    obtain ⟨P, hP⟩ : ∃ P, p + k = P := ⟨_, rfl⟩
    by_cases hlt : P < S.size
    · have hkl : k < ((bl S).drop p).length := by omega
      have hix := ix_at S p k (by omega) hkl
      have hst := span_step isBl ((bl S).drop p) k (by rw [HK.out]; exact hk) hkl
      have hgb : (bl S)[P]? = some (((bl S).drop p)[k]) := by rw [List.getElem_drop, ← hP, List.getElem?_eq_getElem]
      rw [HK.out] at hst
      obtain ⟨b, hb⟩ : ∃ b, ((bl S).drop p)[k] = b := ⟨_, rfl⟩
      rw [hb] at hix hst hgb
      have hMk := fun w' => wblank_any b w'
      simp only [hP] at hix q1 d1
      have HD1 := Lib.hid d1
      have hlt' : (P : Int) < (S.size : Int) := by omega
      have HP := Lib.hid hP
      have HST := Lib.hid hst
      have HGB := Lib.hid hgb
      clear hP hb hkl hst hgb
      go_upto_region 0 with fail
      refine wp_region_quiet_below (by kernel_rfl) (by kernel_rfl) ?_
      repeat (first
        | go_big_quiet_step (with_reducible exact quiet_eq' (hMk _))
        | quiet_step (with_reducible exact quiet_eq' (hMk _)))
      refine wpQuiet_nil ?_
      intro _ hw'
      obtain ⟨⟨d9, os⟩, hw''⟩ := hw'
      subst hw''
      have hbx := below_regrown wq d9 os
      have hKx := hKr.nx hbx
      have hgx := gb_below hgr hbx (hgr.size)
      clear q0 q1 d0 d1 d2 d3 d4 hKr hgr
      generalize Go.Sort.grow (redrawn wq d9) os = wx at *
      cases hm : isBl b with
      | false =>
        obtain rfl : P = E := by have h1 : k = K := HST.out.2 hm; have := HP.out; have := HE.out; omega
        rw [HP.out] at hKx
        rw [hm] at hMk
        clear hMk hm HST HD1
        obtain ⟨d0, d1, d2, d3, d4⟩ := hKx.cell5s
        have q0 := fun (d : Nat) (os : Array Obj) => cell_regrown d0 d os
        have q1 := fun (d : Nat) (os : Array Obj) => cell_regrown d1 d os
        have h35 := is35_any b
        go_upto_region 2 with fail
        refine wp_region_quiet_below (by kernel_rfl) (by kernel_rfl) ?_
        repeat (first
          | go_big_quiet_step (fail)
          | quiet_step (fail))
        refine wpQuiet_nil ?_
        intro _ hw'
        obtain ⟨⟨d8, os8⟩, hw''⟩ := hw'
        subst hw''
        have hby := below_regrown wx d8 os8
        have hKy := hKx.nx hby
        have hgy := gb_below hgx hby (hgx.size)
        clear q0 q1 d0 d1 d2 d3 d4 hKx hgx hbx hby hix
        generalize Go.Sort.grow (redrawn wx d8) os8 = wy at *
        by_cases hb35 : b = 35
        · subst hb35
          have hll2 : ((bl S).drop P).length = S.size - P := by rw [List.length_drop, bl_len]
          have hsp2 := span_le isNl ((bl S).drop P)
          have hF2 : P + spanM isNl ((bl S).drop P) = F := by rw [← HF.out, if_pos HGB.out]
          clear HK HE HF HGB hsp hll HP hk
          obtain ⟨K2, hK2⟩ : ∃ K2, spanM isNl ((bl S).drop P) = K2 := ⟨_, rfl⟩
          rw [hK2] at hsp2 hF2
          have HK2 := Lib.hid hK2
          have HF2 := Lib.hid hF2
          clear hK2 hF2 h35
          go_wp2_with fail
          go_loopw [53] (fun _ wr => ∃ k : Nat, k ≤ K2 ∧ Bk wr g 136 (scA S ((P + k : Nat)) n A m c v) ∧ w.grownBy wr (some g)) (fun _ wr => S.size - (intOf ((wr.cell? ⟨g, 1, none⟩).getD undef)).toNat)
          case atStart => exact ⟨0, by omega, hKy, hgy⟩
          case round =>
            clear hKy hgy
            obtain ⟨k, hk, hKr, hgr⟩ := hrel
            obtain ⟨wz, rfl⟩ : ∃ wz : World, wz = wr := ⟨_, rfl⟩
            obtain ⟨d0, d1, d2, d3, d4⟩ := hKr.cell5s
            have q0 := fun (d : Nat) (os : Array Obj) => cell_regrown d0 d os
            have q1 := fun (d : Nat) (os : Array Obj) => cell_regrown d1 d os
            obtain ⟨Q, hQ⟩ : ∃ Q, P + k = Q := ⟨_, rfl⟩
            by_cases hlt2 : Q < S.size
            · have hkl : k < ((bl S).drop P).length := by omega
              have hix := ix_at S P k (by omega) hkl
              have hst := span_step isNl ((bl S).drop P) k (by rw [HK2.out]; exact hk) hkl
              rw [HK2.out] at hst
              obtain ⟨b, hb⟩ : ∃ b, ((bl S).drop P)[k] = b := ⟨_, rfl⟩
              rw [hb] at hix hst
              have hnl := isNl_any b
              simp only [hQ] at hix q1 d1
              have HD1 := Lib.hid d1
              have hlt2' : (Q : Int) < (S.size : Int) := by omega
              have HQ := Lib.hid hQ
              have HST := Lib.hid hst
              clear hQ hb hkl hst
              obtain ⟨z, hz⟩ : ∃ z, isNl b = z := ⟨_, rfl⟩
              rw [hz] at hnl
              have HZ0 := Lib.hid hz
              clear hz
              go_upto_region 3 with fail
              refine wp_region_quiet_below (by kernel_rfl) (by kernel_rfl) ?_
              repeat (first
                | go_big_quiet_step (fail)
                | quiet_step (fail))
              refine wpQuiet_nil ?_
              intro _ hw'
              obtain ⟨⟨d9, os⟩, hw''⟩ := hw'
              subst hw''
              have hbx := below_regrown wz d9 os
              have hKx := hKr.nx hbx
              have hgx := gb_below hgr hbx (hgr.size)
              clear q0 q1 d0 d1 d2 d3 d4 hKr hgr
              generalize Go.Sort.grow (redrawn wz d9) os = wx2 at *
              cases z with
              | false =>
                obtain rfl : Q = F := by have h1 : k = K2 := HST.out.2 HZ0.out; have := HQ.out; have := HF2.out; omega
                rw [HQ.out] at hKx
                go_wp2_with fail
                refine bodyPost_end (results_none rfl _ _ _) rfl ?_
                exact ⟨rfl, hKx, hgx⟩
              | true =>
                have hk1 : k + 1 ≤ K2 := HST.out.1 HZ0.out
                have hzz : (Q : Int) + 1 = ((P + (k + 1) : Nat) : Int) := by have := HQ.out; omega
                have hK1 := hKx.set 1 (.int .i64 ((P + (k + 1) : Nat) : Int))
                simp only [List.setIfInBounds_toArray, List.set_cons_zero, List.set_cons_succ] at hK1
                have hg1 := gb_setCell hgx (p := ⟨g, 1, none⟩) (.inl rfl) (.int .i64 ((P + (k + 1) : Nat) : Int))
                rw [HQ.out] at hKx
                obtain ⟨d0, d1, d2, d3, d4⟩ := hKx.cell5s
                have e1 := hKx.frozen 1
                have hms : S.size - (intOf (((wx2.setCell ⟨g, 1, none⟩ (.int .i64 ((P + (k + 1) : Nat) : Int))).cell? ⟨g, 1, none⟩).getD undef)).toNat < S.size - Q := by
                  rw [hK1.cell5s.2.1]
                  have := HQ.out
                  simp [intOf]
                  omega
                have hm0 : wz.cell? ⟨g, 1, none⟩ = some (.int .i64 Q) := HD1.out
                have HZ := Lib.hid hzz
                clear hix HST hzz
                go_wp2_with fail
                rw [HZ.out]
                exact ⟨⟨k + 1, hk1, hK1, hg1⟩, by rw [hm0]; exact hms⟩
            · obtain rfl : Q = F := by have := HF2.out; omega
              have hlt2' : ¬ (Q : Int) < (S.size : Int) := by omega
              simp only [hQ] at q1 d1 hKr
              have HQ := Lib.hid hQ
              clear hQ
              go_upto_region 3 with fail
              refine wp_region_quiet_below (by kernel_rfl) (by kernel_rfl) ?_
              repeat (first
                | go_big_quiet_step (fail)
                | quiet_step (fail))
              refine wpQuiet_nil ?_
              intro _ hw'
              obtain ⟨⟨d9, os⟩, hw''⟩ := hw'
              subst hw''
              have hbx := below_regrown wz d9 os
              have hKx := hKr.nx hbx
              have hgx := gb_below hgr hbx (hgr.size)
              clear q0 q1 d0 d1 d2 d3 d4 hKr hgr
              generalize Go.Sort.grow (redrawn wz d9) os = wx2 at *
              go_wp2_with fail
              refine bodyPost_end (results_none rfl _ _ _) rfl ?_
              exact ⟨rfl, hKx, hgx⟩
        · have hbf : (b == 35) = false := by simpa using hb35
          simp only [hbf]
          have HFE : F = P := by
            rw [← HF.out, if_neg]
            rw [HGB.out]
            intro e; exact hb35 (Option.some.inj e)
          subst HFE
          go_wp2_with fail
          refine bodyPost_end (results_none rfl _ _ _) rfl ?_
          exact ⟨rfl, hKy, hgy⟩
      | true =>
        have hk1 : k + 1 ≤ K := HST.out.1 hm
        have hzz : (P : Int) + 1 = ((p + (k + 1) : Nat) : Int) := by have := HP.out; omega
        have hK1 := hKx.set 1 (.int .i64 ((p + (k + 1) : Nat) : Int))
        simp only [List.setIfInBounds_toArray, List.set_cons_zero, List.set_cons_succ] at hK1
        have hg1 := gb_setCell hgx (p := ⟨g, 1, none⟩) (.inl rfl) (.int .i64 ((p + (k + 1) : Nat) : Int))
        rw [HP.out] at hKx
        obtain ⟨d0, d1, d2, d3, d4⟩ := hKx.cell5s
        have e1 := hKx.frozen 1
        have hms : S.size - (intOf (((wx.setCell ⟨g, 1, none⟩ (.int .i64 ((p + (k + 1) : Nat) : Int))).cell? ⟨g, 1, none⟩).getD undef)).toNat < S.size - P := by
          rw [hK1.cell5s.2.1]
          have := HP.out
          simp [intOf]
          omega
        have hm0 : wq.cell? ⟨g, 1, none⟩ = some (.int .i64 P) := HD1.out
        have HZ := Lib.hid hzz
        clear hix hMk HST hzz
        go_wp2_with fail
        rw [HZ.out]
        exact ⟨⟨k + 1, hk1, hK1, hg1⟩, by rw [hm0]; exact hms⟩
    · obtain rfl : P = E := by have := HE.out; omega
      have hlt' : ¬ (P : Int) < (S.size : Int) := by omega
      have HFE : F = P := by
        rw [← HF.out, if_neg]
        rw [List.getElem?_eq_none (by rw [bl_len]; omega)]
        simp
      simp only [hP] at q1 d1 hKr
      have HP := Lib.hid hP
      clear hP
      subst HFE
      go_upto_region 0 with fail
      refine wp_region_quiet_below (by kernel_rfl) (by kernel_rfl) ?_
      repeat (first
        | go_big_quiet_step (fail)
        | quiet_step (fail))
      refine wpQuiet_nil ?_
      intro _ hw'
      obtain ⟨⟨d9, os⟩, hw''⟩ := hw'
      subst hw''
      have hbx := below_regrown wq d9 os
      have hKx := hKr.nx hbx
      have hgx := gb_below hgr hbx (hgr.size)
      clear q0 q1 d0 d1 d2 d3 d4 hKr hgr
      generalize Go.Sort.grow (redrawn wq d9) os = wx at *
      obtain ⟨d0, d1, d2, d3, d4⟩ := hKx.cell5s
      have q0 := fun (d : Nat) (os : Array Obj) => cell_regrown d0 d os
      have q1 := fun (d : Nat) (os : Array Obj) => cell_regrown d1 d os
      go_upto_region 2 with fail
      refine wp_region_quiet_below (by kernel_rfl) (by kernel_rfl) ?_
      repeat (first
        | go_big_quiet_step (fail)
        | quiet_step (fail))
      refine wpQuiet_nil ?_
      intro _ hw'
      obtain ⟨⟨d8, os8⟩, hw''⟩ := hw'
      subst hw''
      have hby := below_regrown wx d8 os8
      have hKy := hKx.nx hby
      have hgy := gb_below hgx hby (hgx.size)
      clear q0 q1 d0 d1 d2 d3 d4
      generalize Go.Sort.grow (redrawn wx d8) os8 = wy at *
      go_wp2_with fail
      refine bodyPost_end (results_none rfl _ _ _) rfl ?_
      exact ⟨rfl, hKy, hgy⟩
end Go.Proofs.YtgohbkkeppknoaaGreatDoor
end
