/- perm: whether numbers are an order; and the reference's. -/
import Derived.Test.YtlbiiljncacdoaaGreatRowG
import Derived.Test.YtlbiiljncacdoaaGreatLie
import Derived.WalkSpells
set_option linter.unusedVariables false
namespace Go.Proofs.YtlbiiljncacdoaaGreat
open Go.RowKit
def pmR (N : Nat) : List Int → List Bool → Bool
  | [], _ => true
  | z :: zs, s => if z < 0 ∨ (N : Int) ≤ z then false else if s.getD z.toNat false = true then false else pmR N zs (s.set z.toNat true)
def pmB (l : List Int) (n : Int) : Bool := decide ((l.length : Int) = n) && pmR l.length l (List.replicate l.length false)
theorem bool_info : (Tryz.prog.info? 4).map (fun i => (i.zero, i.size, i.bytes)) = some (some (.bool false), 1, 1) := by kernel_rfl
def bsA (s : List Bool) : Array Value := (s.map Value.bool).toArray
theorem bsA_cell {w : World} {g : Nat} {s : List Bool} (h : Bk w g 4 (bsA s)) (q : Nat) (hq : q < s.length) : w.cell? ⟨g, q, none⟩ = some (.bool (s.getD q false)) := by
  rw [h.cell]
  unfold bsA
  simp [hq, List.getD_eq_getElem?_getD]
theorem bsA_set {w : World} {g : Nat} {s : List Bool} (h : Bk w g 4 (bsA s)) (q : Nat) : Bk (w.setCell ⟨g, q, none⟩ (.bool true)) g 4 (bsA (s.set q true)) := by
  have := h.set q (.bool true)
  have e : (bsA s).setIfInBounds q (.bool true) = bsA (s.set q true) := by
    unfold bsA
    simp [List.map_set]
  rw [e] at this
  exact this
set_option maxRecDepth 100000 in
set_option maxHeartbeats 8000000 in
theorem pis_any (l : List Int) (A : Option Addr) (n cp : Nat) (N : Int) (w : World) (hl : l.length = n) (hn : n ≤ 100000) (hr : Rd w w.heap.size A (l.map (Value.int .i64))) :
    Calls Tryz.prog 123 #[.slice A n cp, .int .i64 N] w fun e w' => e = .returned (.bool (pmB l N)) ∧ Below w.heap.size w w' := by
  have hb0 := Below.refl w.heap.size w
  by_cases hN : (n : Int) = N
  · subst hN
    have HE : Hid (pmB l (n : Int) = pmR n l (List.replicate n false)) := by unfold pmB Hid; rw [hl]; simp
    have hmk := fun W => run_make1 (P := Tryz.prog) Tryz.underlying218 bool_info rfl (n : Int) n rfl (by omega) (by omega) W
    have hK0 := Bk.new w 4 (bsA (List.replicate n false))
    have hbK := hb0.alloc (Nat.le_refl _) (.cells (bsA (List.replicate n false)) 4)
    have ebs : Array.replicate n (Value.bool false) = bsA (List.replicate n false) := by unfold bsA; simp
    rw [ebs] at hmk
    have HL := Lib.hid hl
    clear ebs hl
    go_enter Tryz.func123, Tryz.ntmps123
    go_wp2_with fail
    go_loopw [16] (fun iv wr => ∃ (k : Nat) (s : List Bool), k ≤ n ∧ iv = .int .i64 k ∧ s.length = n ∧ Hid (pmB l (n : Int) = pmR n (l.drop k) s) ∧ Bk wr w.heap.size 4 (bsA s) ∧ Below w.heap.size w wr) (fun iv _ => n - (intOf iv).toNat)
    case atStart => exact ⟨0, _, by omega, rfl, by simp, by rw [List.drop_zero]; exact HE, hK0, hbK⟩
    case round =>
      clear hK0 hbK HE
      obtain ⟨k, s, hk, rfl, hs, hE, hK, hb⟩ := hrel
      by_cases hlt : k < n
      · obtain ⟨b, o, rfl, hbl, hc⟩ := hr.get k (by rw [List.length_map, HL.out]; exact hlt)
        have hx : (l.map (Value.int .i64))[k]'(by rw [List.length_map, HL.out]; exact hlt) = .int .i64 (l.getD k 0) := by
          rw [List.getElem_map, List.getD_eq_getElem?_getD, List.getElem?_eq_getElem (by rw [HL.out]; exact hlt)]; rfl
        rw [hx] at hc
        clear hx
        replace hc := (hb.cell (p := ⟨b, o + k, none⟩) hbl).trans hc
        have hD : l.drop k = l.getD k 0 :: l.drop (k + 1) := by
          rw [List.drop_eq_getElem_cons (by rw [HL.out]; exact hlt), List.getD_eq_getElem?_getD, List.getElem?_eq_getElem (by rw [HL.out]; exact hlt)]; rfl
        have hE2 : pmB l (n : Int) = if l.getD k 0 < 0 ∨ (n : Int) ≤ l.getD k 0 then false else if s.getD (l.getD k 0).toNat false = true then false else pmR n (l.drop (k + 1)) (s.set (l.getD k 0).toNat true) := by
          have := hE.out; rw [hD, pmR] at this; exact this
        generalize l.getD k 0 = z at *
        clear hD hE
        rcases (show z < 0 ∨ (0 ≤ z ∧ (n : Int) ≤ z) ∨ (0 ≤ z ∧ z < (n : Int)) by omega) with h1 | ⟨h1, h2⟩ | ⟨h1, h2⟩
        · have HE3 : Hid (pmB l (n : Int) = false) := by rw [if_pos (.inl h1)] at hE2; exact hE2
          clear hE2 hr
          go_wp2_with fail
          go_returns
          exact ⟨by rw [HE3.out]; rfl, hb⟩
        · have HE3 : Hid (pmB l (n : Int) = false) := by rw [if_pos (.inr h2)] at hE2; exact hE2
          clear hE2 hr
          go_wp2_with fail
          go_returns
          exact ⟨by rw [HE3.out]; rfl, hb⟩
        · rw [if_neg (by omega)] at hE2
          have hqn : z.toNat < s.length := by omega
          have hcs := bsA_cell hK z.toNat hqn
          have hfz := hK.frozen z.toNat
          have hSt := bsA_set hK z.toNat
          have hbS := hb.setCell (p := ⟨w.heap.size, z.toNat, none⟩) (Nat.le_refl _) (.bool true)
          cases hsq : s.getD z.toNat false
          · have HE3 : Hid (pmB l (n : Int) = pmR n (l.drop (k + 1)) (s.set z.toNat true)) := by rw [if_neg (by rw [hsq]; decide)] at hE2; exact hE2
            rw [hsq] at hcs
            clear hE2 hr hsq
            have HS := Lib.hid hs
            clear hs
            go_wp2_with fail
            exact ⟨⟨k + 1, _, by omega, by go_num, by rw [List.length_set]; exact HS.out, HE3, hSt, hbS⟩, by simp [intOf]; omega⟩
          · have HE3 : Hid (pmB l (n : Int) = false) := by rw [if_pos hsq] at hE2; exact hE2
            rw [hsq] at hcs
            clear hE2 hr hsq hs
            go_wp2_with fail
            go_returns
            exact ⟨by rw [HE3.out]; rfl, hb⟩
      · obtain rfl : k = n := by omega
        have HE3 : Hid (pmB l (k : Int) = true) := by
          have := hE.out
          rw [List.drop_of_length_le (by rw [HL.out]; exact Nat.le_refl _), pmR] at this
          exact this
        clear hE hs hr
        go_wp2_with fail
        go_returns
        exact ⟨by rw [HE3.out]; rfl, hb⟩
  · have HE : Hid (pmB l N = false) := by unfold pmB Hid; rw [hl, decide_eq_false hN]; rfl
    have hbn : ((n : Int) != N) = true := by simp [hN]
    clear hN hr hl
    go_enter Tryz.func123, Tryz.ntmps123
    go_wp2_with fail
    go_returns
    exact ⟨by rw [HE.out]; rfl, hb0⟩
set_option maxRecDepth 100000 in
set_option maxHeartbeats 8000000 in
theorem rpis_any (l : List Int) (A : Option Addr) (n cp : Nat) (N : Int) (w : World) (hl : l.length = n) (hn : n ≤ 100000) (hr : Rd w w.heap.size A (l.map (Value.int .i64))) :
    Calls Tryz.prog 126 #[.slice A n cp, .int .i64 N] w fun e w' => e = .returned (.bool (pmB l N)) ∧ Below w.heap.size w w' := by
  have hb0 := Below.refl w.heap.size w
  by_cases hN : (n : Int) = N
  · subst hN
    have HE : Hid (pmB l (n : Int) = pmR n l (List.replicate n false)) := by unfold pmB Hid; rw [hl]; simp
    have hmk := fun W => run_make1 (P := Tryz.prog) Tryz.underlying218 bool_info rfl (n : Int) n rfl (by omega) (by omega) W
    have hK0 := Bk.new w 4 (bsA (List.replicate n false))
    have hbK := hb0.alloc (Nat.le_refl _) (.cells (bsA (List.replicate n false)) 4)
    have ebs : Array.replicate n (Value.bool false) = bsA (List.replicate n false) := by unfold bsA; simp
    rw [ebs] at hmk
    have HL := Lib.hid hl
    clear ebs hl
    go_enter Tryz.func126, Tryz.ntmps126
    go_wp2_with fail
    go_loopw [6] (fun iv wr => ∃ (k : Nat) (s : List Bool), k ≤ n ∧ iv = .int .i64 k ∧ s.length = n ∧ Hid (pmB l (n : Int) = pmR n (l.drop k) s) ∧ Bk wr w.heap.size 4 (bsA s) ∧ Below w.heap.size w wr) (fun iv _ => n - (intOf iv).toNat)
    case atStart => exact ⟨0, _, by omega, rfl, by simp, by rw [List.drop_zero]; exact HE, hK0, hbK⟩
    case round =>
      clear hK0 hbK HE
      obtain ⟨k, s, hk, rfl, hs, hE, hK, hb⟩ := hrel
      by_cases hlt : k < n
      · obtain ⟨b, o, rfl, hbl, hc⟩ := hr.get k (by rw [List.length_map, HL.out]; exact hlt)
        have hx : (l.map (Value.int .i64))[k]'(by rw [List.length_map, HL.out]; exact hlt) = .int .i64 (l.getD k 0) := by
          rw [List.getElem_map, List.getD_eq_getElem?_getD, List.getElem?_eq_getElem (by rw [HL.out]; exact hlt)]; rfl
        rw [hx] at hc
        clear hx
        replace hc := (hb.cell (p := ⟨b, o + k, none⟩) hbl).trans hc
        have hD : l.drop k = l.getD k 0 :: l.drop (k + 1) := by
          rw [List.drop_eq_getElem_cons (by rw [HL.out]; exact hlt), List.getD_eq_getElem?_getD, List.getElem?_eq_getElem (by rw [HL.out]; exact hlt)]; rfl
        have hE2 : pmB l (n : Int) = if l.getD k 0 < 0 ∨ (n : Int) ≤ l.getD k 0 then false else if s.getD (l.getD k 0).toNat false = true then false else pmR n (l.drop (k + 1)) (s.set (l.getD k 0).toNat true) := by
          have := hE.out; rw [hD, pmR] at this; exact this
        generalize l.getD k 0 = z at *
        clear hD hE
        rcases (show z < 0 ∨ (0 ≤ z ∧ (n : Int) ≤ z) ∨ (0 ≤ z ∧ z < (n : Int)) by omega) with h1 | ⟨h1, h2⟩ | ⟨h1, h2⟩
        · have HE3 : Hid (pmB l (n : Int) = false) := by rw [if_pos (.inl h1)] at hE2; exact hE2
          clear hE2 hr
          go_wp2_with fail
          go_returns
          exact ⟨by rw [HE3.out]; rfl, hb⟩
        · have HE3 : Hid (pmB l (n : Int) = false) := by rw [if_pos (.inr h2)] at hE2; exact hE2
          clear hE2 hr
          go_wp2_with fail
          go_returns
          exact ⟨by rw [HE3.out]; rfl, hb⟩
        · rw [if_neg (by omega)] at hE2
          have hqn : z.toNat < s.length := by omega
          have hcs := bsA_cell hK z.toNat hqn
          have hfz := hK.frozen z.toNat
          have hSt := bsA_set hK z.toNat
          have hbS := hb.setCell (p := ⟨w.heap.size, z.toNat, none⟩) (Nat.le_refl _) (.bool true)
          cases hsq : s.getD z.toNat false
          · have HE3 : Hid (pmB l (n : Int) = pmR n (l.drop (k + 1)) (s.set z.toNat true)) := by rw [if_neg (by rw [hsq]; decide)] at hE2; exact hE2
            rw [hsq] at hcs
            clear hE2 hr hsq
            have HS := Lib.hid hs
            clear hs
            go_wp2_with fail
            exact ⟨⟨k + 1, _, by omega, by go_num, by rw [List.length_set]; exact HS.out, HE3, hSt, hbS⟩, by simp [intOf]; omega⟩
          · have HE3 : Hid (pmB l (n : Int) = false) := by rw [if_pos hsq] at hE2; exact hE2
            rw [hsq] at hcs
            clear hE2 hr hsq hs
            go_wp2_with fail
            go_returns
            exact ⟨by rw [HE3.out]; rfl, hb⟩
      · obtain rfl : k = n := by omega
        have HE3 : Hid (pmB l (k : Int) = true) := by
          have := hE.out
          rw [List.drop_of_length_le (by rw [HL.out]; exact Nat.le_refl _), pmR] at this
          exact this
        clear hE hs hr
        go_wp2_with fail
        go_returns
        exact ⟨by rw [HE3.out]; rfl, hb⟩
  · have HE : Hid (pmB l N = false) := by unfold pmB Hid; rw [hl, decide_eq_false hN]; rfl
    have hbn : ((n : Int) != N) = true := by simp [hN]
    clear hN hr hl
    go_enter Tryz.func126, Tryz.ntmps126
    go_wp2_with fail
    go_returns
    exact ⟨by rw [HE.out]; rfl, hb0⟩
end Go.Proofs.YtlbiiljncacdoaaGreat
