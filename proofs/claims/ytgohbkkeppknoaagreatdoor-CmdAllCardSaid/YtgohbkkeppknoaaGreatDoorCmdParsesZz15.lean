/- Several texts in one: The reference's numbers: in blocks, and as what an operation of a region tells. The reference's digits of a text. -/
import Derived.Test.YtgohbkkeppknoaaGreatDoorCmdParsesZz2
import Derived.Test.YtgohbkkeppknoaaGreatDoorCmdParsesZz6
import Derived.Test.YtgohbkkeppknoaaGreatDoorCmdParsesZz3
import Derived.Test.YtgohbkkeppknoaaGreatDoorCmdParsesZz14
section
set_option linter.unusedVariables false
namespace Go.Proofs.YtgohbkkeppknoaaGreatDoor
open Go.RowKit
theorem BigN.gbig {lo : Nat} {w w' : World} {v : Value} {z : Int} {g : Nat} {b : Bool} {A : Option Addr} {n c : Nat} (h : BigN lo w v z) (hk : Bk w g 200 #[.bool b, .slice A n c]) (hg : w.grownBy w' (some g)) : BigN lo w' v z := by
  obtain ⟨A', c', l, e, h2, h3, h4, h5, h6, h7⟩ := h
  refine ⟨A', c', l, e, h2, h3, h4, fun i hi => ?_, h6, h7⟩
  obtain ⟨b', o, e1, hlo, hb, hc⟩ := h5 i hi
  refine ⟨b', o, e1, hlo, Nat.lt_of_lt_of_le hb hg.size, ?_⟩
  by_cases hbg : b' = g
  · subst hbg
    rw [hk.cell, List.getElem_map] at hc
    exfalso
    match ho : o + i, hc with
    | 0, hc => simp at hc
    | 1, hc => simp at hc
    | q + 2, hc => simp at hc
  · rw [← hc]
    exact World.cell?_of_block (hg.block b' hb (fun e => by injection e with e; exact hbg e))
/-- Block g holds the number z. -/
def BgC (w : World) (g : Nat) (z : Int) : Prop := ∃ s A n c, Bk w g 200 #[.bool s, .slice A n c] ∧ BigN 0 w (.agg #[.bool s, .slice A n c]) z
theorem BgC.nx {w w' : World} {g : Nat} {z : Int} (h : BgC w g z) (hb : Below w.heap.size w w') : BgC w' g z := by
  obtain ⟨s, A, n, c, k, hN⟩ := h
  exact ⟨s, A, n, c, k.nx hb, hN.nx hb⟩
theorem BgC.gb {w w' : World} {g g' : Nat} {z : Int} {b : Bool} {A : Option Addr} {n c : Nat} (h : BgC w g z) (hk : Bk w g' 200 #[.bool b, .slice A n c]) (hg : w.grownBy w' (some g')) (hne : g ≠ g') : BgC w' g z := by
  obtain ⟨s, A, n, c, k, hN⟩ := h
  exact ⟨s, A, n, c, k.grown hg (fun e => by injection e with e; exact hne e), hN.gbig hk hg⟩
/-- What an operation's value is: a number, this value, or whatever. -/
def Sat (s : Option (Int ⊕ Value)) (v : Value) (w : World) : Prop := match s with
  | none => True
  | some (.inl z) => BigN 0 w v z
  | some (.inr u) => v = u
theorem Sat.nx {s : Option (Int ⊕ Value)} {v : Value} {w w' : World} (hb : Below w.heap.size w w') (h : Sat s v w) : Sat s v w' := by
  match s, h with
  | none, _ => trivial
  | some (.inl z), h => exact BigN.nx h hb
  | some (.inr u), h => exact h
theorem Sat.gb {s : Option (Int ⊕ Value)} {v : Value} {w w' : World} {g : Nat} {b : Bool} {A : Option Addr} {n c : Nat} (hk : Bk w g 200 #[.bool b, .slice A n c]) (hg : w.grownBy w' (some g)) (h : Sat s v w) : Sat s v w' := by
  match s, h with
  | none, _ => trivial
  | some (.inl z), h => exact BigN.gbig h hk hg
  | some (.inr u), h => exact h
/-- What the operations of a region tell, by a list. -/
abbrev SatL (S : List (Option (Int ⊕ Value))) : Nat → Value → Value → World → Prop := fun i v _ w => Sat (S.getD i none) v w
abbrev bigS (z : Int) : Option (Int ⊕ Value) := some (.inl z)
abbrev valS (v : Value) : Option (Int ⊕ Value) := some (.inr v)
theorem sm_nat {n : Nat} (h : n < 10 ^ 100) : Sm (n : Int) := by
  unfold Sm
  rw [Bp40, Int.natAbs_natCast]
  have e : (10 : Nat) ^ 100 ≤ 4149515568880992958512407863691161151012446232242436899995657329690652811412908146399707048947103794288197886611300789182395151075411775307886874834113963687061181803401509523685376 := by decide
  exact Int.ofNat_lt.2 (Nat.lt_of_lt_of_le h e)
end Go.Proofs.YtgohbkkeppknoaaGreatDoor
end
section
set_option linter.unusedVariables false
namespace Go.Proofs.YtgohbkkeppknoaaGreatDoor
open Go.RowKit
theorem n10 (a c : Int) (h : 0 ≤ a) : a * 10 + c = a * 10 + c := rfl
set_option maxRecDepth 100000 in
set_option maxHeartbeats 16000000 in
theorem rdig_any (s : ByteArray) (hs : s.size ≤ 80) (w : World) : Calls Tryz.prog 200 #[.string s] w fun e w' => ∃ (v : Value) (z : Nat), e = .returned (.tuple #[v, .bool (!(bl s).isEmpty && (bl s).all isD)]) ∧ BigN 0 w' v z ∧ z < 10 ^ 80 ∧ ((bl s).all isD = true → z = numV 0 (bl s)) ∧ Below w.heap.size w w' := by
  have hHL : Hid (∀ k, k ≤ s.size → (∀ b ∈ (bl s).take k, isD b = true) → numV 0 ((bl s).take k) < 10 ^ 80) := fun k hk h => by
    refine Nat.lt_of_lt_of_le (numV_lt _ h) (Nat.pow_le_pow_right (by decide) ?_)
    rw [List.length_take, bl_len]
    omega
  have HM : Hid (∀ k (h : k < s.size), s[k]'h ∈ bl s) := fun k h => by
    rw [← bl_get s k h]
    exact List.getElem_mem _
  have HT : Hid ((bl s).take s.size = bl s) := List.take_of_length_le (by rw [bl_len]; exact Nat.le_refl _)
  have HV : Hid (∀ k (h : k < s.size), numV 0 ((bl s).take (k + 1)) = numV 0 ((bl s).take k) * 10 + ((s[k]'h).toNat - 48)) := fun k h => by
    rw [List.take_succ_eq_append_getElem (by rw [bl_len]; exact h), numV_app, numV_one, dv_eq, bl_get s k h]
  have HA : Hid (∀ k (h : k < s.size), (∀ b ∈ (bl s).take k, isD b = true) → isD (s[k]'h) = true → ∀ b ∈ (bl s).take (k + 1), isD b = true) := fun k h h1 h2 => all_take h1 (by rw [bl_len]; exact h) h2
  have hO := fun w' => of_any 0 w' (by omega) (by omega)
  have hL := (Lie.start w).alloc #[.bool false, .slice none 0 0] 200
  go_enter Tryz.func200, Tryz.ntmps200
  go_wp2_with (first
    | (go_at_call 151; (with_reducible refine (hO _).mono ?_); rintro e w1 ⟨v1, rfl, hN1, hb1⟩; obtain ⟨s1, A1, n1, c1, rfl⟩ := hN1.shape; have hL1 := (hL.nx hb1).alloc #[.bool false, .slice none 0 0] 200; have hK1 := hL1.k 0 (by simp); simp only [List.getElem_cons_zero] at hK1; have hN1a := (hN1.alloc (.cells #[.bool false, .slice none 0 0] 200)).any)
    | (refine stBig rfl _ _ rfl hK1 rfl rfl rfl ?_; intro w2 hK2 hg2 hs2; have hN2 := hN1a.gbig hK1 hg2; have hL2 := hL1.set hg2 hK2 (by have := hb1.size; simp at this; omega) (fun x hx => by simp only [List.mem_cons, List.not_mem_nil, or_false] at hx; subst hx; simp; have := hb1.size; simp at this; omega)))
  have hC0 : BgC w2 w1.heap.size ((0 : Nat) : Int) := ⟨_, _, _, _, hK2, hN2⟩
  have hR0 : Bk w2 w.heap.size 200 #[.bool false, .slice none 0 0] := hL2.k 1 (by simp)
  have hbel0 := hL2.bel
  have hgg : w.heap.size < w1.heap.size := by have := hb1.size; simp at this; omega
  obtain ⟨g4, hg4⟩ : ∃ g4, w1.heap.size = g4 := ⟨_, rfl⟩
  rw [hg4] at hC0 hgg
  simp only [hg4]
  clear hg4 hO hL hb1 hN1 hL1 hK1 hN1a hK2 hg2 hs2 hN2 hL2
  go_loopw [5] (fun iv wr => ∃ k : Nat, k ≤ s.size ∧ iv = .int .i64 k ∧ Hid (∀ b ∈ (bl s).take k, isD b = true) ∧ BgC wr g4 (numV 0 ((bl s).take k) : Nat) ∧ Bk wr w.heap.size 200 #[.bool false, .slice none 0 0] ∧ Below w.heap.size w wr) (fun iv _ => s.size - (intOf iv).toNat)
  case atStart => exact ⟨0, by omega, rfl, fun b hb => absurd hb (by simp), hC0, hR0, hbel0⟩
  case round =>
    clear hC0 hR0 hbel0
    obtain ⟨k, hk, rfl, hall, hC, hR, hbr⟩ := hrel
    have hl := hHL.out k hk hall.out
    have hbz := hbr.size
    by_cases hlt : k < s.size
    · have hlt' : (k : Int) < (s.size : Int) := by omega
      have hm := HM.out k hlt
      have hv := HV.out k hlt
      have hA := Lib.hid (HA.out k hlt hall.out)
      have hidx : ∀ W, (Instr.index 9 (.string s) (.int .i64 (k : Int))).run Tryz.prog W = .ok (.int .u8 ((s[k]'hlt).toNat : Int)) W := fun W => by
        rw [run_index_string (P := Tryz.prog) W 9 s .i64 (k : Int) Tryz.underlying9, dif_pos ⟨by omega, hlt'⟩]
        rfl
      by_cases hd : 48 ≤ (s[k]'hlt).toNat ∧ (s[k]'hlt).toNat ≤ 57
      · have hall2 := Lib.hid (hA.out (isD_iff.2 hd))
        have HV2 := Lib.hid hv
        clear hA hv hm HA HV HM HT hHL
        generalize numV 0 ((bl s).take k) = n at *
        generalize (s[k]'hlt).toNat = c at *
        go_upto_region 7 with fail
        have hO1 := fun w' => of_any 10 w' (by omega) (by omega)
        have hO2 := fun w' => of_any ((c : Int) - 48) w' (by omega) (by omega)
        have hx : (0 : Int) ≤ (n : Int) := by omega
        have sn : Sm (n : Int) := sm_nat (Nat.lt_of_lt_of_le hl (Nat.pow_le_pow_right (by decide) (by decide)))
        have sn10 : Sm ((n : Int) * 10) := by
          rw [show (n : Int) * 10 = ((n * 10 : Nat) : Int) by simp]
          exact sm_nat (Nat.lt_of_lt_of_le (Nat.mul_lt_mul_of_pos_right hl (by decide)) (by decide))
        have s10 : Sm 10 := sm_of (by omega) (by omega)
        have sd : Sm ((c : Int) - 48) := sm_of (by omega) (by omega)
        have e1 : IntKind.u8.wrap ((c : Int) - 48) = (c : Int) - 48 := by rw [IntKind.wrap_u8]; omega
        refine wp_region_dag' 10 [9, 2, 0] id
          (SatL [bigS n, bigS 10, bigS (n * 10), valS (.string s), valS (.int .i64 k), valS (.int .u8 c), valS (.int .u8 (c - 48)), valS (.int .i64 (c - 48)), bigS (c - 48), bigS (n * 10 + (c - 48)), none])
          (fun b w' => Below w.heap.size w w' ∧ BgC w' g4 (if b then n * 10 + (c - 48) else n) ∧ Bk w' w.heap.size 200 #[.bool false, .slice none 0 0])
          (by kernel_rfl) (by kernel_rfl) (by kernel_rfl) (by kernel_rfl) ⟨below_drewN hbr 1, hC.nx (below_drewN (Below.refl _ _) 1), hR⟩ ?_ ?_
        case refine_1 =>
          intro K i o y wr b ho hG hs hdep hK
          have hG' := hG
          obtain ⟨hB, hC, hR⟩ := hG'
          rcases i with _ | i
          · obtain rfl : _ = o := Option.some.inj ho
            unfold StepTo
            simp only [List.map_cons, List.map_nil, puts, updV, Act.put, List.setIfInBounds_toArray, List.set_cons_zero, List.set_cons_succ] at hK ⊢
            generalize y 0 = y0 at *; generalize y 1 = y1 at *; generalize y 2 = y2 at *; generalize y 3 = y3 at *; generalize y 4 = y4 at *; generalize y 5 = y5 at *; generalize y 6 = y6 at *; generalize y 7 = y7 at *; generalize y 8 = y8 at *; generalize y 9 = y9 at *; generalize y 10 = y10 at *
            obtain ⟨rfl, -⟩ := hs (.inl (by simp))
            obtain ⟨s1', A1', n1', c1', k1, hN⟩ := hC
            refine ldBig rfl _ rfl k1 rfl ?_
            exact ⟨rfl, hK _ _ hN hG (fun _ _ _ h => h)⟩
          rcases i with _ | i
          · obtain rfl : _ = o := Option.some.inj ho
            unfold StepTo
            simp only [List.map_cons, List.map_nil, puts, updV, Act.put, List.setIfInBounds_toArray, List.set_cons_zero, List.set_cons_succ] at hK ⊢
            generalize y 0 = y0 at *; generalize y 1 = y1 at *; generalize y 2 = y2 at *; generalize y 3 = y3 at *; generalize y 4 = y4 at *; generalize y 5 = y5 at *; generalize y 6 = y6 at *; generalize y 7 = y7 at *; generalize y 8 = y8 at *; generalize y 9 = y9 at *; generalize y 10 = y10 at *
            go_wp2_with (go_at_call 151; refine (hO1 _).mono ?_; rintro e w2 ⟨v, rfl, hN, hb⟩)
            exact hK _ _ hN.any ⟨hB.trans (hb.mono hB.size), hC.nx hb, hR.nx hb⟩ (fun _ _ _ h => Sat.nx hb h)
          rcases i with _ | i
          · obtain rfl : _ = o := Option.some.inj ho
            have p0 : BigN 0 wr (y 0) n := hdep { on := 0, ground := .data } (by simp) rfl
            have p1 : BigN 0 wr (y 1) 10 := hdep { on := 1, ground := .data } (by simp) rfl
            unfold StepTo
            simp only [List.map_cons, List.map_nil, puts, updV, Act.put, List.setIfInBounds_toArray, List.set_cons_zero, List.set_cons_succ] at hK ⊢
            generalize y 0 = y0 at *; generalize y 1 = y1 at *; generalize y 2 = y2 at *; generalize y 3 = y3 at *; generalize y 4 = y4 at *; generalize y 5 = y5 at *; generalize y 6 = y6 at *; generalize y 7 = y7 at *; generalize y 8 = y8 at *; generalize y 9 = y9 at *; generalize y 10 = y10 at *
            go_wp2_with (go_at_call 196; refine (mul_any _ _ _ _ _ p0 p1 sn s10).mono ?_; rintro e w2 ⟨v, rfl, hN, hb⟩)
            exact hK _ _ hN.any ⟨hB.trans (hb.mono hB.size), hC.nx hb, hR.nx hb⟩ (fun _ _ _ h => Sat.nx hb h)
          rcases i with _ | i
          · obtain rfl : _ = o := Option.some.inj ho
            unfold StepTo
            simp only [List.map_cons, List.map_nil, puts, updV, Act.put, List.setIfInBounds_toArray, List.set_cons_zero, List.set_cons_succ] at hK ⊢
            generalize y 0 = y0 at *; generalize y 1 = y1 at *; generalize y 2 = y2 at *; generalize y 3 = y3 at *; generalize y 4 = y4 at *; generalize y 5 = y5 at *; generalize y 6 = y6 at *; generalize y 7 = y7 at *; generalize y 8 = y8 at *; generalize y 9 = y9 at *; generalize y 10 = y10 at *
            go_wp2_with fail
            exact hK _ _ rfl hG (fun _ _ _ h => h)
          rcases i with _ | i
          · obtain rfl : _ = o := Option.some.inj ho
            unfold StepTo
            simp only [List.map_cons, List.map_nil, puts, updV, Act.put, List.setIfInBounds_toArray, List.set_cons_zero, List.set_cons_succ] at hK ⊢
            generalize y 0 = y0 at *; generalize y 1 = y1 at *; generalize y 2 = y2 at *; generalize y 3 = y3 at *; generalize y 4 = y4 at *; generalize y 5 = y5 at *; generalize y 6 = y6 at *; generalize y 7 = y7 at *; generalize y 8 = y8 at *; generalize y 9 = y9 at *; generalize y 10 = y10 at *
            go_wp2_with fail
            exact hK _ _ rfl hG (fun _ _ _ h => h)
          rcases i with _ | i
          · obtain rfl : _ = o := Option.some.inj ho
            have p3 : y 3 = _ := hdep { on := 3, ground := .data } (by simp) rfl
            have p4 : y 4 = _ := hdep { on := 4, ground := .data } (by simp) rfl
            unfold StepTo
            simp only [List.map_cons, List.map_nil, puts, updV, Act.put, List.setIfInBounds_toArray, List.set_cons_zero, List.set_cons_succ] at hK ⊢
            generalize y 0 = y0 at *; generalize y 1 = y1 at *; generalize y 2 = y2 at *; generalize y 3 = y3 at *; generalize y 4 = y4 at *; generalize y 5 = y5 at *; generalize y 6 = y6 at *; generalize y 7 = y7 at *; generalize y 8 = y8 at *; generalize y 9 = y9 at *; generalize y 10 = y10 at *
            subst p3
            subst p4
            go_wp2_with fail
            exact hK _ _ rfl hG (fun _ _ _ h => h)
          rcases i with _ | i
          · obtain rfl : _ = o := Option.some.inj ho
            have p5 : y 5 = _ := hdep { on := 5, ground := .data } (by simp) rfl
            unfold StepTo
            simp only [List.map_cons, List.map_nil, puts, updV, Act.put, List.setIfInBounds_toArray, List.set_cons_zero, List.set_cons_succ] at hK ⊢
            generalize y 0 = y0 at *; generalize y 1 = y1 at *; generalize y 2 = y2 at *; generalize y 3 = y3 at *; generalize y 4 = y4 at *; generalize y 5 = y5 at *; generalize y 6 = y6 at *; generalize y 7 = y7 at *; generalize y 8 = y8 at *; generalize y 9 = y9 at *; generalize y 10 = y10 at *
            subst p5
            go_wp2_with fail
            exact hK _ _ rfl hG (fun _ _ _ h => h)
          rcases i with _ | i
          · obtain rfl : _ = o := Option.some.inj ho
            have p6 : y 6 = _ := hdep { on := 6, ground := .data } (by simp) rfl
            unfold StepTo
            simp only [List.map_cons, List.map_nil, puts, updV, Act.put, List.setIfInBounds_toArray, List.set_cons_zero, List.set_cons_succ] at hK ⊢
            generalize y 0 = y0 at *; generalize y 1 = y1 at *; generalize y 2 = y2 at *; generalize y 3 = y3 at *; generalize y 4 = y4 at *; generalize y 5 = y5 at *; generalize y 6 = y6 at *; generalize y 7 = y7 at *; generalize y 8 = y8 at *; generalize y 9 = y9 at *; generalize y 10 = y10 at *
            subst p6
            go_wp2_with fail
            exact hK _ _ rfl hG (fun _ _ _ h => h)
          rcases i with _ | i
          · obtain rfl : _ = o := Option.some.inj ho
            have p7 : y 7 = _ := hdep { on := 7, ground := .data } (by simp) rfl
            unfold StepTo
            simp only [List.map_cons, List.map_nil, puts, updV, Act.put, List.setIfInBounds_toArray, List.set_cons_zero, List.set_cons_succ] at hK ⊢
            generalize y 0 = y0 at *; generalize y 1 = y1 at *; generalize y 2 = y2 at *; generalize y 3 = y3 at *; generalize y 4 = y4 at *; generalize y 5 = y5 at *; generalize y 6 = y6 at *; generalize y 7 = y7 at *; generalize y 8 = y8 at *; generalize y 9 = y9 at *; generalize y 10 = y10 at *
            subst p7
            go_wp2_with (go_at_call 151; refine (hO2 _).mono ?_; rintro e w2 ⟨v, rfl, hN, hb⟩)
            exact hK _ _ hN.any ⟨hB.trans (hb.mono hB.size), hC.nx hb, hR.nx hb⟩ (fun _ _ _ h => Sat.nx hb h)
          rcases i with _ | i
          · obtain rfl : _ = o := Option.some.inj ho
            have p2 : BigN 0 wr (y 2) (n * 10) := hdep { on := 2, ground := .data } (by simp) rfl
            have p8 : BigN 0 wr (y 8) (c - 48) := hdep { on := 8, ground := .data } (by simp) rfl
            unfold StepTo
            simp only [List.map_cons, List.map_nil, puts, updV, Act.put, List.setIfInBounds_toArray, List.set_cons_zero, List.set_cons_succ] at hK ⊢
            generalize y 0 = y0 at *; generalize y 1 = y1 at *; generalize y 2 = y2 at *; generalize y 3 = y3 at *; generalize y 4 = y4 at *; generalize y 5 = y5 at *; generalize y 6 = y6 at *; generalize y 7 = y7 at *; generalize y 8 = y8 at *; generalize y 9 = y9 at *; generalize y 10 = y10 at *
            go_wp2_with (go_at_call 195; refine (add_any _ _ _ _ _ p2 p8 sn10 sd).mono ?_; rintro e w2 ⟨v, rfl, hN, hb⟩)
            exact hK _ _ hN.any ⟨hB.trans (hb.mono hB.size), hC.nx hb, hR.nx hb⟩ (fun _ _ _ h => Sat.nx hb h)
          rcases i with _ | i
          · obtain rfl : _ = o := Option.some.inj ho
            have p9 : BigN 0 wr (y 9) (n * 10 + (c - 48)) := hdep { on := 9, ground := .data } (by simp) rfl
            unfold StepTo
            simp only [List.map_cons, List.map_nil, puts, updV, Act.put, List.setIfInBounds_toArray, List.set_cons_zero, List.set_cons_succ] at hK ⊢
            generalize y 0 = y0 at *; generalize y 1 = y1 at *; generalize y 2 = y2 at *; generalize y 3 = y3 at *; generalize y 4 = y4 at *; generalize y 5 = y5 at *; generalize y 6 = y6 at *; generalize y 7 = y7 at *; generalize y 8 = y8 at *; generalize y 9 = y9 at *; generalize y 10 = y10 at *
            obtain ⟨rfl, -⟩ := hs (.inr rfl)
            obtain ⟨s1', A1', n1', c1', k1, hN⟩ := hC
            obtain ⟨s9, A9, n9, c9, rfl⟩ := p9.shape
            refine stBig rfl _ _ rfl k1 rfl rfl rfl ?_
            intro w2 hk hg hs2
            exact ⟨rfl, hK undef _ trivial ⟨below_of_gb hB hg (by omega) hB.size, ⟨_, _, _, _, hk, p9.gbig k1 hg⟩, hR.grown hg (fun e => by injection e with e; omega)⟩ (fun _ _ _ h => Sat.gb k1 hg h)⟩
          · exact absurd ho (by simp)
        case refine_2 =>
          intro y wr b hG hF hb
          obtain rfl := hb (by decide)
          obtain ⟨hB, hC, hR⟩ := hG
          simp only [List.map_cons, List.map_nil, puts, Act.put, List.setIfInBounds_toArray, List.set_cons_zero, List.set_cons_succ]
          generalize y 0 = y0 at *; generalize y 1 = y1 at *; generalize y 2 = y2 at *; generalize y 3 = y3 at *; generalize y 4 = y4 at *; generalize y 5 = y5 at *; generalize y 6 = y6 at *; generalize y 7 = y7 at *; generalize y 8 = y8 at *; generalize y 9 = y9 at *; generalize y 10 = y10 at *
          clear hF hO1 hO2 sn sn10 s10 sd e1
          go_wp2_with fail
          exact ⟨⟨k + 1, by omega, by go_num, hall2, by rw [HV2.out]; simpa [show ((c - 48 : Nat) : Int) = (c : Int) - 48 by omega] using hC, hR, hB⟩, by simp [intOf]; omega⟩
      · have HR : Hid ((!(bl s).isEmpty && (bl s).all isD) = false) := by
          show _ = _
          have : (bl s).all isD = false := List.all_eq_false.2 ⟨_, hm, by intro h; exact hd (isD_iff.1 h)⟩
          rw [this, Bool.and_false]
        have HNA : Hid ((bl s).all isD = true → False) := fun h => by
          have := List.all_eq_true.1 h _ hm
          exact hd (isD_iff.1 this)
        clear hA hv hm HA HV HM HT hHL
        generalize numV 0 ((bl s).take k) = n at *
        generalize (s[k]'hlt).toNat = c at *
        by_cases h48 : c < 48
        · have hc1 : decide ((c : Int) < 48) = true := decide_eq_true (by omega)
          obtain ⟨s4, A4, n4, c4, k4, hN4⟩ := hC
          go_wp2_with (first
            | (refine ldBig rfl _ rfl k4 rfl ?_)
            | (refine stBig rfl _ _ rfl hR rfl rfl rfl ?_; intro w7 k7 hg7 hs7))
          refine bodyPost_ret (res_cell_tmp rfl k7 rfl Tryz.underlying200 rfl big_size) rfl ?_
          exact ⟨_, _, by rw [HR.out]; rfl, hN4.gbig hR hg7, hl, fun h => (HNA.out h).elim, below_of_gb hbr hg7 (Nat.le_refl _) hbz⟩
        · have hc1 : decide ((c : Int) < 48) = false := decide_eq_false (by omega)
          have hc2 : decide ((57 : Int) < (c : Int)) = true := decide_eq_true (by omega)
          obtain ⟨s4, A4, n4, c4, k4, hN4⟩ := hC
          go_wp2_with (first
            | (refine ldBig rfl _ rfl k4 rfl ?_)
            | (refine stBig rfl _ _ rfl hR rfl rfl rfl ?_; intro w7 k7 hg7 hs7))
          refine bodyPost_ret (res_cell_tmp rfl k7 rfl Tryz.underlying200 rfl big_size) rfl ?_
          exact ⟨_, _, by rw [HR.out]; rfl, hN4.gbig hR hg7, hl, fun h => (HNA.out h).elim, below_of_gb hbr hg7 (Nat.le_refl _) hbz⟩
    · obtain rfl : k = s.size := by omega
      have hn : numV 0 ((bl s).take s.size) = numV 0 (bl s) := by rw [HT.out]
      have hal : (bl s).all isD = true := List.all_eq_true.2 (by have := hall.out; rw [HT.out] at this; exact this)
      have HR : Hid ((!(bl s).isEmpty && (bl s).all isD) = decide (0 < s.size)) := by
        show _ = _
        rw [hal, Bool.and_true]
        have := bl_len s
        cases hb : bl s with
        | nil => rw [hb] at this; simp at this; rw [decide_eq_false (by omega)]; rfl
        | cons b r => rw [hb] at this; simp at this; rw [decide_eq_true (by omega)]; rfl
      have HN := Lib.hid hn
      clear hal HA HV HM HT hHL hn
      generalize numV 0 ((bl s).take s.size) = n at *
      obtain ⟨s4, A4, n4, c4, k4, hN4⟩ := hC
      go_wp2_with (first
        | (refine ldBig rfl _ rfl k4 rfl ?_)
        | (refine stBig rfl _ _ rfl hR rfl rfl rfl ?_; intro w7 k7 hg7 hs7))
      refine bodyPost_ret (res_cell_tmp rfl k7 rfl Tryz.underlying200 rfl big_size) rfl ?_
      exact ⟨_, _, by rw [HR.out]; rfl, hN4.gbig hR hg7, hl, fun _ => HN.out, below_of_gb hbr hg7 (Nat.le_refl _) hbz⟩
end Go.Proofs.YtgohbkkeppknoaaGreatDoor
end
