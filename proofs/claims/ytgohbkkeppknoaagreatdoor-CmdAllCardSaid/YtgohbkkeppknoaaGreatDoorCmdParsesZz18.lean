/- Several texts in one: The reference's whole numbers of texts. (Printed by wip/tools/gennc4.py.) -/
import Derived.Test.YtgohbkkeppknoaaGreatDoorCmdParsesZz17
section
set_option linter.unusedVariables false
namespace Go.Proofs.YtgohbkkeppknoaaGreatDoor
open Go.RowKit
open Go.Lib (itoa)
def optV (o : Option Int) : Value := .tuple #[.int .i64 (o.getD 0), .bool o.isSome]
theorem optV_none {o : Option Int} (h : o = none) : optV o = .tuple #[.int .i64 0, .bool false] := by rw [h]; rfl
theorem optV_some {o : Option Int} {z : Int} (h : o = some z) : optV o = .tuple #[.int .i64 z, .bool true] := by rw [h]; rfl
theorem refN_bad {l : List UInt8} (h : unsg l = [] ∨ 25 < (unsg l).length ∨ ¬ ((unsg l).all isD = true)) : refN l = none := by
  unfold refN; rw [if_pos h]
theorem refN_out {l : List UInt8} (h1 : unsg l ≠ []) (h2 : (unsg l).length ≤ 25) (h3 : (unsg l).all isD = true) (h : ¬ (in64 (sgL l (numV 0 (unsg l))) ∧ itoa (sgL l (numV 0 (unsg l))) = l)) : refN l = none := by
  unfold refN; rw [if_neg (by rintro (h | h | h); exact h1 h; omega; exact h h3), if_neg h]
theorem refN_in {l : List UInt8} (h1 : unsg l ≠ []) (h2 : (unsg l).length ≤ 25) (h3 : (unsg l).all isD = true) (h : in64 (sgL l (numV 0 (unsg l))) ∧ itoa (sgL l (numV 0 (unsg l))) = l) : refN l = some (sgL l (numV 0 (unsg l))) := by
  unfold refN; rw [if_neg (by rintro (h | h | h); exact h1 h; omega; exact h h3), if_pos h]
theorem idx_0 (s : ByteArray) (h : 0 < s.size) (c : Nat) (hc : (s[0]'h).toNat = c) (W : World) : (Instr.index 9 (.string s) (.int .i64 0)).run Tryz.prog W = .ok (.int .u8 c) W := by
  rw [run_index_string (P := Tryz.prog) W 9 s .i64 0 Tryz.underlying9, dif_pos ⟨by omega, by omega⟩, ← hc]
  rfl
theorem neg_parts {s : ByteArray} (h : neg? (bl s) = true) : 1 ≤ s.size ∧ s.extract 1 s.size = ⟨(unsg (bl s)).toArray⟩ ∧ (unsg (bl s)).length + 1 = s.size ∧ ∀ W, (Instr.index 9 (.string s) (.int .i64 0)).run Tryz.prog W = .ok (.int .u8 45) W := by
  have hh : (bl s).head? = some 45 := by unfold neg? at h; simpa using h
  have hu : unsg (bl s) = (bl s).tail := by unfold unsg; rw [if_pos hh]
  have hz : 1 ≤ s.size := by
    rw [← bl_len]
    cases hb : bl s with
    | nil => rw [hb] at hh; cases hh
    | cons c r => simp
  refine ⟨hz, ?_, ?_, fun W => ?_⟩
  · rw [ext_eq, hu, ← bl_len]
    cases hb : bl s with
    | nil => rw [hb] at hh; cases hh
    | cons c r => simp
  · rw [hu, ← bl_len, List.length_tail, bl_len]; omega
  · have h0 : (bl s)[0]? = some 45 := by rw [← List.head?_eq_getElem?]; exact hh
    have h1 := List.getElem?_eq_getElem (l := bl s) (i := 0) (by rw [bl_len]; omega)
    rw [h0] at h1
    have h1 := Option.some.inj h1
    have h2 := idx_0 s hz 45 (by rw [show s[0]'hz = 45 from (bl_get s 0 hz).symm.trans h1.symm]; rfl) W
    rw [show ((45 : Nat) : Int) = 45 from rfl] at h2
    exact h2
theorem pos_parts {s : ByteArray} (h : neg? (bl s) = false) (hz : 0 < s.size) : ∃ c : Nat, c ≠ 45 ∧ c ≤ 255 ∧ ∀ W, (Instr.index 9 (.string s) (.int .i64 0)).run Tryz.prog W = .ok (.int .u8 c) W := by
  refine ⟨(s[0]'hz).toNat, fun e => ?_, by have := (s[0]'hz).toNat_lt; omega, fun W => ?_⟩
  · have h1 : s[0]'hz = 45 := UInt8.toNat_inj.1 (by rw [e]; rfl)
    rw [← bl_get s 0 hz] at h1
    have : (bl s).head? = some 45 := by
      cases hb : bl s with
      | nil => have := bl_len s; rw [hb] at this; simp at this; omega
      | cons c r => simp only [hb, List.getElem_cons_zero] at h1; rw [h1]; rfl
    unfold neg? at h
    rw [this] at h
    simp at h
  · rw [run_index_string (P := Tryz.prog) W 9 s .i64 0 Tryz.underlying9, dif_pos ⟨by omega, by omega⟩]
    rfl
theorem unsg_pos {l : List UInt8} (h : neg? l = false) : unsg l = l := by
  unfold unsg; rw [if_neg (by unfold neg? at h; simpa using h)]
set_option maxRecDepth 100000 in
set_option maxHeartbeats 32000000 in
theorem rnum_any (s : ByteArray) (hs : s.size ≤ 1000000) (w : World) : Calls Tryz.prog 136 #[.string s] w fun e w' => e = .returned (optV (refN (bl s))) ∧ Below w.heap.size w w' := by
  have hO := fun w' => of_any 0 w' (by omega) (by omega)
  have HS : Hid (∀ (z : Int), ((⟨(itoa z).toArray⟩ : ByteArray).toList == s.toList) = decide (itoa z = bl s)) := fun z => str_eqB _ _
  cases hng : neg? (bl s) with
  | true =>
    obtain ⟨hz1, hx, hzu, hidx0⟩ := neg_parts hng
    obtain ⟨T, hT⟩ : ∃ T : ByteArray, (⟨(unsg (bl s)).toArray⟩ : ByteArray) = T := ⟨_, rfl⟩
    have hbT : bl T = unsg (bl s) := by rw [← hT]
    rw [hT] at hx
    have hTz : T.size + 1 = s.size := by rw [← bl_len, hbT]; exact hzu
    have HSG : Hid (∀ z, sgL (bl s) z = -z) := fun z => by unfold sgL; rw [if_pos hng]
    have HBT := Lib.hid hbT
    have hz2 : (1 : Int) ≤ (s.size : Int) := by omega
    have hz3 : (0 : Int) < (s.size : Int) := by omega
    have hzb : (T.size : Int) < (s.size : Int) := by omega
    clear hng hT hbT hzu
    by_cases hT0 : T.size = 0 ∨ 25 < T.size
    · have HR : Hid (refN (bl s) = none) := refN_bad (by
        rw [← HBT.out]
        rcases hT0 with h | h
        · exact .inl (List.length_eq_zero_iff.1 (by rw [bl_len]; exact h))
        · exact .inr (.inl (by rw [bl_len]; exact h)))
      rcases (show T.size = 0 ∨ (T.size ≠ 0 ∧ 25 < T.size) by omega) with h0 | ⟨h0, h25⟩
      all_goals
        clear hT0
        go_enter Tryz.func136, Tryz.ntmps136
        go_wp2_with (first
          | (go_at_call 151; (with_reducible refine (hO _).mono ?_); rintro e w1 ⟨v1, rfl, hN1, hb1⟩; obtain ⟨s1, A1, n1, c1, rfl⟩ := hN1.shape; have hK1 := Bk.new w1 200 #[.bool false, .slice none 0 0])
          | (refine stBig rfl _ _ rfl hK1 rfl rfl rfl ?_; intro w2 hK2 hg2 hs2))
        go_returns
        exact ⟨by rw [optV_none HR.out]; rfl, below_of_gb (hb1.alloc hb1.size _) hg2 hb1.size (hb1.alloc hb1.size _).size⟩
    · have h0 : T.size ≠ 0 := by omega
      have h25 : T.size ≤ 25 := by omega
      have f1 : ((T.size : Int) == 0) = false := beq_eq_false_iff_ne.2 (by omega)
      have f2 : ¬ ((T.size : Int) = 0) := by omega
      have f3 : decide ((T.size : Int) > 25) = false := by simp; omega
      have f4 : decide (25 < (T.size : Int)) = false := by simp; omega
      have HNE : Hid (unsg (bl s) ≠ []) := fun h => by have := bl_len T; rw [HBT.out, h] at this; exact h0 this.symm
      have HLE : Hid ((unsg (bl s)).length ≤ 25) := by rw [← HBT.out, bl_len]; exact h25
      have hHL : Hid (∀ k, k ≤ T.size → (∀ b ∈ (bl T).take k, isD b = true) → numV 0 ((bl T).take k) < 10 ^ 80) := fun k hk h => by
        refine Nat.lt_of_lt_of_le (numV_lt _ h) (Nat.pow_le_pow_right (by decide) ?_)
        rw [List.length_take, bl_len]
        omega
      have HM : Hid (∀ k (h : k < T.size), T[k]'h ∈ bl T) := fun k h => by
        rw [← bl_get T k h]
        exact List.getElem_mem _
      have HT : Hid ((bl T).take T.size = bl T) := List.take_of_length_le (by rw [bl_len]; exact Nat.le_refl _)
      have HV : Hid (∀ k (h : k < T.size), numV 0 ((bl T).take (k + 1)) = numV 0 ((bl T).take k) * 10 + ((T[k]'h).toNat - 48)) := fun k h => by
        rw [List.take_succ_eq_append_getElem (by rw [bl_len]; exact h), numV_app, numV_one, dv_eq, bl_get T k h]
      have HA : Hid (∀ k (h : k < T.size), (∀ b ∈ (bl T).take k, isD b = true) → isD (T[k]'h) = true → ∀ b ∈ (bl T).take (k + 1), isD b = true) := fun k h h1 h2 => all_take h1 (by rw [bl_len]; exact h) h2
      clear hT0
      go_enter Tryz.func136, Tryz.ntmps136
      go_upto_region 7 with (first
        | (go_at_call 151; (with_reducible refine (hO _).mono ?_); rintro e w1 ⟨v1, rfl, hN1, hb1⟩; obtain ⟨s1, A1, n1, c1, rfl⟩ := hN1.shape; have hK1 := Bk.new w1 200 #[.bool false, .slice none 0 0]; have hN1a := (hN1.alloc (.cells #[.bool false, .slice none 0 0] 200)).any)
        | (refine stBig rfl _ _ rfl hK1 rfl rfl rfl ?_; intro w2 hK2 hg2 hs2))
      have hC0 : BgC w2 w1.heap.size ((0 : Nat) : Int) := ⟨_, _, _, _, hK2, hN1a.gbig hK1 hg2⟩
      have hbel0 : Below w.heap.size w w2 := below_of_gb (hb1.alloc hb1.size _) hg2 hb1.size (hb1.alloc hb1.size _).size
      have hgg : w.heap.size ≤ w1.heap.size := hb1.size
      obtain ⟨g4, hg4⟩ : ∃ g4, w1.heap.size = g4 := ⟨_, rfl⟩
      rw [hg4] at hC0 hgg
      simp only [hg4]
      clear hg4 hO hb1 hN1 hK1 hN1a hK2 hg2 hs2 hidx0
      go_wp2_with fail
      go_loopw [6] (fun iv wr => ∃ k : Nat, k ≤ T.size ∧ iv = .int .i64 k ∧ Hid (∀ b ∈ (bl T).take k, isD b = true) ∧ BgC wr g4 (numV 0 ((bl T).take k) : Nat) ∧ Below w.heap.size w wr) (fun iv _ => T.size - (intOf iv).toNat)
      case atStart => exact ⟨0, by omega, rfl, fun b hb => absurd hb (by simp), hC0, hbel0⟩
      case round =>
        clear hC0 hbel0
        obtain ⟨k, hk, rfl, hall, hC, hbr⟩ := hrel
        have hl := hHL.out k hk hall.out
        have hbz := hbr.size
        by_cases hlt : k < T.size
        · have hlt' : (k : Int) < (T.size : Int) := by omega
          have hm := HM.out k hlt
          have hv := HV.out k hlt
          have hA := Lib.hid (HA.out k hlt hall.out)
          have hidx : ∀ W, (Instr.index 9 (.string T) (.int .i64 (k : Int))).run Tryz.prog W = .ok (.int .u8 ((T[k]'hlt).toNat : Int)) W := fun W => by
            rw [run_index_string (P := Tryz.prog) W 9 T .i64 (k : Int) Tryz.underlying9, dif_pos ⟨by omega, hlt'⟩]
            rfl
          by_cases hd : 48 ≤ (T[k]'hlt).toNat ∧ (T[k]'hlt).toNat ≤ 57
          · have hall2 := Lib.hid (hA.out (isD_iff.2 hd))
            have HV2 := Lib.hid hv
            clear hA hv hm HA HV HM HT hHL
            generalize numV 0 ((bl T).take k) = n at *
            generalize (T[k]'hlt).toNat = c at *
            go_upto_region 12 with fail
            have hO1 := fun w' => of_any 10 w' (by omega) (by omega)
            have hO2 := fun w' => of_any ((c : Int) - 48) w' (by omega) (by omega)
            have hx : (0 : Int) ≤ (n : Int) := by omega
            have sn : Sm (n : Int) := sm_nat (Nat.lt_of_lt_of_le hl (Nat.pow_le_pow_right (by decide) (by decide)))
            have sn10 : Sm ((n : Int) * 10) := by
              rw [show (n : Int) * 10 = ((n * 10 : Nat) : Int) by simp]
              exact sm_nat (Nat.lt_of_lt_of_le (Nat.mul_lt_mul_of_pos_right hl (by decide)) (by decide))
            have s10 : Sm 10 := sm_of (by omega) (by omega)
            have sd : Sm ((c : Int) - 48) := sm_of (by omega) (by omega)
            have e1 : IntKind.u8.wrap ((c : Int) - 48) = (c : Int) - 48 := by rw [IntKind.wrap_u8]; omega
            refine wp_region_dag' 10 [9, 2, 0] id
              (SatL [bigS n, bigS 10, bigS (n * 10), valS (.string T), valS (.int .i64 k), valS (.int .u8 c), valS (.int .u8 (c - 48)), valS (.int .i64 (c - 48)), bigS (c - 48), bigS (n * 10 + (c - 48)), none])
              (fun b w' => Below w.heap.size w w' ∧ BgC w' g4 (if b then n * 10 + (c - 48) else n))
              (by kernel_rfl) (by kernel_rfl) (by kernel_rfl) (by kernel_rfl) ⟨below_drewN hbr 1, hC.nx (below_drewN (Below.refl _ _) 1)⟩ ?_ ?_
            case refine_1 =>
              intro K i o y wr b ho hG hs hdep hK
              have hG' := hG
              obtain ⟨hB, hC⟩ := hG'
              rcases i with _ | i
              · obtain rfl : _ = o := Option.some.inj ho
                unfold StepTo
                simp only [↓reduceIte, Nat.zero_add, Nat.reduceAdd, Nat.reduceEqDiff, List.map_cons, List.map_nil, puts, updV, Act.put, List.setIfInBounds_toArray, List.set_cons_zero, List.set_cons_succ] at hK ⊢
                generalize y 0 = y0 at *; generalize y 1 = y1 at *; generalize y 2 = y2 at *; generalize y 3 = y3 at *; generalize y 4 = y4 at *; generalize y 5 = y5 at *; generalize y 6 = y6 at *; generalize y 7 = y7 at *; generalize y 8 = y8 at *; generalize y 9 = y9 at *; generalize y 10 = y10 at *
                obtain ⟨rfl, -⟩ := hs (.inl (by simp))
                obtain ⟨s1', A1', n1', c1', k1, hN⟩ := hC
                refine ldBig rfl _ rfl k1 rfl ?_
                exact ⟨rfl, hK _ _ hN hG (fun _ _ _ h => h)⟩
              rcases i with _ | i
              · obtain rfl : _ = o := Option.some.inj ho
                unfold StepTo
                simp only [↓reduceIte, Nat.zero_add, Nat.reduceAdd, Nat.reduceEqDiff, List.map_cons, List.map_nil, puts, updV, Act.put, List.setIfInBounds_toArray, List.set_cons_zero, List.set_cons_succ] at hK ⊢
                generalize y 0 = y0 at *; generalize y 1 = y1 at *; generalize y 2 = y2 at *; generalize y 3 = y3 at *; generalize y 4 = y4 at *; generalize y 5 = y5 at *; generalize y 6 = y6 at *; generalize y 7 = y7 at *; generalize y 8 = y8 at *; generalize y 9 = y9 at *; generalize y 10 = y10 at *
                clear hs
                go_wp2_with (go_at_call 151; refine (hO1 _).mono ?_; rintro e w2 ⟨v, rfl, hN, hb⟩)
                exact hK _ _ hN.any ⟨hB.trans (hb.mono hB.size), hC.nx hb⟩ (fun _ _ _ h => Sat.nx hb h)
              rcases i with _ | i
              · obtain rfl : _ = o := Option.some.inj ho
                have p0 : BigN 0 wr (y 0) n := hdep { on := 0, ground := .data } (by simp) rfl
                have p1 : BigN 0 wr (y 1) 10 := hdep { on := 1, ground := .data } (by simp) rfl
                unfold StepTo
                simp only [↓reduceIte, Nat.zero_add, Nat.reduceAdd, Nat.reduceEqDiff, List.map_cons, List.map_nil, puts, updV, Act.put, List.setIfInBounds_toArray, List.set_cons_zero, List.set_cons_succ] at hK ⊢
                generalize y 0 = y0 at *; generalize y 1 = y1 at *; generalize y 2 = y2 at *; generalize y 3 = y3 at *; generalize y 4 = y4 at *; generalize y 5 = y5 at *; generalize y 6 = y6 at *; generalize y 7 = y7 at *; generalize y 8 = y8 at *; generalize y 9 = y9 at *; generalize y 10 = y10 at *
                clear hs
                go_wp2_with (go_at_call 196; refine (mul_any _ _ _ _ _ p0 p1 sn s10).mono ?_; rintro e w2 ⟨v, rfl, hN, hb⟩)
                exact hK _ _ hN.any ⟨hB.trans (hb.mono hB.size), hC.nx hb⟩ (fun _ _ _ h => Sat.nx hb h)
              rcases i with _ | i
              · obtain rfl : _ = o := Option.some.inj ho
                unfold StepTo
                simp only [↓reduceIte, Nat.zero_add, Nat.reduceAdd, Nat.reduceEqDiff, List.map_cons, List.map_nil, puts, updV, Act.put, List.setIfInBounds_toArray, List.set_cons_zero, List.set_cons_succ] at hK ⊢
                generalize y 0 = y0 at *; generalize y 1 = y1 at *; generalize y 2 = y2 at *; generalize y 3 = y3 at *; generalize y 4 = y4 at *; generalize y 5 = y5 at *; generalize y 6 = y6 at *; generalize y 7 = y7 at *; generalize y 8 = y8 at *; generalize y 9 = y9 at *; generalize y 10 = y10 at *
                clear hs
                go_wp2_with fail
                exact hK _ _ rfl hG (fun _ _ _ h => h)
              rcases i with _ | i
              · obtain rfl : _ = o := Option.some.inj ho
                unfold StepTo
                simp only [↓reduceIte, Nat.zero_add, Nat.reduceAdd, Nat.reduceEqDiff, List.map_cons, List.map_nil, puts, updV, Act.put, List.setIfInBounds_toArray, List.set_cons_zero, List.set_cons_succ] at hK ⊢
                generalize y 0 = y0 at *; generalize y 1 = y1 at *; generalize y 2 = y2 at *; generalize y 3 = y3 at *; generalize y 4 = y4 at *; generalize y 5 = y5 at *; generalize y 6 = y6 at *; generalize y 7 = y7 at *; generalize y 8 = y8 at *; generalize y 9 = y9 at *; generalize y 10 = y10 at *
                clear hs
                go_wp2_with fail
                exact hK _ _ rfl hG (fun _ _ _ h => h)
              rcases i with _ | i
              · obtain rfl : _ = o := Option.some.inj ho
                have p3 : y 3 = _ := hdep { on := 3, ground := .data } (by simp) rfl
                have p4 : y 4 = _ := hdep { on := 4, ground := .data } (by simp) rfl
                unfold StepTo
                simp only [↓reduceIte, Nat.zero_add, Nat.reduceAdd, Nat.reduceEqDiff, List.map_cons, List.map_nil, puts, updV, Act.put, List.setIfInBounds_toArray, List.set_cons_zero, List.set_cons_succ] at hK ⊢
                generalize y 0 = y0 at *; generalize y 1 = y1 at *; generalize y 2 = y2 at *; generalize y 3 = y3 at *; generalize y 4 = y4 at *; generalize y 5 = y5 at *; generalize y 6 = y6 at *; generalize y 7 = y7 at *; generalize y 8 = y8 at *; generalize y 9 = y9 at *; generalize y 10 = y10 at *
                clear hs
                subst p3
                subst p4
                go_wp2_with fail
                exact hK _ _ rfl hG (fun _ _ _ h => h)
              rcases i with _ | i
              · obtain rfl : _ = o := Option.some.inj ho
                have p5 : y 5 = _ := hdep { on := 5, ground := .data } (by simp) rfl
                unfold StepTo
                simp only [↓reduceIte, Nat.zero_add, Nat.reduceAdd, Nat.reduceEqDiff, List.map_cons, List.map_nil, puts, updV, Act.put, List.setIfInBounds_toArray, List.set_cons_zero, List.set_cons_succ] at hK ⊢
                generalize y 0 = y0 at *; generalize y 1 = y1 at *; generalize y 2 = y2 at *; generalize y 3 = y3 at *; generalize y 4 = y4 at *; generalize y 5 = y5 at *; generalize y 6 = y6 at *; generalize y 7 = y7 at *; generalize y 8 = y8 at *; generalize y 9 = y9 at *; generalize y 10 = y10 at *
                clear hs
                subst p5
                go_wp2_with fail
                exact hK _ _ rfl hG (fun _ _ _ h => h)
              rcases i with _ | i
              · obtain rfl : _ = o := Option.some.inj ho
                have p6 : y 6 = _ := hdep { on := 6, ground := .data } (by simp) rfl
                unfold StepTo
                simp only [↓reduceIte, Nat.zero_add, Nat.reduceAdd, Nat.reduceEqDiff, List.map_cons, List.map_nil, puts, updV, Act.put, List.setIfInBounds_toArray, List.set_cons_zero, List.set_cons_succ] at hK ⊢
                generalize y 0 = y0 at *; generalize y 1 = y1 at *; generalize y 2 = y2 at *; generalize y 3 = y3 at *; generalize y 4 = y4 at *; generalize y 5 = y5 at *; generalize y 6 = y6 at *; generalize y 7 = y7 at *; generalize y 8 = y8 at *; generalize y 9 = y9 at *; generalize y 10 = y10 at *
                clear hs
                subst p6
                go_wp2_with fail
                exact hK _ _ rfl hG (fun _ _ _ h => h)
              rcases i with _ | i
              · obtain rfl : _ = o := Option.some.inj ho
                have p7 : y 7 = _ := hdep { on := 7, ground := .data } (by simp) rfl
                unfold StepTo
                simp only [↓reduceIte, Nat.zero_add, Nat.reduceAdd, Nat.reduceEqDiff, List.map_cons, List.map_nil, puts, updV, Act.put, List.setIfInBounds_toArray, List.set_cons_zero, List.set_cons_succ] at hK ⊢
                generalize y 0 = y0 at *; generalize y 1 = y1 at *; generalize y 2 = y2 at *; generalize y 3 = y3 at *; generalize y 4 = y4 at *; generalize y 5 = y5 at *; generalize y 6 = y6 at *; generalize y 7 = y7 at *; generalize y 8 = y8 at *; generalize y 9 = y9 at *; generalize y 10 = y10 at *
                clear hs
                subst p7
                go_wp2_with (go_at_call 151; refine (hO2 _).mono ?_; rintro e w2 ⟨v, rfl, hN, hb⟩)
                exact hK _ _ hN.any ⟨hB.trans (hb.mono hB.size), hC.nx hb⟩ (fun _ _ _ h => Sat.nx hb h)
              rcases i with _ | i
              · obtain rfl : _ = o := Option.some.inj ho
                have p2 : BigN 0 wr (y 2) (n * 10) := hdep { on := 2, ground := .data } (by simp) rfl
                have p8 : BigN 0 wr (y 8) (c - 48) := hdep { on := 8, ground := .data } (by simp) rfl
                unfold StepTo
                simp only [↓reduceIte, Nat.zero_add, Nat.reduceAdd, Nat.reduceEqDiff, List.map_cons, List.map_nil, puts, updV, Act.put, List.setIfInBounds_toArray, List.set_cons_zero, List.set_cons_succ] at hK ⊢
                generalize y 0 = y0 at *; generalize y 1 = y1 at *; generalize y 2 = y2 at *; generalize y 3 = y3 at *; generalize y 4 = y4 at *; generalize y 5 = y5 at *; generalize y 6 = y6 at *; generalize y 7 = y7 at *; generalize y 8 = y8 at *; generalize y 9 = y9 at *; generalize y 10 = y10 at *
                clear hs
                go_wp2_with (go_at_call 195; refine (add_any _ _ _ _ _ p2 p8 sn10 sd).mono ?_; rintro e w2 ⟨v, rfl, hN, hb⟩)
                exact hK _ _ hN.any ⟨hB.trans (hb.mono hB.size), hC.nx hb⟩ (fun _ _ _ h => Sat.nx hb h)
              rcases i with _ | i
              · obtain rfl : _ = o := Option.some.inj ho
                have p9 : BigN 0 wr (y 9) (n * 10 + (c - 48)) := hdep { on := 9, ground := .data } (by simp) rfl
                unfold StepTo
                simp only [↓reduceIte, Nat.zero_add, Nat.reduceAdd, Nat.reduceEqDiff, List.map_cons, List.map_nil, puts, updV, Act.put, List.setIfInBounds_toArray, List.set_cons_zero, List.set_cons_succ] at hK ⊢
                generalize y 0 = y0 at *; generalize y 1 = y1 at *; generalize y 2 = y2 at *; generalize y 3 = y3 at *; generalize y 4 = y4 at *; generalize y 5 = y5 at *; generalize y 6 = y6 at *; generalize y 7 = y7 at *; generalize y 8 = y8 at *; generalize y 9 = y9 at *; generalize y 10 = y10 at *
                obtain ⟨rfl, -⟩ := hs (.inr rfl)
                obtain ⟨s1', A1', n1', c1', k1, hN⟩ := hC
                obtain ⟨s9, A9, n9, c9, rfl⟩ := p9.shape
                refine stBig rfl _ _ rfl k1 rfl rfl rfl ?_
                intro w2 hk hg hs2
                exact ⟨rfl, hK undef _ trivial ⟨below_of_gb hB hg (by omega) hB.size, ⟨_, _, _, _, hk, p9.gbig k1 hg⟩⟩ (fun _ _ _ h => Sat.gb k1 hg h)⟩
              · exact absurd ho (by simp)
            case refine_2 =>
              intro y wr b hG hF hbs
              obtain rfl := hbs (by decide)
              clear hbs
              obtain ⟨hB, hC⟩ := hG
              simp only [Nat.zero_add, Nat.reduceAdd, List.map_cons, List.map_nil, puts, Act.put, List.setIfInBounds_toArray, List.set_cons_zero, List.set_cons_succ]
              generalize y 0 = y0 at *; generalize y 1 = y1 at *; generalize y 2 = y2 at *; generalize y 3 = y3 at *; generalize y 4 = y4 at *; generalize y 5 = y5 at *; generalize y 6 = y6 at *; generalize y 7 = y7 at *; generalize y 8 = y8 at *; generalize y 9 = y9 at *; generalize y 10 = y10 at *
              clear hF hO1 hO2 sn sn10 s10 sd e1
              go_wp2_with fail
              exact ⟨⟨k + 1, by omega, by go_num, hall2, by rw [HV2.out]; simpa [show ((c - 48 : Nat) : Int) = (c : Int) - 48 by omega] using hC, hB⟩, by simp [intOf]; omega⟩
          · have HNA : Hid (¬ ((bl T).all isD = true)) := fun h => by
              have := List.all_eq_true.1 h _ hm
              exact hd (isD_iff.1 this)
            have HR : Hid (refN (bl s) = none) := refN_bad (.inr (.inr (by rw [← HBT.out]; exact HNA.out)))
            clear hA hv hm HA HV HM HT hHL
            generalize numV 0 ((bl T).take k) = n at *
            generalize (T[k]'hlt).toNat = c at *
            by_cases h48 : c < 48
            · have hc1 : decide ((c : Int) < 48) = true := decide_eq_true (by omega)
              go_wp2_with fail
              go_returns
              exact ⟨by rw [optV_none HR.out]; rfl, hbr⟩
            · have hc1 : decide ((c : Int) < 48) = false := decide_eq_false (by omega)
              have hc2 : decide ((57 : Int) < (c : Int)) = true := decide_eq_true (by omega)
              go_wp2_with fail
              go_returns
              exact ⟨by rw [optV_none HR.out]; rfl, hbr⟩
        · obtain rfl : k = T.size := by omega
          have hal : (unsg (bl s)).all isD = true := List.all_eq_true.2 (fun b hb => hall.out b (by rw [HT.out.trans HBT.out]; exact hb))
          have hn : numV 0 ((bl T).take T.size) = numV 0 (unsg (bl s)) := congrArg (numV 0) (HT.out.trans HBT.out)
          have HAL := Lib.hid hal
          have HN := Lib.hid hn
          clear hal HA HV HM HT hHL hn hall
          generalize numV 0 ((bl T).take T.size) = n at *
          have sn : Sm (n : Int) := sm_nat (Nat.lt_of_lt_of_le hl (Nat.pow_le_pow_right (by decide) (by decide)))
          have snn : Sm (-(n : Int)) := by unfold Sm at *; simpa using sn
          have ntx : (-(n : Int) : Int).natAbs < 10 ^ 90 := by
            have : n < 10 ^ 90 := Nat.lt_of_lt_of_le hl (Nat.pow_le_pow_right (by decide) (by decide))
            simpa using this
          have HZ : Hid (sgL (bl s) (numV 0 (unsg (bl s))) = -(n : Int)) := by show _ = _; rw [HSG.out, HN.out]
          obtain ⟨s4, A4, n4, c4, k4, hN4⟩ := hC
          go_upto_region 15 with (first
            | (refine ldBig rfl _ rfl k4 rfl ?_)
            | (go_at_call 197; refine (neg_any _ _ _ hN4 sn).mono ?_; rintro e w6 ⟨v6, rfl, hN6, hb6⟩; obtain ⟨s6, A6, n6, c6, rfl⟩ := hN6.shape; have k46 := k4.nx hb6)
            | (refine stBig rfl _ _ rfl k46 rfl rfl rfl ?_; intro w7 k7 hg7 hs7))
          have hC : BgC w7 g4 (-(n : Int)) := ⟨_, _, _, _, k7, hN6.any.gbig k46 hg7⟩
          have hB6 := hbr.trans (hb6.mono hbr.size)
          have hB : Below w.heap.size w w7 := below_of_gb hB6 hg7 hgg hB6.size
          have sz := snn
          clear k7 hN6 k46 hg7 hs7 hB6 hb6 hN4 k4 hbr
          clear HN
          generalize (-(n : Int) : Int) = z at *
          have hFt := fun w' v (h : BigN 0 w' v z) => rfits_any63 v z w' h sz
          by_cases hin : in64 z
          · rw [decide_eq_true hin] at hFt
            have hTx := fun w' v (h : BigN 0 w' v z) => rtext_any v z w' h ntx
            have hcmp := HS.out z
            by_cases hit : itoa z = bl s
            · have HR : Hid (refN (bl s) = some z) := by
                show _ = _
                have := refN_in HNE.out HLE.out HAL.out (by rw [HZ.out]; exact ⟨hin, hit⟩)
                rw [this, HZ.out]
              have hSm := fun w' v (h : BigN 0 w' v z) => small_any v z w' h (by unfold in64 at hin; omega) (by unfold in64 at hin; omega)
              rw [decide_eq_true hit] at hcmp
              unfold strV at hTx
              generalize (⟨(itoa z).toArray⟩ : ByteArray) = SB at *
              clear hit hin
              obtain ⟨s8, A8, n8, c8, k8, hN8⟩ := hC
              go_wp2_with (first
                | (refine ldBig rfl _ rfl k8 rfl ?_)
                | (go_at_call 198; refine (hFt _ _ hN8).mono ?_; rintro e w9 ⟨rfl, hb9⟩; have k8b := k8.nx hb9; have hN8b := hN8.nx hb9; obtain ⟨y0, y1⟩ := k8b.cell2)
                | (go_at_call 150; refine (hTx _ _ hN8b).mono ?_; rintro e w10 ⟨rfl, hb10⟩; have k9 := k8b.nx hb10; have hN9 := hN8b.nx hb10; have hB9 := (hB.trans (hb9.mono hB.size)).trans (hb10.mono (hB.trans (hb9.mono hB.size)).size))
                | (refine ldBig rfl _ rfl k9 rfl ?_)
                | (go_at_call 199; refine (hSm _ _ hN9).mono ?_; rintro e wa ⟨rfl, hba⟩))
              go_returns
              exact ⟨by rw [optV_some HR.out]; rfl, hB9.trans (hba.mono hB9.size)⟩
            · have HR : Hid (refN (bl s) = none) := refN_out HNE.out HLE.out HAL.out (by rw [HZ.out]; exact fun h => hit h.2)
              rw [decide_eq_false hit] at hcmp
              unfold strV at hTx
              generalize (⟨(itoa z).toArray⟩ : ByteArray) = SB at *
              clear hit hin
              obtain ⟨s8, A8, n8, c8, k8, hN8⟩ := hC
              go_wp2_with (first
                | (refine ldBig rfl _ rfl k8 rfl ?_)
                | (go_at_call 198; refine (hFt _ _ hN8).mono ?_; rintro e w9 ⟨rfl, hb9⟩; have k8b := k8.nx hb9; have hN8b := hN8.nx hb9; obtain ⟨y0, y1⟩ := k8b.cell2)
                | (go_at_call 150; refine (hTx _ _ hN8b).mono ?_; rintro e w10 ⟨rfl, hb10⟩; have k9 := k8b.nx hb10; have hN9 := hN8b.nx hb10; have hB9 := (hB.trans (hb9.mono hB.size)).trans (hb10.mono (hB.trans (hb9.mono hB.size)).size))
                | (refine ldBig rfl _ rfl k9 rfl ?_)
                | (go_at_call 199; refine (hSm _ _ hN9).mono ?_; rintro e wa ⟨rfl, hba⟩))
              go_returns
              exact ⟨by rw [optV_none HR.out]; rfl, hB9⟩
          · have HR : Hid (refN (bl s) = none) := refN_out HNE.out HLE.out HAL.out (by rw [HZ.out]; exact fun h => hin h.1)
            rw [decide_eq_false hin] at hFt
            clear hin
            obtain ⟨s8, A8, n8, c8, k8, hN8⟩ := hC
            go_wp2_with (first
              | (refine ldBig rfl _ rfl k8 rfl ?_)
              | (go_at_call 198; refine (hFt _ _ hN8).mono ?_; rintro e w9 ⟨rfl, hb9⟩))
            go_returns
            exact ⟨by rw [optV_none HR.out]; rfl, hB.trans (hb9.mono hB.size)⟩
  | false =>
    have HSG : Hid (∀ z, sgL (bl s) z = z) := fun z => by unfold sgL; rw [if_neg (by rw [hng]; simp)]
    have HU := Lib.hid (unsg_pos hng)
    by_cases hz0 : 0 < s.size
    · obtain ⟨c0, hc0, hc1, hidx0⟩ := pos_parts hng hz0
      have hc2 : ((c0 : Int) == 45) = false := by simp; omega
      have hc3 : ¬ ((c0 : Int) = 45) := by omega
      have hz3 : (0 : Int) < (s.size : Int) := by omega
      have hzb : ¬ ((s.size : Int) < (s.size : Int)) := by omega
      obtain ⟨T, hT⟩ : ∃ T : ByteArray, s = T := ⟨_, rfl⟩
      have HBT : Hid (bl T = unsg (bl s)) := by show _ = _; rw [HU.out, hT]
      subst hT
      clear hng
      by_cases hT0 : s.size = 0 ∨ 25 < s.size
      · have HR : Hid (refN (bl s) = none) := refN_bad (by
          rw [← HBT.out]
          rcases hT0 with h | h
          · exact .inl (List.length_eq_zero_iff.1 (by rw [bl_len]; exact h))
          · exact .inr (.inl (by rw [bl_len]; exact h)))
        rcases (show s.size = 0 ∨ (s.size ≠ 0 ∧ 25 < s.size) by omega) with h0 | ⟨h0, h25⟩
        all_goals
          clear hT0
          go_enter Tryz.func136, Tryz.ntmps136
          go_wp2_with (first
            | (go_at_call 151; (with_reducible refine (hO _).mono ?_); rintro e w1 ⟨v1, rfl, hN1, hb1⟩; obtain ⟨s1, A1, n1, c1, rfl⟩ := hN1.shape; have hK1 := Bk.new w1 200 #[.bool false, .slice none 0 0])
            | (refine stBig rfl _ _ rfl hK1 rfl rfl rfl ?_; intro w2 hK2 hg2 hs2))
          go_returns
          exact ⟨by rw [optV_none HR.out]; rfl, below_of_gb (hb1.alloc hb1.size _) hg2 hb1.size (hb1.alloc hb1.size _).size⟩
      · have h0 : s.size ≠ 0 := by omega
        have h25 : s.size ≤ 25 := by omega
        have f1 : ((s.size : Int) == 0) = false := beq_eq_false_iff_ne.2 (by omega)
        have f2 : ¬ ((s.size : Int) = 0) := by omega
        have f3 : decide ((s.size : Int) > 25) = false := by simp; omega
        have f4 : decide (25 < (s.size : Int)) = false := by simp; omega
        have HNE : Hid (unsg (bl s) ≠ []) := fun h => by have := bl_len s; rw [HBT.out, h] at this; exact h0 this.symm
        have HLE : Hid ((unsg (bl s)).length ≤ 25) := by rw [← HBT.out, bl_len]; exact h25
        have hHL : Hid (∀ k, k ≤ s.size → (∀ b ∈ (bl s).take k, isD b = true) → numV 0 ((bl s).take k) < 10 ^ 80) := fun k hk h => by
          refine Nat.lt_of_lt_of_le (numV_lt _ h) (Nat.pow_le_pow_right (by decide) ?_)
          rw [List.length_take, bl_len]
          omega
        have HM : Hid (∀ k (h : k < s.size), s[k]'h ∈ bl s) := fun k h => by
          rw [← bl_get s k h]
          exact List.getElem_mem _
        have HT : Hid ((bl s).take s.size = bl s) := List.take_of_length_le (by rw [bl_len]; exact Nat.le_refl _)
        have HV : Hid (∀ k (h : k < s.size), numV 0 ((bl s).take (k + 1)) = numV 0 ((bl s).take k) * 10 + ((s[k]'h).toNat - 48)) := fun k h => by
          rw [List.take_succ_eq_append_getElem (by rw [bl_len]; exact h), numV_app, numV_one, dv_eq, bl_get s k h]
        have HA : Hid (∀ k (h : k < s.size), (∀ b ∈ (bl s).take k, isD b = true) → isD (s[k]'h) = true → ∀ b ∈ (bl s).take (k + 1), isD b = true) := fun k h h1 h2 => all_take h1 (by rw [bl_len]; exact h) h2
        clear hT0
        go_enter Tryz.func136, Tryz.ntmps136
        go_upto_region 7 with (first
          | (go_at_call 151; (with_reducible refine (hO _).mono ?_); rintro e w1 ⟨v1, rfl, hN1, hb1⟩; obtain ⟨s1, A1, n1, c1, rfl⟩ := hN1.shape; have hK1 := Bk.new w1 200 #[.bool false, .slice none 0 0]; have hN1a := (hN1.alloc (.cells #[.bool false, .slice none 0 0] 200)).any)
          | (refine stBig rfl _ _ rfl hK1 rfl rfl rfl ?_; intro w2 hK2 hg2 hs2))
        have hC0 : BgC w2 w1.heap.size ((0 : Nat) : Int) := ⟨_, _, _, _, hK2, hN1a.gbig hK1 hg2⟩
        have hbel0 : Below w.heap.size w w2 := below_of_gb (hb1.alloc hb1.size _) hg2 hb1.size (hb1.alloc hb1.size _).size
        have hgg : w.heap.size ≤ w1.heap.size := hb1.size
        obtain ⟨g4, hg4⟩ : ∃ g4, w1.heap.size = g4 := ⟨_, rfl⟩
        rw [hg4] at hC0 hgg
        simp only [hg4]
        clear hg4 hO hb1 hN1 hK1 hN1a hK2 hg2 hs2 hidx0
        go_wp2_with fail
        go_loopw [6] (fun iv wr => ∃ k : Nat, k ≤ s.size ∧ iv = .int .i64 k ∧ Hid (∀ b ∈ (bl s).take k, isD b = true) ∧ BgC wr g4 (numV 0 ((bl s).take k) : Nat) ∧ Below w.heap.size w wr) (fun iv _ => s.size - (intOf iv).toNat)
        case atStart => exact ⟨0, by omega, rfl, fun b hb => absurd hb (by simp), hC0, hbel0⟩
        case round =>
          clear hC0 hbel0
          obtain ⟨k, hk, rfl, hall, hC, hbr⟩ := hrel
          have hl := hHL.out k hk hall.out
          have hbz := hbr.size
          by_cases hlt : k < s.size
          · have hlt' : (k : Int) < (s.size : Int) := by omega
            have hm := HM.out k hlt
            have hv := HV.out k hlt
            have hA := Lib.hid (HA.out k hlt hall.out)
            have hidx : ∀ W, (Instr.index 9 (.string s) (.int .i64 (k : Int))).run Tryz.prog W = .ok (.int .u8 ((s[k]'hlt).toNat : Int)) W := fun W => by
              rw [run_index_string (P := Tryz.prog) W 9 s .i64 (k : Int) Tryz.underlying9, dif_pos ⟨by omega, hlt'⟩]
              rfl
            by_cases hd : 48 ≤ (s[k]'hlt).toNat ∧ (s[k]'hlt).toNat ≤ 57
            · have hall2 := Lib.hid (hA.out (isD_iff.2 hd))
              have HV2 := Lib.hid hv
              clear hA hv hm HA HV HM HT hHL
              generalize numV 0 ((bl s).take k) = n at *
              generalize (s[k]'hlt).toNat = c at *
              go_upto_region 12 with fail
              have hO1 := fun w' => of_any 10 w' (by omega) (by omega)
              have hO2 := fun w' => of_any ((c : Int) - 48) w' (by omega) (by omega)
              have hx : (0 : Int) ≤ (n : Int) := by omega
              have sn : Sm (n : Int) := sm_nat (Nat.lt_of_lt_of_le hl (Nat.pow_le_pow_right (by decide) (by decide)))
              have sn10 : Sm ((n : Int) * 10) := by
                rw [show (n : Int) * 10 = ((n * 10 : Nat) : Int) by simp]
                exact sm_nat (Nat.lt_of_lt_of_le (Nat.mul_lt_mul_of_pos_right hl (by decide)) (by decide))
              have s10 : Sm 10 := sm_of (by omega) (by omega)
              have sd : Sm ((c : Int) - 48) := sm_of (by omega) (by omega)
              have e1 : IntKind.u8.wrap ((c : Int) - 48) = (c : Int) - 48 := by rw [IntKind.wrap_u8]; omega
              refine wp_region_dag' 10 [9, 2, 0] id
                (SatL [bigS n, bigS 10, bigS (n * 10), valS (.string s), valS (.int .i64 k), valS (.int .u8 c), valS (.int .u8 (c - 48)), valS (.int .i64 (c - 48)), bigS (c - 48), bigS (n * 10 + (c - 48)), none])
                (fun b w' => Below w.heap.size w w' ∧ BgC w' g4 (if b then n * 10 + (c - 48) else n))
                (by kernel_rfl) (by kernel_rfl) (by kernel_rfl) (by kernel_rfl) ⟨below_drewN hbr 1, hC.nx (below_drewN (Below.refl _ _) 1)⟩ ?_ ?_
              case refine_1 =>
                intro K i o y wr b ho hG hs hdep hK
                have hG' := hG
                obtain ⟨hB, hC⟩ := hG'
                rcases i with _ | i
                · obtain rfl : _ = o := Option.some.inj ho
                  unfold StepTo
                  simp only [↓reduceIte, Nat.zero_add, Nat.reduceAdd, Nat.reduceEqDiff, List.map_cons, List.map_nil, puts, updV, Act.put, List.setIfInBounds_toArray, List.set_cons_zero, List.set_cons_succ] at hK ⊢
                  generalize y 0 = y0 at *; generalize y 1 = y1 at *; generalize y 2 = y2 at *; generalize y 3 = y3 at *; generalize y 4 = y4 at *; generalize y 5 = y5 at *; generalize y 6 = y6 at *; generalize y 7 = y7 at *; generalize y 8 = y8 at *; generalize y 9 = y9 at *; generalize y 10 = y10 at *
                  obtain ⟨rfl, -⟩ := hs (.inl (by simp))
                  obtain ⟨s1', A1', n1', c1', k1, hN⟩ := hC
                  refine ldBig rfl _ rfl k1 rfl ?_
                  exact ⟨rfl, hK _ _ hN hG (fun _ _ _ h => h)⟩
                rcases i with _ | i
                · obtain rfl : _ = o := Option.some.inj ho
                  unfold StepTo
                  simp only [↓reduceIte, Nat.zero_add, Nat.reduceAdd, Nat.reduceEqDiff, List.map_cons, List.map_nil, puts, updV, Act.put, List.setIfInBounds_toArray, List.set_cons_zero, List.set_cons_succ] at hK ⊢
                  generalize y 0 = y0 at *; generalize y 1 = y1 at *; generalize y 2 = y2 at *; generalize y 3 = y3 at *; generalize y 4 = y4 at *; generalize y 5 = y5 at *; generalize y 6 = y6 at *; generalize y 7 = y7 at *; generalize y 8 = y8 at *; generalize y 9 = y9 at *; generalize y 10 = y10 at *
                  clear hs
                  go_wp2_with (go_at_call 151; refine (hO1 _).mono ?_; rintro e w2 ⟨v, rfl, hN, hb⟩)
                  exact hK _ _ hN.any ⟨hB.trans (hb.mono hB.size), hC.nx hb⟩ (fun _ _ _ h => Sat.nx hb h)
                rcases i with _ | i
                · obtain rfl : _ = o := Option.some.inj ho
                  have p0 : BigN 0 wr (y 0) n := hdep { on := 0, ground := .data } (by simp) rfl
                  have p1 : BigN 0 wr (y 1) 10 := hdep { on := 1, ground := .data } (by simp) rfl
                  unfold StepTo
                  simp only [↓reduceIte, Nat.zero_add, Nat.reduceAdd, Nat.reduceEqDiff, List.map_cons, List.map_nil, puts, updV, Act.put, List.setIfInBounds_toArray, List.set_cons_zero, List.set_cons_succ] at hK ⊢
                  generalize y 0 = y0 at *; generalize y 1 = y1 at *; generalize y 2 = y2 at *; generalize y 3 = y3 at *; generalize y 4 = y4 at *; generalize y 5 = y5 at *; generalize y 6 = y6 at *; generalize y 7 = y7 at *; generalize y 8 = y8 at *; generalize y 9 = y9 at *; generalize y 10 = y10 at *
                  clear hs
                  go_wp2_with (go_at_call 196; refine (mul_any _ _ _ _ _ p0 p1 sn s10).mono ?_; rintro e w2 ⟨v, rfl, hN, hb⟩)
                  exact hK _ _ hN.any ⟨hB.trans (hb.mono hB.size), hC.nx hb⟩ (fun _ _ _ h => Sat.nx hb h)
                rcases i with _ | i
                · obtain rfl : _ = o := Option.some.inj ho
                  unfold StepTo
                  simp only [↓reduceIte, Nat.zero_add, Nat.reduceAdd, Nat.reduceEqDiff, List.map_cons, List.map_nil, puts, updV, Act.put, List.setIfInBounds_toArray, List.set_cons_zero, List.set_cons_succ] at hK ⊢
                  generalize y 0 = y0 at *; generalize y 1 = y1 at *; generalize y 2 = y2 at *; generalize y 3 = y3 at *; generalize y 4 = y4 at *; generalize y 5 = y5 at *; generalize y 6 = y6 at *; generalize y 7 = y7 at *; generalize y 8 = y8 at *; generalize y 9 = y9 at *; generalize y 10 = y10 at *
                  clear hs
                  go_wp2_with fail
                  exact hK _ _ rfl hG (fun _ _ _ h => h)
                rcases i with _ | i
                · obtain rfl : _ = o := Option.some.inj ho
                  unfold StepTo
                  simp only [↓reduceIte, Nat.zero_add, Nat.reduceAdd, Nat.reduceEqDiff, List.map_cons, List.map_nil, puts, updV, Act.put, List.setIfInBounds_toArray, List.set_cons_zero, List.set_cons_succ] at hK ⊢
                  generalize y 0 = y0 at *; generalize y 1 = y1 at *; generalize y 2 = y2 at *; generalize y 3 = y3 at *; generalize y 4 = y4 at *; generalize y 5 = y5 at *; generalize y 6 = y6 at *; generalize y 7 = y7 at *; generalize y 8 = y8 at *; generalize y 9 = y9 at *; generalize y 10 = y10 at *
                  clear hs
                  go_wp2_with fail
                  exact hK _ _ rfl hG (fun _ _ _ h => h)
                rcases i with _ | i
                · obtain rfl : _ = o := Option.some.inj ho
                  have p3 : y 3 = _ := hdep { on := 3, ground := .data } (by simp) rfl
                  have p4 : y 4 = _ := hdep { on := 4, ground := .data } (by simp) rfl
                  unfold StepTo
                  simp only [↓reduceIte, Nat.zero_add, Nat.reduceAdd, Nat.reduceEqDiff, List.map_cons, List.map_nil, puts, updV, Act.put, List.setIfInBounds_toArray, List.set_cons_zero, List.set_cons_succ] at hK ⊢
                  generalize y 0 = y0 at *; generalize y 1 = y1 at *; generalize y 2 = y2 at *; generalize y 3 = y3 at *; generalize y 4 = y4 at *; generalize y 5 = y5 at *; generalize y 6 = y6 at *; generalize y 7 = y7 at *; generalize y 8 = y8 at *; generalize y 9 = y9 at *; generalize y 10 = y10 at *
                  clear hs
                  subst p3
                  subst p4
                  go_wp2_with fail
                  exact hK _ _ rfl hG (fun _ _ _ h => h)
                rcases i with _ | i
                · obtain rfl : _ = o := Option.some.inj ho
                  have p5 : y 5 = _ := hdep { on := 5, ground := .data } (by simp) rfl
                  unfold StepTo
                  simp only [↓reduceIte, Nat.zero_add, Nat.reduceAdd, Nat.reduceEqDiff, List.map_cons, List.map_nil, puts, updV, Act.put, List.setIfInBounds_toArray, List.set_cons_zero, List.set_cons_succ] at hK ⊢
                  generalize y 0 = y0 at *; generalize y 1 = y1 at *; generalize y 2 = y2 at *; generalize y 3 = y3 at *; generalize y 4 = y4 at *; generalize y 5 = y5 at *; generalize y 6 = y6 at *; generalize y 7 = y7 at *; generalize y 8 = y8 at *; generalize y 9 = y9 at *; generalize y 10 = y10 at *
                  clear hs
                  subst p5
                  go_wp2_with fail
                  exact hK _ _ rfl hG (fun _ _ _ h => h)
                rcases i with _ | i
                · obtain rfl : _ = o := Option.some.inj ho
                  have p6 : y 6 = _ := hdep { on := 6, ground := .data } (by simp) rfl
                  unfold StepTo
                  simp only [↓reduceIte, Nat.zero_add, Nat.reduceAdd, Nat.reduceEqDiff, List.map_cons, List.map_nil, puts, updV, Act.put, List.setIfInBounds_toArray, List.set_cons_zero, List.set_cons_succ] at hK ⊢
                  generalize y 0 = y0 at *; generalize y 1 = y1 at *; generalize y 2 = y2 at *; generalize y 3 = y3 at *; generalize y 4 = y4 at *; generalize y 5 = y5 at *; generalize y 6 = y6 at *; generalize y 7 = y7 at *; generalize y 8 = y8 at *; generalize y 9 = y9 at *; generalize y 10 = y10 at *
                  clear hs
                  subst p6
                  go_wp2_with fail
                  exact hK _ _ rfl hG (fun _ _ _ h => h)
                rcases i with _ | i
                · obtain rfl : _ = o := Option.some.inj ho
                  have p7 : y 7 = _ := hdep { on := 7, ground := .data } (by simp) rfl
                  unfold StepTo
                  simp only [↓reduceIte, Nat.zero_add, Nat.reduceAdd, Nat.reduceEqDiff, List.map_cons, List.map_nil, puts, updV, Act.put, List.setIfInBounds_toArray, List.set_cons_zero, List.set_cons_succ] at hK ⊢
                  generalize y 0 = y0 at *; generalize y 1 = y1 at *; generalize y 2 = y2 at *; generalize y 3 = y3 at *; generalize y 4 = y4 at *; generalize y 5 = y5 at *; generalize y 6 = y6 at *; generalize y 7 = y7 at *; generalize y 8 = y8 at *; generalize y 9 = y9 at *; generalize y 10 = y10 at *
                  clear hs
                  subst p7
                  go_wp2_with (go_at_call 151; refine (hO2 _).mono ?_; rintro e w2 ⟨v, rfl, hN, hb⟩)
                  exact hK _ _ hN.any ⟨hB.trans (hb.mono hB.size), hC.nx hb⟩ (fun _ _ _ h => Sat.nx hb h)
                rcases i with _ | i
                · obtain rfl : _ = o := Option.some.inj ho
                  have p2 : BigN 0 wr (y 2) (n * 10) := hdep { on := 2, ground := .data } (by simp) rfl
                  have p8 : BigN 0 wr (y 8) (c - 48) := hdep { on := 8, ground := .data } (by simp) rfl
                  unfold StepTo
                  simp only [↓reduceIte, Nat.zero_add, Nat.reduceAdd, Nat.reduceEqDiff, List.map_cons, List.map_nil, puts, updV, Act.put, List.setIfInBounds_toArray, List.set_cons_zero, List.set_cons_succ] at hK ⊢
                  generalize y 0 = y0 at *; generalize y 1 = y1 at *; generalize y 2 = y2 at *; generalize y 3 = y3 at *; generalize y 4 = y4 at *; generalize y 5 = y5 at *; generalize y 6 = y6 at *; generalize y 7 = y7 at *; generalize y 8 = y8 at *; generalize y 9 = y9 at *; generalize y 10 = y10 at *
                  clear hs
                  go_wp2_with (go_at_call 195; refine (add_any _ _ _ _ _ p2 p8 sn10 sd).mono ?_; rintro e w2 ⟨v, rfl, hN, hb⟩)
                  exact hK _ _ hN.any ⟨hB.trans (hb.mono hB.size), hC.nx hb⟩ (fun _ _ _ h => Sat.nx hb h)
                rcases i with _ | i
                · obtain rfl : _ = o := Option.some.inj ho
                  have p9 : BigN 0 wr (y 9) (n * 10 + (c - 48)) := hdep { on := 9, ground := .data } (by simp) rfl
                  unfold StepTo
                  simp only [↓reduceIte, Nat.zero_add, Nat.reduceAdd, Nat.reduceEqDiff, List.map_cons, List.map_nil, puts, updV, Act.put, List.setIfInBounds_toArray, List.set_cons_zero, List.set_cons_succ] at hK ⊢
                  generalize y 0 = y0 at *; generalize y 1 = y1 at *; generalize y 2 = y2 at *; generalize y 3 = y3 at *; generalize y 4 = y4 at *; generalize y 5 = y5 at *; generalize y 6 = y6 at *; generalize y 7 = y7 at *; generalize y 8 = y8 at *; generalize y 9 = y9 at *; generalize y 10 = y10 at *
                  obtain ⟨rfl, -⟩ := hs (.inr rfl)
                  obtain ⟨s1', A1', n1', c1', k1, hN⟩ := hC
                  obtain ⟨s9, A9, n9, c9, rfl⟩ := p9.shape
                  refine stBig rfl _ _ rfl k1 rfl rfl rfl ?_
                  intro w2 hk hg hs2
                  exact ⟨rfl, hK undef _ trivial ⟨below_of_gb hB hg (by omega) hB.size, ⟨_, _, _, _, hk, p9.gbig k1 hg⟩⟩ (fun _ _ _ h => Sat.gb k1 hg h)⟩
                · exact absurd ho (by simp)
              case refine_2 =>
                intro y wr b hG hF hbs
                obtain rfl := hbs (by decide)
                clear hbs
                obtain ⟨hB, hC⟩ := hG
                simp only [Nat.zero_add, Nat.reduceAdd, List.map_cons, List.map_nil, puts, Act.put, List.setIfInBounds_toArray, List.set_cons_zero, List.set_cons_succ]
                generalize y 0 = y0 at *; generalize y 1 = y1 at *; generalize y 2 = y2 at *; generalize y 3 = y3 at *; generalize y 4 = y4 at *; generalize y 5 = y5 at *; generalize y 6 = y6 at *; generalize y 7 = y7 at *; generalize y 8 = y8 at *; generalize y 9 = y9 at *; generalize y 10 = y10 at *
                clear hF hO1 hO2 sn sn10 s10 sd e1
                go_wp2_with fail
                exact ⟨⟨k + 1, by omega, by go_num, hall2, by rw [HV2.out]; simpa [show ((c - 48 : Nat) : Int) = (c : Int) - 48 by omega] using hC, hB⟩, by simp [intOf]; omega⟩
            · have HNA : Hid (¬ ((bl s).all isD = true)) := fun h => by
                have := List.all_eq_true.1 h _ hm
                exact hd (isD_iff.1 this)
              have HR : Hid (refN (bl s) = none) := refN_bad (.inr (.inr (by rw [← HBT.out]; exact HNA.out)))
              clear hA hv hm HA HV HM HT hHL
              generalize numV 0 ((bl s).take k) = n at *
              generalize (s[k]'hlt).toNat = c at *
              by_cases h48 : c < 48
              · have hc1 : decide ((c : Int) < 48) = true := decide_eq_true (by omega)
                go_wp2_with fail
                go_returns
                exact ⟨by rw [optV_none HR.out]; rfl, hbr⟩
              · have hc1 : decide ((c : Int) < 48) = false := decide_eq_false (by omega)
                have hc2 : decide ((57 : Int) < (c : Int)) = true := decide_eq_true (by omega)
                go_wp2_with fail
                go_returns
                exact ⟨by rw [optV_none HR.out]; rfl, hbr⟩
          · obtain rfl : k = s.size := by omega
            have hal : (unsg (bl s)).all isD = true := List.all_eq_true.2 (fun b hb => hall.out b (by rw [HT.out.trans HBT.out]; exact hb))
            have hn : numV 0 ((bl s).take s.size) = numV 0 (unsg (bl s)) := congrArg (numV 0) (HT.out.trans HBT.out)
            have HAL := Lib.hid hal
            have HN := Lib.hid hn
            clear hal HA HV HM HT hHL hn hall
            generalize numV 0 ((bl s).take s.size) = n at *
            have sn : Sm (n : Int) := sm_nat (Nat.lt_of_lt_of_le hl (Nat.pow_le_pow_right (by decide) (by decide)))
            have snn : Sm (-(n : Int)) := by unfold Sm at *; simpa using sn
            have ntx : (n : Int).natAbs < 10 ^ 90 := by
              have : n < 10 ^ 90 := Nat.lt_of_lt_of_le hl (Nat.pow_le_pow_right (by decide) (by decide))
              simpa using this
            have HZ : Hid (sgL (bl s) (numV 0 (unsg (bl s))) = (n : Int)) := by show _ = _; rw [HSG.out, HN.out]
            go_upto_region 15 with fail
            have hB := hbr
            have sz := sn
            clear HN
            generalize (n : Int) = z at *
            have hFt := fun w' v (h : BigN 0 w' v z) => rfits_any63 v z w' h sz
            by_cases hin : in64 z
            · rw [decide_eq_true hin] at hFt
              have hTx := fun w' v (h : BigN 0 w' v z) => rtext_any v z w' h ntx
              have hcmp := HS.out z
              by_cases hit : itoa z = bl s
              · have HR : Hid (refN (bl s) = some z) := by
                  show _ = _
                  have := refN_in HNE.out HLE.out HAL.out (by rw [HZ.out]; exact ⟨hin, hit⟩)
                  rw [this, HZ.out]
                have hSm := fun w' v (h : BigN 0 w' v z) => small_any v z w' h (by unfold in64 at hin; omega) (by unfold in64 at hin; omega)
                rw [decide_eq_true hit] at hcmp
                unfold strV at hTx
                generalize (⟨(itoa z).toArray⟩ : ByteArray) = SB at *
                clear hit hin
                obtain ⟨s8, A8, n8, c8, k8, hN8⟩ := hC
                go_wp2_with (first
                  | (refine ldBig rfl _ rfl k8 rfl ?_)
                  | (go_at_call 198; refine (hFt _ _ hN8).mono ?_; rintro e w9 ⟨rfl, hb9⟩; have k8b := k8.nx hb9; have hN8b := hN8.nx hb9; obtain ⟨y0, y1⟩ := k8b.cell2)
                  | (go_at_call 150; refine (hTx _ _ hN8b).mono ?_; rintro e w10 ⟨rfl, hb10⟩; have k9 := k8b.nx hb10; have hN9 := hN8b.nx hb10; have hB9 := (hB.trans (hb9.mono hB.size)).trans (hb10.mono (hB.trans (hb9.mono hB.size)).size))
                  | (refine ldBig rfl _ rfl k9 rfl ?_)
                  | (go_at_call 199; refine (hSm _ _ hN9).mono ?_; rintro e wa ⟨rfl, hba⟩))
                go_returns
                exact ⟨by rw [optV_some HR.out]; rfl, hB9.trans (hba.mono hB9.size)⟩
              · have HR : Hid (refN (bl s) = none) := refN_out HNE.out HLE.out HAL.out (by rw [HZ.out]; exact fun h => hit h.2)
                rw [decide_eq_false hit] at hcmp
                unfold strV at hTx
                generalize (⟨(itoa z).toArray⟩ : ByteArray) = SB at *
                clear hit hin
                obtain ⟨s8, A8, n8, c8, k8, hN8⟩ := hC
                go_wp2_with (first
                  | (refine ldBig rfl _ rfl k8 rfl ?_)
                  | (go_at_call 198; refine (hFt _ _ hN8).mono ?_; rintro e w9 ⟨rfl, hb9⟩; have k8b := k8.nx hb9; have hN8b := hN8.nx hb9; obtain ⟨y0, y1⟩ := k8b.cell2)
                  | (go_at_call 150; refine (hTx _ _ hN8b).mono ?_; rintro e w10 ⟨rfl, hb10⟩; have k9 := k8b.nx hb10; have hN9 := hN8b.nx hb10; have hB9 := (hB.trans (hb9.mono hB.size)).trans (hb10.mono (hB.trans (hb9.mono hB.size)).size))
                  | (refine ldBig rfl _ rfl k9 rfl ?_)
                  | (go_at_call 199; refine (hSm _ _ hN9).mono ?_; rintro e wa ⟨rfl, hba⟩))
                go_returns
                exact ⟨by rw [optV_none HR.out]; rfl, hB9⟩
            · have HR : Hid (refN (bl s) = none) := refN_out HNE.out HLE.out HAL.out (by rw [HZ.out]; exact fun h => hin h.1)
              rw [decide_eq_false hin] at hFt
              clear hin
              obtain ⟨s8, A8, n8, c8, k8, hN8⟩ := hC
              go_wp2_with (first
                | (refine ldBig rfl _ rfl k8 rfl ?_)
                | (go_at_call 198; refine (hFt _ _ hN8).mono ?_; rintro e w9 ⟨rfl, hb9⟩))
              go_returns
              exact ⟨by rw [optV_none HR.out]; rfl, hB.trans (hb9.mono hB.size)⟩
    · have hzz : s.size = 0 := by omega
      have HR : Hid (refN (bl s) = none) := refN_bad (.inl (by
        rw [HU.out]
        exact List.length_eq_zero_iff.1 (by rw [bl_len]; exact hzz)))
      clear hng
      go_enter Tryz.func136, Tryz.ntmps136
      have hz3 : ((s.size : Nat) : Int) = 0 := by omega
      clear hz0
      go_wp2_with (first
        | (go_at_call 151; (with_reducible refine (hO _).mono ?_); rintro e w1 ⟨v1, rfl, hN1, hb1⟩; obtain ⟨s1, A1, n1, c1, rfl⟩ := hN1.shape; have hK1 := Bk.new w1 200 #[.bool false, .slice none 0 0])
        | (refine stBig rfl _ _ rfl hK1 rfl rfl rfl ?_; intro w2 hK2 hg2 hs2))
      go_returns
      exact ⟨by rw [optV_none HR.out]; rfl, below_of_gb (hb1.alloc hb1.size _) hg2 hb1.size (hb1.alloc hb1.size _).size⟩
end Go.Proofs.YtgohbkkeppknoaaGreatDoor
end
