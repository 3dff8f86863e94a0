/- The reference's homographies: what is wrong, the walk. -/
import Derived.Test.YtebcienjeponmaaBig15
set_option linter.unusedVariables false
namespace Go.Proofs.Ytebcienjeponmaa
open Go.RowKit
theorem sg_fin {es : List Int} {W H sk u : Int} {k : Nat} (HS : sgnS es W H (k + 1) = sk + cmpI u 0) (h1 : -(k : Int) ≤ sk) (h2 : sk ≤ k) (hk : k < 4) : Value.int .i64 (wrap64 (sk + cmpI u 0)) = .int .i64 (sgnS es W H (k + 1)) ∧ -((k + 1 : Nat) : Int) ≤ sgnS es W H (k + 1) ∧ sgnS es W H (k + 1) ≤ ((k + 1 : Nat) : Int) := by
  have hc : -1 ≤ cmpI u 0 ∧ cmpI u 0 ≤ 1 := by unfold cmpI; split <;> (try split) <;> omega
  refine ⟨?_, by omega, by omega⟩
  rw [HS, IntWalk.wrap64_in _ ⟨by omega, by omega⟩]
set_option maxRecDepth 100000 in
set_option maxHeartbeats 2000000 in
theorem chk_any (A : Option Addr) (n c : Nat) (ms : List Int) (W H : Int) (w : World) {B : Nat} (hl : ms.length = n) (hr : Rd w B A (ms.map (Value.int .i64))) (hB : B ≤ w.heap.size) (hok : ∀ z ∈ ms, I64 z) (hW : I64 W) (hH : I64 H) :
    Calls Try.prog 10 #[.slice A n c, .int .i64 W, .int .i64 H] w fun e w' => e = .returned (.int .i64 (chkZ ms W H)) ∧ Below w.heap.size w w' := by
  have HL := Lib.hid hl
  by_cases h9 : n = 9
  · subst h9
    have hokk : ∀ k, I64 (ms.getD k 0) := getD_all hok (by unfold I64; omega)
    have HOK := Lib.hid hokk
    have HOKM : Hid (∀ z ∈ ms, -9223372036854775808 ≤ z ∧ z ≤ 9223372036854775807) := hok
    clear hok hokk hl
    go_enter Try.func10, Try.ntmps10
    go_wp2_with fail
    have hKc := Bk.new w 2 capCells
    have hb0 : Below w.heap.size w (w.alloc (.cells capCells 2)) := by go_grown
    have hzw : w.heap.size < (w.alloc (.cells capCells 2)).heap.size := by simp
    go_loopw [8] (fun kv wr => ∃ k : Nat, k ≤ 9 ∧ kv = .int .i64 k ∧ (∀ i, i < k → InCap ms i) ∧ Bk wr w.heap.size 2 capCells ∧ Below w.heap.size w wr) (fun kv _ => 9 - (intOf kv).toNat)
    case atStart => exact ⟨0, by omega, rfl, fun i hi => absurd hi (by omega), hKc, hb0⟩
    case round =>
      obtain ⟨k, hk, rfl, hin, hK, hb⟩ := hrel
      have HIN := Lib.hid hin
      clear hin
      rcases Nat.lt_or_ge k 9 with hlt | hge
      · have hk3 : (k : Int) < 9 := by omega
        have hcap := capL_ok k hlt
        obtain ⟨b, o, rfl, hb1, hc1⟩ := (hr.below' hb hB).get k (by simp [HL.out]; omega)
        have hc1' : wr.cell? ⟨b, o + k, none⟩ = some (.int .i64 (ms.getD k 0)) := by
          rw [hc1, List.getElem_map]
          simp [HL.out, hlt]
        have hc2 : wr.cell? ⟨w.heap.size, k, none⟩ = some (.int .i64 (capL.getD k 0)) := by rw [hK.cell, capCells_get k hlt]
        clear hc1
        have hd : Hid (InCap ms k ↔ -(capL.getD k 0) ≤ ms.getD k 0 ∧ ms.getD k 0 ≤ capL.getD k 0) := Iff.rfl
        generalize hmk : ms.getD k 0 = mk at *
        generalize hck : capL.getD k 0 = ck at *
        clear hmk hck
        by_cases hi : -ck ≤ mk ∧ mk ≤ ck
        · go_wp2_with fail
          go_quiet ((go_at_call 26; exact Calls.quiet_of_same (In18_yes mk ck _ (by omega) (by omega) hi)))
          go_wp2_with fail
          have hin2 : ∀ i, i < k + 1 → InCap ms i := fun i hi2 => by
            rcases Nat.lt_or_ge i k with h | h
            · exact HIN.out i h
            · obtain rfl : i = k := by omega
              exact hd.out.2 hi
          exact ⟨⟨k + 1, by omega, by go_num, hin2, hK.drewN nq, below_drewN hb nq⟩, by simp only [intOf]; omega⟩
        · have hch : chkZ ms W H = 11 := by
            have hf : allIn ms = false := by
              rcases hb : allIn ms with _ | _
              · rfl
              · exact absurd (hd.out.1 ((allIn_iff ms).1 hb k hlt)) hi
            unfold chkZ
            rw [if_neg (by rw [HL.out]; simp), if_pos hf]
          have HCH := Lib.hid hch
          clear hch
          go_wp2_with fail
          go_quiet ((go_at_call 26; exact Calls.quiet_of_same (In18_no mk ck _ (by omega) (by omega) hi)))
          go_wp2_with fail
          go_returns
          exact ⟨ret_int HCH.out.symm, below_drewN hb nq⟩
      · obtain rfl : k = 9 := by omega
        have hall := (allIn_iff ms).2 HIN.out
        have HALL := Lib.hid hall
        clear hall
        have hdim : (W < 1 ∨ 32768 < W ∨ H < 1 ∨ 32768 < H) ∨ (1 ≤ W ∧ W ≤ 32768 ∧ 1 ≤ H ∧ H ≤ 32768) := by omega
        rcases hdim with hdim | hdim
        · have hch : chkZ ms W H = 30 := by
            unfold chkZ
            rw [if_neg (by rw [HL.out]; simp), if_neg (by rw [HALL.out]; simp), if_pos hdim]
          have HCH := Lib.hid hch
          clear hch
          have hd2 : W < 1 ∨ (1 ≤ W ∧ 32768 < W) ∨ (1 ≤ W ∧ W ≤ 32768 ∧ H < 1) ∨ (1 ≤ W ∧ W ≤ 32768 ∧ 1 ≤ H ∧ 32768 < H) := by omega
          clear hdim
          rcases hd2 with h1 | ⟨h1, h2⟩ | ⟨h1, h2, h3⟩ | ⟨h1, h2, h3, h4⟩
          all_goals
            go_wp2_with fail
            go_returns
            exact ⟨ret_int HCH.out.symm, hb⟩
        · obtain ⟨h1, h2, h3, h4⟩ := hdim
          have hen : ∀ k, En (ms.getD k 0) := fun k => by
            rcases Nat.lt_or_ge k 9 with hk9 | hk9
            · have q1 := (allIn_iff ms).1 HALL.out k hk9
              have q2 := capL_ok k hk9
              have q3 := Bp_mono (show 5 ≤ 9 by omega)
              have q4 := Bp5
              obtain ⟨q5, q6⟩ := q1
              show ((ms.getD k 0).natAbs : Int) < Bp 9
              omega
            · rw [List.getD_eq_getElem?_getD, List.getElem?_eq_none (by rw [HL.out]; omega)]
              exact en_zero
          have hea := adj_ea hen
          have hok2 : ∀ z ∈ ms, -9223372036854775808 ≤ z ∧ z ≤ 9223372036854775807 := HOKM.out
          have HOK2 := Lib.hid hok2
          have HEN := Lib.hid hen
          have HEA := Lib.hid hea
          have hdl := detSB_lt hen 3
          have hsd : Sm (detZ ms) := sm_38 (by
            have q1 := Bp_mono (show 29 ≤ 38 by omega)
            have q2 := Bp1s 28
            have q3 := Bp_pos 28
            simp only [Nat.reduceAdd] at q2
            show ((detSB ms 3).natAbs : Int) < Bp 38
            omega)
          have HAL := Lib.hid (show (adjZ ms).length = 9 from adjP_len ms 9)
          have hch : chkZ ms W H = if detZ ms = 0 then 40 else if sgnS (adjZ ms) W H 4 = 4 ∨ sgnS (adjZ ms) W H 4 = -4 then 0 else 41 := by
            unfold chkZ
            rw [if_neg (by rw [HL.out]; simp), if_neg (by rw [HALL.out]; simp), if_neg (by omega)]
          have HCH := Lib.hid hch
          have hrw : Rd wr B A (ms.map (Value.int .i64)) := hr.below' hb hB
          have hBw : B ≤ wr.heap.size := Nat.le_trans hB hb.size
          clear hch hok2 hen hea hdl
          go_wp2_with fail
          refine (bigs_of A 9 c ms _ HL.out (by omega) hrw hBw HOK2.out).mono ?_
          rintro e w1 ⟨v1, rfl, hB1, hb1⟩
          have hz0 := hb.size
          have hz1 := hb1.size
          have hbz1 := hb.trans (hb1.mono hz0)
          go_wp2_with fail
          refine (det_any v1 ms _ hB1 HL.out HEN.out).mono ?_
          rintro e w2 ⟨v2, rfl, hN2, hb2⟩
          have hz2 := hb2.size
          have hbz2 := hbz1.trans (hb2.mono (by omega))
          go_wp2_with fail
          refine (sign_any _ _ _ hN2 hsd).mono ?_
          rintro e w3 ⟨rfl, hb3⟩
          have hz3 := hb3.size
          have hbz3 := hbz2.trans (hb3.mono (by omega))
          by_cases hdz : detZ ms = 0
          · have hdc : (cmpI (detZ ms) 0 == 0) = true := by rw [(cmp_zero _ _).2 hdz]; rfl
            have hch := HCH.out
            rw [if_pos hdz] at hch
            have HCH2 := Lib.hid hch
            clear hch hdz
            go_wp2_with fail
            go_returns
            exact ⟨ret_int HCH2.out.symm, hbz3⟩
          · have hdc : (cmpI (detZ ms) 0 == 0) = false := by
              have : cmpI (detZ ms) 0 ≠ 0 := fun h => hdz ((cmp_zero _ _).1 h)
              simpa using this
            have hch := HCH.out
            rw [if_neg hdz] at hch
            have HCH2 := Lib.hid hch
            clear hch hdz
            go_wp2_with fail
            refine (adj_any v1 ms _ ((hB1.nx hb2).nx hb3) HL.out HEN.out).mono ?_
            rintro e w4 ⟨v4, rfl, hB4, hb4⟩
            have hz4 := hb4.size
            have hbz4 := hbz3.trans (hb4.mono (by omega))
            obtain ⟨A4, c4, rfl, _, _⟩ := hB4.form
            rw [HAL.out]
            have hB4' := hB4
            rw [HAL.out] at hB4'
            clear hB4
            clear hB1 hN2 hb1 hb2 hb3 hb4 hK hb
            go_wp2_with fail
            go_loopw [11, 12] (fun sv kv wr => ∃ k : Nat, k ≤ 4 ∧ kv = .int .i64 k ∧ sv = .int .i64 (sgnS (adjZ ms) W H k) ∧ -k ≤ sgnS (adjZ ms) W H k ∧ sgnS (adjZ ms) W H k ≤ k ∧ Below w4.heap.size w4 wr) (fun _ kv _ => 4 - (intOf kv).toNat)
            case atStart => exact ⟨0, by omega, rfl, rfl, by simp [sgnS], by simp [sgnS], Below.refl _ _⟩
            case round =>
              obtain ⟨k, hk, rfl, rfl, hs1, hs2, hb⟩ := hrel
              rcases Nat.lt_or_ge k 4 with hlt | hge
              · have hk4 : k = 0 ∨ k = 1 ∨ k = 2 ∨ k = 3 := by omega
                have HS := Lib.hid (show sgnS (adjZ ms) W H (k + 1) = sgnS (adjZ ms) W H k + cmpI (undZ (adjZ ms) 2 (corX W k) (corY H k) 2) 0 from rfl)
                generalize sgnS (adjZ ms) W H k = sk at *
                have hBk := hB4'.nx hb
                have hzk := hb.size
                rcases hk4 with rfl | rfl | rfl | rfl
                all_goals
                  first
                  | rw [show corX W (0 : Nat) = -1 from rfl, show corY H (0 : Nat) = -1 from rfl] at HS
                  | rw [show corX W (1 : Nat) = 2 * W - 1 from rfl, show corY H (1 : Nat) = -1 from rfl] at HS
                  | rw [show corX W (2 : Nat) = -1 from rfl, show corY H (2 : Nat) = 2 * H - 1 from rfl] at HS
                  | rw [show corX W (3 : Nat) = 2 * W - 1 from rfl, show corY H (3 : Nat) = 2 * H - 1 from rfl] at HS
                  have hXX : I64 (-1) ∧ I64 (2 * W - 1) ∧ I64 (2 * H - 1) ∧ I64 2 := by unfold I64; omega
                  have HXX := Lib.hid hXX
                  clear hXX
                  go_wp2_with (first
                    | (go_at_call 19; go_loud (with_reducible refine (under2_any _ (adjZ ms) _ _ _ _ hBk HAL.out HEA.out (by first | exact HXX.out.1 | exact HXX.out.2.1) (by first | exact HXX.out.1 | exact HXX.out.2.2.1) HXX.out.2.2.2).mono ?_); rintro e wu ⟨vu, rfl, hNu, hbu⟩; have hzu := hbu.size)
                    | (go_at_call 34; (with_reducible refine (sign_any _ _ _ hNu (sm_38 (Int.lt_of_lt_of_le (undZ_lt HEA.out 2 (by first | exact HXX.out.1 | exact HXX.out.2.1) (by first | exact HXX.out.1 | exact HXX.out.2.2.1) HXX.out.2.2.2) (Bp_mono (by omega))))).mono ?_); rintro e wv ⟨rfl, hbv⟩))
                all_goals first
                  | exact ⟨⟨0 + 1, by omega, rfl, (sg_fin HS.out hs1 hs2 (by omega)).1, (sg_fin HS.out hs1 hs2 (by omega)).2.1, (sg_fin HS.out hs1 hs2 (by omega)).2.2, (hb.trans (hbu.mono hzk)).trans (hbv.mono (by omega))⟩, by simp [intOf]⟩
                  | exact ⟨⟨1 + 1, by omega, rfl, (sg_fin HS.out hs1 hs2 (by omega)).1, (sg_fin HS.out hs1 hs2 (by omega)).2.1, (sg_fin HS.out hs1 hs2 (by omega)).2.2, (hb.trans (hbu.mono hzk)).trans (hbv.mono (by omega))⟩, by simp [intOf]⟩
                  | exact ⟨⟨2 + 1, by omega, rfl, (sg_fin HS.out hs1 hs2 (by omega)).1, (sg_fin HS.out hs1 hs2 (by omega)).2.1, (sg_fin HS.out hs1 hs2 (by omega)).2.2, (hb.trans (hbu.mono hzk)).trans (hbv.mono (by omega))⟩, by simp [intOf]⟩
                  | exact ⟨⟨3 + 1, by omega, rfl, (sg_fin HS.out hs1 hs2 (by omega)).1, (sg_fin HS.out hs1 hs2 (by omega)).2.1, (sg_fin HS.out hs1 hs2 (by omega)).2.2, (hb.trans (hbu.mono hzk)).trans (hbv.mono (by omega))⟩, by simp [intOf]⟩
              · obtain rfl : k = 4 := by omega
                have hbe := hbz4.trans (hb.mono hbz4.size)
                by_cases e4 : sgnS (adjZ ms) W H 4 = 4
                · have HCH3 : Hid (chkZ ms W H = 0) := by show _ = _; rw [HCH2.out, if_pos (.inl e4)]
                  rw [e4]
                  clear e4
                  go_wp2_with fail
                  go_returns
                  exact ⟨ret_int HCH3.out.symm, hbe⟩
                · by_cases e5 : sgnS (adjZ ms) W H 4 = -4
                  · have HCH3 : Hid (chkZ ms W H = 0) := by show _ = _; rw [HCH2.out, if_pos (.inr e5)]
                    rw [e5]
                    clear e4 e5
                    go_wp2_with fail
                    go_returns
                    exact ⟨ret_int HCH3.out.symm, hbe⟩
                  · have HCH3 : Hid (chkZ ms W H = 41) := by show _ = _; rw [HCH2.out, if_neg (by rintro (h | h) <;> contradiction)]
                    have n4 : (sgnS (adjZ ms) W H 4 != 4) = true := by simpa using e4
                    have n5 : (sgnS (adjZ ms) W H 4 != -4) = true := by simpa using e5
                    clear e4 e5 HCH2 HCH
                    generalize sgnS (adjZ ms) W H 4 = s4 at *
                    go_wp2_with fail
                    go_returns
                    exact ⟨ret_int HCH3.out.symm, hbe⟩
  · have hch : chkZ ms W H = 12 := by unfold chkZ; rw [if_pos (by rw [hl]; exact h9)]
    have h9' : ((n : Int) != 9) = true := by simp; omega
    clear hl
    go_enter Try.func10, Try.ntmps10
    go_wp2_with fail
    go_returns
    exact ⟨ret_int hch.symm, Below.refl _ _⟩
end Go.Proofs.Ytebcienjeponmaa
