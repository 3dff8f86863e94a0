/- the reference's slants. -/
import Derived.Test.YtlbiiljncacdoaaGreatX3
set_option linter.unusedVariables false
namespace Go.Proofs.YtlbiiljncacdoaaGreat
open Go.RowKit
def ms4 (i : Nat) : Int := if 1 < i then 32768 else 262144
theorem ms4_bd (i : Nat) : 0 ≤ ms4 i ∧ ms4 i ≤ 262144 := by unfold ms4; split <;> omega
theorem rg4_iff {l : List Int} : rg4 l = true ↔ ∀ i, i < 4 → inH (l.getD i 0) (ms4 i) = true := by
  unfold rg4
  simp only [Bool.and_eq_true]
  constructor
  · rintro ⟨⟨⟨a, b⟩, c⟩, d⟩ i hi
    have h4 : i = 0 ∨ i = 1 ∨ i = 2 ∨ i = 3 := by omega
    rcases h4 with rfl | rfl | rfl | rfl
    · exact a
    · exact b
    · exact c
    · exact d
  · intro h
    exact ⟨⟨⟨h 0 (by decide), h 1 (by decide)⟩, h 2 (by decide)⟩, h 3 (by decide)⟩
set_option maxRecDepth 100000 in
set_option maxHeartbeats 4000000 in
theorem rcheck22 (l : List Int) (A : Option Addr) (n cp : Nat) (w : World) {B : Nat} (hl : l.length = n) (hr : Rd w B A (l.map (Value.int .i64))) :
    Calls Tryz.prog 79 #[.slice A n cp] w fun e w' => e = .returned (.int .i64 (shC l)) ∧ w = w' := by
  by_cases hn : n = 4
  · subst hn
    have HL := Lib.hid hl
    clear hl
    go_enter Tryz.func79, Tryz.ntmps79
    go_wp2_with fail
    go_loop [3, 4] (fun kv _ => ∃ k : Nat, k ≤ 4 ∧ kv = .int .i64 k ∧ Hid (∀ i, i < k → inH (l.getD i 0) (ms4 i) = true)) (fun kv _ => 4 - (intOf kv).toNat)
    case atStart => exact ⟨0, by omega, rfl, by intro i hi; omega⟩
    case round =>
      obtain ⟨k, hk, rfl, hall⟩ := hrel
      by_cases hlt : k < 4
      · obtain ⟨b, o, rfl, hb, hc⟩ := hr.get k (by rw [List.length_map, HL.out]; exact hlt)
        have hx : (l.map (Value.int .i64))[k]'(by rw [List.length_map, HL.out]; exact hlt) = .int .i64 (l.getD k 0) := by
          rw [List.getElem_map, List.getD_eq_getElem?_getD, List.getElem?_eq_getElem (by rw [HL.out]; exact hlt)]; rfl
        rw [hx] at hc
        clear hx
        have hms : ∀ x m, m = ms4 k → inH x m = inH x (ms4 k) := fun x m h => by rw [h]
        cases hi : inH (l.getD k 0) (ms4 k)
        · have HR : Hid (shC l = 11) := by
            show _ = _
            unfold shC
            rw [if_neg (by rw [HL.out]; simp), if_neg]
            intro h
            have := rg4_iff.1 h k hlt
            rw [hi] at this; cases this
          generalize l.getD k 0 = x at *
          by_cases h1 : 1 < k
          · have hi' : inH x 32768 = false := by rw [← hi]; unfold ms4; rw [if_pos h1]
            clear hi hms
            go_wp2_with (go_at_call 31; (with_reducible refine (rin_any _ _ _ (by decide) (by decide)).mono ?_); rintro e w' ⟨rfl, rfl⟩; rw [hi'])
            go_ret
            exact ⟨ret_int HR.out.symm, rfl⟩
          · have hi' : inH x 262144 = false := by rw [← hi]; unfold ms4; rw [if_neg h1]
            clear hi hms
            go_wp2_with (go_at_call 31; (with_reducible refine (rin_any _ _ _ (by decide) (by decide)).mono ?_); rintro e w' ⟨rfl, rfl⟩; rw [hi'])
            go_ret
            exact ⟨ret_int HR.out.symm, rfl⟩
        · have HN : Hid (∀ i, i < k + 1 → inH (l.getD i 0) (ms4 i) = true) := by
            intro i hi2
            by_cases e : i = k
            · rw [e]; exact hi
            · exact hall.out i (by omega)
          generalize l.getD k 0 = x at *
          by_cases h1 : 1 < k
          · have hi' : inH x 32768 = true := by rw [← hi]; unfold ms4; rw [if_pos h1]
            clear hi hms
            go_wp2_with (go_at_call 31; (with_reducible refine (rin_any _ _ _ (by decide) (by decide)).mono ?_); rintro e w' ⟨rfl, rfl⟩; rw [hi'])
            exact ⟨⟨k + 1, by omega, by go_num, HN⟩, by simp [intOf]; omega⟩
          · have hi' : inH x 262144 = true := by rw [← hi]; unfold ms4; rw [if_neg h1]
            clear hi hms
            go_wp2_with (go_at_call 31; (with_reducible refine (rin_any _ _ _ (by decide) (by decide)).mono ?_); rintro e w' ⟨rfl, rfl⟩; rw [hi'])
            exact ⟨⟨k + 1, by omega, by go_num, HN⟩, by simp [intOf]; omega⟩
      · obtain rfl : k = 4 := by omega
        have HR : Hid (shC l = 0) := by
          show _ = _
          unfold shC
          rw [if_neg (by rw [HL.out]; simp), if_pos]
          exact rg4_iff.2 hall.out
        go_wp2_with fail
        go_ret
        exact ⟨ret_int HR.out.symm, rfl⟩
  · have HR : Hid (shC l = 12) := by show _ = _; unfold shC; rw [if_pos (by omega)]
    have hnb : ((n : Int) != 4) = true := by rw [bne_iff_ne]; omega
    clear hl hn
    go_enter Tryz.func79, Tryz.ntmps79
    go_wp2_with fail
    all_goals first
      | (go_ret; exact ⟨ret_int HR.out.symm, rfl⟩)
      | (exfalso; omega)
set_option maxRecDepth 100000 in
set_option maxHeartbeats 8000000 in
theorem rpixel22 (l : List Int) (A : Option Addr) (cp : Nat) (X Y : Int) (w : World) {B : Nat} (hl : l.length = 4) (h : rg4 l = true) (hr : Rd w B A (l.map (Value.int .i64))) (hX : -1048577 ≤ X ∧ X ≤ 1048577) (hY : -1048577 ≤ Y ∧ Y ≤ 1048577) :
    Calls Tryz.prog 85 #[.slice A 4 cp, .int .i64 X, .int .i64 Y] w fun e w' => e = .returned (.tuple #[.int .i64 (slZ l X Y + cf l 2), .int .i64 (slY l X Y + cf l 3)]) ∧ Below w.heap.size w w' := by
  obtain ⟨b, o, rfl, hb, c0, hc⟩ := lget hl (by decide) hr
  have c1 := hc 1 (by decide)
  have c2 := hc 2 (by decide)
  have c3 := hc 3 (by decide)
  obtain ⟨⟨x00, x01⟩, ⟨y00, y01⟩, ⟨p10, p11⟩, ⟨x10, x11⟩, ⟨p20, p21⟩, ⟨y10, y11⟩, ⟨p30, p31⟩, ⟨x20, x21⟩⟩ := slB h hX hY
  obtain ⟨⟨b00, b01⟩, ⟨b10, b11⟩, ⟨b20, b21⟩, b30, b31⟩ := rg4_bd h
  have hN := fun z w' (h : -1152921504606846976 ≤ z) (h' : z ≤ 1152921504606846976) => (rnear_any z 65536 w' (by decide) (by decide) h h').mono (R' := fun e w'' => e = .returned (.int .i64 (rn z)) ∧ w' = w'') fun e w'' ⟨q1, q2⟩ => ⟨by rw [q1, rn_nr], q2⟩
  have hb0 := Below.refl w.heap.size w
  clear hc hl h hr
  unfold slZ slY slX at *
  generalize cf l 0 = a at *
  generalize cf l 1 = b at *
  generalize cf l 2 = cx at *
  generalize cf l 3 = cy at *
  have hN1 := fun w' => hN (a * (Y - cy)) w' (by omega) (by omega)
  generalize rn (a * (Y - cy)) = r1 at *
  have hN2 := fun w' => hN (b * (X - cx + r1)) w' (by omega) (by omega)
  generalize rn (b * (X - cx + r1)) = r2 at *
  have hN3 := fun w' => hN (a * (Y - cy + r2)) w' (by omega) (by omega)
  generalize rn (a * (Y - cy + r2)) = r3 at *
  clear hN
  go_enter Tryz.func85, Tryz.ntmps85
  go_wp2_with fail
  refine (hN1 _).mono ?_
  rintro e w1 ⟨rfl, rfl⟩
  go_wp2_with fail
  refine (hN2 _).mono ?_
  rintro e w1 ⟨rfl, rfl⟩
  go_wp2_with fail
  refine (hN3 _).mono ?_
  rintro e w1 ⟨rfl, rfl⟩
  go_upto_region 6 with fail
  go_quiet (fail)
  go_wp2_with fail
  go_returns
  exact ⟨rfl, below_drewN hb0 _⟩
end Go.Proofs.YtlbiiljncacdoaaGreat
