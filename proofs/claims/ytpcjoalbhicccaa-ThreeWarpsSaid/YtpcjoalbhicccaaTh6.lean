/- What is wrong with images, and with slants. -/
import Derived.Test.YtpcjoalbhicccaaTh5
set_option linter.unusedVariables false
namespace Go.Proofs.Ytpcjoalbhicccaa
open Go.RowKit
set_option maxHeartbeats 1000000 in
theorem icheck_any (W H C : Int) (A : Option Addr) (n c : Nat) (w : World) :
    Calls Try.prog 40 #[.agg #[.int .i64 W, .int .i64 H, .int .i64 C, .slice A n c]] w fun e w' => e = .returned (.int .i64 (checkC W H C n)) ∧ Below w.heap.size w w' := by
  by_cases hf : fitsC W H C = 0
  · obtain ⟨hc, hw1, hw2, hh1, hh2, hp⟩ := fitsC_ok hf
    have hp0 := mul_bd W H (by omega) (by omega) hw2 hh2
    have hp3 := mul3_bd W H C (by omega) hp (by omega) (by omega)
    by_cases hn : (n : Int) = W * H * C
    all_goals
      have hfb : (fitsC W H C != 0) = false := by simpa using hf
      have HF := Lib.hid hf
      clear hf hc
      go_enter Try.func40, Try.ntmps40
      go_wp2_with (go_at_call 56; refine (fits_any _ _ _ _).mono ?_; rintro e w' ⟨rfl, rfl⟩)
      go_returns
      exact ⟨ret_int (by unfold checkC; rw [HF.out]; first | (rw [if_pos ⟨rfl, by assumption⟩]) | (rw [if_neg (by omega)])), by go_grown⟩
  · have hfb : (fitsC W H C != 0) = true := by simpa using hf
    have HF := Lib.hid hf
    clear hf
    go_enter Try.func40, Try.ntmps40
    go_wp2_with (go_at_call 56; refine (fits_any _ _ _ _).mono ?_; rintro e w' ⟨rfl, rfl⟩)
    go_returns
    exact ⟨ret_int (by unfold checkC; rw [if_neg (fun h => HF.out h.1)]), by go_grown⟩
/-- Four numbers lie one behind the other. -/
def C4 (w : World) (B : Nat) (A : Option Addr) (p q r s : Int) : Prop := ∃ b o, A = some ⟨b, o, none⟩ ∧ b < B ∧ w.cell? ⟨b, o, none⟩ = some (.int .i64 p) ∧ w.cell? ⟨b, o + 1, none⟩ = some (.int .i64 q) ∧ w.cell? ⟨b, o + 2, none⟩ = some (.int .i64 r) ∧ w.cell? ⟨b, o + 3, none⟩ = some (.int .i64 s)
theorem Rd.c4 {w : World} {B : Nat} {A : Option Addr} {l : List Int} (hl : l.length = 4) (h : Rd w B A (l.map (Value.int .i64))) : C4 w B A (l.getD 0 0) (l.getD 1 0) (l.getD 2 0) (l.getD 3 0) := by
  match l, hl with
  | [p, q, r, s], _ =>
    obtain ⟨b, o, rfl, hb, h0⟩ := h.get 0 (by simp)
    obtain ⟨b1, o1, e1, _, h1⟩ := h.get 1 (by simp)
    obtain ⟨b2, o2, e2, _, h2⟩ := h.get 2 (by simp)
    obtain ⟨b3, o3, e3, _, h3⟩ := h.get 3 (by simp)
    cases e1; cases e2; cases e3
    exact ⟨b, o, rfl, hb, h0, h1, h2, h3⟩
theorem C4.below {w w' : World} {B B' : Nat} {A : Option Addr} {p q r s : Int} (h : C4 w B A p q r s) (hb : Below B' w w') (hB : B ≤ B') : C4 w' B A p q r s := by
  obtain ⟨b, o, rfl, hlt, h0, h1, h2, h3⟩ := h
  exact ⟨b, o, rfl, hlt, (hb.cell (by show b < _; omega)).trans h0, (hb.cell (by show b < _; omega)).trans h1, (hb.cell (by show b < _; omega)).trans h2, (hb.cell (by show b < _; omega)).trans h3⟩
def sl4B (p q r s : Int) : Bool := inB p 262144 && (inB q 262144 && (inB r 32768 && inB s 32768))
theorem sl4B_iff {p q r s : Int} : sl4B p q r s = true ↔ bdI 262144 p ∧ bdI 262144 q ∧ bdI 32768 r ∧ bdI 32768 s := by
  unfold sl4B; simp only [Bool.and_eq_true, inB_iff]
def slC (n : Nat) (p q r s : Int) : Int := if n ≠ 4 then 12 else if sl4B p q r s = true then 0 else 11
set_option maxHeartbeats 1000000 in
theorem scheck_any (A : Option Addr) (n c : Nat) (p q r s : Int) (w : World) {B : Nat} (h : n = 4 → C4 w B A p q r s) :
    Calls Try.prog 34 #[.slice A n c] w fun e w' => e = .returned (.int .i64 (slC n p q r s)) ∧ w = w' := by
  by_cases hn : n = 4
  · subst hn
    obtain ⟨b, o, rfl, hlt, h0, h1, h2, h3⟩ := h rfl
    clear h
    go_enter Try.func34, Try.ntmps34
    go_wp2_with (go_at_call 53; (with_reducible refine (sin_any _ _ _ (by decide) (by decide)).mono ?_); rintro e w' ⟨rfl, rfl⟩)
    all_goals
      go_ret
      refine ⟨ret_int ?_, rfl⟩
      unfold slC sl4B
      simp_all
  · have hn' : ¬ (n : Int) = 4 := by omega
    go_enter Try.func34, Try.ntmps34
    go_wp2
    go_ret
    exact ⟨ret_int (by unfold slC; rw [if_pos hn]), rfl⟩
def at4 (p q r s : Int) : Nat → Int
  | 0 => p | 1 => q | 2 => r | _ => s
set_option maxHeartbeats 1000000 in
theorem rcheck22_any (A : Option Addr) (n c : Nat) (p q r s : Int) (w : World) {B : Nat} (h : n = 4 → C4 w B A p q r s) :
    Calls Try.prog 15 #[.slice A n c] w fun e w' => e = .returned (.int .i64 (slC n p q r s)) ∧ w = w' := by
  by_cases hn : n = 4
  · subst hn
    obtain ⟨b, o, rfl, hlt, h0, h1, h2, h3⟩ := h rfl
    clear h
    go_enter Try.func15, Try.ntmps15
    go_wp2
    go_loopw [3] (fun k wr => ∃ i : Nat, i ≤ 4 ∧ k = .int .i64 i ∧ wr = w ∧ (1 ≤ i → inB p 262144 = true) ∧ (2 ≤ i → inB q 262144 = true) ∧ (3 ≤ i → inB r 32768 = true) ∧ (4 ≤ i → inB s 32768 = true)) (fun k _ => 4 - (intOf k).toNat)
    case atStart => exact ⟨0, by omega, rfl, rfl, by omega, by omega, by omega, by omega⟩
    case round =>
      obtain ⟨i, hi, rfl, rfl, k0, k1, k2, k3⟩ := hrel
      have hcases : i = 0 ∨ i = 1 ∨ i = 2 ∨ i = 3 ∨ i = 4 := by omega
      rcases hcases with rfl | rfl | rfl | rfl | rfl
      · cases hB : inB p 262144
        all_goals
          go_wp2_with (go_at_call 29; (with_reducible refine (in18_any _ _ _ (by decide) (by decide)).mono ?_); rintro e w' ⟨rfl, rfl⟩)
          first
            | exact ⟨⟨1, by decide, rfl, trivial, (by first | (intro _; exact trivial) | (intro h; exfalso; omega) | exact fun _ => k0 (by decide) | exact fun _ => k1 (by decide) | exact fun _ => k2 (by decide)), (by first | (intro _; exact trivial) | (intro h; exfalso; omega) | exact fun _ => k0 (by decide) | exact fun _ => k1 (by decide) | exact fun _ => k2 (by decide)), (by first | (intro _; exact trivial) | (intro h; exfalso; omega) | exact fun _ => k0 (by decide) | exact fun _ => k1 (by decide) | exact fun _ => k2 (by decide)), (by first | (intro _; exact trivial) | (intro h; exfalso; omega) | exact fun _ => k0 (by decide) | exact fun _ => k1 (by decide) | exact fun _ => k2 (by decide))⟩, by simp [intOf]⟩
            | (go_ret; exact ⟨ret_int (by unfold slC sl4B; simp [hB]), rfl⟩)
      · cases hB : inB q 262144
        all_goals
          go_wp2_with (go_at_call 29; (with_reducible refine (in18_any _ _ _ (by decide) (by decide)).mono ?_); rintro e w' ⟨rfl, rfl⟩)
          first
            | exact ⟨⟨2, by decide, rfl, trivial, (by first | (intro _; exact trivial) | (intro h; exfalso; omega) | exact fun _ => k0 (by decide) | exact fun _ => k1 (by decide) | exact fun _ => k2 (by decide)), (by first | (intro _; exact trivial) | (intro h; exfalso; omega) | exact fun _ => k0 (by decide) | exact fun _ => k1 (by decide) | exact fun _ => k2 (by decide)), (by first | (intro _; exact trivial) | (intro h; exfalso; omega) | exact fun _ => k0 (by decide) | exact fun _ => k1 (by decide) | exact fun _ => k2 (by decide)), (by first | (intro _; exact trivial) | (intro h; exfalso; omega) | exact fun _ => k0 (by decide) | exact fun _ => k1 (by decide) | exact fun _ => k2 (by decide))⟩, by simp [intOf]⟩
            | (go_ret; exact ⟨ret_int (by unfold slC sl4B; simp [hB]), rfl⟩)
      · cases hB : inB r 32768
        all_goals
          go_wp2_with (go_at_call 29; (with_reducible refine (in18_any _ _ _ (by decide) (by decide)).mono ?_); rintro e w' ⟨rfl, rfl⟩)
          first
            | exact ⟨⟨3, by decide, rfl, trivial, (by first | (intro _; exact trivial) | (intro h; exfalso; omega) | exact fun _ => k0 (by decide) | exact fun _ => k1 (by decide) | exact fun _ => k2 (by decide)), (by first | (intro _; exact trivial) | (intro h; exfalso; omega) | exact fun _ => k0 (by decide) | exact fun _ => k1 (by decide) | exact fun _ => k2 (by decide)), (by first | (intro _; exact trivial) | (intro h; exfalso; omega) | exact fun _ => k0 (by decide) | exact fun _ => k1 (by decide) | exact fun _ => k2 (by decide)), (by first | (intro _; exact trivial) | (intro h; exfalso; omega) | exact fun _ => k0 (by decide) | exact fun _ => k1 (by decide) | exact fun _ => k2 (by decide))⟩, by simp [intOf]⟩
            | (go_ret; exact ⟨ret_int (by unfold slC sl4B; simp [hB]), rfl⟩)
      · cases hB : inB s 32768
        all_goals
          go_wp2_with (go_at_call 29; (with_reducible refine (in18_any _ _ _ (by decide) (by decide)).mono ?_); rintro e w' ⟨rfl, rfl⟩)
          first
            | exact ⟨⟨4, by decide, rfl, trivial, (by first | (intro _; exact trivial) | (intro h; exfalso; omega) | exact fun _ => k0 (by decide) | exact fun _ => k1 (by decide) | exact fun _ => k2 (by decide)), (by first | (intro _; exact trivial) | (intro h; exfalso; omega) | exact fun _ => k0 (by decide) | exact fun _ => k1 (by decide) | exact fun _ => k2 (by decide)), (by first | (intro _; exact trivial) | (intro h; exfalso; omega) | exact fun _ => k0 (by decide) | exact fun _ => k1 (by decide) | exact fun _ => k2 (by decide)), (by first | (intro _; exact trivial) | (intro h; exfalso; omega) | exact fun _ => k0 (by decide) | exact fun _ => k1 (by decide) | exact fun _ => k2 (by decide))⟩, by simp [intOf]⟩
            | (go_ret; exact ⟨ret_int (by unfold slC sl4B; simp [hB]), rfl⟩)
      · have HK : Hid (sl4B p q r s = true) := by
          show sl4B p q r s = true
          unfold sl4B; rw [k0 (by omega), k1 (by omega), k2 (by omega), k3 (by omega)]; rfl
        clear k0 k1 k2 k3
        go_wp2
        go_ret
        exact ⟨ret_int (by unfold slC; rw [if_neg (by omega), if_pos HK.out]), rfl⟩
  · have hn' : ¬ (n : Int) = 4 := by omega
    go_enter Try.func15, Try.ntmps15
    go_wp2
    go_ret
    exact ⟨ret_int (by unfold slC; rw [if_pos hn]), rfl⟩
end Go.Proofs.Ytpcjoalbhicccaa
