/- Passes: what they come to, of the program and of the reference alike. -/
import Derived.Test.YtpcjoalbhicccaaTh28
import Derived.Test.YtpcjoalbhicccaaTh29n
import Derived.Test.YtpcjoalbhicccaaTh31
import Derived.Test.YtpcjoalbhicccaaTh25
set_option linter.unusedVariables false
namespace Go.Proofs.Ytpcjoalbhicccaa
open Go.RowKit
structure POut where
  W : Int
  H : Int
  C : Int
  e : Int
  xs : List Int
def passR (f : PT → Int × Int) (P : List Int) (W H C : Int) (n : Nat) (a b c d p r s x0 y0 x1 y1 : Int) : POut :=
  if canC W H C n a b c d p r s x0 y0 x1 y1 ≠ 0 then ⟨0, 0, 0, canC W H C n a b c d p r s x0 y0 x1 y1, []⟩
  else if ∀ q ∈ plsP x0 y0 (x1 - x0).toNat (y1 - y0).toNat, hasB a b c d (f q).1 (f q).2 = true then ⟨x1 - x0, y1 - y0, C, 0, outP P a b W C.toNat f (plsP x0 y0 (x1 - x0).toNat (y1 - y0).toNat)⟩
  else ⟨0, 0, 0, 11, []⟩
def PassIs (R : POut) (w : World) (e : Ending) (w' : World) : Prop :=
  ∃ (A' : Option Addr) (n' c' : Nat), e = .returned (.tuple #[.agg #[.int .i64 R.W, .int .i64 R.H, .int .i64 R.C, .slice A' n' c'], .int .i64 R.e]) ∧ R.xs.length = n' ∧ n' ≤ 9223372036854775807 ∧ Rd w' w'.heap.size A' (R.xs.map (Value.int .u8)) ∧ Below w.heap.size w w'
theorem passIs_bad {f : PT → Int × Int} {P : List Int} {W H C : Int} {n : Nat} {a b c d p r s x0 y0 x1 y1 : Int} {w : World} (h : canC W H C n a b c d p r s x0 y0 x1 y1 ≠ 0) {e : Ending} {w' : World}
    (he : e = .returned (badV (canC W H C n a b c d p r s x0 y0 x1 y1)) ∧ Below w.heap.size w w') : PassIs (passR f P W H C n a b c d p r s x0 y0 x1 y1) w e w' := by
  have hR : passR f P W H C n a b c d p r s x0 y0 x1 y1 = ⟨0, 0, 0, canC W H C n a b c d p r s x0 y0 x1 y1, []⟩ := by unfold passR; rw [if_pos h]
  rw [hR]
  exact ⟨none, 0, 0, he.1, rfl, by omega, Rd.nil, he.2⟩
theorem passIs_ok {f : PT → Int × Int} {P : List Int} {W H : Int} {C : Nat} {n : Nat} {a b c d p r s x0 y0 x1 y1 : Int} {wd ht : Nat} {w : World} (h : canC W H C n a b c d p r s x0 y0 x1 y1 = 0) (hwd : x0 + wd = x1) (hht : y0 + ht = y1) {e : Ending} {w' : World}
    (he : (∃ v, e = .returned (okV wd ht C v) ∧ (∀ q ∈ plsP x0 y0 wd ht, hasB a b c d (f q).1 (f q).2 = true) ∧ w'.ownsRow w.heap.size 5 1 v (ht * wd * C) ((outP P a b W C f (plsP x0 y0 wd ht)).map (Value.int .u8)) ∧ Below w.heap.size w w') ∨
      (e = .returned (badV 11) ∧ (∃ q ∈ plsP x0 y0 wd ht, hasB a b c d (f q).1 (f q).2 = false) ∧ Below w.heap.size w w')) : PassIs (passR f P W H C n a b c d p r s x0 y0 x1 y1) w e w' := by
  have e1 : x1 - x0 = (wd : Int) := by omega
  have e2 : y1 - y0 = (ht : Int) := by omega
  rcases he with ⟨v, h1, h2, h3, h4⟩ | ⟨h1, ⟨q, hq, hq2⟩, h4⟩
  · have hR : passR f P W H C n a b c d p r s x0 y0 x1 y1 = ⟨wd, ht, C, 0, outP P a b W C f (plsP x0 y0 wd ht)⟩ := by
      unfold passR
      rw [if_neg (fun k => k h), e1, e2, Int.toNat_natCast, Int.toNat_natCast, if_pos h2, Int.toNat_natCast]
    rw [hR]
    obtain ⟨A', c', rfl, hn, hc, hr, hl⟩ := own_form h3
    unfold maxLen at hc
    exact ⟨A', _, c', h1, by simpa using hl, by omega, hr, h4⟩
  · have hR : passR f P W H C n a b c d p r s x0 y0 x1 y1 = ⟨0, 0, 0, 11, []⟩ := by
      unfold passR
      rw [if_neg (fun k => k h), e1, e2, Int.toNat_natCast, Int.toNat_natCast, if_neg (fun k => by have := k q hq; rw [hq2] at this; cases this)]
    rw [hR]
    exact ⟨none, 0, 0, h1, rfl, by omega, Rd.nil, h4⟩
theorem can_nat {W H C : Int} {n : Nat} {a b c d p r s x0 y0 x1 y1 : Int} (h : canC W H C n a b c d p r s x0 y0 x1 y1 = 0) : (∃ k : Nat, C = k) ∧ (∃ wd : Nat, x0 + wd = x1) ∧ (∃ ht : Nat, y0 + ht = y1) := by
  have h1 : checkC W H C n = 0 := by
    unfold canC at h
    split at h
    · omega
    · omega
  obtain ⟨hf, _⟩ := check_parts h1
  obtain ⟨hc, _⟩ := fitsC_ok hf
  obtain ⟨k, rfl⟩ : ∃ k : Nat, C = k := ⟨C.toNat, by omega⟩
  obtain ⟨_, _, _, _, _, _, _, hne, _⟩ := canC_ok h
  unfold emptyR at hne
  exact ⟨⟨k, rfl⟩, ⟨(x1 - x0).toNat, by omega⟩, ⟨(y1 - y0).toNat, by omega⟩⟩
def fAcr (p s : Int) (q : PT) : Int × Int := (q.1.1 + mv p s q.1.2, q.1.2)
def fAlo (p r : Int) (q : PT) : Int × Int := (q.1.1, q.1.2 + mv p r q.1.1)
section
variable (W H C : Int) (A : Option Addr) (n cp : Nat) (P : List Int) (a b c d p r s x0 y0 x1 y1 : Int) (w : World) {B : Nat} (hP : P.length = n) (hr : Rd w B A (P.map (Value.int .u8))) (hB : B ≤ w.heap.size) (hcp : n ≤ cp)
include hP hr hB hcp
theorem acrossR : Calls Try.prog 9 #[.agg #[.int .i64 W, .int .i64 H, .int .i64 C, .slice A n cp], rect4 a b c d, .int .i64 p, .int .i64 r, .int .i64 s, rect4 x0 y0 x1 y1] w (PassIs (passR (fAcr p s) P W H C n a b c d p r s x0 y0 x1 y1) w) := by
  by_cases h : canC W H C n a b c d p r s x0 y0 x1 y1 = 0
  · obtain ⟨⟨k, rfl⟩, ⟨wd, hwd⟩, ⟨ht, hht⟩⟩ := can_nat h
    exact (across_ok W H k A n cp P a b c d p r s x0 y0 x1 y1 wd ht w h hP hr hB hcp hwd hht).mono fun e w' he => passIs_ok (f := fAcr p s) h hwd hht he
  · exact (across_bad W H C A n cp a b c d p r s x0 y0 x1 y1 w h).mono fun e w' he => passIs_bad h he
theorem alongR : Calls Try.prog 10 #[.agg #[.int .i64 W, .int .i64 H, .int .i64 C, .slice A n cp], rect4 a b c d, .int .i64 p, .int .i64 r, .int .i64 s, rect4 x0 y0 x1 y1] w (PassIs (passR (fAlo p r) P W H C n a b c d p r s x0 y0 x1 y1) w) := by
  by_cases h : canC W H C n a b c d p r s x0 y0 x1 y1 = 0
  · obtain ⟨⟨k, rfl⟩, ⟨wd, hwd⟩, ⟨ht, hht⟩⟩ := can_nat h
    exact (along_ok W H k A n cp P a b c d p r s x0 y0 x1 y1 wd ht w h hP hr hB hcp hwd hht).mono fun e w' he => passIs_ok (f := fAlo p r) h hwd hht he
  · exact (along_bad W H C A n cp a b c d p r s x0 y0 x1 y1 w h).mono fun e w' he => passIs_bad h he
theorem rpassF : Calls Try.prog 11 #[.bool false, .agg #[.int .i64 W, .int .i64 H, .int .i64 C, .slice A n cp], rect4 a b c d, .int .i64 p, .int .i64 r, .int .i64 s, rect4 x0 y0 x1 y1] w (PassIs (passR (fAcr p s) P W H C n a b c d p r s x0 y0 x1 y1) w) := by
  by_cases h : canC W H C n a b c d p r s x0 y0 x1 y1 = 0
  · obtain ⟨⟨k, rfl⟩, ⟨wd, hwd⟩, ⟨ht, hht⟩⟩ := can_nat h
    exact (rpass_f W H k A n cp P a b c d p r s x0 y0 x1 y1 wd ht w h hP hr hB hcp hwd hht).mono fun e w' he => passIs_ok (f := fAcr p s) h hwd hht he
  · exact (rpass_bad false W H C A n cp a b c d p r s x0 y0 x1 y1 w h).mono fun e w' he => passIs_bad h he
theorem rpassT : Calls Try.prog 11 #[.bool true, .agg #[.int .i64 W, .int .i64 H, .int .i64 C, .slice A n cp], rect4 a b c d, .int .i64 p, .int .i64 r, .int .i64 s, rect4 x0 y0 x1 y1] w (PassIs (passR (fAlo p r) P W H C n a b c d p r s x0 y0 x1 y1) w) := by
  by_cases h : canC W H C n a b c d p r s x0 y0 x1 y1 = 0
  · obtain ⟨⟨k, rfl⟩, ⟨wd, hwd⟩, ⟨ht, hht⟩⟩ := can_nat h
    exact (rpass_t W H k A n cp P a b c d p r s x0 y0 x1 y1 wd ht w h hP hr hB hcp hwd hht).mono fun e w' he => passIs_ok (f := fAlo p r) h hwd hht he
  · exact (rpass_bad true W H C A n cp a b c d p r s x0 y0 x1 y1 w h).mono fun e w' he => passIs_bad h he
end
theorem few_any (W H C : Int) (A : Option Addr) (n cp : Nat) (z : Int) (w : World) :
    Calls Try.prog 6 #[.agg #[.int .i64 W, .int .i64 H, .int .i64 C, .slice A n cp], .int .i64 z] w fun e w' => e = .returned (.bool (decide ((n : Int) ≤ z))) ∧ Below w.heap.size w w' := by
  go_enter Try.func6, Try.ntmps6
  go_wp2
  go_returns
  exact ⟨rfl, by go_grown⟩
end Go.Proofs.Ytpcjoalbhicccaa
