/- Commands as texts: small contracts; the table of forms. -/
import Derived.Test.YtencbfmcmpmdnaaGreatDoorLie
import Derived.Test.YtencbfmcmpmdnaaGreatDoorApp
import Derived.Test.YtencbfmcmpmdnaaGreatDoorQTail
import Derived.Test.YtencbfmcmpmdnaaGreatDoorQLate1
import Derived.Deep.QuietTactic
import Derived.BigQuiet
import Derived.Laws.EntriesVeiled
set_option linter.unusedVariables false
namespace Go.Proofs.YtencbfmcmpmdnaaGreatDoor
open Go.RowKit
theorem cm50_size : (Tryz.prog.info? 41).map (·.size) = some 3 := by kernel_rfl
theorem cr50_size : (Tryz.prog.info? 37).map (·.size) = some 3 := by kernel_rfl
theorem fo50_size : (Tryz.prog.info? 85).map (·.size) = some 4 := by kernel_rfl
abbrev cmA (op k : Int) (A : Option Addr) (n c : Nat) : Array Value := #[.int .i64 op, .int .i64 k, .slice A n c]
abbrev cm0 : Array Value := #[.int .i64 0, .int .i64 0, .slice none 0 0]
set_option maxRecDepth 100000 in
set_option maxHeartbeats 4000000 in
theorem own50_any (op k : Int) (A : Option Addr) (n c : Nat) (w : World) : Calls Tryz.prog 8 #[.agg (cmA op k A n c)] w fun e w' => e = .returned (.agg (cmA op k A n c)) ∧ Below w.heap.size w w' := by
  have hL := ((Lie.start w).alloc (cmA op k A n c) 41).alloc cm0 37
  simp only [World.size_alloc] at hL
  have k0 : Bk _ w.heap.size 41 (cmA op k A n c) := hL.k 1 (by simp)
  have hK : Bk _ (w.heap.size + 1) 37 cm0 := hL.k 0 (by simp)
  obtain ⟨c0, c1, c2⟩ := k0.cell3
  have hb := hL.bel
  go_enter Tryz.func8, Tryz.ntmps8
  go_wp2_with (refine stB (ty := 37) (cells := cmA op k A n c) rfl _ _ rfl hK rfl rfl cr50_size rfl (by simp [Value.oneCell']) ?_; intro w' hK' hg' _)
  refine bodyPost_ret (res_cell rfl hK' rfl Tryz.underlying37 rfl cr50_size) rfl ?_
  exact ⟨rfl, below_of_gb hb hg' (by omega) hb.size⟩
set_option maxRecDepth 100000 in
set_option maxHeartbeats 4000000 in
theorem same50_any (op k : Int) (l : List Int) (A A' : Option Addr) (n c c' : Nat) (w : World) {B B' : Nat} (hn : l.length = n) (hr : Rd w B A (l.map (Value.int .i64))) (hr' : Rd w B' A' (l.map (Value.int .i64))) (hB : B ≤ w.heap.size) (hB' : B' ≤ w.heap.size) (hb : n ≤ 1000000) :
    Calls Tryz.prog 7 #[.agg (cmA op k A n c), .agg (cmA op k A' n c')] w fun e w' => e = .returned (.bool true) ∧ Below w.heap.size w w' := by
  have hL := ((Lie.start w).alloc (cmA op k A n c) 37).alloc (cmA op k A' n c') 37
  simp only [World.size_alloc] at hL
  have hr1 := (hr.alloc hB (.cells (cmA op k A n c) 37)).alloc (by simp; omega) (.cells (cmA op k A' n c') 37)
  have hr2 := (hr'.alloc hB' (.cells (cmA op k A n c) 37)).alloc (by simp; omega) (.cells (cmA op k A' n c') 37)
  have k0 : Bk _ w.heap.size 37 (cmA op k A n c) := hL.k 1 (by simp)
  have k1 : Bk _ (w.heap.size + 1) 37 (cmA op k A' n c') := hL.k 0 (by simp)
  obtain ⟨c0, c1, c2⟩ := k0.cell3
  obtain ⟨d0, d1, d2⟩ := k1.cell3
  clear hr hr' k0 k1
  go_enter Tryz.func7, Tryz.ntmps7
  go_wp2_with fail
  generalize (w.alloc (.cells (cmA op k A n c) 37)).alloc (.cells (cmA op k A' n c') 37) = w2 at *
  go_loopw [5] (fun i wr => ∃ k : Nat, k ≤ n ∧ i = .int .i64 k ∧ ∃ q, wr = w2.drewN q) (fun i _ => n - (intOf i).toNat)
  case atStart => exact ⟨0, by omega, rfl, 0, rfl⟩
  case round =>
    obtain ⟨k, hk, rfl, q, rfl⟩ := hrel
    by_cases hlt : k < n
    · have hk2 : k < l.length := by omega
      obtain ⟨b, o, rfl, hbb, hc0⟩ := hr1.get k (by simp [hk2])
      obtain ⟨b', o', rfl, hbb', hc1⟩ := hr2.get k (by simp [hk2])
      rw [List.getElem_map] at hc0 hc1
      generalize l[k] = x at *
      go_wp2_with fail
      go_quiet ((fail))
      go_wp2_with fail
      refine ⟨⟨k + 1, by omega, by go_num, _, rfl⟩, by simp [intOf]; omega⟩
    · obtain rfl : k = n := by omega
      go_wp2_with fail
      go_returns
      exact ⟨rfl, below_drewN hL.bel q⟩
set_option maxRecDepth 100000 in
set_option maxHeartbeats 4000000 in
theorem small45 (z : Int) (hz : z = 4 ∨ z = 5) (w : World) : Calls Tryz.prog 130 #[.int .i64 z] w fun e w' => e = .returned (.string ⟨#[(z + 48).toNat.toUInt8]⟩) ∧ w = w' := by
  rcases hz with rfl | rfl
  all_goals
    go_enter Tryz.func130, Tryz.ntmps130
    go_wp2_with fail
    go_returns
    exact ⟨rfl, rfl⟩
set_option maxRecDepth 100000 in
set_option maxHeartbeats 4000000 in
theorem fmti45 (z : Int) (hz : z = 4 ∨ z = 5) (w : World) : Calls Tryz.prog 104 #[.int .i64 z, .int .i64 10] w fun e w' => e = .returned (.string ⟨#[(z + 48).toNat.toUInt8]⟩) ∧ w = w' := by
  have hS := small45 z hz w
  obtain ⟨s, hs⟩ : ∃ s, ByteArray.mk #[(z + 48).toNat.toUInt8] = s := ⟨_, rfl⟩
  rw [hs] at hS ⊢
  have h0 : 0 ≤ z := by omega
  have h1 : z < 100 := by omega
  clear hz hs
  go_enter Tryz.func104, Tryz.ntmps104
  go_wp2_with (go_at_call 130; (with_reducible refine hS.mono ?_); rintro e w3 ⟨rfl, rfl⟩)
  go_returns
  exact ⟨rfl, rfl⟩
set_option maxRecDepth 100000 in
set_option maxHeartbeats 4000000 in
theorem fmt45 (z : Int) (hz : z = 4 ∨ z = 5) (w : World) : Calls Tryz.prog 74 #[.int .i64 z, .int .i64 10] w fun e w' => e = .returned (.string ⟨#[(z + 48).toNat.toUInt8]⟩) ∧ w = w' := by
  have hS := fmti45 z hz w
  obtain ⟨s, hs⟩ : ∃ s, ByteArray.mk #[(z + 48).toNat.toUInt8] = s := ⟨_, rfl⟩
  rw [hs] at hS ⊢
  clear hz hs
  go_enter Tryz.func74, Tryz.ntmps74
  go_wp2_with (go_at_call 104; (with_reducible refine hS.mono ?_); rintro e w3 ⟨rfl, rfl⟩)
  go_returns
  exact ⟨rfl, rfl⟩
set_option maxRecDepth 100000 in
set_option maxHeartbeats 4000000 in
theorem whole45 (z : Int) (hz : z = 4 ∨ z = 5) (w : World) : Calls Tryz.prog 48 #[.int .i64 z] w fun e w' => e = .returned (.string ⟨#[(z + 48).toNat.toUInt8]⟩) ∧ w = w' := by
  have hS := fmt45 z hz w
  obtain ⟨s, hs⟩ : ∃ s, ByteArray.mk #[(z + 48).toNat.toUInt8] = s := ⟨_, rfl⟩
  rw [hs] at hS ⊢
  clear hz hs
  go_enter Tryz.func48, Tryz.ntmps48
  go_wp2_with (go_at_call 74; (with_reducible refine hS.mono ?_); rintro e w3 ⟨rfl, rfl⟩)
  go_returns
  exact ⟨rfl, rfl⟩
abbrev formsA : Array Value := #[.string ⟨#[108, 111, 97, 100]⟩, .int .i64 1, .func (.func 61) #[] #[], .func (.func 62) #[.int .i64 1] #[],
  .string ⟨#[115, 105, 122, 101]⟩, .int .i64 2, .func (.func 61) #[] #[], .func (.func 62) #[.int .i64 2] #[],
  .string ⟨#[107, 101, 114, 110, 101, 108]⟩, .int .i64 3, .func (.func 63) #[] #[], .func (.func 64) #[.agg #[.int .i64 3, .int .i64 1]] #[],
  .string ⟨#[98, 111, 114, 100, 101, 114]⟩, .int .i64 4, .func (.func 65) #[] #[], .func (.func 64) #[.agg #[.int .i64 0, .int .i64 4]] #[],
  .string ⟨#[109, 105, 112, 115]⟩, .int .i64 5, .func (.func 61) #[] #[], .func (.func 62) #[.int .i64 1] #[],
  .string ⟨#[116, 105, 108, 101]⟩, .int .i64 6, .func (.func 61) #[] #[], .func (.func 62) #[.int .i64 2] #[],
  .string ⟨#[99, 97, 99, 104, 101]⟩, .int .i64 7, .func (.func 61) #[] #[], .func (.func 62) #[.int .i64 1] #[],
  .string ⟨#[111, 114, 100, 101, 114]⟩, .int .i64 8, .func (.func 66) #[] #[], .func (.func 64) #[.agg #[.int .i64 5, .int .i64 1]] #[],
  .string ⟨#[115, 97, 118, 101]⟩, .int .i64 10, .func (.func 67) #[] #[], .func (.func 62) #[.int .i64 0] #[],
  .string ⟨#[116, 105, 110, 116]⟩, .int .i64 11, .func (.func 61) #[] #[], .func (.func 62) #[.int .i64 1] #[],
  .string ⟨#[99, 114, 111, 112]⟩, .int .i64 12, .func (.func 61) #[] #[], .func (.func 62) #[.int .i64 4] #[],
  .string ⟨#[98, 117, 100, 103, 101, 116]⟩, .int .i64 13, .func (.func 61) #[] #[], .func (.func 62) #[.int .i64 1] #[]]
set_option maxRecDepth 100000 in
set_option maxHeartbeats 4000000 in
theorem forms_any (w : World) : Calls Tryz.prog 43 #[] w fun e w' => e = .returned (.slice (some ⟨w.heap.size, 0, none⟩) 12 12) ∧ Lie w [(w.heap.size, 85, formsA)] w' := by
  go_enter Tryz.func43, Tryz.ntmps43
  go_wp2_with fail
  go_returns
  exact ⟨rfl, (Lie.start w).alloc formsA 85⟩
end Go.Proofs.YtencbfmcmpmdnaaGreatDoor
