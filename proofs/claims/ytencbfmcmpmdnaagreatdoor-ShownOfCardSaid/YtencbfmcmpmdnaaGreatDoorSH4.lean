/- Commands as texts: the chapter's example; a warp's kernel and border. -/
import Derived.Test.YtencbfmcmpmdnaaGreatDoorSH3
import Derived.Test.YtencbfmcmpmdnaaGreatDoorK3
set_option linter.unusedVariables false
namespace Go.Proofs.YtencbfmcmpmdnaaGreatDoor
open Go.RowKit
set_option maxRecDepth 100000 in
set_option maxHeartbeats 4000000 in
theorem rwords_same (l : List ByteArray) (A A' : Option Addr) (n c c' : Nat) (w : World) {B B' : Nat} (hn : l.length = n) (hr : Rd w B A (l.map Value.string)) (hr' : Rd w B' A' (l.map Value.string)) (hb : n ≤ 1000000) :
    Calls Tryz.prog 16 #[.slice A n c, .slice A' n c'] w fun e w' => e = .returned (.bool true) ∧ Below w.heap.size w w' := by
  go_enter Tryz.func16, Tryz.ntmps16
  go_wp2_with fail
  go_loopw [5] (fun i wr => ∃ k : Nat, k ≤ n ∧ i = .int .i64 k ∧ ∃ q, wr = w.drewN q) (fun i _ => n - (intOf i).toNat)
  case atStart => exact ⟨0, by omega, rfl, 0, rfl⟩
  case round =>
    obtain ⟨k, hk, rfl, q, rfl⟩ := hrel
    by_cases hlt : k < n
    · have hk2 : k < l.length := by omega
      obtain ⟨b, o, rfl, hbb, hc0⟩ := hr.get k (by simp [hk2])
      obtain ⟨b', o', rfl, hbb', hc1⟩ := hr'.get k (by simp [hk2])
      rw [List.getElem_map] at hc0 hc1
      generalize l[k] = x at *
      go_wp2_with fail
      go_quiet ((fail))
      go_wp2_with fail
      refine ⟨⟨k + 1, by omega, by go_num, _, rfl⟩, by simp [intOf]; omega⟩
    · obtain rfl : k = n := by omega
      go_wp2_with fail
      go_returns
      exact ⟨rfl, below_drewN (Below.refl _ _) q⟩
set_option maxRecDepth 100000 in
set_option maxHeartbeats 4000000 in
theorem alive51 (w : World) : Calls Tryz.prog 6 #[] w fun e w' => e = .returned (.bool true) ∧ Below w.heap.size w w' := by
  have hL := (Lie.start w).alloc #[.int .i64 4, .int .i64 5] 2
  have k0 : Bk _ w.heap.size 2 #[.int .i64 4, .int .i64 5] := hL.k 0 (by simp)
  have hrd := Bk.rdl k0
  have hW := words6 (some ⟨w.heap.size, 0, none⟩) 2 _ hrd
  clear hrd k0
  go_enter Tryz.func6, Tryz.ntmps6
  go_wp2_with (go_at_call 15; (with_reducible refine hW.mono ?_); rintro e w1 ⟨A', c', rfl, hr1, hb1⟩; have hL1 := hL.nx hb1; have hL2 := hL1.alloc #[.string ⟨#[116, 105, 108, 101]⟩, .string ⟨#[52]⟩, .string ⟨#[53]⟩] 9; have kw : Bk (w1.alloc (.cells #[.string ⟨#[116, 105, 108, 101]⟩, .string ⟨#[52]⟩, .string ⟨#[53]⟩] 9)) w1.heap.size 9 #[.string ⟨#[116, 105, 108, 101]⟩, .string ⟨#[52]⟩, .string ⟨#[53]⟩] := hL2.k 0 (by simp))
  refine (rwords_same [⟨#[116, 105, 108, 101]⟩, ⟨#[52]⟩, ⟨#[53]⟩] A' (some ⟨w1.heap.size, 0, none⟩) 3 c' 3 _ rfl ((hr1.alloc (Nat.le_refl _) _)) (Bk.rdl kw) (by omega)).mono ?_
  rintro e w3 ⟨rfl, hb3⟩
  go_wp2_with fail
  go_returns
  exact ⟨rfl, (hL2.nx hb3).bel⟩
end Go.Proofs.YtencbfmcmpmdnaaGreatDoor
