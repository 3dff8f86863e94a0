/- xform: New of none; At of an affine one; Whole. -/
import Derived.Test.YtlbiiljncacdoaaGreatXA
set_option linter.unusedVariables false
namespace Go.Proofs.YtlbiiljncacdoaaGreat
open Go.RowKit
set_option maxRecDepth 100000 in
set_option maxHeartbeats 4000000 in
theorem xnew_kind (k : Int) (A : Option Addr) (n cp : Nat) (W H : Int) (w : World) (hk : ¬ (1 ≤ k ∧ k ≤ 6)) :
    Calls Tryz.prog 21 #[xfV k A n cp, .int .i64 W, .int .i64 H] w fun e w' => e = .returned (.tuple #[.pointer none, .int .i64 10]) ∧ Below w.heap.size w w' := by
  have hd : decide (1 ≤ k ∧ k ≤ 6) = false := decide_eq_false hk
  have hb := (Below.refl w.heap.size w).alloc (Nat.le_refl _) (.cells #[.int .i64 k, .slice A n cp] 31)
  clear hk
  go_enter Tryz.func21, Tryz.ntmps21
  go_wp2_with (first
    | (go_at_call 73; (with_reducible refine (xis_any _ _).mono ?_); rintro e w' ⟨rfl, rfl⟩; rw [hd]))
  go_returns
  exact ⟨rfl, hb⟩
set_option maxRecDepth 100000 in
set_option maxHeartbeats 4000000 in
theorem xnew_size (k : Int) (A : Option Addr) (n cp : Nat) (W H : Int) (w : World) (hk : 1 ≤ k ∧ k ≤ 6) (hs : szH W H = false) :
    Calls Tryz.prog 21 #[xfV k A n cp, .int .i64 W, .int .i64 H] w fun e w' => e = .returned (.tuple #[.pointer none, .int .i64 30]) ∧ Below w.heap.size w w' := by
  have hd : decide (1 ≤ k ∧ k ≤ 6) = true := decide_eq_true hk
  have hb := (Below.refl w.heap.size w).alloc (Nat.le_refl _) (.cells #[.int .i64 k, .slice A n cp] 31)
  rcases sz_cases W H with ⟨h, _⟩ | ⟨_, hc⟩
  · rw [hs] at h; cases h
  clear hk hs
  rcases hc with h0 | ⟨h0, h1⟩ | ⟨h0, h1, h2⟩ | ⟨h0, h1, h2, h3⟩
  all_goals
    go_enter Tryz.func21, Tryz.ntmps21
    go_wp2_with (first
      | (go_at_call 73; (with_reducible refine (xis_any _ _).mono ?_); rintro e w' ⟨rfl, rfl⟩; rw [hd]))
    go_returns
    exact ⟨rfl, hb⟩
set_option maxRecDepth 100000 in
set_option maxHeartbeats 4000000 in
theorem xat_nil (x y d : Int) (w : World) : Calls Tryz.prog 24 #[.pointer none, .int .i64 x, .int .i64 y, .int .i64 d] w fun e w' =>
    e = .returned (.tuple #[.int .i64 0, .int .i64 0, .int .i64 10]) ∧ w = w' := by
  go_enter Tryz.func24, Tryz.ntmps24
  go_wp2_with fail
  go_returns
  exact ⟨rfl, rfl⟩
set_option maxRecDepth 100000 in
set_option maxHeartbeats 4000000 in
theorem xat_aff (l : List Int) (q g : Nat) (k W H x y d : Int) (w : World) (hM : Bk w q 134 (xfA k W H 180 g)) (hG : Bk w g 257 (afA l)) (hok : AfOk l) (hdt : dtA l ≠ 0) :
    Calls Tryz.prog 24 #[.pointer (some ⟨q, 0, none⟩), .int .i64 x, .int .i64 y, .int .i64 d] w fun e w' =>
      e = .returned (.tuple #[.int .i64 (afX l x y d), .int .i64 (afY l x y d), .int .i64 (afE x y d)]) ∧ Below w.heap.size w w' := by
  have hA := aat_any l g x y d w hG hok hdt
  obtain ⟨c0, c1, c2, c3⟩ := hM.cell4
  have hq := eql_asked (.func 180) #[.pointer (some ⟨g, 0, none⟩)] #[]
  clear hG hok hdt hM c0 c1 c2
  go_enter Tryz.func24, Tryz.ntmps24
  go_wp2_with fail
  refine hA.mono ?_
  rintro e w1 ⟨rfl, hb⟩
  go_wp2_with fail
  go_returns
  exact ⟨rfl, hb⟩
def unL : List Int := [65536, 0, 0, 0, 65536, 0]
theorem unit_any (w : World) : Calls Tryz.prog 74 #[] w fun e w' => e = .returned (.slice (some ⟨w.heap.size, 0, none⟩) 6 6) ∧ Bk w' w.heap.size 2 #[.int .i64 65536, .int .i64 0, .int .i64 0, .int .i64 0, .int .i64 65536, .int .i64 0] ∧ Below w.heap.size w w' := by
  have hb := (Below.refl w.heap.size w).alloc (Nat.le_refl _) (.cells #[.int .i64 65536, .int .i64 0, .int .i64 0, .int .i64 0, .int .i64 65536, .int .i64 0] 2)
  have hK := Bk.new w 2 #[.int .i64 65536, .int .i64 0, .int .i64 0, .int .i64 0, .int .i64 65536, .int .i64 0]
  go_enter Tryz.func74, Tryz.ntmps74
  go_wp2
  go_returns
  exact ⟨rfl, hK, hb⟩
theorem xf_size : (Tryz.prog.info? 31).map (·.size) = some 2 := by kernel_rfl
set_option maxRecDepth 100000 in
set_option maxHeartbeats 4000000 in
theorem whole_no (W H : Int) (w : World) (hs : szH W H = false) : Calls Tryz.prog 20 #[.int .i64 W, .int .i64 H] w fun e w' => e = .returned (xfV 0 none 0 0) ∧ Below w.heap.size w w' := by
  have hL := (Lie.start w).alloc #[.int .i64 0, .slice none 0 0] 31
  have hK := hL.k 0 (by simp)
  rcases sz_cases W H with ⟨h, _⟩ | ⟨_, hc⟩
  · rw [hs] at h; cases h
  clear hs
  rcases hc with h0 | ⟨h0, h1⟩ | ⟨h0, h1, h2⟩ | ⟨h0, h1, h2, h3⟩
  all_goals
    go_enter Tryz.func20, Tryz.ntmps20
    go_wp2_with (refine stB (ty := 31) (cells := #[.int .i64 0, .slice none 0 0]) rfl _ _ rfl hK rfl rfl xf_size rfl (by simp [Value.oneCell']) ?_; intro w' hK' hg' _)
    refine bodyPost_ret (res_cell rfl hK' rfl Tryz.underlying31 rfl xf_size) rfl ?_
    exact ⟨rfl, below_of_gb hL.bel hg' (Nat.le_refl _) hL.sz⟩
set_option maxRecDepth 100000 in
set_option maxHeartbeats 4000000 in
theorem whole_yes (W H : Int) (w : World) (hs : szH W H = true) : Calls Tryz.prog 20 #[.int .i64 W, .int .i64 H] w fun e w' => ∃ b, e = .returned (xfV 1 (some ⟨b, 0, none⟩) 6 6) ∧ Bk w' b 2 #[.int .i64 65536, .int .i64 0, .int .i64 0, .int .i64 0, .int .i64 65536, .int .i64 0] ∧ Below w.heap.size w w' := by
  have hL := (Lie.start w).alloc #[.int .i64 0, .slice none 0 0] 31
  obtain ⟨⟨s0, s1⟩, s2, s3⟩ := szH_iff.1 hs
  clear hs
  go_enter Tryz.func20, Tryz.ntmps20
  go_wp2_with (first
    | (go_at_call 74; (with_reducible refine (unit_any _).mono ?_); rintro e w1 ⟨rfl, hU, hb1⟩; have hL1 := hL.nx hb1; have k1 : Bk w1 w.heap.size 31 #[.int .i64 0, .slice none 0 0] := hL1.k 0 (by simp))
    | (refine stB (ty := 31) (cells := #[.int .i64 1, .slice (some ⟨w.heap.size + 1, 0, none⟩) 6 6]) rfl _ _ rfl k1 rfl rfl xf_size rfl (by simp [Value.oneCell']) ?_; intro w2 hK2 hg2 _))
  refine bodyPost_ret (res_cell rfl hK2 rfl Tryz.underlying31 rfl xf_size) rfl ?_
  exact ⟨_, rfl, by have h2 := hU.grown hg2 (by intro e; injection e with e; simp at e); simpa using h2, below_of_gb hL1.bel hg2 (Nat.le_refl _) hL1.sz⟩
end Go.Proofs.YtlbiiljncacdoaaGreat
