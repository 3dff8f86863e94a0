/- hdda: a step of the walk. -/
import Derived.Test.YtebcienjeponmaaHd2
import Derived.Defers
set_option linter.unusedVariables false
namespace Go.Proofs.Ytebcienjeponmaa
open Go.RowKit
/-- A walk's cells. -/
abbrev wkA (x su gu sv gv sb gb : Int) : Array Value := #[.int .i64 x, .int .i64 (hi6 su), .int .u64 (lo6 su), .int .i64 gu, .int .i64 (hi6 sv), .int .u64 (lo6 sv), .int .i64 gv, .int .i64 (hi6 sb), .int .u64 (lo6 sb), .int .i64 gb, .bool true]
/-- While a step is made. -/
def wkK (x su gu sv gv sb gb n : Int) (k : Nat) : Array Value := match k with
  | 0 => wkA (x + n) su gu sv gv sb gb
  | 1 => wkA (x + n) (su + gu * n) gu sv gv sb gb
  | 2 => wkA (x + n) (su + gu * n) gu (sv + gv * n) gv sb gb
  | _ => wkA (x + n) (su + gu * n) gu (sv + gv * n) gv (sb + gb * n) gb
/-- The numbers have room for a step. -/
structure StOk (s k n : Int) : Prop where
  jk : J64 k
  ws : Wd s
  wk : Wd (k * n)
  wsk : Wd (s + k * n)
set_option maxRecDepth 100000 in
set_option maxHeartbeats 4000000 in
theorem wstep_any (g : Nat) (x su gu sv gv sb gb n : Int) (w : World) (hK : Bk w g 94 (wkA x su gu sv gv sb gb)) (jn : J64 n) (hx : -4611686018427387904 ≤ x + n ∧ x + n ≤ 4611686018427387904) (hu : StOk su gu n) (hv : StOk sv gv n) (hb : StOk sb gb n) :
    Calls Try.prog 53 #[.pointer (some ⟨g, 0, none⟩), .int .i64 n] w fun e w' => e = .returned (.tuple #[]) ∧ Bk w' g 94 (wkK x su gu sv gv sb gb n 3) ∧ w.grownBy w' (some g) := by
  have hc := hK.cell11
  obtain ⟨c0, c1, c2, c3, c4, c5, c6, c7, c8, c9, c10⟩ := hc
  have f0 := hK.frozen 0
  have hwx : IntKind.i64.wrap (x + n) = x + n := IntWalk.i64_in _ ⟨by omega, by omega⟩
  go_enter Try.func53, Try.ntmps53
  go_upto_region 1 with fail
  have hg0 := gb_set1 w ⟨g, 0, none⟩ (.int .i64 (x + n))
  have hK0 : Bk (w.setCell ⟨g, 0, none⟩ (.int .i64 (x + n))) g 94 (wkK x su gu sv gv sb gb n 0) := hK.set 0 _
  clear c0 c1 c2 c3 c4 c5 c6 c7 c8 c9 c10 f0 hwx hK
  generalize w.setCell ⟨g, 0, none⟩ (.int .i64 (x + n)) = w0 at *
  go_quiet (fail)
  replace hK0 := hK0.drewN nq
  replace hg0 : w.grownBy (w0.drewN nq) (some g) := gb_drewN hg0 nq
  generalize w0.drewN nq = w1 at *
  have ix0 : ∀ w', (Instr.index 126 (.agg #[.func (.func 81) #[.pointer (some ⟨g, 1, none⟩)] #[], .func (.func 81) #[.pointer (some ⟨g, 4, none⟩)] #[], .func (.func 81) #[.pointer (some ⟨g, 7, none⟩)] #[]]) (.int .i64 0)).run Try.prog w' = .ok (.func (.func 81) #[.pointer (some ⟨g, 1, none⟩)] #[]) w' := fun _ => rfl
  have ix1 : ∀ w', (Instr.index 126 (.agg #[.func (.func 81) #[.pointer (some ⟨g, 1, none⟩)] #[], .func (.func 81) #[.pointer (some ⟨g, 4, none⟩)] #[], .func (.func 81) #[.pointer (some ⟨g, 7, none⟩)] #[]]) (.int .i64 1)).run Try.prog w' = .ok (.func (.func 81) #[.pointer (some ⟨g, 4, none⟩)] #[]) w' := fun _ => rfl
  have ix2 : ∀ w', (Instr.index 126 (.agg #[.func (.func 81) #[.pointer (some ⟨g, 1, none⟩)] #[], .func (.func 81) #[.pointer (some ⟨g, 4, none⟩)] #[], .func (.func 81) #[.pointer (some ⟨g, 7, none⟩)] #[]]) (.int .i64 2)).run Try.prog w' = .ok (.func (.func 81) #[.pointer (some ⟨g, 7, none⟩)] #[]) w' := fun _ => rfl
  go_wp2_with fail
  go_loopw [5, 27] (fun _ kv wr => ∃ k : Nat, k ≤ 3 ∧ kv = .int .i64 k ∧ Bk wr g 94 (wkK x su gu sv gv sb gb n k) ∧ w.grownBy wr (some g)) (fun _ kv _ => 3 - (intOf kv).toNat)
  case atStart => exact ⟨0, by omega, rfl, hK0, hg0⟩
  case round =>
    clear hK0 hg0
    obtain ⟨k, hk, rfl, hK, hg⟩ := hrel
    by_cases hlt : k < 3
    · have h3 : k = 0 ∨ k = 1 ∨ k = 2 := by omega
      rcases h3 with rfl | rfl | rfl
      · have hS := fun (w' : World) (hk : Bk w' g 94 (wkK x su gu sv gv sb gb n 0)) => astep_any g 1 _ _ su gu n w' hk (by simp [wkK]) rfl rfl rfl hu.jk jn hu.ws hu.wk hu.wsk
        go_wp2_with (go_at_call 81; (with_reducible refine (hS _ (by exact hK)).mono ?_); rintro e w2 ⟨rfl, hK2, hg2⟩)
        exact ⟨⟨1, by omega, rfl, hK2, gb_trans hg hg2 (fun g e => .inl e)⟩, by simp [intOf]⟩
      · have hS := fun (w' : World) (hk : Bk w' g 94 (wkK x su gu sv gv sb gb n 1)) => astep_any g 4 _ _ sv gv n w' hk (by simp [wkK]) rfl rfl rfl hv.jk jn hv.ws hv.wk hv.wsk
        go_wp2_with (go_at_call 81; (with_reducible refine (hS _ (by exact hK)).mono ?_); rintro e w2 ⟨rfl, hK2, hg2⟩)
        exact ⟨⟨2, by omega, rfl, hK2, gb_trans hg hg2 (fun g e => .inl e)⟩, by simp [intOf]⟩
      · have hS := fun (w' : World) (hk : Bk w' g 94 (wkK x su gu sv gv sb gb n 2)) => astep_any g 7 _ _ sb gb n w' hk (by simp [wkK]) rfl rfl rfl hb.jk jn hb.ws hb.wk hb.wsk
        go_wp2_with (go_at_call 81; (with_reducible refine (hS _ (by exact hK)).mono ?_); rintro e w2 ⟨rfl, hK2, hg2⟩)
        exact ⟨⟨3, by omega, rfl, hK2, gb_trans hg hg2 (fun g e => .inl e)⟩, by simp [intOf]⟩
    · obtain rfl : k = 3 := by omega
      go_wp2_with fail
      go_end0
      exact ⟨rfl, hK, hg⟩
set_option maxRecDepth 100000 in
set_option maxHeartbeats 4000000 in
theorem wstep_d (g : Nat) (x su gu sv gv sb gb n : Int) (w : World) (u : FrameMode) (hK : Bk w g 94 (wkA x su gu sv gv sb gb)) (jn : J64 n) (hx : -4611686018427387904 ≤ x + n ∧ x + n ≤ 4611686018427387904) (hu : StOk su gu n) (hv : StOk sv gv n) (hb : StOk sb gb n) :
    CallsD Try.prog 53 #[.pointer (some ⟨g, 0, none⟩), .int .i64 n] u w fun e u' w' => u' = u ∧ (e = .returned (.tuple #[]) ∧ Bk w' g 94 (wkK x su gu sv gv sb gb n 3) ∧ w.grownBy w' (some g)) := by
  have hc := hK.cell11
  obtain ⟨c0, c1, c2, c3, c4, c5, c6, c7, c8, c9, c10⟩ := hc
  have f0 := hK.frozen 0
  have hwx : IntKind.i64.wrap (x + n) = x + n := IntWalk.i64_in _ ⟨by omega, by omega⟩
  go_enter_d Try.func53, Try.ntmps53
  go_upto_region 1 with fail
  have hg0 := gb_set1 w ⟨g, 0, none⟩ (.int .i64 (x + n))
  have hK0 : Bk (w.setCell ⟨g, 0, none⟩ (.int .i64 (x + n))) g 94 (wkK x su gu sv gv sb gb n 0) := hK.set 0 _
  clear c0 c1 c2 c3 c4 c5 c6 c7 c8 c9 c10 f0 hwx hK
  generalize w.setCell ⟨g, 0, none⟩ (.int .i64 (x + n)) = w0 at *
  go_quiet (fail)
  replace hK0 := hK0.drewN nq
  replace hg0 : w.grownBy (w0.drewN nq) (some g) := gb_drewN hg0 nq
  generalize w0.drewN nq = w1 at *
  have ix0 : ∀ w', (Instr.index 126 (.agg #[.func (.func 81) #[.pointer (some ⟨g, 1, none⟩)] #[], .func (.func 81) #[.pointer (some ⟨g, 4, none⟩)] #[], .func (.func 81) #[.pointer (some ⟨g, 7, none⟩)] #[]]) (.int .i64 0)).run Try.prog w' = .ok (.func (.func 81) #[.pointer (some ⟨g, 1, none⟩)] #[]) w' := fun _ => rfl
  have ix1 : ∀ w', (Instr.index 126 (.agg #[.func (.func 81) #[.pointer (some ⟨g, 1, none⟩)] #[], .func (.func 81) #[.pointer (some ⟨g, 4, none⟩)] #[], .func (.func 81) #[.pointer (some ⟨g, 7, none⟩)] #[]]) (.int .i64 1)).run Try.prog w' = .ok (.func (.func 81) #[.pointer (some ⟨g, 4, none⟩)] #[]) w' := fun _ => rfl
  have ix2 : ∀ w', (Instr.index 126 (.agg #[.func (.func 81) #[.pointer (some ⟨g, 1, none⟩)] #[], .func (.func 81) #[.pointer (some ⟨g, 4, none⟩)] #[], .func (.func 81) #[.pointer (some ⟨g, 7, none⟩)] #[]]) (.int .i64 2)).run Try.prog w' = .ok (.func (.func 81) #[.pointer (some ⟨g, 7, none⟩)] #[]) w' := fun _ => rfl
  go_wp2_with fail
  go_loopw [5, 27] (fun _ kv wr => ∃ k : Nat, k ≤ 3 ∧ kv = .int .i64 k ∧ Bk wr g 94 (wkK x su gu sv gv sb gb n k) ∧ w.grownBy wr (some g)) (fun _ kv _ => 3 - (intOf kv).toNat)
  case atStart => exact ⟨0, by omega, rfl, hK0, hg0⟩
  case round =>
    clear hK0 hg0
    obtain ⟨k, hk, rfl, hK, hg⟩ := hrel
    by_cases hlt : k < 3
    · have h3 : k = 0 ∨ k = 1 ∨ k = 2 := by omega
      rcases h3 with rfl | rfl | rfl
      · have hS := fun (w' : World) (hk : Bk w' g 94 (wkK x su gu sv gv sb gb n 0)) => astep_any g 1 _ _ su gu n w' hk (by simp [wkK]) rfl rfl rfl hu.jk jn hu.ws hu.wk hu.wsk
        go_wp2_with (go_at_call 81; (with_reducible refine (hS _ (by exact hK)).mono ?_); rintro e w2 ⟨rfl, hK2, hg2⟩)
        exact ⟨⟨1, by omega, rfl, hK2, gb_trans hg hg2 (fun g e => .inl e)⟩, by simp [intOf]⟩
      · have hS := fun (w' : World) (hk : Bk w' g 94 (wkK x su gu sv gv sb gb n 1)) => astep_any g 4 _ _ sv gv n w' hk (by simp [wkK]) rfl rfl rfl hv.jk jn hv.ws hv.wk hv.wsk
        go_wp2_with (go_at_call 81; (with_reducible refine (hS _ (by exact hK)).mono ?_); rintro e w2 ⟨rfl, hK2, hg2⟩)
        exact ⟨⟨2, by omega, rfl, hK2, gb_trans hg hg2 (fun g e => .inl e)⟩, by simp [intOf]⟩
      · have hS := fun (w' : World) (hk : Bk w' g 94 (wkK x su gu sv gv sb gb n 2)) => astep_any g 7 _ _ sb gb n w' hk (by simp [wkK]) rfl rfl rfl hb.jk jn hb.ws hb.wk hb.wsk
        go_wp2_with (go_at_call 81; (with_reducible refine (hS _ (by exact hK)).mono ?_); rintro e w2 ⟨rfl, hK2, hg2⟩)
        exact ⟨⟨3, by omega, rfl, hK2, gb_trans hg hg2 (fun g e => .inl e)⟩, by simp [intOf]⟩
    · obtain rfl : k = 3 := by omega
      go_wp2_with fail
      go_end0
      exact ⟨rfl, hK, hg⟩
end Go.Proofs.Ytebcienjeponmaa
