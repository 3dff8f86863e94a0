/- Commands as texts: what is a command, of the example; its words. -/
import Derived.Test.YtencbfmcmpmdnaaGreatDoorSH1
import Derived.Deep.Cut
import Derived.Deep.DeepCutAuto
set_option linter.unusedVariables false
namespace Go.Proofs.YtencbfmcmpmdnaaGreatDoor
open Go.RowKit
theorem numof_any (z k : Int) (w : World) : Calls Tryz.prog 62 #[.int .i64 z, .int .i64 k] w fun e w' => e = .returned (.int .i64 z) ∧ w = w' := by
  go_enter Tryz.func62, Tryz.ntmps62
  go_wp2_with fail
  go_returns
  exact ⟨rfl, rfl⟩
set_option maxRecDepth 100000 in
set_option maxHeartbeats 4000000 in
theorem kinds6 (s f g : Value) (w : World) : Calls Tryz.prog 44 #[.agg #[s, .int .i64 6, f, g]] w fun e w' => e = .returned (.tuple #[.int .i64 0, .int .i64 0]) ∧ Below w.heap.size w w' := by
  have hb := (Below.refl w.heap.size w).alloc (Nat.le_refl _) (.cells #[s, .int .i64 6, f, g] 85)
  have hK := Bk.new w 85 #[s, .int .i64 6, f, g]
  have c1 := (hK.cell 1).trans (show _ = some (.int .i64 6) from rfl)
  go_enter Tryz.func44, Tryz.ntmps44
  go_wp2_with fail
  go_returns
  exact ⟨rfl, hb⟩
set_option maxRecDepth 100000 in
set_option maxHeartbeats 16000000 in
theorem right6 (A : Option Addr) (c : Nat) (w : World) : Calls Tryz.prog 26 #[.agg (cmA 6 0 A 2 c)] w fun e w' => e = .returned (.bool true) ∧ Below w.heap.size w w' := by
  have hL0 := (Lie.start w).alloc (cmA 6 0 A 2 c) 41
  have hF := fun w' => forms_any w'
  have hU := fun (s f g : Value) w' => kinds6 s f g w'
  have hN := fun w' => numof_any 2 0 w'
  have k0 : Bk _ w.heap.size 41 (cmA 6 0 A 2 c) := hL0.k 0 (by simp)
  obtain ⟨c0, c1, c2⟩ := k0.cell3
  go_enter Tryz.func26, Tryz.ntmps26
  go_wp2_with (go_at_call 43; (with_reducible refine (hF _).mono ?_); rintro e w1 ⟨rfl, hL1⟩)
  have kf := hL1.k 0 (by simp)
  have hb1 := hL1.bel
  simp only [World.size_alloc, List.getElem_cons_zero] at kf
  obtain ⟨g, hg⟩ : ∃ g, w.heap.size + 1 = g := ⟨_, rfl⟩
  simp only [hg] at kf ⊢
  have hgw : w.heap.size < g := by omega
  have hL2 : Lie w [(g, 85, formsA), (w.heap.size, 41, cmA 6 0 A 2 c)] w1 := ⟨(hL0.nx hb1).bel, fun x hx => by
    rcases List.mem_cons.1 hx with rfl | hx
    · exact kf
    · rcases List.mem_cons.1 hx with rfl | hx
      · exact (hL0.nx hb1).k 0 (by simp)
      · cases hx⟩
  clear hL1 hL0 hb1 k0 kf c0 c1 c2 hF
  go_loopw [28] (fun i wr => ∃ k : Nat, k ≤ 5 ∧ i = .int .i64 k ∧ Lie w [(g, 85, formsA), (w.heap.size, 41, cmA 6 0 A 2 c)] wr) (fun i _ => 12 - (intOf i).toNat)
  case atStart => exact ⟨0, by omega, rfl, hL2⟩
  case round =>
    clear hL2
    obtain ⟨k, hk, rfl, hL⟩ := hrel
    have kf : Bk wr g 85 formsA := hL.k 0 (by simp)
    have k0 : Bk wr w.heap.size 41 (cmA 6 0 A 2 c) := hL.k 1 (by simp)
    have hsz := hL.sz
    have hnew := Bk.new wr 85 #[.string ⟨#[]⟩, .int .i64 0, .nilFunc, .nilFunc]
    have hLn := hL.alloc #[.string ⟨#[]⟩, .int .i64 0, .nilFunc, .nilFunc] 85
    have hgl := kf.lt
    have h0l := k0.lt
    have hne : ∀ x ∈ [(g, 85, formsA), (w.heap.size, 41, cmA 6 0 A 2 c)], x.1 ≠ wr.heap.size := by simp; omega
    obtain ⟨c0, c1, c2⟩ := k0.cell3
    rcases (show k = 0 ∨ k = 1 ∨ k = 2 ∨ k = 3 ∨ k = 4 ∨ k = 5 by omega) with rfl | rfl | rfl | rfl | rfl | rfl
    · have e0 := (kf.cell 0).trans (show _ = some (.string ⟨#[108, 111, 97, 100]⟩) from rfl)
      have e1 := (kf.cell 1).trans (show _ = some (.int .i64 1) from rfl)
      have e2 := (kf.cell 2).trans (show _ = some (.func (.func 61) #[] #[]) from rfl)
      have e3 := (kf.cell 3).trans (show _ = some (.func (.func 62) #[.int .i64 1] #[]) from rfl)
      go_wp2_with (refine stB (ty := 85) (cells := #[.string ⟨#[108, 111, 97, 100]⟩, .int .i64 1, .func (.func 61) #[] #[], .func (.func 62) #[.int .i64 1] #[]]) rfl _ _ rfl hnew rfl rfl fo50_size rfl (by simp [Value.oneCell']) ?_; intro w3 hK3 hg3 hs3; have hL3 := hLn.set hg3 hK3 hsz hne; obtain ⟨f0, f1, f2, f3⟩ := hK3.cell4; have k03 : Bk w3 w.heap.size 41 (cmA 6 0 A 2 c) := hL3.k 2 (by simp); obtain ⟨s0, s1, s2⟩ := k03.cell3)
      exact ⟨⟨1, by omega, by go_num, hL3.sub (by simp)⟩, by simp [intOf]⟩
    · have e0 := (kf.cell 4).trans (show _ = some (.string ⟨#[115, 105, 122, 101]⟩) from rfl)
      have e1 := (kf.cell 5).trans (show _ = some (.int .i64 2) from rfl)
      have e2 := (kf.cell 6).trans (show _ = some (.func (.func 61) #[] #[]) from rfl)
      have e3 := (kf.cell 7).trans (show _ = some (.func (.func 62) #[.int .i64 2] #[]) from rfl)
      go_wp2_with (refine stB (ty := 85) (cells := #[.string ⟨#[115, 105, 122, 101]⟩, .int .i64 2, .func (.func 61) #[] #[], .func (.func 62) #[.int .i64 2] #[]]) rfl _ _ rfl hnew rfl rfl fo50_size rfl (by simp [Value.oneCell']) ?_; intro w3 hK3 hg3 hs3; have hL3 := hLn.set hg3 hK3 hsz hne; obtain ⟨f0, f1, f2, f3⟩ := hK3.cell4; have k03 : Bk w3 w.heap.size 41 (cmA 6 0 A 2 c) := hL3.k 2 (by simp); obtain ⟨s0, s1, s2⟩ := k03.cell3)
      exact ⟨⟨2, by omega, by go_num, hL3.sub (by simp)⟩, by simp [intOf]⟩
    · have e0 := (kf.cell 8).trans (show _ = some (.string ⟨#[107, 101, 114, 110, 101, 108]⟩) from rfl)
      have e1 := (kf.cell 9).trans (show _ = some (.int .i64 3) from rfl)
      have e2 := (kf.cell 10).trans (show _ = some (.func (.func 63) #[] #[]) from rfl)
      have e3 := (kf.cell 11).trans (show _ = some (.func (.func 64) #[.agg #[.int .i64 3, .int .i64 1]] #[]) from rfl)
      go_wp2_with (refine stB (ty := 85) (cells := #[.string ⟨#[107, 101, 114, 110, 101, 108]⟩, .int .i64 3, .func (.func 63) #[] #[], .func (.func 64) #[.agg #[.int .i64 3, .int .i64 1]] #[]]) rfl _ _ rfl hnew rfl rfl fo50_size rfl (by simp [Value.oneCell']) ?_; intro w3 hK3 hg3 hs3; have hL3 := hLn.set hg3 hK3 hsz hne; obtain ⟨f0, f1, f2, f3⟩ := hK3.cell4; have k03 : Bk w3 w.heap.size 41 (cmA 6 0 A 2 c) := hL3.k 2 (by simp); obtain ⟨s0, s1, s2⟩ := k03.cell3)
      exact ⟨⟨3, by omega, by go_num, hL3.sub (by simp)⟩, by simp [intOf]⟩
    · have e0 := (kf.cell 12).trans (show _ = some (.string ⟨#[98, 111, 114, 100, 101, 114]⟩) from rfl)
      have e1 := (kf.cell 13).trans (show _ = some (.int .i64 4) from rfl)
      have e2 := (kf.cell 14).trans (show _ = some (.func (.func 65) #[] #[]) from rfl)
      have e3 := (kf.cell 15).trans (show _ = some (.func (.func 64) #[.agg #[.int .i64 0, .int .i64 4]] #[]) from rfl)
      go_wp2_with (refine stB (ty := 85) (cells := #[.string ⟨#[98, 111, 114, 100, 101, 114]⟩, .int .i64 4, .func (.func 65) #[] #[], .func (.func 64) #[.agg #[.int .i64 0, .int .i64 4]] #[]]) rfl _ _ rfl hnew rfl rfl fo50_size rfl (by simp [Value.oneCell']) ?_; intro w3 hK3 hg3 hs3; have hL3 := hLn.set hg3 hK3 hsz hne; obtain ⟨f0, f1, f2, f3⟩ := hK3.cell4; have k03 : Bk w3 w.heap.size 41 (cmA 6 0 A 2 c) := hL3.k 2 (by simp); obtain ⟨s0, s1, s2⟩ := k03.cell3)
      exact ⟨⟨4, by omega, by go_num, hL3.sub (by simp)⟩, by simp [intOf]⟩
    · have e0 := (kf.cell 16).trans (show _ = some (.string ⟨#[109, 105, 112, 115]⟩) from rfl)
      have e1 := (kf.cell 17).trans (show _ = some (.int .i64 5) from rfl)
      have e2 := (kf.cell 18).trans (show _ = some (.func (.func 61) #[] #[]) from rfl)
      have e3 := (kf.cell 19).trans (show _ = some (.func (.func 62) #[.int .i64 1] #[]) from rfl)
      go_wp2_with (refine stB (ty := 85) (cells := #[.string ⟨#[109, 105, 112, 115]⟩, .int .i64 5, .func (.func 61) #[] #[], .func (.func 62) #[.int .i64 1] #[]]) rfl _ _ rfl hnew rfl rfl fo50_size rfl (by simp [Value.oneCell']) ?_; intro w3 hK3 hg3 hs3; have hL3 := hLn.set hg3 hK3 hsz hne; obtain ⟨f0, f1, f2, f3⟩ := hK3.cell4; have k03 : Bk w3 w.heap.size 41 (cmA 6 0 A 2 c) := hL3.k 2 (by simp); obtain ⟨s0, s1, s2⟩ := k03.cell3)
      exact ⟨⟨5, by omega, by go_num, hL3.sub (by simp)⟩, by simp [intOf]⟩
    · have e0 := (kf.cell 20).trans (show _ = some (.string ⟨#[116, 105, 108, 101]⟩) from rfl)
      have e1 := (kf.cell 21).trans (show _ = some (.int .i64 6) from rfl)
      have e2 := (kf.cell 22).trans (show _ = some (.func (.func 61) #[] #[]) from rfl)
      have e3 := (kf.cell 23).trans (show _ = some (.func (.func 62) #[.int .i64 2] #[]) from rfl)
      go_upto_region 8 with (first
        | (refine stB (ty := 85) (cells := #[.string ⟨#[116, 105, 108, 101]⟩, .int .i64 6, .func (.func 61) #[] #[], .func (.func 62) #[.int .i64 2] #[]]) rfl _ _ rfl hnew rfl rfl fo50_size rfl (by simp [Value.oneCell']) ?_; intro w3 hK3 hg3 hs3; have hL3 := hLn.set hg3 hK3 hsz hne; obtain ⟨f0, f1, f2, f3⟩ := hK3.cell4; have k03 : Bk w3 w.heap.size 41 (cmA 6 0 A 2 c) := hL3.k 2 (by simp); obtain ⟨s0, s1, s2⟩ := k03.cell3)
        | (refine ldB rfl _ _ rfl hK3 rfl Tryz.underlying85 rfl fo50_size ?_)
        | (go_at_call 44; (with_reducible refine (hU _ _ _ _).mono ?_); rintro e w4 ⟨rfl, hb4⟩; have hL4 := hL3.nx hb4; have k4 : Bk w4 w.heap.size 41 (cmA 6 0 A 2 c) := hL4.k 2 (by simp); have kn : Bk w4 wr.heap.size 85 #[.string ⟨#[116, 105, 108, 101]⟩, .int .i64 6, .func (.func 61) #[] #[], .func (.func 62) #[.int .i64 2] #[]] := hL4.k 0 (by simp); obtain ⟨t0, t1, t2⟩ := k4.cell3; obtain ⟨u0, u1, u2, u3⟩ := kn.cell4))
      clear c0 c1 c2 s0 s1 s2 f0 f1 f2 f3 e0 e1 e2 e3 hnew hLn hU
      have v0 := fun (n : Nat) (os : Array Obj) => cell_regrown t0 n os
      have v1 := fun (n : Nat) (os : Array Obj) => cell_regrown t1 n os
      have v2 := fun (n : Nat) (os : Array Obj) => cell_regrown t2 n os
      have v3 := fun (n : Nat) (os : Array Obj) => cell_regrown u3 n os
      refine wp_region_quiet_below (by kernel_rfl) (by kernel_rfl) ?_
      repeat (first
        | go_big_quiet_step (with_reducible exact quiet_eq (hN _))
        | quiet_step (with_reducible exact quiet_eq (hN _)))
      refine wpQuiet_nil ?_
      intro _ hw'
      obtain ⟨⟨d9, os⟩, hw''⟩ := hw'
      subst hw''
      have hL9 := hL4.nx (below_regrown w4 d9 os)
      generalize Go.Sort.grow (redrawn w4 d9) os = wx at *
      go_wp2_with fail
      go_returns
      exact ⟨rfl, hL9.bel⟩
end Go.Proofs.YtencbfmcmpmdnaaGreatDoor
