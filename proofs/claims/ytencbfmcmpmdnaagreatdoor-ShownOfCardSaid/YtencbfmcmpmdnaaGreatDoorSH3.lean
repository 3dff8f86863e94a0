/- Commands as texts: the words of the chapter's example. -/
import Derived.Test.YtencbfmcmpmdnaaGreatDoorSH2
set_option linter.unusedVariables false
namespace Go.Proofs.YtencbfmcmpmdnaaGreatDoor
open Go.RowKit
theorem run_idx14 {P : Program} {t e : TypeId} {n : Nat} {d : TypeDesc} (h : P.underlying t = some (.array n e)) (hd : P.underlying e = some d) (hn : (match d with | .struct _ | .array _ _ => true | _ => false) = false) (hs : (P.info? e).map (·.size) = some 1)
    (cs : Array Value) (k : IntKind) (j : Nat) (hj : j < n) (v : Value) (hv : cs[j]? = some v) (w : World) : (Instr.index t (.agg cs) (.int k j)).run P w = .ok v w := by
  obtain ⟨i, hi, hz⟩ : ∃ i, P.info? e = some i ∧ i.size = 1 := by
    cases hi : P.info? e with
    | none => rw [hi] at hs; cases hs
    | some i => rw [hi] at hs; exact ⟨i, rfl, by simpa using hs⟩
  have hagg : (isAgg e).run P w = .ok false w := by
    unfold isAgg
    rw [Sem.run_bind, run_underlying hd w]
    cases d <;> simp_all
  have hj' : (0:Int) ≤ (j:Int) ∧ (j:Int) < n := by omega
  simp [Instr.index, asIntOf, run_underlying h, hj', sizeOf, typeInfo, hi, hz, part, Sem.run_bind, hagg, hv]
  intro h; omega
theorem st51_size : (Tryz.prog.info? 9).map (·.size) = some 1 := by kernel_rfl
theorem na51_size : (Tryz.prog.info? 108).map (·.size) = some 14 := by kernel_rfl
theorem st51_info : (Tryz.prog.info? 9).map (fun i => (i.zero, i.size, i.bytes)) = some (some (.string ⟨#[]⟩), 1, 16) := by kernel_rfl
abbrev nameA : Array Value := #[.string ⟨#[]⟩, .string ⟨#[108, 111, 97, 100]⟩, .string ⟨#[115, 105, 122, 101]⟩, .string ⟨#[107, 101, 114, 110, 101, 108]⟩, .string ⟨#[98, 111, 114, 100, 101, 114]⟩, .string ⟨#[109, 105, 112, 115]⟩, .string ⟨#[116, 105, 108, 101]⟩, .string ⟨#[99, 97, 99, 104, 101]⟩, .string ⟨#[111, 114, 100, 101, 114]⟩, .string ⟨#[119, 97, 114, 112]⟩, .string ⟨#[115, 97, 118, 101]⟩, .string ⟨#[116, 105, 110, 116]⟩, .string ⟨#[99, 114, 111, 112]⟩, .string ⟨#[98, 117, 100, 103, 101, 116]⟩]
set_option maxRecDepth 100000 in
set_option maxHeartbeats 4000000 in
theorem names_any (w : World) : Calls Tryz.prog 68 #[] w fun e w' => e = .returned (.agg nameA) ∧ Below w.heap.size w w' := by
  have hL := (Lie.start w).alloc #[.string ⟨#[]⟩, .string ⟨#[]⟩, .string ⟨#[]⟩, .string ⟨#[]⟩, .string ⟨#[]⟩, .string ⟨#[]⟩, .string ⟨#[]⟩, .string ⟨#[]⟩, .string ⟨#[]⟩, .string ⟨#[]⟩, .string ⟨#[]⟩, .string ⟨#[]⟩, .string ⟨#[]⟩, .string ⟨#[]⟩] 108
  have hK : Bk _ w.heap.size 108 #[.string ⟨#[]⟩, .string ⟨#[]⟩, .string ⟨#[]⟩, .string ⟨#[]⟩, .string ⟨#[]⟩, .string ⟨#[]⟩, .string ⟨#[]⟩, .string ⟨#[]⟩, .string ⟨#[]⟩, .string ⟨#[]⟩, .string ⟨#[]⟩, .string ⟨#[]⟩, .string ⟨#[]⟩, .string ⟨#[]⟩] := hL.k 0 (by simp)
  have hb := hL.bel
  go_enter Tryz.func68, Tryz.ntmps68
  go_wp2_with (refine stB (ty := 108) (cells := nameA) rfl _ _ rfl hK rfl rfl na51_size rfl (by simp [Value.oneCell']) ?_; intro w' hK' hg' _)
  refine bodyPost_ret (res_cell rfl hK' rfl Tryz.underlying108 rfl na51_size) rfl ?_
  exact ⟨rfl, below_of_gb hb hg' (by omega) hb.size⟩
theorem idx_name6 (w : World) : (Instr.index 108 (.agg nameA) (.int .i64 6)).run Tryz.prog w = .ok (.string ⟨#[116, 105, 108, 101]⟩) w :=
  run_idx14 (P := Tryz.prog) (j := 6) Tryz.underlying108 Tryz.underlying9 rfl st51_size _ _ (by decide) _ rfl w
set_option maxRecDepth 100000 in
set_option maxHeartbeats 4000000 in
theorem name6 (w : World) : Calls Tryz.prog 45 #[.int .i64 6] w fun e w' => e = .returned (.string ⟨#[116, 105, 108, 101]⟩) ∧ Below w.heap.size w w' := by
  have hN := fun w' => names_any w'
  have hI := fun w' => idx_name6 w'
  generalize nameA = cs at *
  go_enter Tryz.func45, Tryz.ntmps45
  go_wp2_with (go_at_call 68; (with_reducible refine (hN _).mono ?_); rintro e w1 ⟨rfl, hb1⟩)
  clear hN hI
  refine bodyPost_ret (results_tmp rfl _ _ _) rfl ?_
  exact ⟨rfl, hb1⟩
theorem neq_fis0 (w : World) : (binOp .neq 77 .nilFunc .nilFunc).run Tryz.prog w = .ok (.bool false) w := by
  first | kernel_rfl | rfl
theorem kind6 (w : World) : Calls Tryz.prog 46 #[.int .i64 6] w fun e w' => e = .returned .nilFunc ∧ w = w' := by
  go_enter Tryz.func46, Tryz.ntmps46
  go_wp2_with fail
  go_returns
  exact ⟨rfl, rfl⟩
set_option maxRecDepth 100000 in
set_option maxHeartbeats 4000000 in
theorem head6 (A : Option Addr) (c : Nat) (w : World) : Calls Tryz.prog 27 #[.agg (cmA 6 0 A 2 c)] w fun e w' => ∃ v, e = .returned v ∧ w'.ownsRow w.heap.size 9 1 v 1 [.string ⟨#[116, 105, 108, 101]⟩] ∧ Below w.heap.size w w' := by
  have hL := (Lie.start w).alloc (cmA 6 0 A 2 c) 41
  have hN := fun w' => name6 w'
  have hI := fun w' => kind6 w'
  have hq := fun w' => neq_fis0 w'
  have k0 : Bk _ w.heap.size 41 (cmA 6 0 A 2 c) := hL.k 0 (by simp)
  obtain ⟨c0, c1, c2⟩ := k0.cell3
  go_enter Tryz.func27, Tryz.ntmps27
  go_wp2_with (first
    | (go_at_call 45; (with_reducible refine (hN _).mono ?_); rintro e w1 ⟨rfl, hb1⟩; have hL1 := hL.nx hb1; have hLx := hL1.alloc #[.string ⟨#[116, 105, 108, 101]⟩] 9; have ho := World.ownsRow_lit (base := w.heap.size) (e := 9) (size := 1) w1 #[.string ⟨#[116, 105, 108, 101]⟩] 1 hL1.sz (by decide) rfl; have kx : Bk (w1.alloc (.cells #[.string ⟨#[116, 105, 108, 101]⟩] 9)) w.heap.size 41 (cmA 6 0 A 2 c) := hLx.k 1 (by simp); obtain ⟨d0, d1, d2⟩ := kx.cell3)
    | (go_at_call 46; (with_reducible refine (hI _).mono ?_); rintro e w2 ⟨rfl, rfl⟩))
  go_returns
  exact ⟨_, rfl, ho, hLx.bel⟩
theorem form0 (w : World) : Calls Tryz.prog 47 #[.int .i64 0] w fun e w' => e = .returned (.string ⟨#[]⟩) ∧ w = w' := by
  go_enter Tryz.func47, Tryz.ntmps47
  go_wp2_with fail
  go_returns
  exact ⟨rfl, rfl⟩
set_option maxRecDepth 100000 in
set_option maxHeartbeats 4000000 in
theorem write6 (i : Int) (A : Option Addr) (c : Nat) (w : World) : Calls Tryz.prog 28 #[.agg (cmA 6 0 A 2 c), .int .i64 i] w fun e w' => e = .returned (.func (.func 48) #[] #[]) ∧ Below w.heap.size w w' := by
  have hL := (Lie.start w).alloc (cmA 6 0 A 2 c) 41
  have hN := fun w' => form0 w'
  have k0 : Bk _ w.heap.size 41 (cmA 6 0 A 2 c) := hL.k 0 (by simp)
  obtain ⟨c0, c1, c2⟩ := k0.cell3
  go_enter Tryz.func28, Tryz.ntmps28
  go_wp2_with (go_at_call 47; (with_reducible refine (hN _).mono ?_); rintro e w1 ⟨rfl, rfl⟩)
  go_returns
  exact ⟨rfl, hL.bel⟩
abbrev words45 : List Value := [.string ⟨#[116, 105, 108, 101]⟩, .string ⟨#[52]⟩, .string ⟨#[53]⟩]
theorem own_str {w : World} {base n : Nat} {v : Value} {xs : List Value} (h : w.ownsRow base 9 1 v n xs) : ∃ A c, v = .slice A n c ∧ n ≤ c ∧ c ≤ maxLen ∧ Rd w w.heap.size A xs := by
  obtain ⟨A, c, h1, h2, h3, h4, _⟩ := own_form h
  exact ⟨A, c, h1, h2, h3, h4⟩
set_option maxRecDepth 100000 in
set_option maxHeartbeats 16000000 in
theorem words6 (A : Option Addr) (c : Nat) (w : World) (hr : Rd w w.heap.size A [.int .i64 4, .int .i64 5]) : Calls Tryz.prog 15 #[.agg (cmA 6 0 A 2 c)] w fun e w' => ∃ A' c', e = .returned (.tuple #[.slice A' 3 c', .bool true]) ∧ Rd w' w'.heap.size A' words45 ∧ Below w.heap.size w w' := by
  have hL := (Lie.start w).alloc (cmA 6 0 A 2 c) 41
  have hR := fun w' => right6 A c w'
  have hH := fun w' => head6 A c w'
  have hW := fun (i : Int) w' => write6 i A c w'
  have hF := fun (z : Int) (hz : z = 4 ∨ z = 5) w' => whole45 z hz w'
  have k0 : Bk _ w.heap.size 41 (cmA 6 0 A 2 c) := hL.k 0 (by simp)
  go_enter Tryz.func15, Tryz.ntmps15
  go_wp2_with (first
    | (refine ldB rfl _ _ rfl k0 rfl Tryz.underlying41 rfl cm50_size ?_)
    | (go_at_call 26; (with_reducible refine (hR _).mono ?_); rintro e w1 ⟨rfl, hb1⟩; have hL1 := hL.nx hb1; have k1 := k0.nx hb1)
    | (refine ldB rfl _ _ rfl k1 rfl Tryz.underlying41 rfl cm50_size ?_)
    | (go_at_call 27; (with_reducible refine (hH _).mono ?_); rintro e w2 ⟨v2, rfl, ho, hb2⟩; have hL2 := hL1.nx hb2; have k2 := k1.nx hb2; obtain ⟨c0, c1, c2⟩ := k2.cell3))
  have ho2 := own_base ho hL1.sz
  clear ho hb1 hb2 hR hH k1 k0 c0 c1 c2
  clear hL hL1
  go_loopw [4, 15] (fun v i wr => (∃ k : Nat, k ≤ 2 ∧ i = .int .i64 k ∧ wr.ownsRow w.heap.size 9 1 v (k + 1) (words45.take (k + 1))) ∧ Lie w [(w.heap.size, 41, cmA 6 0 A 2 c)] wr) (fun _ i _ => 2 - (intOf i).toNat)
  case atStart => exact ⟨⟨0, by omega, rfl, ho2⟩, hL2⟩
  case round =>
    clear hL2 ho2
    obtain ⟨⟨k, hk, rfl, hown⟩, hLr⟩ := hrel
    have hrr := hLr.rd hr (Nat.le_refl _)
    obtain ⟨b, o, rfl, hbb, r0⟩ := hrr.get 0 (by simp)
    obtain ⟨_, _, e9, _, r1⟩ := hrr.get 1 (by simp)
    injection e9 with e9; injection e9 with e9 e8; subst e9 e8
    simp only [Nat.add_zero, List.getElem_cons_zero, List.getElem_cons_succ] at r0 r1
    have kr : Bk wr w.heap.size 41 (cmA 6 0 (some ⟨b, o, none⟩) 2 c) := hLr.k 0 (by simp)
    rcases (show k = 0 ∨ k = 1 ∨ k = 2 by omega) with rfl | rfl | rfl
    · have hF4 := hF 4 (by omega)
      go_wp2_with (first
        | (refine ldB rfl _ _ rfl kr rfl Tryz.underlying41 rfl cm50_size ?_)
        | (go_at_call 28; (with_reducible refine (hW _ _).mono ?_); rintro e w4 ⟨rfl, hb4⟩; have hL4 := hLr.nx hb4; have ho4 := own_below hown hb4 (Nat.le_refl _))
        | (go_at_call 48; (with_reducible refine (hF4 _).mono ?_); rintro e w5 ⟨rfl, rfl⟩)
        | (at_builtin; refine app1 rfl _ _ _ rfl Tryz.underlying47 st51_info rfl (by decide) rfl rfl ho4 hL4.bel (Nat.le_refl _) hL4.sz rfl (by simp [Value.oneCell']) (by omega) (by omega) ?_; intro v9 w9 hown9 hb9 hz9 hg9 _))
      have kr9 : Bk w9 w.heap.size 41 (cmA 6 0 (some ⟨b, o, none⟩) 2 c)  := (hg9.block _ (kr.nx hb4).lt (fun e => (kr.nx hb4).ne_own ho4 (by decide) _ e.symm rfl)).trans (kr.nx hb4)
      exact ⟨⟨⟨1, by omega, by go_num, hown9⟩, hb9, by simpa using kr9⟩, by simp [intOf]⟩
    · have hF4 := hF 5 (by omega)
      go_wp2_with (first
        | (refine ldB rfl _ _ rfl kr rfl Tryz.underlying41 rfl cm50_size ?_)
        | (go_at_call 28; (with_reducible refine (hW _ _).mono ?_); rintro e w4 ⟨rfl, hb4⟩; have hL4 := hLr.nx hb4; have ho4 := own_below hown hb4 (Nat.le_refl _))
        | (go_at_call 48; (with_reducible refine (hF4 _).mono ?_); rintro e w5 ⟨rfl, rfl⟩)
        | (at_builtin; refine app1 rfl _ _ _ rfl Tryz.underlying47 st51_info rfl (by decide) rfl rfl ho4 hL4.bel (Nat.le_refl _) hL4.sz rfl (by simp [Value.oneCell']) (by omega) (by omega) ?_; intro v9 w9 hown9 hb9 hz9 hg9 _))
      have kr9 : Bk w9 w.heap.size 41 (cmA 6 0 (some ⟨b, o, none⟩) 2 c)  := (hg9.block _ (kr.nx hb4).lt (fun e => (kr.nx hb4).ne_own ho4 (by decide) _ e.symm rfl)).trans (kr.nx hb4)
      exact ⟨⟨⟨2, by omega, by go_num, hown9⟩, hb9, by simpa using kr9⟩, by simp [intOf]⟩
    · obtain ⟨A', c', rfl, h1, h2, h3⟩ := own_str hown
      go_wp2_with fail
      go_returns
      exact ⟨A', ⟨c', rfl⟩, h3, hLr.bel⟩
end Go.Proofs.YtencbfmcmpmdnaaGreatDoor
