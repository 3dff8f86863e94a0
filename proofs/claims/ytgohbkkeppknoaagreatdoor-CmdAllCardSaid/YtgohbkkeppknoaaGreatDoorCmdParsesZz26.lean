/- Several texts in one: Commands that have kinds, of words (printed by wip/tools/gencph.py). -/
import Derived.Test.YtgohbkkeppknoaaGreatDoorCmdParsesZz25
import Derived.Test.YtgohbkkeppknoaaGreatDoorCmdParsesZz13
import Derived.BigQuiet
import Derived.Deep.QuietTactic
section
set_option linter.unusedVariables false
namespace Go.Proofs.YtgohbkkeppknoaaGreatDoor
open Go.RowKit
theorem idxR_eq (s : ByteArray) : idxR s = idxS kerW s := by
  refine row_in (l := kerW) (P := fun s => idxR s = idxS kerW s) s ?_ ?_
  · decide +kernel
  · intro h
    have h0 : ∀ b ∈ kerW, eqS b s = false := fun b hb => by
      show (b.toList == s.toList) = false
      rw [str_eqD]; exact decide_eq_false (fun e => h b hb e.symm)
    rw [idxS_not _ _ h]
    unfold idxR
    rw [show sNear = strB [110, 101, 97, 114] from rfl, show sLinear = strB [108, 105, 110, 101, 97, 114] from rfl, show sCubic = strB [99, 117, 98, 105, 99] from rfl, show sSuper = strB [115, 117, 112, 101, 114] from rfl]
    rw [h0 _ (by simp [kerW]), h0 _ (by simp [kerW]), h0 _ (by simp [kerW]), h0 _ (by simp [kerW])]
    rfl
theorem knamed_any (s : ByteArray) (w : World) : Calls Tryz.prog 64 #[.string s] w fun e w' => e = .returned (kindV (idxS kerW s)) ∧ Below w.heap.size w w' := by
  rw [← idxR_eq]; exact named_any s w
theorem prsQ_cons (q : Nat) (s : ByteArray) (r : List ByteArray) : prsQ q (s :: r) = prsQ1 q s r := rfl
theorem kndQ_ge (q : Nat) (t : ByteArray) : -1 ≤ kndQ q t := by
  have h1 := idxS_ge kerW t
  have h2 := idxS_ge modeW t
  have h3 := idxS_ge permW t
  have h4 := idxS_ge codW t
  unfold kndQ codI
  repeat' split
  all_goals omega
abbrev qF0 (s0 : Value) : Array Value := #[s0, .int .i64 3, .func (.func 64) #[] #[], .func (.func 65) #[.agg #[.int .i64 3, .int .i64 1]] #[]]
set_option maxRecDepth 100000 in
set_option maxHeartbeats 16000000 in
theorem fparse_q0 (s0 : Value) (A : Option Addr) (c : Nat) (s : ByteArray) (ws : List ByteArray) (w : World) (hc : ws.length + 1 ≤ c) (hw : WdsOk w A (s :: ws)) (hl : LaidT w) :
    Calls Tryz.prog 28 #[.agg (qF0 s0), .slice A (ws.length + 1) c] w fun e w' => ∃ cs, e = .returned (.tuple #[.agg cs, .int .i64 (prsQ 0 ws).c]) ∧ CmdIs (prsQ 0 ws).L (prsQ 0 ws).op (prsQ 0 ws).k cs w.heap.size w' ∧ Below w.heap.size w w' := by
  obtain ⟨A', c', hs, hc', hd⟩ := tail_run A ws.length c hw.ad hc
  have hT := hw.tail hd
  have hL0 := ((Lie.start w).alloc (qF0 s0) 69).alloc cm0 26
  simp only [World.size_alloc] at hL0
  have hP := fun w' => fplain_any s0 (.func (.func 64) #[] #[]) (.func (.func 65) #[.agg #[.int .i64 3, .int .i64 1]] #[]) 3 w'
  rw [show plB 3 = false from rfl] at hP
  clear hd hw
  rcases ws with _ | ⟨t, r⟩
  · obtain ⟨N, hN⟩ : ∃ N, ([] : List ByteArray).length = N := ⟨_, rfl⟩
    have hN0 : (((N : Nat) : Int) == 0) = true := by rw [← hN]; rfl
    simp only [hN] at hs ⊢
    clear hN hc'
    go_enter Tryz.func28, Tryz.ntmps28
    go_wp2_with fail
    go_quiet ((fail))
    have hL1 := hL0.nx (below_drewN (Below.refl _ ((w.alloc (.cells (qF0 s0) 69)).alloc (.cells cm0 26))) nq)
    generalize (World.drewN ((w.alloc (.cells (qF0 s0) 69)).alloc (.cells cm0 26)) nq) = w1 at *
    clear hL0
    have kf1 : Bk w1 w.heap.size 69 (qF0 s0) := hL1.k 1 (by simp)
    go_wp2_with (first
      | (refine ldB rfl _ _ rfl kf1 rfl Tryz.underlying69 rfl fo50_size ?_)
      | (go_at_call 69; (with_reducible refine (hP _).mono ?_); rintro e w2 ⟨rfl, hb2⟩; have hL2 := hL1.nx hb2; have ko2 : Bk w2 (w.heap.size + 1) 26 cm0 := hL2.k 0 (by simp))
      | (refine stB (ty := 26) (cells := cm0) rfl _ _ rfl ko2 rfl rfl cc50_size rfl (by simp [Value.oneCell']) ?_; intro w' hK' hg' _))
    refine bodyPost_ret (res_cell_tmp rfl hK' rfl Tryz.underlying26 rfl cc50_size) rfl ?_
    exact ⟨cm0, rfl, rfl, below_of_gb hL2.bel hg' (by omega) hL2.bel.size⟩
  rw [prsQ_cons]
  have hge := kndQ_ge 0 t
  have hkd := fun w' => knamed_any t w'
  obtain ⟨z, hz⟩ : ∃ z, kndQ 0 t = z := ⟨_, rfl⟩
  obtain ⟨Z, B, hZB, hcs⟩ : ∃ Z B, kindV z = .tuple #[.int .i64 Z, .bool B] ∧ ((z < 0 ∧ Z = 0 ∧ B = false) ∨ (0 ≤ z ∧ Z = z ∧ B = true)) := by
    refine ⟨_, _, rfl, ?_⟩
    rcases (show z < 0 ∨ 0 ≤ z by omega) with h | h
    · exact .inl ⟨h, by omega, decide_eq_false (by omega)⟩
    · exact .inr ⟨h, by omega, decide_eq_true h⟩
  replace hkd : ∀ w', Calls Tryz.prog 64 #[.string t] w' fun e w2 => e = .returned (.tuple #[.int .i64 Z, .bool B]) ∧ Below w'.heap.size w' w2 := fun w' => by rw [← hZB, ← hz]; exact hkd w'
  have HCS := Lib.hid hcs
  clear hZB hcs
  rw [hz] at hge
  have hlw : r.length + 1 ≤ 1000000 := hT.n
  rw [List.length_cons] at hs hc'
  obtain ⟨b0, o0, hA'⟩ := hT.ad
  obtain ⟨A2, c2, hs2, hc2, hd2⟩ := tail_run A' r.length c' ⟨b0, o0, hA'⟩ hc'
  have hT2 := hT.tail hd2
  subst hA'
  obtain ⟨b1, o1, e1, hb1, ht1⟩ := hT.rd 0 (by simp)
  injection e1 with e1
  injection e1 with e1 e2
  subst e1 e2
  simp only [List.map_cons, List.getElem_cons_zero, Nat.add_zero] at ht1
  have hN : ∀ w', Calls Tryz.prog 65 #[.agg #[.int .i64 3, .int .i64 1], .int .i64 z] w' fun e w2 => e = .returned (.int .i64 (cntQ 0 z)) ∧ Below w'.heap.size w' w2 := fun w' => by
    have h := rich_any 3 1 z w'
    rw [show ((cntQ 0 z : Nat) : Int) = if z = 3 then 1 else 0 by simp only [cntQ]; simp; split <;> rfl]
    exact h
  have hlen : (0 : Int) < ((r.length + 1 : Nat) : Int) := by omega
  rw [List.length_cons]
  clear hd2
  go_enter Tryz.func28, Tryz.ntmps28
  go_wp2_with fail
  go_quiet ((fail))
  have hL1 := hL0.nx (below_drewN (Below.refl _ ((w.alloc (.cells (qF0 s0) 69)).alloc (.cells cm0 26))) nq)
  generalize (World.drewN ((w.alloc (.cells (qF0 s0) 69)).alloc (.cells cm0 26)) nq) = w1 at *
  clear hL0
  have kf1 : Bk w1 w.heap.size 69 (qF0 s0) := hL1.k 1 (by simp)
  go_upto_region 6 with (first
    | (refine ldB rfl _ _ rfl kf1 rfl Tryz.underlying69 rfl fo50_size ?_)
    | (go_at_call 69; (with_reducible refine (hP _).mono ?_); rintro e w2 ⟨rfl, hb2⟩; have hL2 := hL1.nx hb2; have kf2 : Bk w2 w.heap.size 69 (qF0 s0) := hL2.k 1 (by simp); obtain ⟨f0, f1, f2, f3⟩ := kf2.cell4))
  have ht2 := (hL2.bel.cell (p := ⟨b0, o0, none⟩) hb1).trans ht1
  have q1 := fun (d : Nat) (os : Array Obj) => cell_regrown f2 d os
  have q2 := fun (d : Nat) (os : Array Obj) => cell_regrown ht2 d os
  refine wp_region_quiet_below (by kernel_rfl) (by kernel_rfl) ?_
  repeat (first
    | go_big_quiet_step (with_reducible exact quiet_below (hkd _))
    | quiet_step (with_reducible exact quiet_below (hkd _)))
  refine wpQuiet_nil ?_
  intro _ hw'
  obtain ⟨⟨d9, os⟩, hw''⟩ := hw'
  subst hw''
  have hL3 := hL2.nx (below_regrown w2 d9 os)
  clear q1 q2 ht2 f0 f1 f2 f3 kf2 kf1 hL1 hL2 hb2 hP hkd
  generalize Go.Sort.grow (redrawn w2 d9) os = w3 at *
  rcases HCS.out with ⟨h0, rfl, rfl⟩ | ⟨h00, hZz, rfl⟩
  · have HR : Hid (prsQ1 0 t r = noR 10) := by show _ = _; unfold prsQ1; rw [hz, if_pos h0]
    clear h0 hge HCS
    have ko3 : Bk w3 (w.heap.size + 1) 26 cm0 := hL3.k 0 (by simp)
    go_wp2_with (refine stB (ty := 26) (cells := cm0) rfl _ _ rfl ko3 rfl rfl cc50_size rfl (by simp [Value.oneCell']) ?_; intro w' hK' hg' _)
    refine bodyPost_ret (res_cell_tmp rfl hK' rfl Tryz.underlying26 rfl cc50_size) rfl ?_
    exact ⟨cm0, by rw [HR.out]; rfl, by rw [HR.out]; rfl, below_of_gb hL3.bel hg' (by omega) hL3.bel.size⟩
  have hZ2 : z = Z := hZz.symm
  subst hZ2
  have HR : Hid (prsQ1 0 t r = mkR 3 z (whoL (cntQ 0 z)) (cntQ 0 z) r) := by show _ = _; unfold prsQ1; rw [hz, if_neg (by omega)]; rfl
  have hm : cntQ 0 z ≤ 1000 := by simp only [cntQ]; repeat' (first | omega | split)
  generalize cntQ 0 z = m at *
  have hR : ∀ w', Calls Tryz.prog 70 #[.string ⟨#[119]⟩, .int .i64 m] w' fun e w2 => e = .returned (strV (whoL m)) ∧ Below w'.heap.size w' w2 := fun w' => rep_any 119 m hm w'
  have hM : ∀ w', Below w.heap.size w w' → Calls Tryz.prog 30 #[.agg (cmA 3 z none 0 0), .slice A2 r.length c2, .int .i64 m, strV (whoL m)] w' fun e w2 => ∃ cs, e = .returned (.tuple #[.agg cs, .int .i64 (madeC (whoL m) m r)]) ∧ CmdIs (madeO (whoL m) m r) 3 z cs w'.heap.size w2 ∧ Below w'.heap.size w' w2 := fun w' hb => cmade_any 3 z m A2 c2 r ⟨(whoL m).toArray⟩ (by rw [str_size]; unfold whoL; simp; omega) w' (hT2.nx hb) (hl.nx hb)
  have kf3 : Bk w3 w.heap.size 69 (qF0 s0) := hL3.k 1 (by simp)
  obtain ⟨f0, f1, f2, f3⟩ := kf3.cell4
  clear h00 HCS hZz hz hge hm hs hT hT2 hl
  go_upto_region 11 with (go_at_call 65; (with_reducible refine (hN _).mono ?_); rintro e w4 ⟨rfl, hb4⟩)
  have hL4 := hL3.nx hb4
  have kf4 : Bk w4 w.heap.size 69 (qF0 s0) := hL4.k 1 (by simp)
  have g1 := kf4.cell4.2.1
  have hM4 := fun w' (hb : Below w4.heap.size w4 w') => hM w' (hL4.bel.trans (hb.mono hL4.bel.size))
  clear hM hL3 hb4 kf3 kf4 f0 f1 f2 f3
  generalize strV (whoL m) = V at *
  have q1 := fun (d : Nat) (os : Array Obj) => cell_regrown g1 d os
  refine wp_region_quiet_late 8 12 (by kernel_rfl) (by kernel_rfl) ?_
  simp only [List.take_succ_cons, List.take_zero]
  repeat (first | go_big_quiet_step (with_reducible exact quiet_below (hR _)) | quiet_step (with_reducible exact quiet_below (hR _)))
  refine wpQuiet_nil ?_
  intro _ hw'
  obtain ⟨⟨d9, os⟩, hw''⟩ := hw'
  subst hw''
  have hb5 := below_regrown w4 d9 os
  clear q1
  generalize Go.Sort.grow (redrawn w4 d9) os = w5 at *
  have hL5 := hL4.nx hb5
  show wpAny _ _ _ _ 5 _ _ _
  refine wpAny_ready (rs := [8]) (by kernel_rfl) (by simp) ?_
  refine AllReady.cons rfl (fun K hK => ?_) AllReady.nil
  go_simp
  refine (hM4 w5 hb5).mono ?_
  rintro e w6 ⟨cs, rfl, hcs, hb6⟩
  refine hK _ _ ?_
  clear hK K
  have hL6 := hL5.nx hb6
  have ko6 : Bk w6 (w.heap.size + 1) 26 cm0 := hL6.k 0 (by simp)
  have hz5 := (hL5.k 0 (by simp)).lt
  obtain ⟨a1, a2, A1, n1, c1, hcf⟩ := hcs.form
  subst hcf
  refine wpAny_ext (i := 9) _ _ _ _ _ rfl rfl rfl rfl rfl rfl (by kernel_rfl) (by kernel_rfl) (by kernel_rfl) (fun _ _ _ h => h) ?_
  refine wpAny_ext (i := 10) _ _ _ _ _ rfl rfl rfl rfl rfl rfl (by kernel_rfl) (by kernel_rfl) (by kernel_rfl) (fun _ _ _ h => h) ?_
  refine wpAny_tail 11 rfl (by kernel_rfl) ?_
  simp only [Act.put, List.setIfInBounds_toArray, List.set_cons_zero, List.set_cons_succ, List.drop_succ_cons, List.drop_zero, List.getElem_toArray, List.getElem_cons_succ, List.getElem_cons_zero]
  go_wp2_with (refine stB (ty := 26) (cells := cmA a1 a2 A1 n1 c1) rfl _ _ rfl ko6 rfl rfl cc50_size rfl (by simp [Value.oneCell']) ?_; intro w' hK' hg' _)
  refine bodyPost_ret (res_cell_tmp rfl hK' rfl Tryz.underlying26 rfl cc50_size) rfl ?_
  exact ⟨_, by rw [HR.out]; rfl, by rw [HR.out]; exact (hcs.gb hg' hz5).base (by have := hL5.bel.size; omega), below_of_gb hL6.bel hg' (by omega) hL6.bel.size⟩
abbrev qF1 (s0 : Value) : Array Value := #[s0, .int .i64 4, .func (.func 66) #[] #[], .func (.func 65) #[.agg #[.int .i64 0, .int .i64 4]] #[]]
set_option maxRecDepth 100000 in
set_option maxHeartbeats 16000000 in
theorem fparse_q1 (s0 : Value) (A : Option Addr) (c : Nat) (s : ByteArray) (ws : List ByteArray) (w : World) (hc : ws.length + 1 ≤ c) (hw : WdsOk w A (s :: ws)) (hl : LaidT w) :
    Calls Tryz.prog 28 #[.agg (qF1 s0), .slice A (ws.length + 1) c] w fun e w' => ∃ cs, e = .returned (.tuple #[.agg cs, .int .i64 (prsQ 1 ws).c]) ∧ CmdIs (prsQ 1 ws).L (prsQ 1 ws).op (prsQ 1 ws).k cs w.heap.size w' ∧ Below w.heap.size w w' := by
  obtain ⟨A', c', hs, hc', hd⟩ := tail_run A ws.length c hw.ad hc
  have hT := hw.tail hd
  have hL0 := ((Lie.start w).alloc (qF1 s0) 69).alloc cm0 26
  simp only [World.size_alloc] at hL0
  have hP := fun w' => fplain_any s0 (.func (.func 66) #[] #[]) (.func (.func 65) #[.agg #[.int .i64 0, .int .i64 4]] #[]) 4 w'
  rw [show plB 4 = false from rfl] at hP
  clear hd hw
  rcases ws with _ | ⟨t, r⟩
  · obtain ⟨N, hN⟩ : ∃ N, ([] : List ByteArray).length = N := ⟨_, rfl⟩
    have hN0 : (((N : Nat) : Int) == 0) = true := by rw [← hN]; rfl
    simp only [hN] at hs ⊢
    clear hN hc'
    go_enter Tryz.func28, Tryz.ntmps28
    go_wp2_with fail
    go_quiet ((fail))
    have hL1 := hL0.nx (below_drewN (Below.refl _ ((w.alloc (.cells (qF1 s0) 69)).alloc (.cells cm0 26))) nq)
    generalize (World.drewN ((w.alloc (.cells (qF1 s0) 69)).alloc (.cells cm0 26)) nq) = w1 at *
    clear hL0
    have kf1 : Bk w1 w.heap.size 69 (qF1 s0) := hL1.k 1 (by simp)
    go_wp2_with (first
      | (refine ldB rfl _ _ rfl kf1 rfl Tryz.underlying69 rfl fo50_size ?_)
      | (go_at_call 69; (with_reducible refine (hP _).mono ?_); rintro e w2 ⟨rfl, hb2⟩; have hL2 := hL1.nx hb2; have ko2 : Bk w2 (w.heap.size + 1) 26 cm0 := hL2.k 0 (by simp))
      | (refine stB (ty := 26) (cells := cm0) rfl _ _ rfl ko2 rfl rfl cc50_size rfl (by simp [Value.oneCell']) ?_; intro w' hK' hg' _))
    refine bodyPost_ret (res_cell_tmp rfl hK' rfl Tryz.underlying26 rfl cc50_size) rfl ?_
    exact ⟨cm0, rfl, rfl, below_of_gb hL2.bel hg' (by omega) hL2.bel.size⟩
  rw [prsQ_cons]
  have hge := kndQ_ge 1 t
  have hkd := fun w' => cmode_any t w'
  obtain ⟨z, hz⟩ : ∃ z, kndQ 1 t = z := ⟨_, rfl⟩
  obtain ⟨Z, B, hZB, hcs⟩ : ∃ Z B, kindV z = .tuple #[.int .i64 Z, .bool B] ∧ ((z < 0 ∧ Z = 0 ∧ B = false) ∨ (0 ≤ z ∧ Z = z ∧ B = true)) := by
    refine ⟨_, _, rfl, ?_⟩
    rcases (show z < 0 ∨ 0 ≤ z by omega) with h | h
    · exact .inl ⟨h, by omega, decide_eq_false (by omega)⟩
    · exact .inr ⟨h, by omega, decide_eq_true h⟩
  replace hkd : ∀ w', Calls Tryz.prog 66 #[.string t] w' fun e w2 => e = .returned (.tuple #[.int .i64 Z, .bool B]) ∧ Below w'.heap.size w' w2 := fun w' => by rw [← hZB, ← hz]; exact hkd w'
  have HCS := Lib.hid hcs
  clear hZB hcs
  rw [hz] at hge
  have hlw : r.length + 1 ≤ 1000000 := hT.n
  rw [List.length_cons] at hs hc'
  obtain ⟨b0, o0, hA'⟩ := hT.ad
  obtain ⟨A2, c2, hs2, hc2, hd2⟩ := tail_run A' r.length c' ⟨b0, o0, hA'⟩ hc'
  have hT2 := hT.tail hd2
  subst hA'
  obtain ⟨b1, o1, e1, hb1, ht1⟩ := hT.rd 0 (by simp)
  injection e1 with e1
  injection e1 with e1 e2
  subst e1 e2
  simp only [List.map_cons, List.getElem_cons_zero, Nat.add_zero] at ht1
  have hN : ∀ w', Calls Tryz.prog 65 #[.agg #[.int .i64 0, .int .i64 4], .int .i64 z] w' fun e w2 => e = .returned (.int .i64 (cntQ 1 z)) ∧ Below w'.heap.size w' w2 := fun w' => by
    have h := rich_any 0 4 z w'
    rw [show ((cntQ 1 z : Nat) : Int) = if z = 0 then 4 else 0 by simp only [cntQ]; simp; split <;> rfl]
    exact h
  have hlen : (0 : Int) < ((r.length + 1 : Nat) : Int) := by omega
  rw [List.length_cons]
  clear hd2
  go_enter Tryz.func28, Tryz.ntmps28
  go_wp2_with fail
  go_quiet ((fail))
  have hL1 := hL0.nx (below_drewN (Below.refl _ ((w.alloc (.cells (qF1 s0) 69)).alloc (.cells cm0 26))) nq)
  generalize (World.drewN ((w.alloc (.cells (qF1 s0) 69)).alloc (.cells cm0 26)) nq) = w1 at *
  clear hL0
  have kf1 : Bk w1 w.heap.size 69 (qF1 s0) := hL1.k 1 (by simp)
  go_upto_region 6 with (first
    | (refine ldB rfl _ _ rfl kf1 rfl Tryz.underlying69 rfl fo50_size ?_)
    | (go_at_call 69; (with_reducible refine (hP _).mono ?_); rintro e w2 ⟨rfl, hb2⟩; have hL2 := hL1.nx hb2; have kf2 : Bk w2 w.heap.size 69 (qF1 s0) := hL2.k 1 (by simp); obtain ⟨f0, f1, f2, f3⟩ := kf2.cell4))
  have ht2 := (hL2.bel.cell (p := ⟨b0, o0, none⟩) hb1).trans ht1
  have q1 := fun (d : Nat) (os : Array Obj) => cell_regrown f2 d os
  have q2 := fun (d : Nat) (os : Array Obj) => cell_regrown ht2 d os
  refine wp_region_quiet_below (by kernel_rfl) (by kernel_rfl) ?_
  repeat (first
    | go_big_quiet_step (with_reducible exact quiet_below (hkd _))
    | quiet_step (with_reducible exact quiet_below (hkd _)))
  refine wpQuiet_nil ?_
  intro _ hw'
  obtain ⟨⟨d9, os⟩, hw''⟩ := hw'
  subst hw''
  have hL3 := hL2.nx (below_regrown w2 d9 os)
  clear q1 q2 ht2 f0 f1 f2 f3 kf2 kf1 hL1 hL2 hb2 hP hkd
  generalize Go.Sort.grow (redrawn w2 d9) os = w3 at *
  rcases HCS.out with ⟨h0, rfl, rfl⟩ | ⟨h00, hZz, rfl⟩
  · have HR : Hid (prsQ1 1 t r = noR 10) := by show _ = _; unfold prsQ1; rw [hz, if_pos h0]
    clear h0 hge HCS
    have ko3 : Bk w3 (w.heap.size + 1) 26 cm0 := hL3.k 0 (by simp)
    go_wp2_with (refine stB (ty := 26) (cells := cm0) rfl _ _ rfl ko3 rfl rfl cc50_size rfl (by simp [Value.oneCell']) ?_; intro w' hK' hg' _)
    refine bodyPost_ret (res_cell_tmp rfl hK' rfl Tryz.underlying26 rfl cc50_size) rfl ?_
    exact ⟨cm0, by rw [HR.out]; rfl, by rw [HR.out]; rfl, below_of_gb hL3.bel hg' (by omega) hL3.bel.size⟩
  have hZ2 : z = Z := hZz.symm
  subst hZ2
  have HR : Hid (prsQ1 1 t r = mkR 4 z (whoL (cntQ 1 z)) (cntQ 1 z) r) := by show _ = _; unfold prsQ1; rw [hz, if_neg (by omega)]; rfl
  have hm : cntQ 1 z ≤ 1000 := by simp only [cntQ]; repeat' (first | omega | split)
  generalize cntQ 1 z = m at *
  have hR : ∀ w', Calls Tryz.prog 70 #[.string ⟨#[119]⟩, .int .i64 m] w' fun e w2 => e = .returned (strV (whoL m)) ∧ Below w'.heap.size w' w2 := fun w' => rep_any 119 m hm w'
  have hM : ∀ w', Below w.heap.size w w' → Calls Tryz.prog 30 #[.agg (cmA 4 z none 0 0), .slice A2 r.length c2, .int .i64 m, strV (whoL m)] w' fun e w2 => ∃ cs, e = .returned (.tuple #[.agg cs, .int .i64 (madeC (whoL m) m r)]) ∧ CmdIs (madeO (whoL m) m r) 4 z cs w'.heap.size w2 ∧ Below w'.heap.size w' w2 := fun w' hb => cmade_any 4 z m A2 c2 r ⟨(whoL m).toArray⟩ (by rw [str_size]; unfold whoL; simp; omega) w' (hT2.nx hb) (hl.nx hb)
  have kf3 : Bk w3 w.heap.size 69 (qF1 s0) := hL3.k 1 (by simp)
  obtain ⟨f0, f1, f2, f3⟩ := kf3.cell4
  clear h00 HCS hZz hz hge hm hs hT hT2 hl
  go_upto_region 11 with (go_at_call 65; (with_reducible refine (hN _).mono ?_); rintro e w4 ⟨rfl, hb4⟩)
  have hL4 := hL3.nx hb4
  have kf4 : Bk w4 w.heap.size 69 (qF1 s0) := hL4.k 1 (by simp)
  have g1 := kf4.cell4.2.1
  have hM4 := fun w' (hb : Below w4.heap.size w4 w') => hM w' (hL4.bel.trans (hb.mono hL4.bel.size))
  clear hM hL3 hb4 kf3 kf4 f0 f1 f2 f3
  generalize strV (whoL m) = V at *
  have q1 := fun (d : Nat) (os : Array Obj) => cell_regrown g1 d os
  refine wp_region_quiet_late 8 12 (by kernel_rfl) (by kernel_rfl) ?_
  simp only [List.take_succ_cons, List.take_zero]
  repeat (first | go_big_quiet_step (with_reducible exact quiet_below (hR _)) | quiet_step (with_reducible exact quiet_below (hR _)))
  refine wpQuiet_nil ?_
  intro _ hw'
  obtain ⟨⟨d9, os⟩, hw''⟩ := hw'
  subst hw''
  have hb5 := below_regrown w4 d9 os
  clear q1
  generalize Go.Sort.grow (redrawn w4 d9) os = w5 at *
  have hL5 := hL4.nx hb5
  show wpAny _ _ _ _ 5 _ _ _
  refine wpAny_ready (rs := [8]) (by kernel_rfl) (by simp) ?_
  refine AllReady.cons rfl (fun K hK => ?_) AllReady.nil
  go_simp
  refine (hM4 w5 hb5).mono ?_
  rintro e w6 ⟨cs, rfl, hcs, hb6⟩
  refine hK _ _ ?_
  clear hK K
  have hL6 := hL5.nx hb6
  have ko6 : Bk w6 (w.heap.size + 1) 26 cm0 := hL6.k 0 (by simp)
  have hz5 := (hL5.k 0 (by simp)).lt
  obtain ⟨a1, a2, A1, n1, c1, hcf⟩ := hcs.form
  subst hcf
  refine wpAny_ext (i := 9) _ _ _ _ _ rfl rfl rfl rfl rfl rfl (by kernel_rfl) (by kernel_rfl) (by kernel_rfl) (fun _ _ _ h => h) ?_
  refine wpAny_ext (i := 10) _ _ _ _ _ rfl rfl rfl rfl rfl rfl (by kernel_rfl) (by kernel_rfl) (by kernel_rfl) (fun _ _ _ h => h) ?_
  refine wpAny_tail 11 rfl (by kernel_rfl) ?_
  simp only [Act.put, List.setIfInBounds_toArray, List.set_cons_zero, List.set_cons_succ, List.drop_succ_cons, List.drop_zero, List.getElem_toArray, List.getElem_cons_succ, List.getElem_cons_zero]
  go_wp2_with (refine stB (ty := 26) (cells := cmA a1 a2 A1 n1 c1) rfl _ _ rfl ko6 rfl rfl cc50_size rfl (by simp [Value.oneCell']) ?_; intro w' hK' hg' _)
  refine bodyPost_ret (res_cell_tmp rfl hK' rfl Tryz.underlying26 rfl cc50_size) rfl ?_
  exact ⟨_, by rw [HR.out]; rfl, by rw [HR.out]; exact (hcs.gb hg' hz5).base (by have := hL5.bel.size; omega), below_of_gb hL6.bel hg' (by omega) hL6.bel.size⟩
abbrev qF2 (s0 : Value) : Array Value := #[s0, .int .i64 8, .func (.func 67) #[] #[], .func (.func 65) #[.agg #[.int .i64 5, .int .i64 1]] #[]]
set_option maxRecDepth 100000 in
set_option maxHeartbeats 16000000 in
theorem fparse_q2 (s0 : Value) (A : Option Addr) (c : Nat) (s : ByteArray) (ws : List ByteArray) (w : World) (hc : ws.length + 1 ≤ c) (hw : WdsOk w A (s :: ws)) (hl : LaidT w) :
    Calls Tryz.prog 28 #[.agg (qF2 s0), .slice A (ws.length + 1) c] w fun e w' => ∃ cs, e = .returned (.tuple #[.agg cs, .int .i64 (prsQ 2 ws).c]) ∧ CmdIs (prsQ 2 ws).L (prsQ 2 ws).op (prsQ 2 ws).k cs w.heap.size w' ∧ Below w.heap.size w w' := by
  obtain ⟨A', c', hs, hc', hd⟩ := tail_run A ws.length c hw.ad hc
  have hT := hw.tail hd
  have hL0 := ((Lie.start w).alloc (qF2 s0) 69).alloc cm0 26
  simp only [World.size_alloc] at hL0
  have hP := fun w' => fplain_any s0 (.func (.func 67) #[] #[]) (.func (.func 65) #[.agg #[.int .i64 5, .int .i64 1]] #[]) 8 w'
  rw [show plB 8 = false from rfl] at hP
  clear hd hw
  rcases ws with _ | ⟨t, r⟩
  · obtain ⟨N, hN⟩ : ∃ N, ([] : List ByteArray).length = N := ⟨_, rfl⟩
    have hN0 : (((N : Nat) : Int) == 0) = true := by rw [← hN]; rfl
    simp only [hN] at hs ⊢
    clear hN hc'
    go_enter Tryz.func28, Tryz.ntmps28
    go_wp2_with fail
    go_quiet ((fail))
    have hL1 := hL0.nx (below_drewN (Below.refl _ ((w.alloc (.cells (qF2 s0) 69)).alloc (.cells cm0 26))) nq)
    generalize (World.drewN ((w.alloc (.cells (qF2 s0) 69)).alloc (.cells cm0 26)) nq) = w1 at *
    clear hL0
    have kf1 : Bk w1 w.heap.size 69 (qF2 s0) := hL1.k 1 (by simp)
    go_wp2_with (first
      | (refine ldB rfl _ _ rfl kf1 rfl Tryz.underlying69 rfl fo50_size ?_)
      | (go_at_call 69; (with_reducible refine (hP _).mono ?_); rintro e w2 ⟨rfl, hb2⟩; have hL2 := hL1.nx hb2; have ko2 : Bk w2 (w.heap.size + 1) 26 cm0 := hL2.k 0 (by simp))
      | (refine stB (ty := 26) (cells := cm0) rfl _ _ rfl ko2 rfl rfl cc50_size rfl (by simp [Value.oneCell']) ?_; intro w' hK' hg' _))
    refine bodyPost_ret (res_cell_tmp rfl hK' rfl Tryz.underlying26 rfl cc50_size) rfl ?_
    exact ⟨cm0, rfl, rfl, below_of_gb hL2.bel hg' (by omega) hL2.bel.size⟩
  rw [prsQ_cons]
  have hge := kndQ_ge 2 t
  have hkd := fun w' => pkind_any t w'
  obtain ⟨z, hz⟩ : ∃ z, kndQ 2 t = z := ⟨_, rfl⟩
  obtain ⟨Z, B, hZB, hcs⟩ : ∃ Z B, kindV z = .tuple #[.int .i64 Z, .bool B] ∧ ((z < 0 ∧ Z = 0 ∧ B = false) ∨ (0 ≤ z ∧ Z = z ∧ B = true)) := by
    refine ⟨_, _, rfl, ?_⟩
    rcases (show z < 0 ∨ 0 ≤ z by omega) with h | h
    · exact .inl ⟨h, by omega, decide_eq_false (by omega)⟩
    · exact .inr ⟨h, by omega, decide_eq_true h⟩
  replace hkd : ∀ w', Calls Tryz.prog 67 #[.string t] w' fun e w2 => e = .returned (.tuple #[.int .i64 Z, .bool B]) ∧ Below w'.heap.size w' w2 := fun w' => by rw [← hZB, ← hz]; exact hkd w'
  have HCS := Lib.hid hcs
  clear hZB hcs
  rw [hz] at hge
  have hlw : r.length + 1 ≤ 1000000 := hT.n
  rw [List.length_cons] at hs hc'
  obtain ⟨b0, o0, hA'⟩ := hT.ad
  obtain ⟨A2, c2, hs2, hc2, hd2⟩ := tail_run A' r.length c' ⟨b0, o0, hA'⟩ hc'
  have hT2 := hT.tail hd2
  subst hA'
  obtain ⟨b1, o1, e1, hb1, ht1⟩ := hT.rd 0 (by simp)
  injection e1 with e1
  injection e1 with e1 e2
  subst e1 e2
  simp only [List.map_cons, List.getElem_cons_zero, Nat.add_zero] at ht1
  have hN : ∀ w', Calls Tryz.prog 65 #[.agg #[.int .i64 5, .int .i64 1], .int .i64 z] w' fun e w2 => e = .returned (.int .i64 (cntQ 2 z)) ∧ Below w'.heap.size w' w2 := fun w' => by
    have h := rich_any 5 1 z w'
    rw [show ((cntQ 2 z : Nat) : Int) = if z = 5 then 1 else 0 by simp only [cntQ]; simp; split <;> rfl]
    exact h
  have hlen : (0 : Int) < ((r.length + 1 : Nat) : Int) := by omega
  rw [List.length_cons]
  clear hd2
  go_enter Tryz.func28, Tryz.ntmps28
  go_wp2_with fail
  go_quiet ((fail))
  have hL1 := hL0.nx (below_drewN (Below.refl _ ((w.alloc (.cells (qF2 s0) 69)).alloc (.cells cm0 26))) nq)
  generalize (World.drewN ((w.alloc (.cells (qF2 s0) 69)).alloc (.cells cm0 26)) nq) = w1 at *
  clear hL0
  have kf1 : Bk w1 w.heap.size 69 (qF2 s0) := hL1.k 1 (by simp)
  go_upto_region 6 with (first
    | (refine ldB rfl _ _ rfl kf1 rfl Tryz.underlying69 rfl fo50_size ?_)
    | (go_at_call 69; (with_reducible refine (hP _).mono ?_); rintro e w2 ⟨rfl, hb2⟩; have hL2 := hL1.nx hb2; have kf2 : Bk w2 w.heap.size 69 (qF2 s0) := hL2.k 1 (by simp); obtain ⟨f0, f1, f2, f3⟩ := kf2.cell4))
  have ht2 := (hL2.bel.cell (p := ⟨b0, o0, none⟩) hb1).trans ht1
  have q1 := fun (d : Nat) (os : Array Obj) => cell_regrown f2 d os
  have q2 := fun (d : Nat) (os : Array Obj) => cell_regrown ht2 d os
  refine wp_region_quiet_below (by kernel_rfl) (by kernel_rfl) ?_
  repeat (first
    | go_big_quiet_step (with_reducible exact quiet_below (hkd _))
    | quiet_step (with_reducible exact quiet_below (hkd _)))
  refine wpQuiet_nil ?_
  intro _ hw'
  obtain ⟨⟨d9, os⟩, hw''⟩ := hw'
  subst hw''
  have hL3 := hL2.nx (below_regrown w2 d9 os)
  clear q1 q2 ht2 f0 f1 f2 f3 kf2 kf1 hL1 hL2 hb2 hP hkd
  generalize Go.Sort.grow (redrawn w2 d9) os = w3 at *
  rcases HCS.out with ⟨h0, rfl, rfl⟩ | ⟨h00, hZz, rfl⟩
  · have HR : Hid (prsQ1 2 t r = noR 10) := by show _ = _; unfold prsQ1; rw [hz, if_pos h0]
    clear h0 hge HCS
    have ko3 : Bk w3 (w.heap.size + 1) 26 cm0 := hL3.k 0 (by simp)
    go_wp2_with (refine stB (ty := 26) (cells := cm0) rfl _ _ rfl ko3 rfl rfl cc50_size rfl (by simp [Value.oneCell']) ?_; intro w' hK' hg' _)
    refine bodyPost_ret (res_cell_tmp rfl hK' rfl Tryz.underlying26 rfl cc50_size) rfl ?_
    exact ⟨cm0, by rw [HR.out]; rfl, by rw [HR.out]; rfl, below_of_gb hL3.bel hg' (by omega) hL3.bel.size⟩
  have hZ2 : z = Z := hZz.symm
  subst hZ2
  have HR : Hid (prsQ1 2 t r = mkR 8 z (whoL (cntQ 2 z)) (cntQ 2 z) r) := by show _ = _; unfold prsQ1; rw [hz, if_neg (by omega)]; rfl
  have hm : cntQ 2 z ≤ 1000 := by simp only [cntQ]; repeat' (first | omega | split)
  generalize cntQ 2 z = m at *
  have hR : ∀ w', Calls Tryz.prog 70 #[.string ⟨#[119]⟩, .int .i64 m] w' fun e w2 => e = .returned (strV (whoL m)) ∧ Below w'.heap.size w' w2 := fun w' => rep_any 119 m hm w'
  have hM : ∀ w', Below w.heap.size w w' → Calls Tryz.prog 30 #[.agg (cmA 8 z none 0 0), .slice A2 r.length c2, .int .i64 m, strV (whoL m)] w' fun e w2 => ∃ cs, e = .returned (.tuple #[.agg cs, .int .i64 (madeC (whoL m) m r)]) ∧ CmdIs (madeO (whoL m) m r) 8 z cs w'.heap.size w2 ∧ Below w'.heap.size w' w2 := fun w' hb => cmade_any 8 z m A2 c2 r ⟨(whoL m).toArray⟩ (by rw [str_size]; unfold whoL; simp; omega) w' (hT2.nx hb) (hl.nx hb)
  have kf3 : Bk w3 w.heap.size 69 (qF2 s0) := hL3.k 1 (by simp)
  obtain ⟨f0, f1, f2, f3⟩ := kf3.cell4
  clear h00 HCS hZz hz hge hm hs hT hT2 hl
  go_upto_region 11 with (go_at_call 65; (with_reducible refine (hN _).mono ?_); rintro e w4 ⟨rfl, hb4⟩)
  have hL4 := hL3.nx hb4
  have kf4 : Bk w4 w.heap.size 69 (qF2 s0) := hL4.k 1 (by simp)
  have g1 := kf4.cell4.2.1
  have hM4 := fun w' (hb : Below w4.heap.size w4 w') => hM w' (hL4.bel.trans (hb.mono hL4.bel.size))
  clear hM hL3 hb4 kf3 kf4 f0 f1 f2 f3
  generalize strV (whoL m) = V at *
  have q1 := fun (d : Nat) (os : Array Obj) => cell_regrown g1 d os
  refine wp_region_quiet_late 8 12 (by kernel_rfl) (by kernel_rfl) ?_
  simp only [List.take_succ_cons, List.take_zero]
  repeat (first | go_big_quiet_step (with_reducible exact quiet_below (hR _)) | quiet_step (with_reducible exact quiet_below (hR _)))
  refine wpQuiet_nil ?_
  intro _ hw'
  obtain ⟨⟨d9, os⟩, hw''⟩ := hw'
  subst hw''
  have hb5 := below_regrown w4 d9 os
  clear q1
  generalize Go.Sort.grow (redrawn w4 d9) os = w5 at *
  have hL5 := hL4.nx hb5
  show wpAny _ _ _ _ 5 _ _ _
  refine wpAny_ready (rs := [8]) (by kernel_rfl) (by simp) ?_
  refine AllReady.cons rfl (fun K hK => ?_) AllReady.nil
  go_simp
  refine (hM4 w5 hb5).mono ?_
  rintro e w6 ⟨cs, rfl, hcs, hb6⟩
  refine hK _ _ ?_
  clear hK K
  have hL6 := hL5.nx hb6
  have ko6 : Bk w6 (w.heap.size + 1) 26 cm0 := hL6.k 0 (by simp)
  have hz5 := (hL5.k 0 (by simp)).lt
  obtain ⟨a1, a2, A1, n1, c1, hcf⟩ := hcs.form
  subst hcf
  refine wpAny_ext (i := 9) _ _ _ _ _ rfl rfl rfl rfl rfl rfl (by kernel_rfl) (by kernel_rfl) (by kernel_rfl) (fun _ _ _ h => h) ?_
  refine wpAny_ext (i := 10) _ _ _ _ _ rfl rfl rfl rfl rfl rfl (by kernel_rfl) (by kernel_rfl) (by kernel_rfl) (fun _ _ _ h => h) ?_
  refine wpAny_tail 11 rfl (by kernel_rfl) ?_
  simp only [Act.put, List.setIfInBounds_toArray, List.set_cons_zero, List.set_cons_succ, List.drop_succ_cons, List.drop_zero, List.getElem_toArray, List.getElem_cons_succ, List.getElem_cons_zero]
  go_wp2_with (refine stB (ty := 26) (cells := cmA a1 a2 A1 n1 c1) rfl _ _ rfl ko6 rfl rfl cc50_size rfl (by simp [Value.oneCell']) ?_; intro w' hK' hg' _)
  refine bodyPost_ret (res_cell_tmp rfl hK' rfl Tryz.underlying26 rfl cc50_size) rfl ?_
  exact ⟨_, by rw [HR.out]; rfl, by rw [HR.out]; exact (hcs.gb hg' hz5).base (by have := hL5.bel.size; omega), below_of_gb hL6.bel hg' (by omega) hL6.bel.size⟩
abbrev qF3 (s0 : Value) : Array Value := #[s0, .int .i64 10, .func (.func 68) #[] #[], .func (.func 63) #[.int .i64 0] #[]]
set_option maxRecDepth 100000 in
set_option maxHeartbeats 16000000 in
theorem fparse_q3 (s0 : Value) (A : Option Addr) (c : Nat) (s : ByteArray) (ws : List ByteArray) (w : World) (hc : ws.length + 1 ≤ c) (hw : WdsOk w A (s :: ws)) (hl : LaidT w) :
    Calls Tryz.prog 28 #[.agg (qF3 s0), .slice A (ws.length + 1) c] w fun e w' => ∃ cs, e = .returned (.tuple #[.agg cs, .int .i64 (prsQ 3 ws).c]) ∧ CmdIs (prsQ 3 ws).L (prsQ 3 ws).op (prsQ 3 ws).k cs w.heap.size w' ∧ Below w.heap.size w w' := by
  obtain ⟨A', c', hs, hc', hd⟩ := tail_run A ws.length c hw.ad hc
  have hT := hw.tail hd
  have hL0 := ((Lie.start w).alloc (qF3 s0) 69).alloc cm0 26
  simp only [World.size_alloc] at hL0
  have hP := fun w' => fplain_any s0 (.func (.func 68) #[] #[]) (.func (.func 63) #[.int .i64 0] #[]) 10 w'
  rw [show plB 10 = false from rfl] at hP
  clear hd hw
  rcases ws with _ | ⟨t, r⟩
  · obtain ⟨N, hN⟩ : ∃ N, ([] : List ByteArray).length = N := ⟨_, rfl⟩
    have hN0 : (((N : Nat) : Int) == 0) = true := by rw [← hN]; rfl
    simp only [hN] at hs ⊢
    clear hN hc'
    go_enter Tryz.func28, Tryz.ntmps28
    go_wp2_with fail
    go_quiet ((fail))
    have hL1 := hL0.nx (below_drewN (Below.refl _ ((w.alloc (.cells (qF3 s0) 69)).alloc (.cells cm0 26))) nq)
    generalize (World.drewN ((w.alloc (.cells (qF3 s0) 69)).alloc (.cells cm0 26)) nq) = w1 at *
    clear hL0
    have kf1 : Bk w1 w.heap.size 69 (qF3 s0) := hL1.k 1 (by simp)
    go_wp2_with (first
      | (refine ldB rfl _ _ rfl kf1 rfl Tryz.underlying69 rfl fo50_size ?_)
      | (go_at_call 69; (with_reducible refine (hP _).mono ?_); rintro e w2 ⟨rfl, hb2⟩; have hL2 := hL1.nx hb2; have ko2 : Bk w2 (w.heap.size + 1) 26 cm0 := hL2.k 0 (by simp))
      | (refine stB (ty := 26) (cells := cm0) rfl _ _ rfl ko2 rfl rfl cc50_size rfl (by simp [Value.oneCell']) ?_; intro w' hK' hg' _))
    refine bodyPost_ret (res_cell_tmp rfl hK' rfl Tryz.underlying26 rfl cc50_size) rfl ?_
    exact ⟨cm0, rfl, rfl, below_of_gb hL2.bel hg' (by omega) hL2.bel.size⟩
  rw [prsQ_cons]
  have hge := kndQ_ge 3 t
  have hkd := fun w' => cnamed_any t w'
  obtain ⟨z, hz⟩ : ∃ z, kndQ 3 t = z := ⟨_, rfl⟩
  obtain ⟨Z, B, hZB, hcs⟩ : ∃ Z B, kindV z = .tuple #[.int .i64 Z, .bool B] ∧ ((z < 0 ∧ Z = 0 ∧ B = false) ∨ (0 ≤ z ∧ Z = z ∧ B = true)) := by
    refine ⟨_, _, rfl, ?_⟩
    rcases (show z < 0 ∨ 0 ≤ z by omega) with h | h
    · exact .inl ⟨h, by omega, decide_eq_false (by omega)⟩
    · exact .inr ⟨h, by omega, decide_eq_true h⟩
  replace hkd : ∀ w', Calls Tryz.prog 68 #[.string t] w' fun e w2 => e = .returned (.tuple #[.int .i64 Z, .bool B]) ∧ Below w'.heap.size w' w2 := fun w' => by rw [← hZB, ← hz]; exact hkd w'
  have HCS := Lib.hid hcs
  clear hZB hcs
  rw [hz] at hge
  have hlw : r.length + 1 ≤ 1000000 := hT.n
  rw [List.length_cons] at hs hc'
  obtain ⟨b0, o0, hA'⟩ := hT.ad
  obtain ⟨A2, c2, hs2, hc2, hd2⟩ := tail_run A' r.length c' ⟨b0, o0, hA'⟩ hc'
  have hT2 := hT.tail hd2
  subst hA'
  obtain ⟨b1, o1, e1, hb1, ht1⟩ := hT.rd 0 (by simp)
  injection e1 with e1
  injection e1 with e1 e2
  subst e1 e2
  simp only [List.map_cons, List.getElem_cons_zero, Nat.add_zero] at ht1
  have hN : ∀ w', Calls Tryz.prog 63 #[.int .i64 0, .int .i64 z] w' fun e w2 => e = .returned (.int .i64 (cntQ 3 z)) ∧ Below w'.heap.size w' w2 := fun w' => (numof_any 0 z w').mono (fun e w2 h => ⟨h.1, h.2 ▸ Below.refl _ _⟩)
  have hlen : (0 : Int) < ((r.length + 1 : Nat) : Int) := by omega
  rw [List.length_cons]
  clear hd2
  go_enter Tryz.func28, Tryz.ntmps28
  go_wp2_with fail
  go_quiet ((fail))
  have hL1 := hL0.nx (below_drewN (Below.refl _ ((w.alloc (.cells (qF3 s0) 69)).alloc (.cells cm0 26))) nq)
  generalize (World.drewN ((w.alloc (.cells (qF3 s0) 69)).alloc (.cells cm0 26)) nq) = w1 at *
  clear hL0
  have kf1 : Bk w1 w.heap.size 69 (qF3 s0) := hL1.k 1 (by simp)
  go_upto_region 6 with (first
    | (refine ldB rfl _ _ rfl kf1 rfl Tryz.underlying69 rfl fo50_size ?_)
    | (go_at_call 69; (with_reducible refine (hP _).mono ?_); rintro e w2 ⟨rfl, hb2⟩; have hL2 := hL1.nx hb2; have kf2 : Bk w2 w.heap.size 69 (qF3 s0) := hL2.k 1 (by simp); obtain ⟨f0, f1, f2, f3⟩ := kf2.cell4))
  have ht2 := (hL2.bel.cell (p := ⟨b0, o0, none⟩) hb1).trans ht1
  have q1 := fun (d : Nat) (os : Array Obj) => cell_regrown f2 d os
  have q2 := fun (d : Nat) (os : Array Obj) => cell_regrown ht2 d os
  refine wp_region_quiet_below (by kernel_rfl) (by kernel_rfl) ?_
  repeat (first
    | go_big_quiet_step (with_reducible exact quiet_below (hkd _))
    | quiet_step (with_reducible exact quiet_below (hkd _)))
  refine wpQuiet_nil ?_
  intro _ hw'
  obtain ⟨⟨d9, os⟩, hw''⟩ := hw'
  subst hw''
  have hL3 := hL2.nx (below_regrown w2 d9 os)
  clear q1 q2 ht2 f0 f1 f2 f3 kf2 kf1 hL1 hL2 hb2 hP hkd
  generalize Go.Sort.grow (redrawn w2 d9) os = w3 at *
  rcases HCS.out with ⟨h0, rfl, rfl⟩ | ⟨h00, hZz, rfl⟩
  · have HR : Hid (prsQ1 3 t r = noR 10) := by show _ = _; unfold prsQ1; rw [hz, if_pos h0]
    clear h0 hge HCS
    have ko3 : Bk w3 (w.heap.size + 1) 26 cm0 := hL3.k 0 (by simp)
    go_wp2_with (refine stB (ty := 26) (cells := cm0) rfl _ _ rfl ko3 rfl rfl cc50_size rfl (by simp [Value.oneCell']) ?_; intro w' hK' hg' _)
    refine bodyPost_ret (res_cell_tmp rfl hK' rfl Tryz.underlying26 rfl cc50_size) rfl ?_
    exact ⟨cm0, by rw [HR.out]; rfl, by rw [HR.out]; rfl, below_of_gb hL3.bel hg' (by omega) hL3.bel.size⟩
  have hZ2 : z = Z := hZz.symm
  subst hZ2
  have HR : Hid (prsQ1 3 t r = mkR 10 z (whoL (cntQ 3 z)) (cntQ 3 z) r) := by show _ = _; unfold prsQ1; rw [hz, if_neg (by omega)]; rfl
  have hm : cntQ 3 z ≤ 1000 := by simp only [cntQ]; repeat' (first | omega | split)
  generalize cntQ 3 z = m at *
  have hR : ∀ w', Calls Tryz.prog 70 #[.string ⟨#[119]⟩, .int .i64 m] w' fun e w2 => e = .returned (strV (whoL m)) ∧ Below w'.heap.size w' w2 := fun w' => rep_any 119 m hm w'
  have hM : ∀ w', Below w.heap.size w w' → Calls Tryz.prog 30 #[.agg (cmA 10 z none 0 0), .slice A2 r.length c2, .int .i64 m, strV (whoL m)] w' fun e w2 => ∃ cs, e = .returned (.tuple #[.agg cs, .int .i64 (madeC (whoL m) m r)]) ∧ CmdIs (madeO (whoL m) m r) 10 z cs w'.heap.size w2 ∧ Below w'.heap.size w' w2 := fun w' hb => cmade_any 10 z m A2 c2 r ⟨(whoL m).toArray⟩ (by rw [str_size]; unfold whoL; simp; omega) w' (hT2.nx hb) (hl.nx hb)
  have kf3 : Bk w3 w.heap.size 69 (qF3 s0) := hL3.k 1 (by simp)
  obtain ⟨f0, f1, f2, f3⟩ := kf3.cell4
  clear h00 HCS hZz hz hge hm hs hT hT2 hl
  go_upto_region 11 with (go_at_call 63; (with_reducible refine (hN _).mono ?_); rintro e w4 ⟨rfl, hb4⟩)
  have hL4 := hL3.nx hb4
  have kf4 : Bk w4 w.heap.size 69 (qF3 s0) := hL4.k 1 (by simp)
  have g1 := kf4.cell4.2.1
  have hM4 := fun w' (hb : Below w4.heap.size w4 w') => hM w' (hL4.bel.trans (hb.mono hL4.bel.size))
  clear hM hL3 hb4 kf3 kf4 f0 f1 f2 f3
  generalize strV (whoL m) = V at *
  have q1 := fun (d : Nat) (os : Array Obj) => cell_regrown g1 d os
  refine wp_region_quiet_late 8 12 (by kernel_rfl) (by kernel_rfl) ?_
  simp only [List.take_succ_cons, List.take_zero]
  repeat (first | go_big_quiet_step (with_reducible exact quiet_below (hR _)) | quiet_step (with_reducible exact quiet_below (hR _)))
  refine wpQuiet_nil ?_
  intro _ hw'
  obtain ⟨⟨d9, os⟩, hw''⟩ := hw'
  subst hw''
  have hb5 := below_regrown w4 d9 os
  clear q1
  generalize Go.Sort.grow (redrawn w4 d9) os = w5 at *
  have hL5 := hL4.nx hb5
  show wpAny _ _ _ _ 5 _ _ _
  refine wpAny_ready (rs := [8]) (by kernel_rfl) (by simp) ?_
  refine AllReady.cons rfl (fun K hK => ?_) AllReady.nil
  go_simp
  refine (hM4 w5 hb5).mono ?_
  rintro e w6 ⟨cs, rfl, hcs, hb6⟩
  refine hK _ _ ?_
  clear hK K
  have hL6 := hL5.nx hb6
  have ko6 : Bk w6 (w.heap.size + 1) 26 cm0 := hL6.k 0 (by simp)
  have hz5 := (hL5.k 0 (by simp)).lt
  obtain ⟨a1, a2, A1, n1, c1, hcf⟩ := hcs.form
  subst hcf
  refine wpAny_ext (i := 9) _ _ _ _ _ rfl rfl rfl rfl rfl rfl (by kernel_rfl) (by kernel_rfl) (by kernel_rfl) (fun _ _ _ h => h) ?_
  refine wpAny_ext (i := 10) _ _ _ _ _ rfl rfl rfl rfl rfl rfl (by kernel_rfl) (by kernel_rfl) (by kernel_rfl) (fun _ _ _ h => h) ?_
  refine wpAny_tail 11 rfl (by kernel_rfl) ?_
  simp only [Act.put, List.setIfInBounds_toArray, List.set_cons_zero, List.set_cons_succ, List.drop_succ_cons, List.drop_zero, List.getElem_toArray, List.getElem_cons_succ, List.getElem_cons_zero]
  go_wp2_with (refine stB (ty := 26) (cells := cmA a1 a2 A1 n1 c1) rfl _ _ rfl ko6 rfl rfl cc50_size rfl (by simp [Value.oneCell']) ?_; intro w' hK' hg' _)
  refine bodyPost_ret (res_cell_tmp rfl hK' rfl Tryz.underlying26 rfl cc50_size) rfl ?_
  exact ⟨_, by rw [HR.out]; rfl, by rw [HR.out]; exact (hcs.gb hg' hz5).base (by have := hL5.bel.size; omega), below_of_gb hL6.bel hg' (by omega) hL6.bel.size⟩
end Go.Proofs.YtgohbkkeppknoaaGreatDoor
end
