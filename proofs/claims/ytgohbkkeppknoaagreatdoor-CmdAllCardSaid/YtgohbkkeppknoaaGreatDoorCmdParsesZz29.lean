/- Several texts in one: Commands: the reference's command of words. -/
import Derived.Test.YtgohbkkeppknoaaGreatDoorCmdParsesZz28
section
set_option linter.unusedVariables false
namespace Go.Proofs.YtgohbkkeppknoaaGreatDoor
open Go.RowKit
abbrev plA : Array Value := #[.string (strB [108, 111, 97, 100]), .int .i64 1, .int .i64 1, .string (strB [115, 105, 122, 101]), .int .i64 2, .int .i64 2, .string (strB [109, 105, 112, 115]), .int .i64 5, .int .i64 1, .string (strB [116, 105, 108, 101]), .int .i64 6, .int .i64 2,
  .string (strB [99, 97, 99, 104, 101]), .int .i64 7, .int .i64 1, .string (strB [116, 105, 110, 116]), .int .i64 11, .int .i64 1, .string (strB [99, 114, 111, 112]), .int .i64 12, .int .i64 4, .string (strB [98, 117, 100, 103, 101, 116]), .int .i64 13, .int .i64 1]
theorem plA_at (k : Nat) (hk : k < 8) (h2 : k < plainW.length) : plA[k * 3]? = some (.string plainW[k]) ∧ plA[k * 3 + 1]? = some (.int .i64 (opP k)) ∧ plA[k * 3 + 2]? = some (.int .i64 (cntP k)) := by
  rcases (show k = 0 ∨ k = 1 ∨ k = 2 ∨ k = 3 ∨ k = 4 ∨ k = 5 ∨ k = 6 ∨ k = 7 by omega) with rfl | rfl | rfl | rfl | rfl | rfl | rfl | rfl
  all_goals exact ⟨rfl, rfl, rfl⟩
set_option maxRecDepth 100000 in
theorem plains_any (w : World) : Calls Tryz.prog 33 #[] w fun e w' => e = .returned (.slice (some ⟨w.heap.size, 0, none⟩) 8 8) ∧ w.alloc (.cells plA 78) = w' := by
  go_enter Tryz.func33, Tryz.ntmps33
  go_wp2_with fail
  go_returns
  exact ⟨rfl, rfl⟩
theorem cntP_le (k : Nat) (hk : k < 8) : cntP k ≤ 1000 := by
  rcases (show k = 0 ∨ k = 1 ∨ k = 2 ∨ k = 3 ∨ k = 4 ∨ k = 5 ∨ k = 6 ∨ k = 7 by omega) with rfl | rfl | rfl | rfl | rfl | rfl | rfl | rfl
  all_goals decide
theorem pl50_size : (Tryz.prog.info? 78).map (·.size) = some 3 := by kernel_rfl
abbrev pl0 : Array Value := #[.string ⟨#[]⟩, .int .i64 0, .int .i64 0]
set_option maxRecDepth 100000 in
/-- The words behind the first two. -/
theorem tail2_run (A : Option Addr) (m c : Nat) (hA : ∃ b o, A = some ⟨b, o, none⟩) (hc : m + 2 ≤ c) : ∃ A' c', (∀ w' : World, (Instr.slice 22 (.slice A (m + 2) c) (some (.int .i64 2)) none none).run Tryz.prog w' = .ok (.slice A' m c') w') ∧ m ≤ c' ∧ ∀ (w : World) (B : Nat) (xs : List Value), xs.length = m + 2 → Rd w B A xs → Rd w B A' (xs.drop 2) := by
  obtain ⟨b, o, rfl⟩ := hA
  have h1 : (2 : Int) ≤ ((m + 2 : Nat) : Int) := by omega
  by_cases hc1 : c = 2
  · subst hc1
    obtain rfl : m = 0 := by omega
    refine ⟨some ⟨b, o, none⟩, 0, fun w' => ?_, by omega, fun w B xs hl hr => ?_⟩
    · rw [run_slice_l w' 22 _ _ _ Tryz.underlying22 _ _ (by decide) h1]
      simp [go_sem]
    · rw [show xs.drop 2 = [] by rw [List.drop_eq_nil_iff]; omega]
      exact Rd.nil
  · refine ⟨some ⟨b, o + 2, none⟩, c - 2, fun w' => ?_, by omega, fun w B xs hl hr => ?_⟩
    · rw [run_slice_l w' 22 _ _ _ Tryz.underlying22 _ _ (by decide) h1]
      simp [go_sem, hc1]
    · intro i hi
      have hi' : 2 + i < xs.length := by simp at hi; omega
      obtain ⟨b', o', e, h2, h3⟩ := hr (2 + i) hi'
      injection e with e
      injection e with e1 e2
      subst e1 e2
      refine ⟨b, o + 2, rfl, h2, ?_⟩
      rw [Nat.add_assoc, h3, List.getElem_drop]
set_option maxRecDepth 100000 in
set_option maxHeartbeats 4000000 in
theorem rparse_nil (A : Option Addr) (c : Nat) (w : World) : Calls Tryz.prog 8 #[.slice A 0 c] w fun e w' => AnsC (prs []) w.heap.size e w' ∧ Below w.heap.size w w' := by
  have hL0 := (Lie.start w).alloc cm0 30
  have ko : Bk _ w.heap.size 30 cm0 := hL0.k 0 (by simp)
  go_enter Tryz.func8, Tryz.ntmps8
  go_wp2_with (refine stB (ty := 30) (cells := cm0) rfl _ _ rfl ko rfl rfl cr50_size rfl (by simp [Value.oneCell']) ?_; intro w' hK' hg' _)
  refine bodyPost_ret (res_cell_tmp rfl hK' rfl Tryz.underlying30 rfl cr50_size) rfl ?_
  exact ⟨⟨cm0, rfl, rfl⟩, below_of_gb hL0.bel hg' (by omega) hL0.bel.size⟩
theorem choice_any (q : Nat) (hq : q < 4) (s : ByteArray) (w : World) : Calls Tryz.prog 39 #[.int .i64 (opQ q), .string s] w fun e w' => e = .returned (chV q s) ∧ Below w.heap.size w w' := by
  rcases (show q = 0 ∨ q = 1 ∨ q = 2 ∨ q = 3 by omega) with rfl | rfl | rfl | rfl
  · exact choice_0 s w
  · exact choice_1 s w
  · exact choice_2 s w
  · exact choice_3 s w
theorem opQ_ne (q : Nat) : opQ q ≠ 0 := by
  unfold opQ
  repeat' split
  all_goals decide
theorem cntQ_le (q : Nat) (k : Int) : cntQ q k ≤ 1000 := by
  unfold cntQ
  repeat' split
  all_goals omega
theorem four_hit (s : ByteArray) (i : Nat) (hi : i < 4) (h : i < fourW.length) (he : bl s = bl fourW[i]) : idxS fourW s = i := by
  rw [bl_inj he, show fourW[i] = fourW.getD i ⟨#[]⟩ by simp [h]]
  clear he h
  rcases (show i = 0 ∨ i = 1 ∨ i = 2 ∨ i = 3 by omega) with rfl | rfl | rfl | rfl
  all_goals decide +kernel
theorem quiet_eq' {P : Program} {f : FuncId} {args : Array Value} {w : World} {d : Nat} {os : Array Obj} {v : Value} (h : Calls P f args (Go.Sort.grow (redrawn w d) os) fun e w' => e = .returned v ∧ Go.Sort.grow (redrawn w d) os = w') :
    Calls P f args (Go.Sort.grow (redrawn w d) os) fun e w'' => e = .returned v ∧ ∃ p : Regrown, w'' = Go.Sort.grow (redrawn w p.d) p.os := h.mono fun e w' h => ⟨h.1, ⟨⟨d, os⟩, h.2.symm⟩⟩
set_option maxRecDepth 100000 in
set_option maxHeartbeats 32000000 in
theorem rparse_cons (A : Option Addr) (c : Nat) (s : ByteArray) (ws : List ByteArray) (w : World) (hc : ws.length + 1 ≤ c) (hw : WdsOk w A (s :: ws)) :
    Calls Tryz.prog 8 #[.slice A (ws.length + 1) c] w fun e w' => AnsC (prs (s :: ws)) w.heap.size e w' ∧ Below w.heap.size w w' := by
  have hL0 := (Lie.start w).alloc cm0 30
  have hP := fun w' => plains_any w'
  obtain ⟨A', c', hs, hc', hd⟩ := tail_run A ws.length c hw.ad hc
  have hT := hw.tail hd
  obtain ⟨b0, o0, hA'⟩ := hw.ad
  subst hA'
  obtain ⟨b1, o1, e1, hb1, ht1⟩ := hw.rd 0 (by simp)
  injection e1 with e1
  injection e1 with e1 e2
  subst e1 e2
  simp only [List.map_cons, List.getElem_cons_zero, Nat.add_zero] at ht1
  have hlw : ws.length + 1 ≤ 1000000 := hw.n
  obtain ⟨n, hn⟩ : ∃ n, ws.length + 1 = n := ⟨_, rfl⟩
  simp only [hn] at hc hs ⊢
  have hn1 : ((n : Int) == 0) = false := beq_eq_false_iff_ne.2 (by omega)
  have hn2 : (0 : Int) < (n : Int) := by omega
  have hn0 : 0 < n := by omega
  have HN := Lib.hid hn
  obtain ⟨R, hR⟩ : ∃ R, prs (s :: ws) = R := ⟨_, rfl⟩
  simp only [hR]
  have HRR := Lib.hid hR
  have HD := Lib.hid hd
  have HC := Lib.hid hc
  clear hR hn hd hc
  go_enter Tryz.func8, Tryz.ntmps8
  go_wp2_with (go_at_call 33; (with_reducible refine (hP _).mono ?_); rintro e w1 ⟨rfl, rfl⟩)
  have hL1 := hL0.alloc plA 78
  simp only [World.size_alloc] at hL1
  clear hP hL0
  go_loopw [19] (fun kv wr => ∃ k : Nat, k ≤ 8 ∧ kv = .int .i64 k ∧ Hid (∀ j (hj : j < k) (hw : j < plainW.length), bl s ≠ bl plainW[j]) ∧ Lie w [(w.heap.size + 1, 78, plA), (w.heap.size, 30, cm0)] wr) (fun kv _ => 8 - (intOf kv).toNat)
  case atStart => exact ⟨0, by omega, rfl, (fun j hj => absurd hj (by omega)), hL1⟩
  case round =>
    clear hL1
    obtain ⟨k, hk, rfl, hall, hL⟩ := hrel
    obtain ⟨wq, rfl⟩ : ∃ wq : World, wq = wr := ⟨_, rfl⟩
    have kp : Bk wq (w.heap.size + 1) 78 plA := hL.k 0 (by simp)
    have ht2 := (hL.bel.cell (p := ⟨b0, o0, none⟩) hb1).trans ht1
    have hsz := hL.sz
    by_cases hlt : k < 8
    · have hlt' : (k : Int) < 8 := by omega
      have hklt : k < plainW.length := hlt
      obtain ⟨a0, a1, a2⟩ := plA_at k hlt hklt
      have c0 := (kp.cell (k * 3)).trans a0
      have c1 := (kp.cell (k * 3 + 1)).trans a1
      have c2 := (kp.cell (k * 3 + 2)).trans a2
      have hop := cntP_le k hlt
      have HAN := Lib.hid (fun he : bl s = bl plainW[k] => plain_ans s ws k (idxS_hit plainW s k hklt (fun j hj => hall.out j hj (by omega)) he))
      have HAL : Hid (bl s ≠ bl plainW[k] → ∀ j (hj : j < k + 1) (hw : j < plainW.length), bl s ≠ bl plainW[j]) := fun he j hj hw => by
        rcases Nat.lt_or_ge j k with h | h
        · exact hall.out j h hw
        · obtain rfl : j = k := by omega
          exact he
      have hnew := Bk.new wq 78 pl0
      have hLn := hL.alloc pl0 78
      have hpl := kp.lt
      have hne : ∀ x ∈ [(w.heap.size + 1, 78, plA), (w.heap.size, 30, cm0)], x.1 ≠ wq.heap.size := by simp; omega
      generalize plainW[k] = W at *
      generalize opP k = op at *
      generalize cntP k = m at *
      have hcmp := str_eqD s W
      clear kp a0 a1 a2 hall hklt hlt'
      obtain ⟨g, hg⟩ : ∃ g, w.heap.size + 1 = g := ⟨_, rfl⟩
      have HG := Lib.hid hg
      simp only [hg] at c0 c1 c2 hL hLn hpl hne ⊢
      clear hg
      rcases (show k = 0 ∨ k = 1 ∨ k = 2 ∨ k = 3 ∨ k = 4 ∨ k = 5 ∨ k = 6 ∨ k = 7 by omega) with rfl | rfl | rfl | rfl | rfl | rfl | rfl | rfl
      case' inl => skip
      all_goals
        simp only [Nat.zero_mul, Nat.reduceMul, Nat.reduceAdd, Nat.zero_add] at c0 c1 c2
        go_upto_region 6 with (refine stB (ty := 78) (cells := #[.string W, .int .i64 op, .int .i64 m]) rfl _ _ rfl hnew rfl rfl pl50_size rfl (by simp [Value.oneCell']) ?_; intro w3 hK3 hg3 hs3; have hL3 := hLn.set hg3 hK3 hsz hne)
        obtain ⟨d0, d1, d2⟩ := hK3.cell3
        have ht3 := (hL3.bel.cell (p := ⟨b0, o0, none⟩) hb1).trans ht1
        clear c0 c1 c2 ht2 hLn hnew hg3 hs3
        go_quiet ((fail))
        have hL4 := hL3.nx (below_drewN (Below.refl _ w3) nq)
        have hK4 := hK3.drewN nq
        generalize w3.drewN nq = w4 at *
        clear hL3 hK3 d0 d1 d2 ht3 hL
        by_cases he : bl s = bl W
        · rw [decide_eq_true he] at hcmp
          have hdt : s.data = W.data := by rw [bl_inj he]
          have HR : Hid (R = mkR op 0 (whoL m) m ws) := by show _ = _; rw [← HRR.out]; exact HAN.out he
          obtain ⟨d0, d1, d2⟩ := hK4.cell3
          have hwh := fun w' => rwhole_any m hop w'
          have hM : ∀ w', Below w4.heap.size w4 w' → Calls Tryz.prog 34 #[.int .i64 op, .int .i64 0, .slice A' ws.length c', .int .i64 m, strV (whoL m)] w' fun e w2 => ∃ cs, e = .returned (.tuple #[.agg cs, .int .i64 (madeC (whoL m) m ws)]) ∧ CmdIs (madeO (whoL m) m ws) op 0 cs w'.heap.size w2 ∧ Below w'.heap.size w' w2 := fun w' hb => rmade_any op 0 m A' c' ws ⟨(whoL m).toArray⟩ (by rw [str_size]; unfold whoL; simp; omega) w' ((hT.nx hL4.bel).nx hb)
          generalize strV (whoL m) = V at *
          clear he HAN HAL hT hop
          go_upto_region 7 with fail
          have q1 := fun (d : Nat) (os : Array Obj) => cell_regrown d1 d os
          have q2 := fun (d : Nat) (os : Array Obj) => cell_regrown d2 d os
          refine wp_region_quiet_late 9 14 (by kernel_rfl) (by kernel_rfl) ?_
          simp only [List.take_succ_cons, List.take_zero]
          repeat (first | go_big_quiet_step (with_reducible exact quiet_eq' (hwh _)) | quiet_step (with_reducible exact quiet_eq' (hwh _)))
          refine wpQuiet_nil ?_
          intro _ hw'
          obtain ⟨⟨d9, os⟩, hw''⟩ := hw'
          subst hw''
          have hb5 := below_regrown w4 d9 os
          clear q1 q2
          generalize Go.Sort.grow (redrawn w4 d9) os = w5 at *
          have hL5 := hL4.nx hb5
          show wpAny _ _ _ _ 5 _ _ _
          refine wpAny_ready (rs := [9]) (by kernel_rfl) (by simp) ?_
          refine AllReady.cons rfl (fun K hK => ?_) AllReady.nil
          go_simp
          refine (hM w5 hb5).mono ?_
          rintro e w6 ⟨cs, rfl, hcs, hb6⟩
          refine hK _ _ ?_
          clear hK K
          have hL6 := hL5.nx hb6
          have ko6 : Bk w6 w.heap.size 30 cm0 := hL6.k 2 (by simp)
          have hz5 := (hL5.k 2 (by simp)).lt
          obtain ⟨a1, a2, A1, n1, c1, hcf⟩ := hcs.form
          subst hcf
          refine wpAny_ext (i := 10) _ _ _ _ _ rfl rfl rfl rfl rfl rfl (by kernel_rfl) (by kernel_rfl) (by kernel_rfl) (fun _ _ _ h => h) ?_
          refine wpAny_ext (i := 11) _ _ _ _ _ rfl rfl rfl rfl rfl rfl (by kernel_rfl) (by kernel_rfl) (by kernel_rfl) (fun _ _ _ h => h) ?_
          refine wpAny_tail 12 rfl (by kernel_rfl) ?_
          simp only [Act.put, List.setIfInBounds_toArray, List.set_cons_zero, List.set_cons_succ, List.drop_succ_cons, List.drop_zero, List.getElem_toArray, List.getElem_cons_succ, List.getElem_cons_zero]
          go_wp2_with (refine stB (ty := 30) (cells := cmA a1 a2 A1 n1 c1) rfl _ _ rfl ko6 rfl rfl cr50_size rfl (by simp [Value.oneCell']) ?_; intro w' hK' hg' _)
          refine bodyPost_ret (res_cell_tmp rfl hK' rfl Tryz.underlying30 rfl cr50_size) rfl ?_
          exact ⟨⟨_, by rw [HR.out]; rfl, by rw [HR.out]; exact (hcs.gb hg' hz5).base (by have := hL5.bel.size; omega)⟩, below_of_gb hL6.bel hg' (Nat.le_refl _) hL6.bel.size⟩
        · rw [decide_eq_false he] at hcmp
          have hdt : ¬ s.data = W.data := fun e => he (by show s.data.toList = W.data.toList; rw [e])
          have HA := HAL.out he
          have hL5 : Lie w [(g, 78, plA), (w.heap.size, 30, cm0)] w4 := hL4.sub (by simp)
          clear he HAN HAL
          go_wp2_with fail
          refine ⟨⟨_, ?_, ?_, HA, hL5⟩, ?_⟩
          · omega
          · rfl
          · simp [intOf]
    · obtain rfl : k = 8 := by omega
      have HPL : Hid (idxS plainW s = -1) := idxS_no _ _ (fun j hj => hall.out j (by have : plainW.length = 8 := rfl; omega) hj)
      have hLa : Lie w [(w.heap.size, 30, cm0)] wq := hL.sub (by simp)
      clear hall kp ht2 hL
      have hNm := fun (k : Int) w' => rname24 k w'
      go_wp2_with fail
      go_loopw [6] (fun kv wr => ∃ k : Nat, 1 ≤ k ∧ k ≤ 7 ∧ kv = .int .i64 k ∧ Hid (∀ j (hj : j + 1 < k) (hw : j < xfW.length), bl s ≠ bl xfW[j]) ∧ Lie w [(w.heap.size, 30, cm0)] wr) (fun kv _ => 7 - (intOf kv).toNat)
      case atStart => exact ⟨1, by omega, by omega, rfl, (fun j hj => absurd hj (by omega)), hLa⟩
      case round =>
        clear hLa
        obtain ⟨k, hk0, hk, rfl, hall, hL⟩ := hrel
        obtain ⟨wp, rfl⟩ : ∃ wp : World, wp = wr := ⟨_, rfl⟩
        by_cases hlt : k < 7
        · have hlt' : (k : Int) ≤ 6 := by omega
          obtain ⟨j, hj⟩ : ∃ j, k = j + 1 := ⟨k - 1, by omega⟩
          have hjl : j < xfW.length := by have : xfW.length = 6 := rfl; omega
          obtain ⟨V, HV, hV⟩ : ∃ V, strV (nm24 k) = .string V ∧ bl V = bl xfW[j] := by
            refine ⟨_, rfl, ?_⟩
            subst hj
            rcases (show j = 0 ∨ j = 1 ∨ j = 2 ∨ j = 3 ∨ j = 4 ∨ j = 5 by omega) with rfl | rfl | rfl | rfl | rfl | rfl
            all_goals rfl
          have hN := fun w' => hNm k w'
          rw [HV] at hN
          have HJ := Lib.hid hj
          clear hj
          have ht2 := (hL.bel.cell (p := ⟨b0, o0, none⟩) hb1).trans ht1
          go_upto_region 12 with fail
          have q1 := fun (d : Nat) (os : Array Obj) => cell_regrown ht2 d os
          refine wp_region_quiet_below (by kernel_rfl) (by kernel_rfl) ?_
          repeat (first
            | go_big_quiet_step (with_reducible exact quiet_below (hN _))
            | quiet_step (with_reducible exact quiet_below (hN _)))
          refine wpQuiet_nil ?_
          intro _ hw'
          obtain ⟨⟨d9, os⟩, hw''⟩ := hw'
          subst hw''
          have hL2 := hL.nx (below_regrown wp d9 os)
          clear q1 ht2 hN HV hL
          generalize Go.Sort.grow (redrawn wp d9) os = w2 at *
          by_cases he : bl s = bl xfW[j]
          · have hdt : s.data = V.data := by rw [bl_inj (he.trans hV.symm)]
            have hcmp : (s.toList == V.toList) = true := by rw [str_eqD, hV]; exact decide_eq_true he
            simp only [hcmp, Bool.not_true]
            have HR : Hid (R = mkR 9 k (formL k) (cntX k ws.length) ws) := by
              show _ = _
              rw [← HRR.out, xf_ans s ws j HPL.out (idxS_hit xfW s j hjl (fun i hi => hall.out i (by have := HJ.out; omega) (by omega)) he), HJ.out]; rfl
            have hCt := fun w' => rcount_k (k : Int) (by omega) w'
            have hFm := fun w' => rform_any (k : Int) (by omega) w'
            have hfl := form_fits k
            clear he hV hall HJ hNm HPL
            have hM : ∀ (w3 w' : World), Lie w [(w.heap.size, 30, cm0)] w3 → Below w3.heap.size w3 w' → Calls Tryz.prog 34 #[.int .i64 9, .int .i64 k, .slice A' ws.length c', .int .i64 (cntX k ws.length), strV (formL k)] w' fun e w2 => ∃ cs, e = .returned (.tuple #[.agg cs, .int .i64 (madeC (formL k) (cntX k ws.length) ws)]) ∧ CmdIs (madeO (formL k) (cntX k ws.length) ws) 9 k cs w'.heap.size w2 ∧ Below w'.heap.size w' w2 := fun w3 w' hl3 hb => rmade_any 9 k (cntX k ws.length) A' c' ws ⟨(formL k).toArray⟩ (by rw [str_size]; omega) w' ((hT.nx hl3.bel).nx hb)
            have hn3 : wrap64 ((n : Int) - 1) = ws.length := by have := HN.out; rw [IntWalk.wrap64_in _ ⟨by omega, by omega⟩]; omega
            have hcx : (k = 4 ∧ max (ws.length : Int) 4 = cntX k ws.length) ∨ (k ≠ 4 ∧ cntL k = cntX k ws.length) := by
              by_cases h4 : k = 4
              · left; refine ⟨h4, ?_⟩; unfold cntX; rw [if_pos (by omega)]
              · right; refine ⟨h4, ?_⟩; unfold cntX; rw [if_neg (by omega)]
            generalize strV (formL k) = V2 at *
            generalize cntX k ws.length = N at *
            clear hlt hlt' hk hjl hdt hfl
            rcases hcx with ⟨h4, hmx⟩ | ⟨h4, hmx⟩
            case' inl => subst h4
            case' inr =>
              have hk4 : ((k : Int) == 4) = false := beq_eq_false_iff_ne.2 (by omega)
              rw [hmx] at hCt
            all_goals
              go_upto_region 16 with (go_at_call 37; refine Calls.mono (show Calls _ _ _ _ _ from hCt _) ?_; rintro e w3 ⟨rfl, hb3⟩; have hL3 := hL2.nx hb3)
              refine wp_region_quiet_late 6 12 (by kernel_rfl) (by kernel_rfl) ?_
              simp only [List.take_succ_cons, List.take_zero]
              repeat (first | go_big_quiet_step (with_reducible exact quiet_below (hFm _)) | quiet_step (with_reducible exact quiet_below (hFm _)))
              refine wpQuiet_nil ?_
              intro _ hw'
              obtain ⟨⟨d9, os⟩, hw''⟩ := hw'
              subst hw''
              have hL5 := hL3.nx (below_regrown w3 d9 os)
              have hM5 := hM _ _ hL5 (Below.refl _ _)
              generalize Go.Sort.grow (redrawn w3 d9) os = w5 at *
              show wpAny _ _ _ _ 5 _ _ _
              refine wpAny_ready (rs := [6]) (by kernel_rfl) (by simp) ?_
              refine AllReady.cons rfl (fun K hK => ?_) AllReady.nil
              go_simp
              refine Calls.mono (show Calls _ _ _ _ _ from hM5) ?_
              rintro e w6 ⟨cs, rfl, hcs, hb6⟩
              refine hK _ _ ?_
              clear hK K
              have hL6 := hL5.nx hb6
              have ko6 : Bk w6 w.heap.size 30 cm0 := hL6.k 0 (by simp)
              have hz5 := (hL5.k 0 (by simp)).lt
              obtain ⟨a1, a2, A1, n1, c1, hcf⟩ := hcs.form
              subst hcf
              refine wpAny_ext (i := 7) _ _ _ _ _ rfl rfl rfl rfl rfl rfl (by kernel_rfl) (by kernel_rfl) (by kernel_rfl) (fun _ _ _ h => h) ?_
              refine wpAny_ext (i := 8) _ _ _ _ _ rfl rfl rfl rfl rfl rfl (by kernel_rfl) (by kernel_rfl) (by kernel_rfl) (fun _ _ _ h => h) ?_
              refine wpAny_tail 9 rfl (by kernel_rfl) ?_
              simp only [Act.put, List.setIfInBounds_toArray, List.set_cons_zero, List.set_cons_succ, List.drop_succ_cons, List.drop_zero, List.getElem_toArray, List.getElem_cons_succ, List.getElem_cons_zero]
              go_wp2_with (refine stB (ty := 30) (cells := cmA a1 a2 A1 n1 c1) rfl _ _ rfl ko6 rfl rfl cr50_size rfl (by simp [Value.oneCell']) ?_; intro w' hK' hg' _)
              refine bodyPost_ret (res_cell_tmp rfl hK' rfl Tryz.underlying30 rfl cr50_size) rfl ?_
              exact ⟨⟨_, by rw [HR.out]; rfl, by rw [HR.out]; exact (hcs.gb hg' hz5).base (by have := hL5.bel.size; omega)⟩, below_of_gb hL6.bel hg' (Nat.le_refl _) hL6.bel.size⟩
          · have hdt : ¬ s.data = V.data := fun e => he (by rw [← hV]; show s.data.toList = V.data.toList; rw [e])
            have hcmp : (s.toList == V.toList) = false := by rw [str_eqD, hV]; exact decide_eq_false he
            simp only [hcmp, Bool.not_false]
            have HA : Hid (∀ i (hi : i + 1 < k + 1) (hw : i < xfW.length), bl s ≠ bl xfW[i]) := fun i hi hw => by
              rcases Nat.lt_or_ge (i + 1) k with h | h
              · exact hall.out i h hw
              · obtain rfl : i = j := by have := HJ.out; omega
                exact he
            clear he hV hall HJ
            go_wp2_with fail
            refine ⟨⟨k + 1, by omega, by omega, by go_num, HA, hL2⟩, by simp [intOf]; omega⟩
        · obtain rfl : k = 7 := by omega
          have HXF : Hid (idxS xfW s = -1) := idxS_no _ _ (fun j hj => hall.out j (by have : xfW.length = 6 := rfl; omega) hj)
          clear hall hNm
          have hLb := hL.alloc (fourW.map Value.string).toArray 9
          have hzp := hL.sz
          clear hL
          go_wp2_with fail
          obtain ⟨w4, hw4, hL4⟩ : ∃ w4, wp.alloc (.cells #[.string ⟨#[107, 101, 114, 110, 101, 108]⟩, .string ⟨#[98, 111, 114, 100, 101, 114]⟩, .string ⟨#[111, 114, 100, 101, 114]⟩, .string ⟨#[115, 97, 118, 101]⟩] 9) = w4 ∧ Lie w [(wp.heap.size, 9, (fourW.map Value.string).toArray), (w.heap.size, 30, cm0)] w4 := ⟨_, rfl, hLb⟩
          rw [hw4]
          clear hLb hw4
          obtain ⟨gb, hgb⟩ : ∃ gb, wp.heap.size = gb := ⟨_, rfl⟩
          simp only [hgb] at hL4 hzp ⊢
          clear hgb
          go_loopw [8, 71] (fun ov iv wr => ∃ i : Nat, i ≤ 4 ∧ iv = .int .i64 i ∧ Hid (((∀ j (hj : j < i) (hw : j < fourW.length), bl s ≠ bl fourW[j]) ∧ ov = .int .i64 0) ∨ ∃ q : Nat, q < i ∧ q < 4 ∧ idxS fourW s = q ∧ ov = .int .i64 (opQ q)) ∧ Lie w [(gb, 9, (fourW.map Value.string).toArray), (w.heap.size, 30, cm0)] wr) (fun _ iv _ => 4 - (intOf iv).toNat)
          case atStart => exact ⟨0, by omega, rfl, .inl ⟨fun j hj => absurd hj (by omega), rfl⟩, hL4⟩
          case round =>
            clear hL4
            obtain ⟨i, hi, rfl, hor, hL⟩ := hrel
            obtain ⟨wn, rfl⟩ : ∃ wn : World, wn = wr := ⟨_, rfl⟩
            have ht2 := (hL.bel.cell (p := ⟨b0, o0, none⟩) hb1).trans ht1
            have hszn := hL.sz
            by_cases hlt : i < 4
            · have hlt' : (i : Int) < 4 := by omega
              have hil : i < fourW.length := hlt
              have kw : Bk wn gb 9 (fourW.map Value.string).toArray := hL.k 0 (by simp)
              have c0 : wn.cell? ⟨gb, i, none⟩ = some (.string fourW[i]) := by rw [kw.cell]; simp [hil]
              clear kw
              by_cases he : bl s = bl fourW[i]
              · have HX := Lib.hid (four_hit s i hlt hil he)
                have hcmp : (s.toList == fourW[i].toList) = true := by rw [str_eqD]; exact decide_eq_true he
                have hdt : s.data = fourW[i].data := by rw [bl_inj he]
                have hLn := hL.alloc #[.int .i64 3, .int .i64 4, .int .i64 8, .int .i64 10] 3
                have hLm : Lie w [(gb, 9, (fourW.map Value.string).toArray), (w.heap.size, 30, cm0)] (wn.alloc (.cells #[.int .i64 3, .int .i64 4, .int .i64 8, .int .i64 10] 3)) := hLn.sub (by simp)
                generalize fourW[i] = S at *
                clear he hor hLn hil hL
                rcases (show i = 0 ∨ i = 1 ∨ i = 2 ∨ i = 3 by omega) with rfl | rfl | rfl | rfl
                all_goals
                  go_upto_region 22 with fail
                  go_wp2_with fail
                  exact ⟨⟨_, by first | exact (by decide : 1 ≤ 4) | exact (by decide : 2 ≤ 4) | exact (by decide : 3 ≤ 4) | exact (by decide : 4 ≤ 4), rfl, .inr ⟨_, by first | exact (by decide : 0 < 1) | exact (by decide : 1 < 2) | exact (by decide : 2 < 3) | exact (by decide : 3 < 4), by decide, HX.out, rfl⟩, hLm⟩, by simp [intOf]⟩
              · have hcmp : (s.toList == fourW[i].toList) = false := by rw [str_eqD]; exact decide_eq_false he
                have hdt : ¬ s.data = fourW[i].data := fun e => he (by show s.data.toList = fourW[i].data.toList; rw [e])
                have HO : Hid (((∀ j (hj : j < i + 1) (hw : j < fourW.length), bl s ≠ bl fourW[j]) ∧ u8 = .int .i64 0) ∨ ∃ q : Nat, q < i + 1 ∧ q < 4 ∧ idxS fourW s = q ∧ u8 = .int .i64 (opQ q)) := by
                  rcases hor.out with ⟨h1, h2⟩ | ⟨q, h1, h2, h3, h4⟩
                  · refine .inl ⟨fun j hj hw => ?_, h2⟩
                    rcases Nat.lt_or_ge j i with h | h
                    · exact h1 j h hw
                    · obtain rfl : j = i := by omega
                      exact he
                  · exact .inr ⟨q, by omega, h2, h3, h4⟩
                generalize fourW[i] = S at *
                clear he hor hil
                go_wp2_with fail
                exact ⟨⟨i + 1, by omega, by go_num, HO, hL⟩, by simp [intOf]; omega⟩
            · obtain rfl : i = 4 := by omega
              have hL3 : Lie w [(w.heap.size, 30, cm0)] wn := hL.sub (by simp)
              have ko : Bk wn w.heap.size 30 cm0 := hL3.k 0 (by simp)
              clear hL
              rcases hor.out with ⟨h1, rfl⟩ | ⟨q, h1, h2, h3, rfl⟩
              · have HR : Hid (R = noR 21) := by
                  show _ = _
                  rw [← HRR.out]
                  exact no_ans s ws HPL.out HXF.out (idxS_no _ _ (fun j hj => h1 j hj hj))
                clear h1 hor
                go_wp2_with (refine stB (ty := 30) (cells := cm0) rfl _ _ rfl ko rfl rfl cr50_size rfl (by simp [Value.oneCell']) ?_; intro w' hK' hg' _)
                refine bodyPost_ret (res_cell_tmp rfl hK' rfl Tryz.underlying30 rfl cr50_size) rfl ?_
                exact ⟨⟨cm0, by rw [HR.out]; rfl, by rw [HR.out]; rfl⟩, below_of_gb hL3.bel hg' (Nat.le_refl _) hL3.bel.size⟩
              have HR1 : Hid (R = prsQ q ws) := by show _ = _; rw [← HRR.out]; exact four_ans s ws q HPL.out HXF.out h3
              have hq0 : (opQ q == 0) = false := beq_eq_false_iff_ne.2 (opQ_ne q)
              clear h1 h3 hor HPL HXF hs
              rcases ws with _ | ⟨t, r⟩
              · have HR : Hid (R = noR 12) := HR1
                have hn4 : (n : Int) < 2 := by have := HN.out; simp at this; omega
                generalize opQ q = op at *
                go_wp2_with (refine stB (ty := 30) (cells := cm0) rfl _ _ rfl ko rfl rfl cr50_size rfl (by simp [Value.oneCell']) ?_; intro w' hK' hg' _)
                refine bodyPost_ret (res_cell_tmp rfl hK' rfl Tryz.underlying30 rfl cr50_size) rfl ?_
                exact ⟨⟨cm0, by rw [HR.out]; rfl, by rw [HR.out]; rfl⟩, below_of_gb hL3.bel hg' (Nat.le_refl _) hL3.bel.size⟩
              rw [prsQ_cons] at HR1
              have hln := HN.out
              rw [List.length_cons] at hln
              have hcn := HC.out
              obtain ⟨A2, c2, hs2, hc2, hd2⟩ := tail2_run (some ⟨b0, o0, none⟩) r.length c ⟨b0, o0, rfl⟩ (by omega)
              have hT2 : WdsOk w A2 r := ⟨hd2 w _ ((s :: t :: r).map Value.string) (by rw [List.length_map]; rfl) hw.rd, fun b hb => hw.sz b (List.mem_cons_of_mem _ (List.mem_cons_of_mem _ hb)), by have := hw.n; rw [List.length_cons, List.length_cons] at this; omega⟩
              obtain ⟨b2, o2, e2, hb2, htt⟩ := hw.rd 1 (by simp)
              injection e2 with e2
              injection e2 with e2 e3
              subst e2 e3
              simp only [List.map_cons, List.getElem_cons_succ, List.getElem_cons_zero] at htt
              rw [show r.length + 2 = n by omega] at hs2
              have hn4 : ¬ (n : Int) < 2 := by omega
              have hn5 : (1 : Int) < (n : Int) := by omega
              have hn6 : 1 < n := by omega
              have htn := (hL3.bel.cell (p := ⟨b0, o0 + 1, none⟩) hb1).trans htt
              have hCh := fun w' => choice_any q h2 t w'
              have hge := kndQ_ge q t
              have hcl := cntQ_le q (kndQ q t)
              clear hd2 htt hln hcn hw hT hc'
              by_cases h0 : kndQ q t < 0
              · have HR : Hid (R = noR 10) := by show _ = _; rw [HR1.out]; unfold prsQ1; rw [if_pos h0]
                rw [chV_no (show kndQ q t = -1 by omega)] at hCh
                clear HR1 h0 hge hcl
                generalize opQ q = op at *
                go_wp2_with (first
                  | (go_at_call 39; (with_reducible refine (hCh _).mono ?_); rintro e w5 ⟨rfl, hb5⟩; have hL5 := hL3.nx hb5; have ko5 : Bk w5 w.heap.size 30 cm0 := hL5.k 0 (by simp))
                  | (refine stB (ty := 30) (cells := cm0) rfl _ _ rfl ko5 rfl rfl cr50_size rfl (by simp [Value.oneCell']) ?_; intro w' hK' hg' _))
                refine bodyPost_ret (res_cell_tmp rfl hK' rfl Tryz.underlying30 rfl cr50_size) rfl ?_
                exact ⟨⟨cm0, by rw [HR.out]; rfl, by rw [HR.out]; rfl⟩, below_of_gb hL5.bel hg' (Nat.le_refl _) hL5.bel.size⟩
              · have HR : Hid (R = mkR (opQ q) (kndQ q t) (whoL (cntQ q (kndQ q t))) (cntQ q (kndQ q t)) r) := by show _ = _; rw [HR1.out]; unfold prsQ1; rw [if_neg h0]
                have hch : chV q t = .tuple #[.int .i64 (kndQ q t), .int .i64 (cntQ q (kndQ q t))] := by unfold chV; rw [if_neg h0]
                rw [hch] at hCh
                clear HR1 hch hge
                generalize cntQ q (kndQ q t) = m at *
                generalize kndQ q t = z at *
                generalize opQ q = op at *
                have hwh := fun w' => rwhole_any m hcl w'
                have hM : ∀ (w3 w' : World), Lie w [(w.heap.size, 30, cm0)] w3 → Below w3.heap.size w3 w' → Calls Tryz.prog 34 #[.int .i64 op, .int .i64 z, .slice A2 r.length c2, .int .i64 m, strV (whoL m)] w' fun e w2 => ∃ cs, e = .returned (.tuple #[.agg cs, .int .i64 (madeC (whoL m) m r)]) ∧ CmdIs (madeO (whoL m) m r) op z cs w'.heap.size w2 ∧ Below w'.heap.size w' w2 := fun w3 w' hl3 hb => rmade_any op z m A2 c2 r ⟨(whoL m).toArray⟩ (by rw [str_size]; unfold whoL; simp; omega) w' ((hT2.nx hl3.bel).nx hb)
                generalize strV (whoL m) = V at *
                clear hcl hT2
                go_upto_region 31 with (go_at_call 39; (with_reducible refine (hCh _).mono ?_); rintro e w5 ⟨rfl, hb5⟩; have hL5 := hL3.nx hb5)
                refine wp_region_quiet_late 7 12 (by kernel_rfl) (by kernel_rfl) ?_
                simp only [List.take_succ_cons, List.take_zero]
                repeat (first | go_big_quiet_step (with_reducible exact quiet_eq' (hwh _)) | quiet_step (with_reducible exact quiet_eq' (hwh _)))
                refine wpQuiet_nil ?_
                intro _ hw'
                obtain ⟨⟨d9, os⟩, hw''⟩ := hw'
                subst hw''
                have hL6 := hL5.nx (below_regrown w5 d9 os)
                have hM6 := hM _ _ hL6 (Below.refl _ _)
                generalize Go.Sort.grow (redrawn w5 d9) os = w6 at *
                show wpAny _ _ _ _ 5 _ _ _
                refine wpAny_ready (rs := [7]) (by kernel_rfl) (by simp) ?_
                refine AllReady.cons rfl (fun K hK => ?_) AllReady.nil
                go_simp
                refine Calls.mono (show Calls _ _ _ _ _ from hM6) ?_
                rintro e w7 ⟨cs, rfl, hcs, hb7⟩
                refine hK _ _ ?_
                clear hK K
                have hL7 := hL6.nx hb7
                have ko7 : Bk w7 w.heap.size 30 cm0 := hL7.k 0 (by simp)
                have hz6 := (hL6.k 0 (by simp)).lt
                obtain ⟨a1, a2, A1, n1, c1, hcf⟩ := hcs.form
                subst hcf
                refine wpAny_ext (i := 8) _ _ _ _ _ rfl rfl rfl rfl rfl rfl (by kernel_rfl) (by kernel_rfl) (by kernel_rfl) (fun _ _ _ h => h) ?_
                refine wpAny_ext (i := 9) _ _ _ _ _ rfl rfl rfl rfl rfl rfl (by kernel_rfl) (by kernel_rfl) (by kernel_rfl) (fun _ _ _ h => h) ?_
                refine wpAny_tail 10 rfl (by kernel_rfl) ?_
                simp only [Act.put, List.setIfInBounds_toArray, List.set_cons_zero, List.set_cons_succ, List.drop_succ_cons, List.drop_zero, List.getElem_toArray, List.getElem_cons_succ, List.getElem_cons_zero]
                go_wp2_with (refine stB (ty := 30) (cells := cmA a1 a2 A1 n1 c1) rfl _ _ rfl ko7 rfl rfl cr50_size rfl (by simp [Value.oneCell']) ?_; intro w' hK' hg' _)
                refine bodyPost_ret (res_cell_tmp rfl hK' rfl Tryz.underlying30 rfl cr50_size) rfl ?_
                exact ⟨⟨_, by rw [HR.out]; rfl, by rw [HR.out]; exact (hcs.gb hg' hz6).base (by have := hL6.bel.size; omega)⟩, below_of_gb hL7.bel hg' (Nat.le_refl _) hL7.bel.size⟩
/-- The reference's command of any words. -/
theorem rparse_any (A : Option Addr) (c : Nat) (ws : List ByteArray) (w : World) (hc : ws.length ≤ c) (hw : WdsOk w A ws) :
    Calls Tryz.prog 8 #[.slice A ws.length c] w fun e w' => AnsC (prs ws) w.heap.size e w' ∧ Below w.heap.size w w' := by
  rcases ws with _ | ⟨s, ws⟩
  · exact rparse_nil A c w
  · exact rparse_cons A c s ws w hc hw
end Go.Proofs.YtgohbkkeppknoaaGreatDoor
end
