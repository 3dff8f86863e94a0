/- Several texts in one: Commands: the program's command of words. Commands: cmd.Parse. Commands: cmd.Parse, all of it. -/
import Derived.Test.YtgohbkkeppknoaaGreatDoorCmdParsesZz26
section
set_option linter.unusedVariables false
namespace Go.Proofs.YtgohbkkeppknoaaGreatDoor
open Go.RowKit
/-- The k-th command's cells. -/
def foR (k : Nat) : Array Value := #[foA.getD (4 * k) undef, foA.getD (4 * k + 1) undef, foA.getD (4 * k + 2) undef, foA.getD (4 * k + 3) undef]
/-- A command's answer. -/
def AnsC (R : CmdR) (base : Nat) (e : Ending) (w : World) : Prop := ∃ cs, e = .returned (.tuple #[.agg cs, .int .i64 R.c]) ∧ CmdIs R.L R.op R.k cs base w
theorem plain_ans (s : ByteArray) (ws : List ByteArray) (j : Nat) (hj : idxS plainW s = j) : prs (s :: ws) = mkR (opP j) 0 (whoL (cntP j)) (cntP j) ws := by
  show prs1 s ws = _
  unfold prs1
  rw [if_pos (by omega), show (idxS plainW s).toNat = j by omega]
theorem four_ans (s : ByteArray) (ws : List ByteArray) (q : Nat) (h1 : idxS plainW s = -1) (h2 : idxS xfW s = -1) (hq : idxS fourW s = q) : prs (s :: ws) = prsQ q ws := by
  show prs1 s ws = _
  unfold prs1
  rw [if_neg (by omega), if_neg (by omega), if_neg (by omega), show (idxS fourW s).toNat = q by omega]
theorem xf_ans (s : ByteArray) (ws : List ByteArray) (k : Nat) (h1 : idxS plainW s = -1) (h2 : idxS xfW s = k) : prs (s :: ws) = mkR 9 (k + 1) (formL (k + 1)) (cntX (k + 1) ws.length) ws := by
  show prs1 s ws = _
  unfold prs1
  rw [if_neg (by omega), if_pos (by omega), h2]
theorem no_ans (s : ByteArray) (ws : List ByteArray) (h1 : idxS plainW s = -1) (h2 : idxS xfW s = -1) (h3 : idxS fourW s = -1) : prs (s :: ws) = noR 21 := by
  show prs1 s ws = _
  unfold prs1
  rw [if_neg (by omega), if_neg (by omega), if_pos (by omega)]
/-- (form).parse at the i-th command. -/
theorem fparse_any (i : Nat) (hi : i < 12) (A : Option Addr) (c : Nat) (s : ByteArray) (ws : List ByteArray) (h : idxS formW s = i) (w : World) (hc : ws.length + 1 ≤ c) (hw : WdsOk w A (s :: ws)) (hl : LaidT w) :
    Calls Tryz.prog 28 #[.agg (foR i), .slice A (ws.length + 1) c] w fun e w' => AnsC (prs (s :: ws)) w.heap.size e w' ∧ Below w.heap.size w w' := by
  have hr := word_rows s
  rw [h] at hr
  have pl : ∀ (j : Nat) (s0 : Value) (op : Int) (m : Nat), idxS plainW s = j → op = opP j → m = cntP j → m ≤ 1000 → plB op = true → Calls Tryz.prog 28 #[.agg (plF s0 op m), .slice A (ws.length + 1) c] w fun e w' => AnsC (prs (s :: ws)) w.heap.size e w' ∧ Below w.heap.size w w' := by
    rintro j s0 op m hj rfl rfl hm hp
    refine (fparse_plain s0 (opP j) (cntP j) hp hm A c s ws w hc hw hl).mono ?_
    rintro e w' ⟨cs, rfl, hcs, hb⟩
    rw [plain_ans s ws j hj]
    exact ⟨⟨cs, rfl, hcs⟩, hb⟩
  simp only [rows4, List.mem_cons, Prod.mk.injEq, List.not_mem_nil, or_false] at hr
  rcases (show i = 0 ∨ i = 1 ∨ i = 2 ∨ i = 3 ∨ i = 4 ∨ i = 5 ∨ i = 6 ∨ i = 7 ∨ i = 8 ∨ i = 9 ∨ i = 10 ∨ i = 11 by omega) with rfl | rfl | rfl | rfl | rfl | rfl | rfl | rfl | rfl | rfl | rfl | rfl
  · exact pl 0 _ _ _ (by simp at hr; omega) rfl rfl (by decide) rfl
  · exact pl 1 _ _ _ (by simp at hr; omega) rfl rfl (by decide) rfl
  · simp at hr
    refine (fparse_q0 _ A c s ws w hc hw hl).mono ?_
    rintro e w' ⟨cs, rfl, hcs, hb⟩
    rw [four_ans s ws 0 hr.2.1 hr.1 hr.2.2]
    exact ⟨⟨cs, rfl, hcs⟩, hb⟩
  · simp at hr
    refine (fparse_q1 _ A c s ws w hc hw hl).mono ?_
    rintro e w' ⟨cs, rfl, hcs, hb⟩
    rw [four_ans s ws 1 hr.2.1 hr.1 hr.2.2]
    exact ⟨⟨cs, rfl, hcs⟩, hb⟩
  · exact pl 2 _ _ _ (by simp at hr; omega) rfl rfl (by decide) rfl
  · exact pl 3 _ _ _ (by simp at hr; omega) rfl rfl (by decide) rfl
  · exact pl 4 _ _ _ (by simp at hr; omega) rfl rfl (by decide) rfl
  · simp at hr
    refine (fparse_q2 _ A c s ws w hc hw hl).mono ?_
    rintro e w' ⟨cs, rfl, hcs, hb⟩
    rw [four_ans s ws 2 hr.2.1 hr.1 hr.2.2]
    exact ⟨⟨cs, rfl, hcs⟩, hb⟩
  · simp at hr
    refine (fparse_q3 _ A c s ws w hc hw hl).mono ?_
    rintro e w' ⟨cs, rfl, hcs, hb⟩
    rw [four_ans s ws 3 hr.2.1 hr.1 hr.2.2]
    exact ⟨⟨cs, rfl, hcs⟩, hb⟩
  · exact pl 5 _ _ _ (by simp at hr; omega) rfl rfl (by decide) rfl
  · exact pl 6 _ _ _ (by simp at hr; omega) rfl rfl (by decide) rfl
  · exact pl 7 _ _ _ (by simp at hr; omega) rfl rfl (by decide) rfl
end Go.Proofs.YtgohbkkeppknoaaGreatDoor
end
section
set_option linter.unusedVariables false
namespace Go.Proofs.YtgohbkkeppknoaaGreatDoor
open Go.RowKit
theorem form_fits (k : Int) : (formL k).length ≤ 9 := by
  unfold formL
  repeat' split
  all_goals decide
abbrev pw0 (w : World) (A : Option Addr) (n c : Nat) : World := (w.alloc (.cells #[.slice A n c] 22)).alloc (.cells cm0 26)
set_option maxRecDepth 100000 in
set_option maxHeartbeats 4000000 in
theorem cparse_nil (A : Option Addr) (c : Nat) (w : World) : Calls Tryz.prog 7 #[.slice A 0 c] w fun e w' => AnsC (prs []) w.heap.size e w' ∧ Below w.heap.size w w' := by
  have hL0 := ((Lie.start w).alloc #[.slice A 0 c] 22).alloc cm0 26
  simp only [World.size_alloc] at hL0
  have ko : Bk _ (w.heap.size + 1) 26 cm0 := hL0.k 0 (by simp)
  go_enter Tryz.func7, Tryz.ntmps7
  go_wp2_with (refine stB (ty := 26) (cells := cm0) rfl _ _ rfl ko rfl rfl cc50_size rfl (by simp [Value.oneCell']) ?_; intro w' hK' hg' _)
  refine bodyPost_ret (res_cell_tmp rfl hK' rfl Tryz.underlying26 rfl cc50_size) rfl ?_
  exact ⟨⟨cm0, rfl, rfl⟩, below_of_gb hL0.bel hg' (by omega) hL0.bel.size⟩
set_option maxRecDepth 100000 in
set_option maxHeartbeats 16000000 in
theorem cparse_form (A : Option Addr) (c : Nat) (s : ByteArray) (ws : List ByteArray) (i : Nat) (hi : i < 12) (h : idxS formW s = i) (w : World) (hc : ws.length + 1 ≤ c) (hw : WdsOk w A (s :: ws)) (hl : LaidT w) :
    Calls Tryz.prog 7 #[.slice A (ws.length + 1) c] w fun e w' => AnsC (prs (s :: ws)) w.heap.size e w' ∧ Below w.heap.size w w' := by
  have hL0 := ((Lie.start w).alloc #[.slice A (ws.length + 1) c] 22).alloc cm0 26
  simp only [World.size_alloc] at hL0
  have hF := fun w' => forms_any w'
  have hP := fun (w' : World) (hb : Below w.heap.size w w') => fparse_any i hi A c s ws h w' hc (hw.nx hb) (hl.nx hb)
  have hX := fun (b g : Nat) (w' : World) (hb : Below w.heap.size w w') (hB : Bk w' b 22 #[.slice A (ws.length + 1) c]) (hK : Bk w' g 69 foA) => fidx_any s b g w' A (ws.length + 1) c ws hB (by omega) (hw.nx hb).rd hK
  rw [h] at hX
  obtain ⟨R, hR⟩ : ∃ R, prs (s :: ws) = R := ⟨_, rfl⟩
  simp only [hR] at hP ⊢
  obtain ⟨n, hn⟩ : ∃ n, ws.length + 1 = n := ⟨_, rfl⟩
  simp only [hn] at hP hX hL0 hc ⊢
  have hn1 : ((n : Int) == 0) = false := beq_eq_false_iff_ne.2 (by omega)
  have hz := Bk.lt (hL0.k 1 (by simp))
  clear h hR hw hl hc hn
  go_enter Tryz.func7, Tryz.ntmps7
  go_upto_region 4 with (go_at_call 25; (with_reducible refine (hF _).mono ?_); rintro e w1 ⟨rfl, hL1⟩)
  have hL2 := hL0.nx hL1.bel
  have kf := hL1.k 0 (by simp)
  simp only [World.size_alloc, List.getElem_cons_zero] at kf
  obtain ⟨g, hg⟩ : ∃ g, w.heap.size + 1 + 1 = g := ⟨_, rfl⟩
  simp only [hg] at kf ⊢
  have HG := Lib.hid hg
  clear hL1 hL0 hF hg hz
  have kb : Bk w1 w.heap.size 22 #[.slice A n c] := hL2.k 1 (by simp)
  have hI := hX w.heap.size g w1 hL2.bel kb kf
  have hi0 : decide ((i : Int) ≥ 0) = true := by simp
  clear hX
  go_upto_region 6 with (go_at_call 26; (with_reducible refine hI.mono ?_); rintro e w2 ⟨rfl, hb2⟩)
  have hL3 := hL2.nx hb2
  have kf2 := kf.nx hb2
  have kb2 : Bk w2 w.heap.size 22 #[.slice A n c] := hL3.k 1 (by simp)
  have hP2 := fun (w' : World) (hb : Below w2.heap.size w2 w') => hP w' (hL3.bel.trans (hb.mono hL3.bel.size))
  have hkb := kb2.cell1
  clear hI hb2 hL2 kb kf hP
  have ql := fun (d : Nat) (os : Array Obj) => cell_regrown hkb d os
  have hcs : ∀ j v, foA[j]? = some v → ∀ (d : Nat) (os : Array Obj), World.cell? (Go.Sort.grow (redrawn w2 d) os) ⟨g, j, none⟩ = some v := fun j v hj d os => cell_regrown ((kf2.cell j).trans hj) d os
  have HCS := Lib.hid hcs
  clear hcs
  rcases (show i = 0 ∨ i = 1 ∨ i = 2 ∨ i = 3 ∨ i = 4 ∨ i = 5 ∨ i = 6 ∨ i = 7 ∨ i = 8 ∨ i = 9 ∨ i = 10 ∨ i = 11 by omega) with rfl | rfl | rfl | rfl | rfl | rfl | rfl | rfl | rfl | rfl | rfl | rfl
  case' inl => have e0 := HCS.out 0 _ rfl; have e1 := HCS.out 1 _ rfl; have e2 := HCS.out 2 _ rfl; have e3 := HCS.out 3 _ rfl
  case' inr.inl => have e0 := HCS.out 4 _ rfl; have e1 := HCS.out 5 _ rfl; have e2 := HCS.out 6 _ rfl; have e3 := HCS.out 7 _ rfl
  case' inr.inr.inl => have e0 := HCS.out 8 _ rfl; have e1 := HCS.out 9 _ rfl; have e2 := HCS.out 10 _ rfl; have e3 := HCS.out 11 _ rfl
  case' inr.inr.inr.inl => have e0 := HCS.out 12 _ rfl; have e1 := HCS.out 13 _ rfl; have e2 := HCS.out 14 _ rfl; have e3 := HCS.out 15 _ rfl
  case' inr.inr.inr.inr.inl => have e0 := HCS.out 16 _ rfl; have e1 := HCS.out 17 _ rfl; have e2 := HCS.out 18 _ rfl; have e3 := HCS.out 19 _ rfl
  case' inr.inr.inr.inr.inr.inl => have e0 := HCS.out 20 _ rfl; have e1 := HCS.out 21 _ rfl; have e2 := HCS.out 22 _ rfl; have e3 := HCS.out 23 _ rfl
  case' inr.inr.inr.inr.inr.inr.inl => have e0 := HCS.out 24 _ rfl; have e1 := HCS.out 25 _ rfl; have e2 := HCS.out 26 _ rfl; have e3 := HCS.out 27 _ rfl
  case' inr.inr.inr.inr.inr.inr.inr.inl => have e0 := HCS.out 28 _ rfl; have e1 := HCS.out 29 _ rfl; have e2 := HCS.out 30 _ rfl; have e3 := HCS.out 31 _ rfl
  case' inr.inr.inr.inr.inr.inr.inr.inr.inl => have e0 := HCS.out 32 _ rfl; have e1 := HCS.out 33 _ rfl; have e2 := HCS.out 34 _ rfl; have e3 := HCS.out 35 _ rfl
  case' inr.inr.inr.inr.inr.inr.inr.inr.inr.inl => have e0 := HCS.out 36 _ rfl; have e1 := HCS.out 37 _ rfl; have e2 := HCS.out 38 _ rfl; have e3 := HCS.out 39 _ rfl
  case' inr.inr.inr.inr.inr.inr.inr.inr.inr.inr.inl => have e0 := HCS.out 40 _ rfl; have e1 := HCS.out 41 _ rfl; have e2 := HCS.out 42 _ rfl; have e3 := HCS.out 43 _ rfl
  case' inr.inr.inr.inr.inr.inr.inr.inr.inr.inr.inr => have e0 := HCS.out 44 _ rfl; have e1 := HCS.out 45 _ rfl; have e2 := HCS.out 46 _ rfl; have e3 := HCS.out 47 _ rfl
  all_goals
    refine wp_region_quiet_late 5 12 (by kernel_rfl) (by kernel_rfl) ?_
    simp only [List.take_succ_cons, List.take_zero]
    repeat (first | go_big_quiet_step (fail) | quiet_step (fail))
    refine wpQuiet_nil ?_
    intro _ hw'
    obtain ⟨⟨d9, os⟩, hw''⟩ := hw'
    subst hw''
    have hb3 := below_regrown w2 d9 os
    clear e0 e1 e2 e3 ql HCS
    generalize Go.Sort.grow (redrawn w2 d9) os = w3 at *
    have hL4 := hL3.nx hb3
    show wpAny _ _ _ _ 5 _ _ _
    refine wpAny_ready (rs := [5]) (by kernel_rfl) (by simp) ?_
    refine AllReady.cons rfl (fun K hK => ?_) AllReady.nil
    go_simp
    refine Calls.mono (show Calls _ _ _ _ _ from hP2 w3 hb3) ?_
    rintro e w4 ⟨⟨cs, rfl, hcs⟩, hb4⟩
    refine hK _ _ ?_
    clear hK K hP2
    have hL5 := hL4.nx hb4
    have ko : Bk w4 (w.heap.size + 1) 26 cm0 := hL5.k 0 (by simp)
    have hz3 := (hL4.k 0 (by simp)).lt
    obtain ⟨a1, a2, A1, n1, c1, hcf⟩ := hcs.form
    subst hcf
    refine wpAny_ext (i := 6) _ _ _ _ _ rfl rfl rfl rfl rfl rfl (by kernel_rfl) (by kernel_rfl) (by kernel_rfl) (fun _ _ _ h => h) ?_
    refine wpAny_ext (i := 7) _ _ _ _ _ rfl rfl rfl rfl rfl rfl (by kernel_rfl) (by kernel_rfl) (by kernel_rfl) (fun _ _ _ h => h) ?_
    refine wpAny_tail 8 rfl (by kernel_rfl) ?_
    simp only [Act.put, List.setIfInBounds_toArray, List.set_cons_zero, List.set_cons_succ, List.drop_succ_cons, List.drop_zero, List.getElem_toArray, List.getElem_cons_succ, List.getElem_cons_zero]
    go_wp2_with (refine stB (ty := 26) (cells := cmA a1 a2 A1 n1 c1) rfl _ _ rfl ko rfl rfl cc50_size rfl (by simp [Value.oneCell']) ?_; intro w' hK' hg' _)
    refine bodyPost_ret (res_cell_tmp rfl hK' rfl Tryz.underlying26 rfl cc50_size) rfl ?_
    exact ⟨⟨_, rfl, (hcs.gb hg' hz3).base (by have := hL4.bel.size; omega)⟩, below_of_gb hL5.bel hg' (by omega) hL5.bel.size⟩
end Go.Proofs.YtgohbkkeppknoaaGreatDoor
end
section
set_option linter.unusedVariables false
namespace Go.Proofs.YtgohbkkeppknoaaGreatDoor
open Go.RowKit
theorem rows_no (s : ByteArray) (h : idxS formW s = -1) : idxS plainW s = -1 ∧ idxS fourW s = -1 := by
  have hr := word_rows s
  simp only [rows4, List.mem_cons, Prod.mk.injEq, List.not_mem_nil, or_false] at hr
  omega
set_option maxRecDepth 100000 in
set_option maxHeartbeats 16000000 in
theorem cparse_xf (A : Option Addr) (c : Nat) (s : ByteArray) (ws : List ByteArray) (h : idxS formW s = -1) (w : World) (hc : ws.length + 1 ≤ c) (hw : WdsOk w A (s :: ws)) (hl : LaidT w) :
    Calls Tryz.prog 7 #[.slice A (ws.length + 1) c] w fun e w' => AnsC (prs (s :: ws)) w.heap.size e w' ∧ Below w.heap.size w w' := by
  obtain ⟨hno, hno2⟩ := rows_no s h
  have hL0 := ((Lie.start w).alloc #[.slice A (ws.length + 1) c] 22).alloc cm0 26
  simp only [World.size_alloc] at hL0
  have hF := fun w' => forms_any w'
  have hX := fun (b g : Nat) (w' : World) (hb : Below w.heap.size w w') (hB : Bk w' b 22 #[.slice A (ws.length + 1) c]) (hK : Bk w' g 69 foA) => fidx_any s b g w' A (ws.length + 1) c ws hB (by omega) (hw.nx hb).rd hK
  rw [h] at hX
  have hN := fun w' => xnamedq_any s w'
  obtain ⟨A', c', hs, hc', hd⟩ := tail_run A ws.length c hw.ad hc
  have hT := hw.tail hd
  obtain ⟨b0, o0, hA'⟩ := hw.ad
  subst hA'
  obtain ⟨b1, o1, e1, hb1, ht1⟩ := hw.rd 0 (by simp)
  injection e1 with e1
  injection e1 with e1 e2
  subst e1 e2
  simp only [List.map_cons, List.getElem_cons_zero, Nat.add_zero] at ht1
  have hlw : ws.length + 1 ≤ 1000000 := hw.n
  obtain ⟨n, hn⟩ : ∃ n, ws.length + 1 = n := ⟨_, rfl⟩
  simp only [hn] at hX hL0 hc hs ⊢
  have hn1 : ((n : Int) == 0) = false := beq_eq_false_iff_ne.2 (by omega)
  have hn2 : (0 : Int) < (n : Int) := by omega
  have hn3 : wrap64 ((n : Int) - 1) = ws.length := by rw [IntWalk.wrap64_in _ ⟨by omega, by omega⟩]; omega
  have HN := Lib.hid hn
  have hz := Bk.lt (hL0.k 1 (by simp))
  have HXB := Lib.hid (show -1 ≤ xfI s ∧ (xfI s = -1 → idxS xfW s = -1) ∧ (0 ≤ xfI s → idxS xfW s = xfI s - 1 ∧ 1 ≤ xfI s ∧ xfI s ≤ 6) by
    have h1 := idxS_ge xfW s
    have h2 := idxS_lt xfW s
    rw [show xfW.length = 6 from rfl] at h2
    unfold xfI
    split <;> omega)
  clear hc hn hd
  obtain ⟨z, hz0⟩ : ∃ z, xfI s = z := ⟨_, rfl⟩
  rw [hz0] at HXB
  simp only [hz0] at hN
  clear hz0
  obtain ⟨Z, B, hZB, hcs⟩ : ∃ Z B, kindV z = .tuple #[.int .i64 Z, .bool B] ∧ ((z < 0 ∧ Z = 0 ∧ B = false) ∨ (0 ≤ z ∧ Z = z ∧ B = true)) := by
    refine ⟨_, _, rfl, ?_⟩
    rcases (show z < 0 ∨ 0 ≤ z by omega) with h | h
    · exact .inl ⟨h, by omega, decide_eq_false (by omega)⟩
    · exact .inr ⟨h, by omega, decide_eq_true h⟩
  simp only [hZB] at hN
  have HCS := Lib.hid hcs
  clear hZB hcs
  obtain ⟨R, hR⟩ : ∃ R, prs (s :: ws) = R := ⟨_, rfl⟩
  simp only [hR]
  have HRR := Lib.hid hR
  clear hR
  go_enter Tryz.func7, Tryz.ntmps7
  go_upto_region 4 with (go_at_call 25; (with_reducible refine (hF _).mono ?_); rintro e w1 ⟨rfl, hL1⟩)
  have hL2 := hL0.nx hL1.bel
  have kf := hL1.k 0 (by simp)
  simp only [World.size_alloc, List.getElem_cons_zero] at kf
  obtain ⟨g, hg⟩ : ∃ g, w.heap.size + 1 + 1 = g := ⟨_, rfl⟩
  simp only [hg] at kf ⊢
  clear hL1 hL0 hF hg hz
  have kb : Bk w1 w.heap.size 22 #[.slice (some ⟨b0, o0, none⟩) n c] := hL2.k 1 (by simp)
  have hI := hX w.heap.size g w1 hL2.bel kb kf
  clear hX
  go_upto_region 7 with (go_at_call 26; (with_reducible refine hI.mono ?_); rintro e w2 ⟨rfl, hb2⟩)
  have hL3 := hL2.nx hb2
  have kb2 : Bk w2 w.heap.size 22 #[.slice (some ⟨b0, o0, none⟩) n c] := hL3.k 1 (by simp)
  have hkb := kb2.cell1
  have ht2 := (hL3.bel.cell (p := ⟨b0, o0, none⟩) hb1).trans ht1
  clear hI hb2 hL2 kb kf kb2
  go_upto_region 8 with (go_at_call 29; (with_reducible refine (hN _).mono ?_); rintro e w3 ⟨rfl, hb3⟩)
  have hL4 := hL3.nx hb3
  clear hL3 hb3 hkb ht2 hN
  have kb4 : Bk w3 w.heap.size 22 #[.slice (some ⟨b0, o0, none⟩) n c] := hL4.k 1 (by simp)
  have ko4 : Bk w3 (w.heap.size + 1) 26 cm0 := hL4.k 0 (by simp)
  rcases HCS.out with ⟨h0, rfl, rfl⟩ | ⟨h00, hZz, rfl⟩
  · have HR : Hid (R = noR 21) := by show _ = _; rw [← HRR.out]; exact no_ans s ws hno (HXB.out.2.1 (by have := HXB.out.1; omega)) hno2
    clear h0 HCS HXB HRR
    go_wp2_with (refine stB (ty := 26) (cells := cm0) rfl _ _ rfl ko4 rfl rfl cc50_size rfl (by simp [Value.oneCell']) ?_; intro w' hK' hg' _)
    refine bodyPost_ret (res_cell_tmp rfl hK' rfl Tryz.underlying26 rfl cc50_size) rfl ?_
    exact ⟨⟨cm0, by rw [HR.out]; rfl, by rw [HR.out]; rfl⟩, below_of_gb hL4.bel hg' (by omega) hL4.bel.size⟩
  have hZ2 : z = Z := hZz.symm
  subst hZ2
  obtain ⟨hk1, hk2, hk3⟩ := HXB.out.2.2 h00
  have HR : Hid (R = mkR 9 z (formL z) (cntX z ws.length) ws) := by
    show _ = _
    rw [← HRR.out, xf_ans s ws (z - 1).toNat hno (by omega)]
    rw [show ((z - 1).toNat : Int) + 1 = z by omega]
  have hfl := form_fits z
  have hC := fun w' => ccnt_any z ws.length w'
  have hFm : ∀ w', Calls Tryz.prog 32 #[.int .i64 z] w' fun e w2 => e = .returned (strV (formL z)) ∧ Below w'.heap.size w' w2 := fun w' => cform_any z w'
  have hM : ∀ w', Below w3.heap.size w3 w' → Calls Tryz.prog 30 #[.agg (cmA 9 z none 0 0), .slice A' ws.length c', .int .i64 (cntX z ws.length), strV (formL z)] w' fun e w2 => ∃ cs, e = .returned (.tuple #[.agg cs, .int .i64 (madeC (formL z) (cntX z ws.length) ws)]) ∧ CmdIs (madeO (formL z) (cntX z ws.length) ws) 9 z cs w'.heap.size w2 ∧ Below w'.heap.size w' w2 := fun w' hb => cmade_any 9 z (cntX z ws.length) A' c' ws ⟨(formL z).toArray⟩ (by rw [str_size]; omega) w' ((hT.nx hL4.bel).nx hb) ((hl.nx hL4.bel).nx hb)
  have hkb := kb4.cell1
  generalize strV (formL z) = V at *
  generalize cntX z ws.length = m at *
  clear HRR h00 HCS HXB hZz hk1 hk2 hk3 hT hl kb4 hlw hfl ht1
  go_upto_region 10 with fail
  have q1 := fun (d : Nat) (os : Array Obj) => cell_regrown hkb d os
  refine wp_region_quiet_late 11 12 (by kernel_rfl) (by kernel_rfl) ?_
  simp only [List.take_succ_cons, List.take_zero]
  repeat (first | go_big_quiet_step (first | with_reducible exact quiet_below (hC _) | with_reducible exact quiet_below (hFm _)) | quiet_step (first | with_reducible exact quiet_below (hC _) | with_reducible exact quiet_below (hFm _)))
  refine wpQuiet_nil ?_
  intro _ hw'
  obtain ⟨⟨d9, os⟩, hw''⟩ := hw'
  subst hw''
  have hb5 := below_regrown w3 d9 os
  clear q1
  generalize Go.Sort.grow (redrawn w3 d9) os = w5 at *
  have hL5 := hL4.nx hb5
  show wpAny _ _ _ _ 5 _ _ _
  refine wpAny_ready (rs := [11]) (by kernel_rfl) (by simp) ?_
  refine AllReady.cons rfl (fun K hK => ?_) AllReady.nil
  go_simp
  refine (hM w5 hb5).mono ?_
  rintro e w6 ⟨cs, rfl, hcs, hb6⟩
  refine hK _ _ ?_
  clear hK K
  have hL6 := hL5.nx hb6
  have ko6 : Bk w6 (w.heap.size + 1) 26 cm0 := hL6.k 0 (by simp)
  have hz5 := (hL5.k 0 (by simp)).lt
  obtain ⟨a1, a2, A1, n1, c1, hcf⟩ := hcs.form
  subst hcf
  refine wpAny_ext (i := 12) _ _ _ _ _ rfl rfl rfl rfl rfl rfl (by kernel_rfl) (by kernel_rfl) (by kernel_rfl) (fun _ _ _ h => h) ?_
  refine wpAny_ext (i := 13) _ _ _ _ _ rfl rfl rfl rfl rfl rfl (by kernel_rfl) (by kernel_rfl) (by kernel_rfl) (fun _ _ _ h => h) ?_
  refine wpAny_tail 14 rfl (by kernel_rfl) ?_
  simp only [Act.put, List.setIfInBounds_toArray, List.set_cons_zero, List.set_cons_succ, List.drop_succ_cons, List.drop_zero, List.getElem_toArray, List.getElem_cons_succ, List.getElem_cons_zero]
  go_wp2_with (refine stB (ty := 26) (cells := cmA a1 a2 A1 n1 c1) rfl _ _ rfl ko6 rfl rfl cc50_size rfl (by simp [Value.oneCell']) ?_; intro w' hK' hg' _)
  refine bodyPost_ret (res_cell_tmp rfl hK' rfl Tryz.underlying26 rfl cc50_size) rfl ?_
  exact ⟨⟨_, by rw [HR.out]; rfl, by rw [HR.out]; exact (hcs.gb hg' hz5).base (by have := hL5.bel.size; omega)⟩, below_of_gb hL6.bel hg' (by omega) hL6.bel.size⟩
/-- The command of any words. -/
theorem cparse_any (A : Option Addr) (c : Nat) (ws : List ByteArray) (w : World) (hc : ws.length ≤ c) (hw : WdsOk w A ws) (hl : LaidT w) :
    Calls Tryz.prog 7 #[.slice A ws.length c] w fun e w' => AnsC (prs ws) w.heap.size e w' ∧ Below w.heap.size w w' := by
  rcases ws with _ | ⟨s, ws⟩
  · exact cparse_nil A c w
  have h1 := idxS_ge formW s
  have h2 := idxS_lt formW s
  rw [show formW.length = 12 from rfl] at h2
  rcases idx_cases _ h1 with h | h
  · exact cparse_xf A c s ws h w hc hw hl
  · exact cparse_form A c s ws (idxS formW s).toNat (by omega) (by omega) w hc hw hl
end Go.Proofs.YtgohbkkeppknoaaGreatDoor
end
