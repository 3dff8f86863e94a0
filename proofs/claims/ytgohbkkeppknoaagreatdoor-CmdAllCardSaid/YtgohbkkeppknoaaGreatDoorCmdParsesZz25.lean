/- Several texts in one: Commands: the program's small functions; the rest of words. Commands: a plain command of words. Kernels: their table, names and reaches. The kernel of a name. -/
import Derived.Test.YtgohbkkeppknoaaGreatDoorCmdParsesZz24
import Derived.Test.YtgohbkkeppknoaaGreatDoorCmdParsesZz7
import Derived.Shelf.Strings.Repeat
import Derived.RegionTactic
import Derived.Test.YtgohbkkeppknoaaGreatDoorCmdParsesZz1
section
set_option linter.unusedVariables false
namespace Go.Proofs.YtgohbkkeppknoaaGreatDoor
open Go.RowKit
theorem repX : Builder.Extra Tryz.prog repI_ren where
  sizeBuilder := by kernel_rfl
  liesBuilder := by kernel_rfl
  t5 := Tryz.underlying5
  a5 := Tryz.isAgg5
  z5 := Tryz.sizeOf5
  v5 := Tryz.zeroValue5
  infoByte := by kernel_rfl
  cellsByte := by kernel_rfl
  sizeByte := by kernel_rfl
  neB5 := by decide
theorem repL_eq (b : UInt8) : ∀ c, Lib.repeatL [b] c = List.replicate c b
  | 0 => rfl
  | c + 1 => by rw [Lib.repeatL, repL_eq b c]; rfl
theorem rep_any (b : UInt8) (c : Nat) (hc : c ≤ 1000) (w : World) : Calls Tryz.prog 70 #[.string ⟨#[b]⟩, .int .i64 c] w fun e w' => e = .returned (strV (List.replicate c b)) ∧ Below w.heap.size w w' := by
  have h : Calls Tryz.prog 70 #[.string ⟨#[b]⟩, .int .i64 c] w _ := Any.strings_Repeat repI repX ⟨#[b]⟩ c w (by omega) (by rw [show (⟨#[b]⟩ : ByteArray).size = 1 from rfl]; omega)
  refine h.mono ?_
  rintro e w' ⟨rfl, hb⟩
  refine ⟨?_, hb⟩
  show Ending.returned (.string ⟨(Lib.repeatL [b] c).toArray⟩) = _
  rw [repL_eq]
set_option maxRecDepth 100000 in
set_option maxHeartbeats 4000000 in
theorem cform_any (k : Int) (w : World) : Calls Tryz.prog 32 #[.int .i64 k] w fun e w' => e = .returned (strV (formL k)) ∧ Below w.heap.size w w' := by
  by_cases h : 1 ≤ k ∧ k ≤ 6
  · have hC := fun w' => xcntq_any k w'
    have hR6 := fun w' => rep_any 112 6 (by decide) w'
    have hR9 := fun w' => rep_any 112 9 (by decide) w'
    rcases sixq h with rfl | rfl | rfl | rfl | rfl | rfl
    · clear h hR9
      go_enter Tryz.func32, Tryz.ntmps32
      go_wp2_with (first
        | (go_at_call 75; refine Calls.mono (show Calls _ _ _ _ _ from hC _) ?_; rintro e w1 ⟨rfl, hb1⟩)
        | (go_at_call 70; refine Calls.mono (show Calls _ _ _ _ _ from hR6 _) ?_; rintro e w2 ⟨rfl, hb2⟩))
      go_returns
      exact ⟨rfl, hb1.trans (hb2.mono hb1.size)⟩
    · clear h hR6
      go_enter Tryz.func32, Tryz.ntmps32
      go_wp2_with (first
        | (go_at_call 75; refine Calls.mono (show Calls _ _ _ _ _ from hC _) ?_; rintro e w1 ⟨rfl, hb1⟩)
        | (go_at_call 70; refine Calls.mono (show Calls _ _ _ _ _ from hR9 _) ?_; rintro e w2 ⟨rfl, hb2⟩))
      go_returns
      exact ⟨rfl, hb1.trans (hb2.mono hb1.size)⟩
    all_goals
      clear h hR6 hR9 hC
      go_enter Tryz.func32, Tryz.ntmps32
      go_wp2_with fail
      go_returns
      exact ⟨rfl, Below.refl _ _⟩
  · have HN : Hid (formL k = []) := by
      show _ = _
      unfold formL
      rw [if_neg (by omega), if_neg (by omega), if_neg (by omega), if_neg (by omega), if_neg (by omega), if_neg (by omega)]
    have n1 : (k == 1) = false := beq_eq_false_iff_ne.2 (by omega)
    have n2 : (k == 2) = false := beq_eq_false_iff_ne.2 (by omega)
    have n3 : (k == 3) = false := beq_eq_false_iff_ne.2 (by omega)
    have n4 : (k == 4) = false := beq_eq_false_iff_ne.2 (by omega)
    have n5 : (k == 5) = false := beq_eq_false_iff_ne.2 (by omega)
    have n6 : (k == 6) = false := beq_eq_false_iff_ne.2 (by omega)
    clear h
    go_enter Tryz.func32, Tryz.ntmps32
    go_wp2_with fail
    go_returns
    exact ⟨by rw [HN.out]; rfl, Below.refl _ _⟩
set_option maxRecDepth 100000 in
set_option maxHeartbeats 4000000 in
theorem ccnt_any (k : Int) (n : Int) (w : World) : Calls Tryz.prog 31 #[.int .i64 k, .int .i64 n] w fun e w' => e = .returned (.int .i64 (cntX k n)) ∧ Below w.heap.size w w' := by
  by_cases h : k = 4
  · subst h
    have hF := fun w' => cform_any 4 w'
    rcases (show n < 4 ∨ 4 ≤ n by omega) with h4 | h4
    · have HN : Hid (cntX 4 n = 4) := by show _ = _; unfold cntX; rw [if_pos rfl]; omega
      go_enter Tryz.func31, Tryz.ntmps31
      go_wp2_with (go_at_call 32; refine Calls.mono (show Calls _ _ _ _ _ from hF _) ?_; rintro e w1 ⟨rfl, hb1⟩)
      go_returns
      exact ⟨by rw [HN.out]; first | rfl | exact ret_int (by have h9 : ((formL 4).length : Int) = 4 := rfl; rw [h9]; omega), hb1⟩
    · have HN : Hid (cntX 4 n = n) := by show _ = _; unfold cntX; rw [if_pos rfl]; omega
      go_enter Tryz.func31, Tryz.ntmps31
      go_wp2_with (go_at_call 32; refine Calls.mono (show Calls _ _ _ _ _ from hF _) ?_; rintro e w1 ⟨rfl, hb1⟩)
      go_returns
      exact ⟨by rw [HN.out]; first | rfl | exact ret_int (by have h9 : ((formL 4).length : Int) = 4 := rfl; rw [h9]; omega), hb1⟩
  · have HN : Hid (cntX k n = cntL k) := by show _ = _; unfold cntX; rw [if_neg h]
    have hC := fun w' => xcntq_any k w'
    have n4 : (k == 4) = false := beq_eq_false_iff_ne.2 h
    clear h
    generalize cntL k = z at *
    go_enter Tryz.func31, Tryz.ntmps31
    go_wp2_with (go_at_call 75; refine Calls.mono (show Calls _ _ _ _ _ from hC _) ?_; rintro e w1 ⟨rfl, hb1⟩)
    go_returns
    exact ⟨by rw [HN.out]; rfl, hb1⟩
theorem alone_any (s : Value) (w : World) : Calls Tryz.prog 62 #[s] w fun e w' => e = .returned (.tuple #[.int .i64 0, .bool true]) ∧ w = w' := by
  go_enter Tryz.func62, Tryz.ntmps62
  go_wp2_with fail
  go_returns
  exact ⟨rfl, rfl⟩
set_option maxRecDepth 100000 in
theorem rich_any (a n k : Int) (w : World) : Calls Tryz.prog 65 #[.agg #[.int .i64 a, .int .i64 n], .int .i64 k] w fun e w' => e = .returned (.int .i64 (if k = a then n else 0)) ∧ Below w.heap.size w w' := by
  have hb := (Below.refl w.heap.size w).alloc (Nat.le_refl _) (.cells #[.int .i64 a, .int .i64 n] 122)
  obtain ⟨c0, c1⟩ := (Bk.new w 122 #[.int .i64 a, .int .i64 n]).cell2
  by_cases h : k = a
  · subst h
    go_enter Tryz.func65, Tryz.ntmps65
    go_wp2_with fail
    go_returns
    exact ⟨by simp, hb⟩
  · have hn : (k == a) = false := beq_eq_false_iff_ne.2 h
    have HN : Hid ((if k = a then n else 0) = 0) := if_neg h
    clear h
    generalize (if k = a then n else 0) = z at *
    go_enter Tryz.func65, Tryz.ntmps65
    go_wp2_with fail
    go_returns
    exact ⟨by rw [HN.out]; rfl, hb⟩
/-- Whether a command has no kinds. -/
def plB (op : Int) : Bool := op != 3 && op != 4 && op != 8 && op != 10
set_option maxRecDepth 100000 in
set_option maxHeartbeats 4000000 in
theorem fplain_any (s f g : Value) (op : Int) (w : World) : Calls Tryz.prog 69 #[.agg #[s, .int .i64 op, f, g]] w fun e w' => e = .returned (.bool (plB op)) ∧ Below w.heap.size w w' := by
  have hb := (Below.refl w.heap.size w).alloc (Nat.le_refl _) (.cells #[s, .int .i64 op, f, g] 69)
  have hK := Bk.new w 69 #[s, .int .i64 op, f, g]
  have c1 := (hK.cell 1).trans (show _ = some (.int .i64 op) from rfl)
  clear hK
  by_cases h3 : op = 3
  · subst h3
    go_enter Tryz.func69, Tryz.ntmps69
    go_wp2_with fail
    go_returns
    exact ⟨rfl, hb⟩
  by_cases h4 : op = 4
  · subst h4
    go_enter Tryz.func69, Tryz.ntmps69
    go_wp2_with fail
    go_returns
    exact ⟨rfl, hb⟩
  by_cases h8 : op = 8
  · subst h8
    go_enter Tryz.func69, Tryz.ntmps69
    go_wp2_with fail
    go_returns
    exact ⟨rfl, hb⟩
  have n3 : (op != 3) = true := by simp [h3]
  have n4 : (op != 4) = true := by simp [h4]
  have n8 : (op != 8) = true := by simp [h8]
  have HN : Hid (plB op = (op != 10)) := by show _ = _; unfold plB; rw [n3, n4, n8]; rfl
  clear h3 h4 h8
  go_enter Tryz.func69, Tryz.ntmps69
  go_wp2_with fail
  go_returns
  exact ⟨by rw [HN.out]; rfl, hb⟩
set_option maxRecDepth 100000 in
/-- The words behind the first. -/
theorem tail_run (A : Option Addr) (m c : Nat) (hA : ∃ b o, A = some ⟨b, o, none⟩) (hc : m + 1 ≤ c) : ∃ A' c', (∀ w' : World, (Instr.slice 22 (.slice A (m + 1) c) (some (.int .i64 1)) none none).run Tryz.prog w' = .ok (.slice A' m c') w') ∧ m ≤ c' ∧ ∀ (w : World) (B : Nat) (xs : List Value), xs.length = m + 1 → Rd w B A xs → Rd w B A' (xs.drop 1) := by
  obtain ⟨b, o, rfl⟩ := hA
  have h1 : (1 : Int) ≤ ((m + 1 : Nat) : Int) := by omega
  by_cases hc1 : c = 1
  · subst hc1
    obtain rfl : m = 0 := by omega
    refine ⟨some ⟨b, o, none⟩, 0, fun w' => ?_, by omega, fun w B xs hl hr => ?_⟩
    · rw [run_slice_l w' 22 _ _ _ Tryz.underlying22 _ _ (by decide) h1]
      simp [go_sem]
    · rw [show xs.drop 1 = [] by rw [List.drop_eq_nil_iff]; omega]
      exact Rd.nil
  · refine ⟨some ⟨b, o + 1, none⟩, c - 1, fun w' => ?_, by omega, fun w B xs hl hr => ?_⟩
    · rw [run_slice_l w' 22 _ _ _ Tryz.underlying22 _ _ (by decide) h1]
      simp [go_sem, hc1]
    · intro i hi
      have hi' : 1 + i < xs.length := by simp at hi; omega
      obtain ⟨b', o', e, h2, h3⟩ := hr (1 + i) hi'
      injection e with e
      injection e with e1 e2
      subst e1 e2
      refine ⟨b, o + 1, rfl, h2, ?_⟩
      rw [Nat.add_assoc, h3, List.getElem_drop]
theorem WdsOk.ad {w : World} {A : Option Addr} {s : ByteArray} {ws : List ByteArray} (h : WdsOk w A (s :: ws)) : ∃ b o, A = some ⟨b, o, none⟩ := by
  obtain ⟨b, o, e, _⟩ := h.rd 0 (by simp)
  exact ⟨b, o, e⟩
theorem WdsOk.tail {w : World} {A A' : Option Addr} {s : ByteArray} {ws : List ByteArray} (h : WdsOk w A (s :: ws)) (hr : ∀ (w : World) (B : Nat) (xs : List Value), xs.length = ws.length + 1 → Rd w B A xs → Rd w B A' (xs.drop 1)) : WdsOk w A' ws :=
  ⟨hr w _ ((s :: ws).map Value.string) (by rw [List.length_map]; rfl) h.rd, fun b hb => h.sz b (List.mem_cons_of_mem _ hb), Nat.le_of_succ_le (show ws.length + 1 ≤ _ from h.n)⟩
theorem WdsOk.nx {w w' : World} {A : Option Addr} {ws : List ByteArray} (h : WdsOk w A ws) (hb : Below w.heap.size w w') : WdsOk w' A ws := ⟨(h.rd.below hb).more hb.size, h.sz, h.n⟩
theorem CmdIs.form {o : Option (List Int)} {op k : Int} {cs : Array Value} {base : Nat} {w : World} (h : CmdIs o op k cs base w) : ∃ a b A n c, cs = cmA a b A n c := by
  cases o with
  | none => exact ⟨0, 0, none, 0, 0, h⟩
  | some L => obtain ⟨A, c, h, _⟩ := h; exact ⟨_, _, _, _, _, h⟩
theorem CmdIs.gb {o : Option (List Int)} {op k : Int} {cs : Array Value} {base g : Nat} {w w' : World} (h : CmdIs o op k cs base w) (hg : w.grownBy w' (some g)) (hlt : g < base) : CmdIs o op k cs base w' := by
  cases o with
  | none => exact h
  | some L =>
    obtain ⟨A, c, h, ho⟩ := h
    exact ⟨A, c, h, own_gb50 ho hg (fun b hb e => by have := own_ge ho b hb; injection e with e; omega)⟩
theorem CmdIs.base {o : Option (List Int)} {op k : Int} {cs : Array Value} {base b' : Nat} {w : World} (h : CmdIs o op k cs base w) (hb : b' ≤ base) : CmdIs o op k cs b' w := by
  cases o with
  | none => exact h
  | some L => obtain ⟨A, c, h, ho⟩ := h; exact ⟨A, c, h, own_base ho hb⟩
theorem CmdIs.nx {o : Option (List Int)} {op k : Int} {cs : Array Value} {base : Nat} {w w' : World} (h : CmdIs o op k cs base w) (hb : Below w.heap.size w w') : CmdIs o op k cs base w' := by
  cases o with
  | none => exact h
  | some L => obtain ⟨A, c, h, ho⟩ := h; exact ⟨A, c, h, own_below ho hb (Nat.le_refl _)⟩
end Go.Proofs.YtgohbkkeppknoaaGreatDoor
end
section
set_option linter.unusedVariables false
namespace Go.Proofs.YtgohbkkeppknoaaGreatDoor
open Go.RowKit
abbrev plF (s : Value) (op m : Int) : Array Value := #[s, .int .i64 op, .func (.func 62) #[] #[], .func (.func 63) #[.int .i64 m] #[]]
set_option maxRecDepth 100000 in
set_option maxHeartbeats 16000000 in
theorem fparse_plain (s0 : Value) (op : Int) (m : Nat) (hop : plB op = true) (hm : m ≤ 1000) (A : Option Addr) (c : Nat) (s : ByteArray) (ws : List ByteArray) (w : World) (hc : ws.length + 1 ≤ c) (hw : WdsOk w A (s :: ws)) (hl : LaidT w) :
    Calls Tryz.prog 28 #[.agg (plF s0 op m), .slice A (ws.length + 1) c] w fun e w' => ∃ cs, e = .returned (.tuple #[.agg cs, .int .i64 (madeC (whoL m) m ws)]) ∧ CmdIs (madeO (whoL m) m ws) op 0 cs w.heap.size w' ∧ Below w.heap.size w w' := by
  obtain ⟨A', c', hs, hc', hd⟩ := tail_run A ws.length c hw.ad hc
  have hT := hw.tail hd
  have hL0 := ((Lie.start w).alloc (plF s0 op m) 69).alloc cm0 26
  simp only [World.size_alloc] at hL0
  have hKf : Bk _ w.heap.size 69 (plF s0 op m) := hL0.k 1 (by simp)
  have hP := fun w' => fplain_any s0 (.func (.func 62) #[] #[]) (.func (.func 63) #[.int .i64 m] #[]) op w'
  rw [hop] at hP
  have hN := fun w' => numof_any m 0 w'
  have hR : ∀ w', Calls Tryz.prog 70 #[.string ⟨#[119]⟩, .int .i64 m] w' fun e w2 => e = .returned (strV (whoL m)) ∧ Below w'.heap.size w' w2 := fun w' => rep_any 119 m hm w'
  have hM : ∀ w', Below w.heap.size w w' → Calls Tryz.prog 30 #[.agg (cmA op 0 none 0 0), .slice A' ws.length c', .int .i64 m, strV (whoL m)] w' fun e w2 => ∃ cs, e = .returned (.tuple #[.agg cs, .int .i64 (madeC (whoL m) m ws)]) ∧ CmdIs (madeO (whoL m) m ws) op 0 cs w'.heap.size w2 ∧ Below w'.heap.size w' w2 := fun w' hb => cmade_any op 0 m A' c' ws ⟨(whoL m).toArray⟩ (by rw [str_size]; unfold whoL; simp; omega) w' (hT.nx hb) (hl.nx hb)
  have hbel0 := hL0.bel
  clear hd hop hw
  go_enter Tryz.func28, Tryz.ntmps28
  go_wp2_with fail
  go_quiet ((fail))
  have hL1 := hL0.nx (below_drewN (Below.refl _ ((w.alloc (.cells (plF s0 op m) 69)).alloc (.cells cm0 26))) nq)
  generalize (World.drewN ((w.alloc (.cells (plF s0 op m) 69)).alloc (.cells cm0 26)) nq) = w1 at *
  clear hL0 hKf hbel0
  have kf1 : Bk w1 w.heap.size 69 (plF s0 op m) := hL1.k 1 (by simp)
  go_upto_region 11 with (first
    | (refine ldB rfl _ _ rfl kf1 rfl Tryz.underlying69 rfl fo50_size ?_)
    | (go_at_call 69; (with_reducible refine (hP _).mono ?_); rintro e w2 ⟨rfl, hb2⟩; have hL2 := hL1.nx hb2; have kf2 : Bk w2 w.heap.size 69 (plF s0 op m) := hL2.k 1 (by simp); obtain ⟨f0, f1, f2, f3⟩ := kf2.cell4)
    | (go_at_call 63; (with_reducible refine (hN _).mono ?_); rintro e w3 ⟨rfl, rfl⟩))
  have hM4 := fun w' (hb : Below w2.heap.size w2 w') => hM w' (hL2.bel.trans (hb.mono hL2.bel.size))
  have hlt1 := kf2.lt
  clear hM hL1 kf1 hb2
  generalize strV (whoL m) = V at *
  have q1 := fun (d : Nat) (os : Array Obj) => cell_regrown f1 d os
  refine wp_region_quiet_late 8 12 (by kernel_rfl) (by kernel_rfl) ?_
  simp only [List.take_succ_cons, List.take_zero]
  repeat (first | go_big_quiet_step (with_reducible exact quiet_below (hR _)) | quiet_step (with_reducible exact quiet_below (hR _)))
  refine wpQuiet_nil ?_
  intro _ hw'
  obtain ⟨⟨d9, os⟩, hw''⟩ := hw'
  subst hw''
  have hb4 := below_regrown w2 d9 os
  clear q1
  generalize Go.Sort.grow (redrawn w2 d9) os = w4 at *
  have hL4 := hL2.nx hb4
  show wpAny _ _ _ _ 5 _ _ _
  refine wpAny_ready (rs := [8]) (by kernel_rfl) (by simp) ?_
  refine AllReady.cons rfl (fun K hK => ?_) AllReady.nil
  go_simp
  refine (hM4 w4 hb4).mono ?_
  rintro e w5 ⟨cs, rfl, hcs, hb5⟩
  refine hK _ _ ?_
  clear hK K
  have hL5 := hL4.nx hb5
  have ko5 : Bk w5 (w.heap.size + 1) 26 cm0 := hL5.k 0 (by simp)
  have hz4 := (hL4.k 0 (by simp)).lt
  obtain ⟨a1, a2, A1, n1, c1, hcf⟩ := hcs.form
  subst hcf
  refine wpAny_ext (i := 9) _ _ _ _ _ rfl rfl rfl rfl rfl rfl (by kernel_rfl) (by kernel_rfl) (by kernel_rfl) (fun _ _ _ h => h) ?_
  refine wpAny_ext (i := 10) _ _ _ _ _ rfl rfl rfl rfl rfl rfl (by kernel_rfl) (by kernel_rfl) (by kernel_rfl) (fun _ _ _ h => h) ?_
  refine wpAny_tail 11 rfl (by kernel_rfl) ?_
  simp only [Act.put, List.setIfInBounds_toArray, List.set_cons_zero, List.set_cons_succ, List.drop_succ_cons, List.drop_zero, List.getElem_toArray, List.getElem_cons_succ, List.getElem_cons_zero]
  go_wp2_with (refine stB (ty := 26) (cells := cmA a1 a2 A1 n1 c1) rfl _ _ rfl ko5 rfl rfl cc50_size rfl (by simp [Value.oneCell']) ?_; intro w' hK' hg' _)
  refine bodyPost_ret (res_cell_tmp rfl hK' rfl Tryz.underlying26 rfl cc50_size) rfl ?_
  exact ⟨_, rfl, (hcs.gb hg' hz4).base (by have := hL4.bel.size; omega), below_of_gb hL5.bel hg' (by omega) hL5.bel.size⟩
end Go.Proofs.YtgohbkkeppknoaaGreatDoor
end
section
set_option linter.unusedVariables false
namespace Go.Proofs.YtgohbkkeppknoaaGreatDoor
open Go.RowKit
def sNear : ByteArray := ⟨#[110, 101, 97, 114]⟩
def sLinear : ByteArray := ⟨#[108, 105, 110, 101, 97, 114]⟩
def sCubic : ByteArray := ⟨#[99, 117, 98, 105, 99]⟩
def sSuper : ByteArray := ⟨#[115, 117, 112, 101, 114]⟩
abbrev kerA : Array Value := #[.string sNear, .func (.func 160) #[] #[], .func (.func 161) #[] #[],
  .string sLinear, .func (.func 162) #[] #[], .func (.func 163) #[] #[],
  .string sCubic, .func (.func 164) #[] #[], .func (.func 165) #[] #[],
  .string sSuper, .func (.func 162) #[] #[], .func (.func 163) #[] #[]]
theorem ker_size : (Tryz.prog.info? 160).map (·.size) = some 12 := by kernel_rfl
theorem kernels_any (w : World) : Calls Tryz.prog 114 #[] w fun e w' => e = .returned (.agg kerA) ∧ Below w.heap.size w w' := by
  have hbz := (Below.refl w.heap.size w).alloc (Nat.le_refl _) (.cells #[.string ⟨#[]⟩, .nilFunc, .nilFunc, .string ⟨#[]⟩, .nilFunc, .nilFunc, .string ⟨#[]⟩, .nilFunc, .nilFunc, .string ⟨#[]⟩, .nilFunc, .nilFunc] 160)
  have hK := Bk.new w 160 #[.string ⟨#[]⟩, .nilFunc, .nilFunc, .string ⟨#[]⟩, .nilFunc, .nilFunc, .string ⟨#[]⟩, .nilFunc, .nilFunc, .string ⟨#[]⟩, .nilFunc, .nilFunc]
  go_enter Tryz.func114, Tryz.ntmps114
  go_wp2_with (refine stB (ty := 160) (cells := kerA) rfl _ _ rfl hK rfl rfl ker_size rfl (by simp [Value.oneCell']) ?_; intro w' hK' hg' _)
  refine bodyPost_ret (res_cell rfl hK' rfl Tryz.underlying160 rfl ker_size) rfl ?_
  exact ⟨rfl, below_of_gb hbz hg' (Nat.le_refl _) hbz.size⟩
theorem is_any (k : Int) (w : World) : Calls Tryz.prog 329 #[.int .i64 k] w fun e w' => e = .returned (.bool (decide (0 ≤ k ∧ k ≤ 3))) ∧ w = w' := by
  by_cases h : 0 ≤ k
  all_goals
    go_enter Tryz.func329, Tryz.ntmps329
    go_wp2
    go_returns
    exact ⟨ret_bool (by simp <;> omega), rfl⟩
theorem shr16' (x : Int) (s : Nat) (hs : s = 16) : x >>> s = x / 65536 := by
  subst hs; rw [Int.shiftRight_eq_div_pow]; rfl
def inF (u : Int) : Bool := decide (-70368744177664 ≤ u ∧ u ≤ 70368744177664)
theorem inF_eq (u : Int) : inF u = (decide (-70368744177664 ≤ u) && decide (u ≤ 70368744177664)) := by unfold inF; simp
theorem inF_iff {u : Int} : inF u = true ↔ (-70368744177664 ≤ u ∧ u ≤ 70368744177664) := by unfold inF; exact decide_eq_true_iff
def reachR (a b h lo hi : Int) : Int × Int := if lo ≤ hi ∧ inF lo = true ∧ inF hi = true then ((lo + h) / 65536 + a, (hi + h) / 65536 + b) else (0, 0)
theorem near_in (u : Int) (w : World) : Calls Tryz.prog 218 #[.int .i64 u] w fun e w' => e = .returned (.bool (inF u)) ∧ w = w' := by
  by_cases h1 : -70368744177664 ≤ u
  all_goals
    go_enter Tryz.func218, Tryz.ntmps218
    go_wp2
    go_ret
    exact ⟨ret_bool (by rw [inF_eq]; simp <;> omega), rfl⟩
theorem linear_in (u : Int) (w : World) : Calls Tryz.prog 220 #[.int .i64 u] w fun e w' => e = .returned (.bool (inF u)) ∧ w = w' := by
  by_cases h1 : -70368744177664 ≤ u
  all_goals
    go_enter Tryz.func220, Tryz.ntmps220
    go_wp2
    go_ret
    exact ⟨ret_bool (by rw [inF_eq]; simp <;> omega), rfl⟩
theorem cubic_in (u : Int) (w : World) : Calls Tryz.prog 224 #[.int .i64 u] w fun e w' => e = .returned (.bool (inF u)) ∧ w = w' := by
  by_cases h1 : -70368744177664 ≤ u
  all_goals
    go_enter Tryz.func224, Tryz.ntmps224
    go_wp2
    go_ret
    exact ⟨ret_bool (by rw [inF_eq]; simp <;> omega), rfl⟩
theorem near_index (u : Int) (w : World) (h1 : -70368744177664 ≤ u) (h2 : u ≤ 70368744177664) : Calls Tryz.prog 219 #[.int .i64 u] w fun e w' => e = .returned (.int .i64 ((u + 32768) / 65536)) ∧ w = w' := by
  go_enter Tryz.func219, Tryz.ntmps219
  go_wp2
  go_ret
  exact ⟨ret_int (by first | rfl | (simp [shr16'])), rfl⟩
theorem split_any (u : Int) (w : World) : Calls Tryz.prog 223 #[.int .i64 u] w fun e w' => (∃ r, e = .returned (.tuple #[.int .i64 (u / 65536), .int .i64 r])) ∧ w = w' := by
  go_enter Tryz.func223, Tryz.ntmps223
  go_wp2
  go_returns
  exact ⟨⟨_, by first | rfl | (rw [shr16' _ _ rfl])⟩, rfl⟩
theorem ker_ix0 (w : World) : (Instr.index 160 (.agg kerA) (.int .i64 0)).run Tryz.prog w = .ok (.agg #[.string sNear, .func (.func 160) #[] #[], .func (.func 161) #[] #[]]) w := by kernel_rfl
theorem ker_ix1 (w : World) : (Instr.index 160 (.agg kerA) (.int .i64 1)).run Tryz.prog w = .ok (.agg #[.string sLinear, .func (.func 162) #[] #[], .func (.func 163) #[] #[]]) w := by kernel_rfl
theorem ker_ix2 (w : World) : (Instr.index 160 (.agg kerA) (.int .i64 2)).run Tryz.prog w = .ok (.agg #[.string sCubic, .func (.func 164) #[] #[], .func (.func 165) #[] #[]]) w := by kernel_rfl
theorem ker_ix3 (w : World) : (Instr.index 160 (.agg kerA) (.int .i64 3)).run Tryz.prog w = .ok (.agg #[.string sSuper, .func (.func 162) #[] #[], .func (.func 163) #[] #[]]) w := by kernel_rfl
theorem ker_f0 (a b c : Value) (w : World) : (Instr.field 159 (.agg #[a, b, c]) 0).run Tryz.prog w = .ok a w := by kernel_rfl
theorem ker_f2 (a b c : Value) (w : World) : (Instr.field 159 (.agg #[a, b, c]) 2).run Tryz.prog w = .ok c w := by kernel_rfl
def nameR (k : Int) : ByteArray := if k = 0 then sNear else if k = 1 then sLinear else if k = 2 then sCubic else if k = 3 then sSuper else ⟨#[]⟩
set_option maxHeartbeats 1000000 in
theorem name_any (k : Int) (w : World) : Calls Tryz.prog 281 #[.int .i64 k] w fun e w' => e = .returned (.string (nameR k)) ∧ Below w.heap.size w w' := by
  by_cases h : 0 ≤ k ∧ k ≤ 3
  · have hd : decide (0 ≤ k ∧ k ≤ 3) = true := decide_eq_true h
    have h4 : k = 0 ∨ k = 1 ∨ k = 2 ∨ k = 3 := by omega
    clear h
    rcases h4 with rfl | rfl | rfl | rfl
    · have hi := ker_ix0
      have hf := ker_f0
      go_enter Tryz.func281, Tryz.ntmps281
      go_wp2_with (first
        | (go_at_call 329; (with_reducible refine (is_any _ _).mono ?_); rintro e w' ⟨rfl, rfl⟩; rw [hd])
        | (go_at_call 114; (with_reducible refine (kernels_any _).mono ?_); rintro e w1 ⟨rfl, hb1⟩))
      go_returns
      exact ⟨rfl, hb1⟩
    · have hi := ker_ix1
      have hf := ker_f0
      go_enter Tryz.func281, Tryz.ntmps281
      go_wp2_with (first
        | (go_at_call 329; (with_reducible refine (is_any _ _).mono ?_); rintro e w' ⟨rfl, rfl⟩; rw [hd])
        | (go_at_call 114; (with_reducible refine (kernels_any _).mono ?_); rintro e w1 ⟨rfl, hb1⟩))
      go_returns
      exact ⟨rfl, hb1⟩
    · have hi := ker_ix2
      have hf := ker_f0
      go_enter Tryz.func281, Tryz.ntmps281
      go_wp2_with (first
        | (go_at_call 329; (with_reducible refine (is_any _ _).mono ?_); rintro e w' ⟨rfl, rfl⟩; rw [hd])
        | (go_at_call 114; (with_reducible refine (kernels_any _).mono ?_); rintro e w1 ⟨rfl, hb1⟩))
      go_returns
      exact ⟨rfl, hb1⟩
    · have hi := ker_ix3
      have hf := ker_f0
      go_enter Tryz.func281, Tryz.ntmps281
      go_wp2_with (first
        | (go_at_call 329; (with_reducible refine (is_any _ _).mono ?_); rintro e w' ⟨rfl, rfl⟩; rw [hd])
        | (go_at_call 114; (with_reducible refine (kernels_any _).mono ?_); rintro e w1 ⟨rfl, hb1⟩))
      go_returns
      exact ⟨rfl, hb1⟩
  · have hd : decide (0 ≤ k ∧ k ≤ 3) = false := decide_eq_false h
    have HN : Hid (nameR k = ⟨#[]⟩) := by show _ = _; unfold nameR; rw [if_neg (by omega), if_neg (by omega), if_neg (by omega), if_neg (by omega)]
    clear h
    go_enter Tryz.func281, Tryz.ntmps281
    go_wp2_with (go_at_call 329; (with_reducible refine (is_any _ _).mono ?_); rintro e w' ⟨rfl, rfl⟩; rw [hd])
    go_returns
    exact ⟨by rw [HN.out]; rfl, Below.refl _ _⟩
set_option maxHeartbeats 1000000 in
theorem rname_any (k : Int) (w : World) : Calls Tryz.prog 77 #[.int .i64 k] w fun e w' => e = .returned (.string (nameR k)) ∧ Below w.heap.size w w' := by
  by_cases h0 : 0 ≤ k
  · by_cases h1 : k ≤ 3
    · have h4 : k = 0 ∨ k = 1 ∨ k = 2 ∨ k = 3 := by omega
      clear h0 h1
      rcases h4 with rfl | rfl | rfl | rfl
      all_goals
        go_enter Tryz.func77, Tryz.ntmps77
        go_wp2
        go_returns
        exact ⟨rfl, by go_grown⟩
    · have HN : Hid (nameR k = ⟨#[]⟩) := by show _ = _; unfold nameR; rw [if_neg (by omega), if_neg (by omega), if_neg (by omega), if_neg (by omega)]
      go_enter Tryz.func77, Tryz.ntmps77
      go_wp2
      go_returns
      exact ⟨by rw [HN.out]; rfl, by go_grown⟩
  · have HN : Hid (nameR k = ⟨#[]⟩) := by show _ = _; unfold nameR; rw [if_neg (by omega), if_neg (by omega), if_neg (by omega), if_neg (by omega)]
    go_enter Tryz.func77, Tryz.ntmps77
    go_wp2
    go_returns
    exact ⟨by rw [HN.out]; rfl, by go_grown⟩
end Go.Proofs.YtgohbkkeppknoaaGreatDoor
end
section
set_option linter.unusedVariables false
namespace Go.Proofs.YtgohbkkeppknoaaGreatDoor
open Go.RowKit
def eqS (x s : ByteArray) : Bool := x.toList == s.toList
theorem named1_any (x s : ByteArray) (f h : Value) (b : Nat) (w : World) (hb : b < w.heap.size) (hc : w.cell? ⟨b, 0, none⟩ = some (.string s)) :
    Calls Tryz.prog 116 #[.agg #[.string x, f, h], .pointer (some ⟨b, 0, none⟩)] w fun e w' => e = .returned (.bool (eqS x s)) ∧ Below w.heap.size w w' := by
  go_enter Tryz.func116, Tryz.ntmps116
  go_wp2
  go_returns
  exact ⟨ret_bool rfl, by go_grown⟩
def nmS (k : Nat) : ByteArray := match k with | 0 => sNear | 1 => sLinear | 2 => sCubic | _ => sSuper
def idxR (s : ByteArray) : Int := if eqS sNear s = true then 0 else if eqS sLinear s = true then 1 else if eqS sCubic s = true then 2 else if eqS sSuper s = true then 3 else -1
set_option maxRecDepth 100000 in
set_option maxHeartbeats 4000000 in
theorem index_any (s : ByteArray) (g b : Nat) (w : World) (hb : b < w.heap.size) (hc : w.cell? ⟨b, 0, none⟩ = some (.string s)) (hK : Bk w g 160 kerA) :
    Calls Tryz.prog 115 #[.slice (some ⟨g, 0, none⟩) 4 4, .func (.func 116) #[] #[.pointer (some ⟨b, 0, none⟩)]] w fun e w' => e = .returned (.int .i64 (idxR s)) ∧ Below w.heap.size w w' := by
  go_enter Tryz.func115, Tryz.ntmps115
  go_wp2_with fail
  go_loopw [8] (fun v wr => ∃ k : Nat, k ≤ 4 ∧ v = .int .i64 k ∧ Below w.heap.size w wr ∧ Hid (∀ i, i < k → eqS (nmS i) s = false)) (fun v _ => 4 - (intOf v).toNat)
  case atStart => exact ⟨0, by omega, rfl, Below.refl _ _, by intro i hi; omega⟩
  case round =>
    obtain ⟨k, hk, rfl, hbr, hall⟩ := hrel
    by_cases hlt : k < 4
    · have h4 : k = 0 ∨ k = 1 ∨ k = 2 ∨ k = 3 := by omega
      have hKr := hK.nx hbr
      have hcr := (hbr.cell (p := ⟨b, 0, none⟩) hb).trans hc
      have hbr2 : b < wr.heap.size := Nat.lt_of_lt_of_le hb hbr.size
      have hcl := hKr.cell
      have c0 := hcl 0
      have c1 := hcl 1
      have c2 := hcl 2
      have c3 := hcl 3
      have c4 := hcl 4
      have c5 := hcl 5
      have c6 := hcl 6
      have c7 := hcl 7
      have c8 := hcl 8
      have c9 := hcl 9
      have c10 := hcl 10
      have c11 := hcl 11
      simp at c0 c1 c2 c3 c4 c5 c6 c7 c8 c9 c10 c11
      clear hcl
      rcases h4 with rfl | rfl | rfl | rfl
      · cases he : eqS sNear s
        · go_wp2_with (refine (named1_any sNear s _ _ b _ (by exact hbr2) (by exact hcr)).mono ?_; rintro e w1 ⟨rfl, hb1⟩; rw [he])
          refine ⟨⟨1, by omega, rfl, hbr.trans (hb1.mono hbr.size), ?_⟩, by simp [intOf]⟩
          intro i hi
          by_cases hi2 : i = 0
          · subst hi2; exact he
          · exact hall.out i (by omega)
        · have HR : Hid (idxR s = 0) := by show _ = _; unfold idxR; rw [if_pos he]
          go_wp2_with (refine (named1_any sNear s _ _ b _ (by exact hbr2) (by exact hcr)).mono ?_; rintro e w1 ⟨rfl, hb1⟩; rw [he])
          go_returns
          exact ⟨by rw [HR.out]; rfl, hbr.trans (hb1.mono hbr.size)⟩
      · cases he : eqS sLinear s
        · go_wp2_with (refine (named1_any sLinear s _ _ b _ (by exact hbr2) (by exact hcr)).mono ?_; rintro e w1 ⟨rfl, hb1⟩; rw [he])
          refine ⟨⟨2, by omega, rfl, hbr.trans (hb1.mono hbr.size), ?_⟩, by simp [intOf]⟩
          intro i hi
          by_cases hi2 : i = 1
          · subst hi2; exact he
          · exact hall.out i (by omega)
        · have HR : Hid (idxR s = 1) := by show _ = _; unfold idxR; rw [if_neg (by have := hall.out 0 (by omega); rw [show nmS 0 = sNear from rfl] at this; rw [this]; simp)]; rw [if_pos he]
          go_wp2_with (refine (named1_any sLinear s _ _ b _ (by exact hbr2) (by exact hcr)).mono ?_; rintro e w1 ⟨rfl, hb1⟩; rw [he])
          go_returns
          exact ⟨by rw [HR.out]; rfl, hbr.trans (hb1.mono hbr.size)⟩
      · cases he : eqS sCubic s
        · go_wp2_with (refine (named1_any sCubic s _ _ b _ (by exact hbr2) (by exact hcr)).mono ?_; rintro e w1 ⟨rfl, hb1⟩; rw [he])
          refine ⟨⟨3, by omega, rfl, hbr.trans (hb1.mono hbr.size), ?_⟩, by simp [intOf]⟩
          intro i hi
          by_cases hi2 : i = 2
          · subst hi2; exact he
          · exact hall.out i (by omega)
        · have HR : Hid (idxR s = 2) := by show _ = _; unfold idxR; rw [if_neg (by have := hall.out 0 (by omega); rw [show nmS 0 = sNear from rfl] at this; rw [this]; simp)]; rw [if_neg (by have := hall.out 1 (by omega); rw [show nmS 1 = sLinear from rfl] at this; rw [this]; simp)]; rw [if_pos he]
          go_wp2_with (refine (named1_any sCubic s _ _ b _ (by exact hbr2) (by exact hcr)).mono ?_; rintro e w1 ⟨rfl, hb1⟩; rw [he])
          go_returns
          exact ⟨by rw [HR.out]; rfl, hbr.trans (hb1.mono hbr.size)⟩
      · cases he : eqS sSuper s
        · go_wp2_with (refine (named1_any sSuper s _ _ b _ (by exact hbr2) (by exact hcr)).mono ?_; rintro e w1 ⟨rfl, hb1⟩; rw [he])
          refine ⟨⟨4, by omega, rfl, hbr.trans (hb1.mono hbr.size), ?_⟩, by simp [intOf]⟩
          intro i hi
          by_cases hi2 : i = 3
          · subst hi2; exact he
          · exact hall.out i (by omega)
        · have HR : Hid (idxR s = 3) := by show _ = _; unfold idxR; rw [if_neg (by have := hall.out 0 (by omega); rw [show nmS 0 = sNear from rfl] at this; rw [this]; simp)]; rw [if_neg (by have := hall.out 1 (by omega); rw [show nmS 1 = sLinear from rfl] at this; rw [this]; simp)]; rw [if_neg (by have := hall.out 2 (by omega); rw [show nmS 2 = sCubic from rfl] at this; rw [this]; simp)]; rw [if_pos he]
          go_wp2_with (refine (named1_any sSuper s _ _ b _ (by exact hbr2) (by exact hcr)).mono ?_; rintro e w1 ⟨rfl, hb1⟩; rw [he])
          go_returns
          exact ⟨by rw [HR.out]; rfl, hbr.trans (hb1.mono hbr.size)⟩
    · obtain rfl : k = 4 := by omega
      have HR : Hid (idxR s = -1) := by show _ = _; unfold idxR; rw [if_neg (by have := hall.out 0 (by omega); rw [show nmS 0 = sNear from rfl] at this; rw [this]; simp)]; rw [if_neg (by have := hall.out 1 (by omega); rw [show nmS 1 = sLinear from rfl] at this; rw [this]; simp)]; rw [if_neg (by have := hall.out 2 (by omega); rw [show nmS 2 = sCubic from rfl] at this; rw [this]; simp)]; rw [if_neg (by have := hall.out 3 (by omega); rw [show nmS 3 = sSuper from rfl] at this; rw [this]; simp)]
      go_wp2_with fail
      go_returns
      exact ⟨by rw [HR.out]; rfl, hbr⟩
theorem idxR_bd (s : ByteArray) : -1 ≤ idxR s ∧ idxR s ≤ 3 := by unfold idxR; repeat' split
                                                                 all_goals omega
set_option maxRecDepth 100000 in
set_option maxHeartbeats 4000000 in
theorem named_any (s : ByteArray) (w : World) : Calls Tryz.prog 64 #[.string s] w fun e w' => e = .returned (.tuple #[.int .i64 (max (idxR s) 0), .bool (decide (0 ≤ idxR s))]) ∧ Below w.heap.size w w' := by
  have hbd := idxR_bd s
  have hbz := (Below.refl w.heap.size w).alloc (Nat.le_refl _) (.cells #[.string s] 9)
  have hS := Bk.new w 9 #[.string s]
  go_enter Tryz.func64, Tryz.ntmps64
  go_wp2_with fail
  refine (kernels_any _).mono ?_
  rintro e w1 ⟨rfl, hb1⟩
  replace hbz := hbz.trans (hb1.mono hbz.size)
  replace hS := hS.nx hb1
  clear hb1
  have hK0 := Bk.new w1 160 #[.string ⟨#[]⟩, .nilFunc, .nilFunc, .string ⟨#[]⟩, .nilFunc, .nilFunc, .string ⟨#[]⟩, .nilFunc, .nilFunc, .string ⟨#[]⟩, .nilFunc, .nilFunc]
  have hS0 := hS.alloc (.cells #[.string ⟨#[]⟩, .nilFunc, .nilFunc, .string ⟨#[]⟩, .nilFunc, .nilFunc, .string ⟨#[]⟩, .nilFunc, .nilFunc, .string ⟨#[]⟩, .nilFunc, .nilFunc] 160)
  have hbz0 := hbz.alloc hbz.size (.cells #[.string ⟨#[]⟩, .nilFunc, .nilFunc, .string ⟨#[]⟩, .nilFunc, .nilFunc, .string ⟨#[]⟩, .nilFunc, .nilFunc, .string ⟨#[]⟩, .nilFunc, .nilFunc] 160)
  have hlt := hS.lt
  go_wp2_with (first
    | (refine stB (ty := 160) (cells := kerA) rfl _ _ rfl hK0 rfl rfl ker_size rfl (by simp [Value.oneCell']) ?_; intro w2 hK2 hg2 hs2; have hS2 := hS0.grown hg2 (by intro e; injection e with e; omega); have hbz2 := below_of_gb hbz0 hg2 hbz.size hbz0.size)
    | (go_at_call 115; (with_reducible refine (index_any s _ _ _ (by exact hS2.lt) (by exact hS2.cell1) (by exact hK2)).mono ?_); rintro e w3 ⟨rfl, hb3⟩))
  all_goals
    go_returns
    exact ⟨ret_v2 (val_int (by show _ = max (idxR s) 0; first | (simp; omega) | omega)) rfl, hbz2.trans (hb3.mono hbz2.size)⟩
end Go.Proofs.YtgohbkkeppknoaaGreatDoor
end
