/- Several texts in one: Commands: cmd.Right (printed by wip/tools/gencpn.py). -/
import Derived.Test.YtgohbkkeppknoaaGreatDoorCmdParsesZz27
section
set_option linter.unusedVariables false
namespace Go.Proofs.YtgohbkkeppknoaaGreatDoor
open Go.RowKit
def opI (i : Nat) : Int := [1, 2, 3, 4, 5, 6, 7, 8, 10, 11, 12, 13].getD i 0
def loO (o : Int) : Int := if o = 10 then 1 else 0
def hiO (o : Int) : Int := if o = 3 then 3 else if o = 4 then 3 else if o = 8 then 5 else if o = 10 then 4 else 0
def cntI (i : Nat) (k : Int) : Int := if i = 2 then (if k = 3 then 1 else 0) else if i = 3 then (if k = 0 then 4 else 0) else if i = 7 then (if k = 5 then 1 else 0) else [1, 2, 0, 0, 1, 2, 1, 0, 0, 1, 4, 1].getD i 0
theorem opI_inj {i j : Nat} (hi : i ≤ 12) (hj : j ≤ 12) (h : opI i = opI j) : i = j := by
  have H : ∀ a b : Fin 13, opI a.val = opI b.val → a = b := by decide
  have := H ⟨i, by omega⟩ ⟨j, by omega⟩ h
  exact congrArg Fin.val this
set_option maxRecDepth 100000 in
set_option maxHeartbeats 4000000 in
theorem ckinds_any (s f g : Value) (o : Int) (w : World) : Calls Tryz.prog 41 #[.agg #[s, .int .i64 o, f, g]] w fun e w' => e = .returned (.tuple #[.int .i64 (loO o), .int .i64 (hiO o)]) ∧ Below w.heap.size w w' := by
  have hb := (Below.refl w.heap.size w).alloc (Nat.le_refl _) (.cells #[s, .int .i64 o, f, g] 69)
  have hK := Bk.new w 69 #[s, .int .i64 o, f, g]
  have c1 := (hK.cell 1).trans (show _ = some (.int .i64 o) from rfl)
  clear hK
  by_cases h3 : o = 3
  · subst h3
    go_enter Tryz.func41, Tryz.ntmps41
    go_wp2_with fail
    go_returns
    exact ⟨rfl, hb⟩
  by_cases h4 : o = 4
  · subst h4
    go_enter Tryz.func41, Tryz.ntmps41
    go_wp2_with fail
    go_returns
    exact ⟨rfl, hb⟩
  by_cases h8 : o = 8
  · subst h8
    go_enter Tryz.func41, Tryz.ntmps41
    go_wp2_with fail
    go_returns
    exact ⟨rfl, hb⟩
  by_cases h10 : o = 10
  · subst h10
    go_enter Tryz.func41, Tryz.ntmps41
    go_wp2_with fail
    go_returns
    exact ⟨rfl, hb⟩
  have n3 : (o == 3) = false := beq_eq_false_iff_ne.2 h3
  have n4 : (o == 4) = false := beq_eq_false_iff_ne.2 h4
  have n8 : (o == 8) = false := beq_eq_false_iff_ne.2 h8
  have n10 : (o == 10) = false := beq_eq_false_iff_ne.2 h10
  have HL : Hid (loO o = 0 ∧ hiO o = 0) := by
    show _ ∧ _
    unfold loO hiO
    rw [if_neg h10, if_neg h3, if_neg h4, if_neg h8, if_neg h10]
    exact ⟨rfl, rfl⟩
  clear h3 h4 h8 h10
  go_enter Tryz.func41, Tryz.ntmps41
  go_wp2_with fail
  go_returns
  exact ⟨by rw [HL.out.1, HL.out.2]; rfl, hb⟩
theorem quiet_eqN {P : Program} {f : FuncId} {args : Array Value} {w : World} {d : Nat} {os : Array Obj} {v : Value} (h : Calls P f args (Go.Sort.grow (redrawn w d) os) fun e w' => e = .returned v ∧ Go.Sort.grow (redrawn w d) os = w') :
    Calls P f args (Go.Sort.grow (redrawn w d) os) fun e w'' => e = .returned v ∧ ∃ p : Regrown, w'' = Go.Sort.grow (redrawn w p.d) p.os := h.mono fun e w' h => ⟨h.1, ⟨⟨d, os⟩, h.2.symm⟩⟩
abbrev fmI (op k : Int) (A : Option Addr) (n c g : Nat) (w : World) : List (Nat × TypeId × Array Value) := [(g, 69, foA), (w.heap.size, 26, cmA op k A n c)]
set_option maxRecDepth 100000 in
set_option maxHeartbeats 32000000 in
theorem cright_form (it : Nat) (hit : it ≤ 12) (k : Int) (n : Nat) (hkn : it < 12 → loO (opI it) ≤ k ∧ k ≤ hiO (opI it) ∧ (n : Int) = cntI it k) (A : Option Addr) (c : Nat) (w : World) : Calls Tryz.prog 11 #[.agg (cmA (opI it) k A n c)] w fun e w' => e = .returned (.bool (decide (it < 12))) ∧ Below w.heap.size w w' := by
  obtain ⟨op, hop⟩ : ∃ op, opI it = op := ⟨_, rfl⟩
  have h9 : (op == 9) = false := beq_eq_false_iff_ne.2 (by
    rintro rfl
    have H : ∀ a : Fin 13, opI a.val ≠ 9 := by decide
    exact H ⟨it, by omega⟩ hop)
  rw [hop] at hkn ⊢
  have HOP := Lib.hid hop
  have HKN := Lib.hid hkn
  clear hop hkn
  have hL0 := (Lie.start w).alloc (cmA op k A n c) 26
  have hF := fun w' => forms_any w'
  have k0 : Bk _ w.heap.size 26 (cmA op k A n c) := hL0.k 0 (by simp)
  obtain ⟨c0, c1, c2⟩ := k0.cell3
  go_enter Tryz.func11, Tryz.ntmps11
  go_wp2_with (go_at_call 25; (with_reducible refine (hF _).mono ?_); rintro e w1 ⟨rfl, hL1⟩)
  have kf := hL1.k 0 (by simp)
  have hb1 := hL1.bel
  simp only [World.size_alloc, List.getElem_cons_zero] at kf
  obtain ⟨g, hg⟩ : ∃ g, w.heap.size + 1 = g := ⟨_, rfl⟩
  simp only [hg] at kf ⊢
  have hgw : w.heap.size < g := by omega
  have hL2 : Lie w (fmI op k A n c g w) w1 := ⟨(hL0.nx hb1).bel, fun x hx => by
    rcases List.mem_cons.1 hx with rfl | hx
    · exact kf
    · rcases List.mem_cons.1 hx with rfl | hx
      · exact (hL0.nx hb1).k 0 (by simp)
      · cases hx⟩
  clear hL1 hL0 hb1 k0 kf c0 c1 c2 hF hg
  go_loopw [28] (fun i wr => ∃ j : Nat, j ≤ 12 ∧ i = .int .i64 j ∧ Hid (j ≤ it) ∧ Lie w (fmI op k A n c g w) wr) (fun i _ => 12 - (intOf i).toNat)
  case atStart => exact ⟨0, by omega, rfl, Nat.zero_le _, hL2⟩
  case round =>
    clear hL2
    obtain ⟨j, hj, rfl, HJ, hL⟩ := hrel
    have kf : Bk wr g 69 foA := hL.k 0 (by simp)
    have k0 : Bk wr w.heap.size 26 (cmA op k A n c) := hL.k 1 (by simp)
    have hsz := hL.sz
    have hnew := Bk.new wr 69 #[.string ⟨#[]⟩, .int .i64 0, .nilFunc, .nilFunc]
    have hLn := hL.alloc #[.string ⟨#[]⟩, .int .i64 0, .nilFunc, .nilFunc] 69
    have hgl := kf.lt
    have h0l := k0.lt
    have hne : ∀ x ∈ fmI op k A n c g w, x.1 ≠ wr.heap.size := by simp; omega
    obtain ⟨c0, c1, c2⟩ := k0.cell3
    have hbel := hL.bel
    clear hL
    rcases (show j = 0 ∨ j = 1 ∨ j = 2 ∨ j = 3 ∨ j = 4 ∨ j = 5 ∨ j = 6 ∨ j = 7 ∨ j = 8 ∨ j = 9 ∨ j = 10 ∨ j = 11 ∨ j = 12 by omega) with rfl | rfl | rfl | rfl | rfl | rfl | rfl | rfl | rfl | rfl | rfl | rfl | rfl
    · have e0 := (kf.cell 0).trans (show _ = some (.string (strB [108, 111, 97, 100])) from rfl)
      have e1 := (kf.cell 1).trans (show _ = some (.int .i64 1) from rfl)
      have e2 := (kf.cell 2).trans (show _ = some (.func (.func 62) #[] #[]) from rfl)
      have e3 := (kf.cell 3).trans (show _ = some (.func (.func 63) #[.int .i64 1] #[]) from rfl)
      clear kf k0
      by_cases hij : 0 = it
      · obtain ⟨hn1, hn2, hn3⟩ := HKN.out (by omega)
        obtain rfl : op = 1 := by rw [← HOP.out, ← hij]; rfl
        rw [← hij] at hn3
        have hN : ∀ w', Calls Tryz.prog 63 #[.int .i64 1, .int .i64 k] w' fun e w2 => e = .returned (.int .i64 n) ∧ Below w'.heap.size w' w2 := fun w' => (numof_any 1 k w').mono (fun e w2 h => ⟨by rw [h.1, hn3]; rfl, h.2 ▸ Below.refl _ _⟩)
        have hU := fun w' => ckinds_any (.string (strB [108, 111, 97, 100])) (.func (.func 62) #[] #[]) (.func (.func 63) #[.int .i64 1] #[]) 1 w'
        obtain ⟨lo, hlo⟩ : ∃ lo, loO 1 = lo := ⟨_, rfl⟩
        obtain ⟨hi, hhi⟩ : ∃ hi, hiO 1 = hi := ⟨_, rfl⟩
        rw [hlo] at hn1
        rw [hhi] at hn2
        simp only [hlo, hhi] at hU
        have hR : Hid (decide (it < 12) = true) := decide_eq_true (by omega)
        have g1 : decide (k ≥ lo) = true := decide_eq_true hn1
        clear hij hn3 hlo hhi HOP HKN HJ
        go_upto_region 8 with (first
          | (refine stB (ty := 69) (cells := #[.string (strB [108, 111, 97, 100]), .int .i64 1, .func (.func 62) #[] #[], .func (.func 63) #[.int .i64 1] #[]]) rfl _ _ rfl hnew rfl rfl fo50_size rfl (by simp [Value.oneCell']) ?_; intro w3 hK3 hg3 hs3; have hL3 := hLn.set hg3 hK3 hsz hne; obtain ⟨f0, f1, f2, f3⟩ := hK3.cell4; have k03 : Bk w3 w.heap.size 26 (cmA 1 k A n c) := hL3.k 2 (by simp); obtain ⟨s0, s1, s2⟩ := k03.cell3)
          | (refine ldB rfl _ _ rfl hK3 rfl Tryz.underlying69 rfl fo50_size ?_)
          | (go_at_call 41; (with_reducible refine (hU _).mono ?_); rintro e w4 ⟨rfl, hb4⟩; have hL4 := hL3.nx hb4; have k4 : Bk w4 w.heap.size 26 (cmA 1 k A n c) := hL4.k 2 (by simp); have kn : Bk w4 wr.heap.size 69 #[.string (strB [108, 111, 97, 100]), .int .i64 1, .func (.func 62) #[] #[], .func (.func 63) #[.int .i64 1] #[]] := hL4.k 0 (by simp); obtain ⟨t0, t1, t2⟩ := k4.cell3; obtain ⟨u0, u1, u2, u3⟩ := kn.cell4))
        clear c0 c1 c2 s0 s1 s2 f0 f1 f2 f3 e0 e1 e2 e3 hnew hLn hU
        have v0 := fun (n : Nat) (os : Array Obj) => cell_regrown t0 n os
        have v1 := fun (n : Nat) (os : Array Obj) => cell_regrown t1 n os
        have v2 := fun (n : Nat) (os : Array Obj) => cell_regrown t2 n os
        have v3 := fun (n : Nat) (os : Array Obj) => cell_regrown u3 n os
        refine wp_region_quiet_below (by kernel_rfl) (by kernel_rfl) ?_
        repeat (first
          | go_big_quiet_step (with_reducible exact quiet_below (hN _))
          | quiet_step (with_reducible exact quiet_below (hN _)))
        refine wpQuiet_nil ?_
        intro _ hw'
        obtain ⟨⟨d9, os⟩, hw''⟩ := hw'
        subst hw''
        have hL9 := hL4.nx (below_regrown w4 d9 os)
        generalize Go.Sort.grow (redrawn w4 d9) os = wx at *
        go_wp2_with fail
        go_returns
        exact ⟨by rw [hR.out]; rfl, hL9.bel⟩
      · have hq : ((1 : Int) == op) = false := beq_eq_false_iff_ne.2 (fun e => hij (opI_inj (by omega) hit (show opI 0 = opI it by rw [HOP.out, ← e]; rfl)))
        have HJ2 : Hid (1 ≤ it) := by have h : 0 ≤ it := HJ.out; show _ ≤ _; omega
        clear hij HKN HOP HJ
        go_wp2_with (refine stB (ty := 69) (cells := #[.string (strB [108, 111, 97, 100]), .int .i64 1, .func (.func 62) #[] #[], .func (.func 63) #[.int .i64 1] #[]]) rfl _ _ rfl hnew rfl rfl fo50_size rfl (by simp [Value.oneCell']) ?_; intro w3 hK3 hg3 hs3; have hL3 := hLn.set hg3 hK3 hsz hne; obtain ⟨f0, f1, f2, f3⟩ := hK3.cell4; have k03 : Bk w3 w.heap.size 26 (cmA op k A n c) := hL3.k 2 (by simp); obtain ⟨s0, s1, s2⟩ := k03.cell3)
        exact ⟨⟨1, by omega, by go_num, HJ2, hL3.sub (by simp)⟩, by simp [intOf]⟩
    · have e0 := (kf.cell 4).trans (show _ = some (.string (strB [115, 105, 122, 101])) from rfl)
      have e1 := (kf.cell 5).trans (show _ = some (.int .i64 2) from rfl)
      have e2 := (kf.cell 6).trans (show _ = some (.func (.func 62) #[] #[]) from rfl)
      have e3 := (kf.cell 7).trans (show _ = some (.func (.func 63) #[.int .i64 2] #[]) from rfl)
      clear kf k0
      by_cases hij : 1 = it
      · obtain ⟨hn1, hn2, hn3⟩ := HKN.out (by omega)
        obtain rfl : op = 2 := by rw [← HOP.out, ← hij]; rfl
        rw [← hij] at hn3
        have hN : ∀ w', Calls Tryz.prog 63 #[.int .i64 2, .int .i64 k] w' fun e w2 => e = .returned (.int .i64 n) ∧ Below w'.heap.size w' w2 := fun w' => (numof_any 2 k w').mono (fun e w2 h => ⟨by rw [h.1, hn3]; rfl, h.2 ▸ Below.refl _ _⟩)
        have hU := fun w' => ckinds_any (.string (strB [115, 105, 122, 101])) (.func (.func 62) #[] #[]) (.func (.func 63) #[.int .i64 2] #[]) 2 w'
        obtain ⟨lo, hlo⟩ : ∃ lo, loO 2 = lo := ⟨_, rfl⟩
        obtain ⟨hi, hhi⟩ : ∃ hi, hiO 2 = hi := ⟨_, rfl⟩
        rw [hlo] at hn1
        rw [hhi] at hn2
        simp only [hlo, hhi] at hU
        have hR : Hid (decide (it < 12) = true) := decide_eq_true (by omega)
        have g1 : decide (k ≥ lo) = true := decide_eq_true hn1
        clear hij hn3 hlo hhi HOP HKN HJ
        go_upto_region 8 with (first
          | (refine stB (ty := 69) (cells := #[.string (strB [115, 105, 122, 101]), .int .i64 2, .func (.func 62) #[] #[], .func (.func 63) #[.int .i64 2] #[]]) rfl _ _ rfl hnew rfl rfl fo50_size rfl (by simp [Value.oneCell']) ?_; intro w3 hK3 hg3 hs3; have hL3 := hLn.set hg3 hK3 hsz hne; obtain ⟨f0, f1, f2, f3⟩ := hK3.cell4; have k03 : Bk w3 w.heap.size 26 (cmA 2 k A n c) := hL3.k 2 (by simp); obtain ⟨s0, s1, s2⟩ := k03.cell3)
          | (refine ldB rfl _ _ rfl hK3 rfl Tryz.underlying69 rfl fo50_size ?_)
          | (go_at_call 41; (with_reducible refine (hU _).mono ?_); rintro e w4 ⟨rfl, hb4⟩; have hL4 := hL3.nx hb4; have k4 : Bk w4 w.heap.size 26 (cmA 2 k A n c) := hL4.k 2 (by simp); have kn : Bk w4 wr.heap.size 69 #[.string (strB [115, 105, 122, 101]), .int .i64 2, .func (.func 62) #[] #[], .func (.func 63) #[.int .i64 2] #[]] := hL4.k 0 (by simp); obtain ⟨t0, t1, t2⟩ := k4.cell3; obtain ⟨u0, u1, u2, u3⟩ := kn.cell4))
        clear c0 c1 c2 s0 s1 s2 f0 f1 f2 f3 e0 e1 e2 e3 hnew hLn hU
        have v0 := fun (n : Nat) (os : Array Obj) => cell_regrown t0 n os
        have v1 := fun (n : Nat) (os : Array Obj) => cell_regrown t1 n os
        have v2 := fun (n : Nat) (os : Array Obj) => cell_regrown t2 n os
        have v3 := fun (n : Nat) (os : Array Obj) => cell_regrown u3 n os
        refine wp_region_quiet_below (by kernel_rfl) (by kernel_rfl) ?_
        repeat (first
          | go_big_quiet_step (with_reducible exact quiet_below (hN _))
          | quiet_step (with_reducible exact quiet_below (hN _)))
        refine wpQuiet_nil ?_
        intro _ hw'
        obtain ⟨⟨d9, os⟩, hw''⟩ := hw'
        subst hw''
        have hL9 := hL4.nx (below_regrown w4 d9 os)
        generalize Go.Sort.grow (redrawn w4 d9) os = wx at *
        go_wp2_with fail
        go_returns
        exact ⟨by rw [hR.out]; rfl, hL9.bel⟩
      · have hq : ((2 : Int) == op) = false := beq_eq_false_iff_ne.2 (fun e => hij (opI_inj (by omega) hit (show opI 1 = opI it by rw [HOP.out, ← e]; rfl)))
        have HJ2 : Hid (2 ≤ it) := by have h : 1 ≤ it := HJ.out; show _ ≤ _; omega
        clear hij HKN HOP HJ
        go_wp2_with (refine stB (ty := 69) (cells := #[.string (strB [115, 105, 122, 101]), .int .i64 2, .func (.func 62) #[] #[], .func (.func 63) #[.int .i64 2] #[]]) rfl _ _ rfl hnew rfl rfl fo50_size rfl (by simp [Value.oneCell']) ?_; intro w3 hK3 hg3 hs3; have hL3 := hLn.set hg3 hK3 hsz hne; obtain ⟨f0, f1, f2, f3⟩ := hK3.cell4; have k03 : Bk w3 w.heap.size 26 (cmA op k A n c) := hL3.k 2 (by simp); obtain ⟨s0, s1, s2⟩ := k03.cell3)
        exact ⟨⟨2, by omega, by go_num, HJ2, hL3.sub (by simp)⟩, by simp [intOf]⟩
    · have e0 := (kf.cell 8).trans (show _ = some (.string (strB [107, 101, 114, 110, 101, 108])) from rfl)
      have e1 := (kf.cell 9).trans (show _ = some (.int .i64 3) from rfl)
      have e2 := (kf.cell 10).trans (show _ = some (.func (.func 64) #[] #[]) from rfl)
      have e3 := (kf.cell 11).trans (show _ = some (.func (.func 65) #[.agg #[.int .i64 3, .int .i64 1]] #[]) from rfl)
      clear kf k0
      by_cases hij : 2 = it
      · obtain ⟨hn1, hn2, hn3⟩ := HKN.out (by omega)
        obtain rfl : op = 3 := by rw [← HOP.out, ← hij]; rfl
        rw [← hij] at hn3
        have hN : ∀ w', Calls Tryz.prog 65 #[.agg #[.int .i64 3, .int .i64 1], .int .i64 k] w' fun e w2 => e = .returned (.int .i64 n) ∧ Below w'.heap.size w' w2 := fun w' => (rich_any 3 1 k w').mono (fun e w2 h => ⟨by rw [h.1, hn3]; rfl, h.2⟩)
        have hU := fun w' => ckinds_any (.string (strB [107, 101, 114, 110, 101, 108])) (.func (.func 64) #[] #[]) (.func (.func 65) #[.agg #[.int .i64 3, .int .i64 1]] #[]) 3 w'
        obtain ⟨lo, hlo⟩ : ∃ lo, loO 3 = lo := ⟨_, rfl⟩
        obtain ⟨hi, hhi⟩ : ∃ hi, hiO 3 = hi := ⟨_, rfl⟩
        rw [hlo] at hn1
        rw [hhi] at hn2
        simp only [hlo, hhi] at hU
        have hR : Hid (decide (it < 12) = true) := decide_eq_true (by omega)
        have g1 : decide (k ≥ lo) = true := decide_eq_true hn1
        clear hij hn3 hlo hhi HOP HKN HJ
        go_upto_region 8 with (first
          | (refine stB (ty := 69) (cells := #[.string (strB [107, 101, 114, 110, 101, 108]), .int .i64 3, .func (.func 64) #[] #[], .func (.func 65) #[.agg #[.int .i64 3, .int .i64 1]] #[]]) rfl _ _ rfl hnew rfl rfl fo50_size rfl (by simp [Value.oneCell']) ?_; intro w3 hK3 hg3 hs3; have hL3 := hLn.set hg3 hK3 hsz hne; obtain ⟨f0, f1, f2, f3⟩ := hK3.cell4; have k03 : Bk w3 w.heap.size 26 (cmA 3 k A n c) := hL3.k 2 (by simp); obtain ⟨s0, s1, s2⟩ := k03.cell3)
          | (refine ldB rfl _ _ rfl hK3 rfl Tryz.underlying69 rfl fo50_size ?_)
          | (go_at_call 41; (with_reducible refine (hU _).mono ?_); rintro e w4 ⟨rfl, hb4⟩; have hL4 := hL3.nx hb4; have k4 : Bk w4 w.heap.size 26 (cmA 3 k A n c) := hL4.k 2 (by simp); have kn : Bk w4 wr.heap.size 69 #[.string (strB [107, 101, 114, 110, 101, 108]), .int .i64 3, .func (.func 64) #[] #[], .func (.func 65) #[.agg #[.int .i64 3, .int .i64 1]] #[]] := hL4.k 0 (by simp); obtain ⟨t0, t1, t2⟩ := k4.cell3; obtain ⟨u0, u1, u2, u3⟩ := kn.cell4))
        clear c0 c1 c2 s0 s1 s2 f0 f1 f2 f3 e0 e1 e2 e3 hnew hLn hU
        have v0 := fun (n : Nat) (os : Array Obj) => cell_regrown t0 n os
        have v1 := fun (n : Nat) (os : Array Obj) => cell_regrown t1 n os
        have v2 := fun (n : Nat) (os : Array Obj) => cell_regrown t2 n os
        have v3 := fun (n : Nat) (os : Array Obj) => cell_regrown u3 n os
        refine wp_region_quiet_below (by kernel_rfl) (by kernel_rfl) ?_
        repeat (first
          | go_big_quiet_step (with_reducible exact quiet_below (hN _))
          | quiet_step (with_reducible exact quiet_below (hN _)))
        refine wpQuiet_nil ?_
        intro _ hw'
        obtain ⟨⟨d9, os⟩, hw''⟩ := hw'
        subst hw''
        have hL9 := hL4.nx (below_regrown w4 d9 os)
        generalize Go.Sort.grow (redrawn w4 d9) os = wx at *
        go_wp2_with fail
        go_returns
        exact ⟨by rw [hR.out]; rfl, hL9.bel⟩
      · have hq : ((3 : Int) == op) = false := beq_eq_false_iff_ne.2 (fun e => hij (opI_inj (by omega) hit (show opI 2 = opI it by rw [HOP.out, ← e]; rfl)))
        have HJ2 : Hid (3 ≤ it) := by have h : 2 ≤ it := HJ.out; show _ ≤ _; omega
        clear hij HKN HOP HJ
        go_wp2_with (refine stB (ty := 69) (cells := #[.string (strB [107, 101, 114, 110, 101, 108]), .int .i64 3, .func (.func 64) #[] #[], .func (.func 65) #[.agg #[.int .i64 3, .int .i64 1]] #[]]) rfl _ _ rfl hnew rfl rfl fo50_size rfl (by simp [Value.oneCell']) ?_; intro w3 hK3 hg3 hs3; have hL3 := hLn.set hg3 hK3 hsz hne; obtain ⟨f0, f1, f2, f3⟩ := hK3.cell4; have k03 : Bk w3 w.heap.size 26 (cmA op k A n c) := hL3.k 2 (by simp); obtain ⟨s0, s1, s2⟩ := k03.cell3)
        exact ⟨⟨3, by omega, by go_num, HJ2, hL3.sub (by simp)⟩, by simp [intOf]⟩
    · have e0 := (kf.cell 12).trans (show _ = some (.string (strB [98, 111, 114, 100, 101, 114])) from rfl)
      have e1 := (kf.cell 13).trans (show _ = some (.int .i64 4) from rfl)
      have e2 := (kf.cell 14).trans (show _ = some (.func (.func 66) #[] #[]) from rfl)
      have e3 := (kf.cell 15).trans (show _ = some (.func (.func 65) #[.agg #[.int .i64 0, .int .i64 4]] #[]) from rfl)
      clear kf k0
      by_cases hij : 3 = it
      · obtain ⟨hn1, hn2, hn3⟩ := HKN.out (by omega)
        obtain rfl : op = 4 := by rw [← HOP.out, ← hij]; rfl
        rw [← hij] at hn3
        have hN : ∀ w', Calls Tryz.prog 65 #[.agg #[.int .i64 0, .int .i64 4], .int .i64 k] w' fun e w2 => e = .returned (.int .i64 n) ∧ Below w'.heap.size w' w2 := fun w' => (rich_any 0 4 k w').mono (fun e w2 h => ⟨by rw [h.1, hn3]; rfl, h.2⟩)
        have hU := fun w' => ckinds_any (.string (strB [98, 111, 114, 100, 101, 114])) (.func (.func 66) #[] #[]) (.func (.func 65) #[.agg #[.int .i64 0, .int .i64 4]] #[]) 4 w'
        obtain ⟨lo, hlo⟩ : ∃ lo, loO 4 = lo := ⟨_, rfl⟩
        obtain ⟨hi, hhi⟩ : ∃ hi, hiO 4 = hi := ⟨_, rfl⟩
        rw [hlo] at hn1
        rw [hhi] at hn2
        simp only [hlo, hhi] at hU
        have hR : Hid (decide (it < 12) = true) := decide_eq_true (by omega)
        have g1 : decide (k ≥ lo) = true := decide_eq_true hn1
        clear hij hn3 hlo hhi HOP HKN HJ
        go_upto_region 8 with (first
          | (refine stB (ty := 69) (cells := #[.string (strB [98, 111, 114, 100, 101, 114]), .int .i64 4, .func (.func 66) #[] #[], .func (.func 65) #[.agg #[.int .i64 0, .int .i64 4]] #[]]) rfl _ _ rfl hnew rfl rfl fo50_size rfl (by simp [Value.oneCell']) ?_; intro w3 hK3 hg3 hs3; have hL3 := hLn.set hg3 hK3 hsz hne; obtain ⟨f0, f1, f2, f3⟩ := hK3.cell4; have k03 : Bk w3 w.heap.size 26 (cmA 4 k A n c) := hL3.k 2 (by simp); obtain ⟨s0, s1, s2⟩ := k03.cell3)
          | (refine ldB rfl _ _ rfl hK3 rfl Tryz.underlying69 rfl fo50_size ?_)
          | (go_at_call 41; (with_reducible refine (hU _).mono ?_); rintro e w4 ⟨rfl, hb4⟩; have hL4 := hL3.nx hb4; have k4 : Bk w4 w.heap.size 26 (cmA 4 k A n c) := hL4.k 2 (by simp); have kn : Bk w4 wr.heap.size 69 #[.string (strB [98, 111, 114, 100, 101, 114]), .int .i64 4, .func (.func 66) #[] #[], .func (.func 65) #[.agg #[.int .i64 0, .int .i64 4]] #[]] := hL4.k 0 (by simp); obtain ⟨t0, t1, t2⟩ := k4.cell3; obtain ⟨u0, u1, u2, u3⟩ := kn.cell4))
        clear c0 c1 c2 s0 s1 s2 f0 f1 f2 f3 e0 e1 e2 e3 hnew hLn hU
        have v0 := fun (n : Nat) (os : Array Obj) => cell_regrown t0 n os
        have v1 := fun (n : Nat) (os : Array Obj) => cell_regrown t1 n os
        have v2 := fun (n : Nat) (os : Array Obj) => cell_regrown t2 n os
        have v3 := fun (n : Nat) (os : Array Obj) => cell_regrown u3 n os
        refine wp_region_quiet_below (by kernel_rfl) (by kernel_rfl) ?_
        repeat (first
          | go_big_quiet_step (with_reducible exact quiet_below (hN _))
          | quiet_step (with_reducible exact quiet_below (hN _)))
        refine wpQuiet_nil ?_
        intro _ hw'
        obtain ⟨⟨d9, os⟩, hw''⟩ := hw'
        subst hw''
        have hL9 := hL4.nx (below_regrown w4 d9 os)
        generalize Go.Sort.grow (redrawn w4 d9) os = wx at *
        go_wp2_with fail
        go_returns
        exact ⟨by rw [hR.out]; rfl, hL9.bel⟩
      · have hq : ((4 : Int) == op) = false := beq_eq_false_iff_ne.2 (fun e => hij (opI_inj (by omega) hit (show opI 3 = opI it by rw [HOP.out, ← e]; rfl)))
        have HJ2 : Hid (4 ≤ it) := by have h : 3 ≤ it := HJ.out; show _ ≤ _; omega
        clear hij HKN HOP HJ
        go_wp2_with (refine stB (ty := 69) (cells := #[.string (strB [98, 111, 114, 100, 101, 114]), .int .i64 4, .func (.func 66) #[] #[], .func (.func 65) #[.agg #[.int .i64 0, .int .i64 4]] #[]]) rfl _ _ rfl hnew rfl rfl fo50_size rfl (by simp [Value.oneCell']) ?_; intro w3 hK3 hg3 hs3; have hL3 := hLn.set hg3 hK3 hsz hne; obtain ⟨f0, f1, f2, f3⟩ := hK3.cell4; have k03 : Bk w3 w.heap.size 26 (cmA op k A n c) := hL3.k 2 (by simp); obtain ⟨s0, s1, s2⟩ := k03.cell3)
        exact ⟨⟨4, by omega, by go_num, HJ2, hL3.sub (by simp)⟩, by simp [intOf]⟩
    · have e0 := (kf.cell 16).trans (show _ = some (.string (strB [109, 105, 112, 115])) from rfl)
      have e1 := (kf.cell 17).trans (show _ = some (.int .i64 5) from rfl)
      have e2 := (kf.cell 18).trans (show _ = some (.func (.func 62) #[] #[]) from rfl)
      have e3 := (kf.cell 19).trans (show _ = some (.func (.func 63) #[.int .i64 1] #[]) from rfl)
      clear kf k0
      by_cases hij : 4 = it
      · obtain ⟨hn1, hn2, hn3⟩ := HKN.out (by omega)
        obtain rfl : op = 5 := by rw [← HOP.out, ← hij]; rfl
        rw [← hij] at hn3
        have hN : ∀ w', Calls Tryz.prog 63 #[.int .i64 1, .int .i64 k] w' fun e w2 => e = .returned (.int .i64 n) ∧ Below w'.heap.size w' w2 := fun w' => (numof_any 1 k w').mono (fun e w2 h => ⟨by rw [h.1, hn3]; rfl, h.2 ▸ Below.refl _ _⟩)
        have hU := fun w' => ckinds_any (.string (strB [109, 105, 112, 115])) (.func (.func 62) #[] #[]) (.func (.func 63) #[.int .i64 1] #[]) 5 w'
        obtain ⟨lo, hlo⟩ : ∃ lo, loO 5 = lo := ⟨_, rfl⟩
        obtain ⟨hi, hhi⟩ : ∃ hi, hiO 5 = hi := ⟨_, rfl⟩
        rw [hlo] at hn1
        rw [hhi] at hn2
        simp only [hlo, hhi] at hU
        have hR : Hid (decide (it < 12) = true) := decide_eq_true (by omega)
        have g1 : decide (k ≥ lo) = true := decide_eq_true hn1
        clear hij hn3 hlo hhi HOP HKN HJ
        go_upto_region 8 with (first
          | (refine stB (ty := 69) (cells := #[.string (strB [109, 105, 112, 115]), .int .i64 5, .func (.func 62) #[] #[], .func (.func 63) #[.int .i64 1] #[]]) rfl _ _ rfl hnew rfl rfl fo50_size rfl (by simp [Value.oneCell']) ?_; intro w3 hK3 hg3 hs3; have hL3 := hLn.set hg3 hK3 hsz hne; obtain ⟨f0, f1, f2, f3⟩ := hK3.cell4; have k03 : Bk w3 w.heap.size 26 (cmA 5 k A n c) := hL3.k 2 (by simp); obtain ⟨s0, s1, s2⟩ := k03.cell3)
          | (refine ldB rfl _ _ rfl hK3 rfl Tryz.underlying69 rfl fo50_size ?_)
          | (go_at_call 41; (with_reducible refine (hU _).mono ?_); rintro e w4 ⟨rfl, hb4⟩; have hL4 := hL3.nx hb4; have k4 : Bk w4 w.heap.size 26 (cmA 5 k A n c) := hL4.k 2 (by simp); have kn : Bk w4 wr.heap.size 69 #[.string (strB [109, 105, 112, 115]), .int .i64 5, .func (.func 62) #[] #[], .func (.func 63) #[.int .i64 1] #[]] := hL4.k 0 (by simp); obtain ⟨t0, t1, t2⟩ := k4.cell3; obtain ⟨u0, u1, u2, u3⟩ := kn.cell4))
        clear c0 c1 c2 s0 s1 s2 f0 f1 f2 f3 e0 e1 e2 e3 hnew hLn hU
        have v0 := fun (n : Nat) (os : Array Obj) => cell_regrown t0 n os
        have v1 := fun (n : Nat) (os : Array Obj) => cell_regrown t1 n os
        have v2 := fun (n : Nat) (os : Array Obj) => cell_regrown t2 n os
        have v3 := fun (n : Nat) (os : Array Obj) => cell_regrown u3 n os
        refine wp_region_quiet_below (by kernel_rfl) (by kernel_rfl) ?_
        repeat (first
          | go_big_quiet_step (with_reducible exact quiet_below (hN _))
          | quiet_step (with_reducible exact quiet_below (hN _)))
        refine wpQuiet_nil ?_
        intro _ hw'
        obtain ⟨⟨d9, os⟩, hw''⟩ := hw'
        subst hw''
        have hL9 := hL4.nx (below_regrown w4 d9 os)
        generalize Go.Sort.grow (redrawn w4 d9) os = wx at *
        go_wp2_with fail
        go_returns
        exact ⟨by rw [hR.out]; rfl, hL9.bel⟩
      · have hq : ((5 : Int) == op) = false := beq_eq_false_iff_ne.2 (fun e => hij (opI_inj (by omega) hit (show opI 4 = opI it by rw [HOP.out, ← e]; rfl)))
        have HJ2 : Hid (5 ≤ it) := by have h : 4 ≤ it := HJ.out; show _ ≤ _; omega
        clear hij HKN HOP HJ
        go_wp2_with (refine stB (ty := 69) (cells := #[.string (strB [109, 105, 112, 115]), .int .i64 5, .func (.func 62) #[] #[], .func (.func 63) #[.int .i64 1] #[]]) rfl _ _ rfl hnew rfl rfl fo50_size rfl (by simp [Value.oneCell']) ?_; intro w3 hK3 hg3 hs3; have hL3 := hLn.set hg3 hK3 hsz hne; obtain ⟨f0, f1, f2, f3⟩ := hK3.cell4; have k03 : Bk w3 w.heap.size 26 (cmA op k A n c) := hL3.k 2 (by simp); obtain ⟨s0, s1, s2⟩ := k03.cell3)
        exact ⟨⟨5, by omega, by go_num, HJ2, hL3.sub (by simp)⟩, by simp [intOf]⟩
    · have e0 := (kf.cell 20).trans (show _ = some (.string (strB [116, 105, 108, 101])) from rfl)
      have e1 := (kf.cell 21).trans (show _ = some (.int .i64 6) from rfl)
      have e2 := (kf.cell 22).trans (show _ = some (.func (.func 62) #[] #[]) from rfl)
      have e3 := (kf.cell 23).trans (show _ = some (.func (.func 63) #[.int .i64 2] #[]) from rfl)
      clear kf k0
      by_cases hij : 5 = it
      · obtain ⟨hn1, hn2, hn3⟩ := HKN.out (by omega)
        obtain rfl : op = 6 := by rw [← HOP.out, ← hij]; rfl
        rw [← hij] at hn3
        have hN : ∀ w', Calls Tryz.prog 63 #[.int .i64 2, .int .i64 k] w' fun e w2 => e = .returned (.int .i64 n) ∧ Below w'.heap.size w' w2 := fun w' => (numof_any 2 k w').mono (fun e w2 h => ⟨by rw [h.1, hn3]; rfl, h.2 ▸ Below.refl _ _⟩)
        have hU := fun w' => ckinds_any (.string (strB [116, 105, 108, 101])) (.func (.func 62) #[] #[]) (.func (.func 63) #[.int .i64 2] #[]) 6 w'
        obtain ⟨lo, hlo⟩ : ∃ lo, loO 6 = lo := ⟨_, rfl⟩
        obtain ⟨hi, hhi⟩ : ∃ hi, hiO 6 = hi := ⟨_, rfl⟩
        rw [hlo] at hn1
        rw [hhi] at hn2
        simp only [hlo, hhi] at hU
        have hR : Hid (decide (it < 12) = true) := decide_eq_true (by omega)
        have g1 : decide (k ≥ lo) = true := decide_eq_true hn1
        clear hij hn3 hlo hhi HOP HKN HJ
        go_upto_region 8 with (first
          | (refine stB (ty := 69) (cells := #[.string (strB [116, 105, 108, 101]), .int .i64 6, .func (.func 62) #[] #[], .func (.func 63) #[.int .i64 2] #[]]) rfl _ _ rfl hnew rfl rfl fo50_size rfl (by simp [Value.oneCell']) ?_; intro w3 hK3 hg3 hs3; have hL3 := hLn.set hg3 hK3 hsz hne; obtain ⟨f0, f1, f2, f3⟩ := hK3.cell4; have k03 : Bk w3 w.heap.size 26 (cmA 6 k A n c) := hL3.k 2 (by simp); obtain ⟨s0, s1, s2⟩ := k03.cell3)
          | (refine ldB rfl _ _ rfl hK3 rfl Tryz.underlying69 rfl fo50_size ?_)
          | (go_at_call 41; (with_reducible refine (hU _).mono ?_); rintro e w4 ⟨rfl, hb4⟩; have hL4 := hL3.nx hb4; have k4 : Bk w4 w.heap.size 26 (cmA 6 k A n c) := hL4.k 2 (by simp); have kn : Bk w4 wr.heap.size 69 #[.string (strB [116, 105, 108, 101]), .int .i64 6, .func (.func 62) #[] #[], .func (.func 63) #[.int .i64 2] #[]] := hL4.k 0 (by simp); obtain ⟨t0, t1, t2⟩ := k4.cell3; obtain ⟨u0, u1, u2, u3⟩ := kn.cell4))
        clear c0 c1 c2 s0 s1 s2 f0 f1 f2 f3 e0 e1 e2 e3 hnew hLn hU
        have v0 := fun (n : Nat) (os : Array Obj) => cell_regrown t0 n os
        have v1 := fun (n : Nat) (os : Array Obj) => cell_regrown t1 n os
        have v2 := fun (n : Nat) (os : Array Obj) => cell_regrown t2 n os
        have v3 := fun (n : Nat) (os : Array Obj) => cell_regrown u3 n os
        refine wp_region_quiet_below (by kernel_rfl) (by kernel_rfl) ?_
        repeat (first
          | go_big_quiet_step (with_reducible exact quiet_below (hN _))
          | quiet_step (with_reducible exact quiet_below (hN _)))
        refine wpQuiet_nil ?_
        intro _ hw'
        obtain ⟨⟨d9, os⟩, hw''⟩ := hw'
        subst hw''
        have hL9 := hL4.nx (below_regrown w4 d9 os)
        generalize Go.Sort.grow (redrawn w4 d9) os = wx at *
        go_wp2_with fail
        go_returns
        exact ⟨by rw [hR.out]; rfl, hL9.bel⟩
      · have hq : ((6 : Int) == op) = false := beq_eq_false_iff_ne.2 (fun e => hij (opI_inj (by omega) hit (show opI 5 = opI it by rw [HOP.out, ← e]; rfl)))
        have HJ2 : Hid (6 ≤ it) := by have h : 5 ≤ it := HJ.out; show _ ≤ _; omega
        clear hij HKN HOP HJ
        go_wp2_with (refine stB (ty := 69) (cells := #[.string (strB [116, 105, 108, 101]), .int .i64 6, .func (.func 62) #[] #[], .func (.func 63) #[.int .i64 2] #[]]) rfl _ _ rfl hnew rfl rfl fo50_size rfl (by simp [Value.oneCell']) ?_; intro w3 hK3 hg3 hs3; have hL3 := hLn.set hg3 hK3 hsz hne; obtain ⟨f0, f1, f2, f3⟩ := hK3.cell4; have k03 : Bk w3 w.heap.size 26 (cmA op k A n c) := hL3.k 2 (by simp); obtain ⟨s0, s1, s2⟩ := k03.cell3)
        exact ⟨⟨6, by omega, by go_num, HJ2, hL3.sub (by simp)⟩, by simp [intOf]⟩
    · have e0 := (kf.cell 24).trans (show _ = some (.string (strB [99, 97, 99, 104, 101])) from rfl)
      have e1 := (kf.cell 25).trans (show _ = some (.int .i64 7) from rfl)
      have e2 := (kf.cell 26).trans (show _ = some (.func (.func 62) #[] #[]) from rfl)
      have e3 := (kf.cell 27).trans (show _ = some (.func (.func 63) #[.int .i64 1] #[]) from rfl)
      clear kf k0
      by_cases hij : 6 = it
      · obtain ⟨hn1, hn2, hn3⟩ := HKN.out (by omega)
        obtain rfl : op = 7 := by rw [← HOP.out, ← hij]; rfl
        rw [← hij] at hn3
        have hN : ∀ w', Calls Tryz.prog 63 #[.int .i64 1, .int .i64 k] w' fun e w2 => e = .returned (.int .i64 n) ∧ Below w'.heap.size w' w2 := fun w' => (numof_any 1 k w').mono (fun e w2 h => ⟨by rw [h.1, hn3]; rfl, h.2 ▸ Below.refl _ _⟩)
        have hU := fun w' => ckinds_any (.string (strB [99, 97, 99, 104, 101])) (.func (.func 62) #[] #[]) (.func (.func 63) #[.int .i64 1] #[]) 7 w'
        obtain ⟨lo, hlo⟩ : ∃ lo, loO 7 = lo := ⟨_, rfl⟩
        obtain ⟨hi, hhi⟩ : ∃ hi, hiO 7 = hi := ⟨_, rfl⟩
        rw [hlo] at hn1
        rw [hhi] at hn2
        simp only [hlo, hhi] at hU
        have hR : Hid (decide (it < 12) = true) := decide_eq_true (by omega)
        have g1 : decide (k ≥ lo) = true := decide_eq_true hn1
        clear hij hn3 hlo hhi HOP HKN HJ
        go_upto_region 8 with (first
          | (refine stB (ty := 69) (cells := #[.string (strB [99, 97, 99, 104, 101]), .int .i64 7, .func (.func 62) #[] #[], .func (.func 63) #[.int .i64 1] #[]]) rfl _ _ rfl hnew rfl rfl fo50_size rfl (by simp [Value.oneCell']) ?_; intro w3 hK3 hg3 hs3; have hL3 := hLn.set hg3 hK3 hsz hne; obtain ⟨f0, f1, f2, f3⟩ := hK3.cell4; have k03 : Bk w3 w.heap.size 26 (cmA 7 k A n c) := hL3.k 2 (by simp); obtain ⟨s0, s1, s2⟩ := k03.cell3)
          | (refine ldB rfl _ _ rfl hK3 rfl Tryz.underlying69 rfl fo50_size ?_)
          | (go_at_call 41; (with_reducible refine (hU _).mono ?_); rintro e w4 ⟨rfl, hb4⟩; have hL4 := hL3.nx hb4; have k4 : Bk w4 w.heap.size 26 (cmA 7 k A n c) := hL4.k 2 (by simp); have kn : Bk w4 wr.heap.size 69 #[.string (strB [99, 97, 99, 104, 101]), .int .i64 7, .func (.func 62) #[] #[], .func (.func 63) #[.int .i64 1] #[]] := hL4.k 0 (by simp); obtain ⟨t0, t1, t2⟩ := k4.cell3; obtain ⟨u0, u1, u2, u3⟩ := kn.cell4))
        clear c0 c1 c2 s0 s1 s2 f0 f1 f2 f3 e0 e1 e2 e3 hnew hLn hU
        have v0 := fun (n : Nat) (os : Array Obj) => cell_regrown t0 n os
        have v1 := fun (n : Nat) (os : Array Obj) => cell_regrown t1 n os
        have v2 := fun (n : Nat) (os : Array Obj) => cell_regrown t2 n os
        have v3 := fun (n : Nat) (os : Array Obj) => cell_regrown u3 n os
        refine wp_region_quiet_below (by kernel_rfl) (by kernel_rfl) ?_
        repeat (first
          | go_big_quiet_step (with_reducible exact quiet_below (hN _))
          | quiet_step (with_reducible exact quiet_below (hN _)))
        refine wpQuiet_nil ?_
        intro _ hw'
        obtain ⟨⟨d9, os⟩, hw''⟩ := hw'
        subst hw''
        have hL9 := hL4.nx (below_regrown w4 d9 os)
        generalize Go.Sort.grow (redrawn w4 d9) os = wx at *
        go_wp2_with fail
        go_returns
        exact ⟨by rw [hR.out]; rfl, hL9.bel⟩
      · have hq : ((7 : Int) == op) = false := beq_eq_false_iff_ne.2 (fun e => hij (opI_inj (by omega) hit (show opI 6 = opI it by rw [HOP.out, ← e]; rfl)))
        have HJ2 : Hid (7 ≤ it) := by have h : 6 ≤ it := HJ.out; show _ ≤ _; omega
        clear hij HKN HOP HJ
        go_wp2_with (refine stB (ty := 69) (cells := #[.string (strB [99, 97, 99, 104, 101]), .int .i64 7, .func (.func 62) #[] #[], .func (.func 63) #[.int .i64 1] #[]]) rfl _ _ rfl hnew rfl rfl fo50_size rfl (by simp [Value.oneCell']) ?_; intro w3 hK3 hg3 hs3; have hL3 := hLn.set hg3 hK3 hsz hne; obtain ⟨f0, f1, f2, f3⟩ := hK3.cell4; have k03 : Bk w3 w.heap.size 26 (cmA op k A n c) := hL3.k 2 (by simp); obtain ⟨s0, s1, s2⟩ := k03.cell3)
        exact ⟨⟨7, by omega, by go_num, HJ2, hL3.sub (by simp)⟩, by simp [intOf]⟩
    · have e0 := (kf.cell 28).trans (show _ = some (.string (strB [111, 114, 100, 101, 114])) from rfl)
      have e1 := (kf.cell 29).trans (show _ = some (.int .i64 8) from rfl)
      have e2 := (kf.cell 30).trans (show _ = some (.func (.func 67) #[] #[]) from rfl)
      have e3 := (kf.cell 31).trans (show _ = some (.func (.func 65) #[.agg #[.int .i64 5, .int .i64 1]] #[]) from rfl)
      clear kf k0
      by_cases hij : 7 = it
      · obtain ⟨hn1, hn2, hn3⟩ := HKN.out (by omega)
        obtain rfl : op = 8 := by rw [← HOP.out, ← hij]; rfl
        rw [← hij] at hn3
        have hN : ∀ w', Calls Tryz.prog 65 #[.agg #[.int .i64 5, .int .i64 1], .int .i64 k] w' fun e w2 => e = .returned (.int .i64 n) ∧ Below w'.heap.size w' w2 := fun w' => (rich_any 5 1 k w').mono (fun e w2 h => ⟨by rw [h.1, hn3]; rfl, h.2⟩)
        have hU := fun w' => ckinds_any (.string (strB [111, 114, 100, 101, 114])) (.func (.func 67) #[] #[]) (.func (.func 65) #[.agg #[.int .i64 5, .int .i64 1]] #[]) 8 w'
        obtain ⟨lo, hlo⟩ : ∃ lo, loO 8 = lo := ⟨_, rfl⟩
        obtain ⟨hi, hhi⟩ : ∃ hi, hiO 8 = hi := ⟨_, rfl⟩
        rw [hlo] at hn1
        rw [hhi] at hn2
        simp only [hlo, hhi] at hU
        have hR : Hid (decide (it < 12) = true) := decide_eq_true (by omega)
        have g1 : decide (k ≥ lo) = true := decide_eq_true hn1
        clear hij hn3 hlo hhi HOP HKN HJ
        go_upto_region 8 with (first
          | (refine stB (ty := 69) (cells := #[.string (strB [111, 114, 100, 101, 114]), .int .i64 8, .func (.func 67) #[] #[], .func (.func 65) #[.agg #[.int .i64 5, .int .i64 1]] #[]]) rfl _ _ rfl hnew rfl rfl fo50_size rfl (by simp [Value.oneCell']) ?_; intro w3 hK3 hg3 hs3; have hL3 := hLn.set hg3 hK3 hsz hne; obtain ⟨f0, f1, f2, f3⟩ := hK3.cell4; have k03 : Bk w3 w.heap.size 26 (cmA 8 k A n c) := hL3.k 2 (by simp); obtain ⟨s0, s1, s2⟩ := k03.cell3)
          | (refine ldB rfl _ _ rfl hK3 rfl Tryz.underlying69 rfl fo50_size ?_)
          | (go_at_call 41; (with_reducible refine (hU _).mono ?_); rintro e w4 ⟨rfl, hb4⟩; have hL4 := hL3.nx hb4; have k4 : Bk w4 w.heap.size 26 (cmA 8 k A n c) := hL4.k 2 (by simp); have kn : Bk w4 wr.heap.size 69 #[.string (strB [111, 114, 100, 101, 114]), .int .i64 8, .func (.func 67) #[] #[], .func (.func 65) #[.agg #[.int .i64 5, .int .i64 1]] #[]] := hL4.k 0 (by simp); obtain ⟨t0, t1, t2⟩ := k4.cell3; obtain ⟨u0, u1, u2, u3⟩ := kn.cell4))
        clear c0 c1 c2 s0 s1 s2 f0 f1 f2 f3 e0 e1 e2 e3 hnew hLn hU
        have v0 := fun (n : Nat) (os : Array Obj) => cell_regrown t0 n os
        have v1 := fun (n : Nat) (os : Array Obj) => cell_regrown t1 n os
        have v2 := fun (n : Nat) (os : Array Obj) => cell_regrown t2 n os
        have v3 := fun (n : Nat) (os : Array Obj) => cell_regrown u3 n os
        refine wp_region_quiet_below (by kernel_rfl) (by kernel_rfl) ?_
        repeat (first
          | go_big_quiet_step (with_reducible exact quiet_below (hN _))
          | quiet_step (with_reducible exact quiet_below (hN _)))
        refine wpQuiet_nil ?_
        intro _ hw'
        obtain ⟨⟨d9, os⟩, hw''⟩ := hw'
        subst hw''
        have hL9 := hL4.nx (below_regrown w4 d9 os)
        generalize Go.Sort.grow (redrawn w4 d9) os = wx at *
        go_wp2_with fail
        go_returns
        exact ⟨by rw [hR.out]; rfl, hL9.bel⟩
      · have hq : ((8 : Int) == op) = false := beq_eq_false_iff_ne.2 (fun e => hij (opI_inj (by omega) hit (show opI 7 = opI it by rw [HOP.out, ← e]; rfl)))
        have HJ2 : Hid (8 ≤ it) := by have h : 7 ≤ it := HJ.out; show _ ≤ _; omega
        clear hij HKN HOP HJ
        go_wp2_with (refine stB (ty := 69) (cells := #[.string (strB [111, 114, 100, 101, 114]), .int .i64 8, .func (.func 67) #[] #[], .func (.func 65) #[.agg #[.int .i64 5, .int .i64 1]] #[]]) rfl _ _ rfl hnew rfl rfl fo50_size rfl (by simp [Value.oneCell']) ?_; intro w3 hK3 hg3 hs3; have hL3 := hLn.set hg3 hK3 hsz hne; obtain ⟨f0, f1, f2, f3⟩ := hK3.cell4; have k03 : Bk w3 w.heap.size 26 (cmA op k A n c) := hL3.k 2 (by simp); obtain ⟨s0, s1, s2⟩ := k03.cell3)
        exact ⟨⟨8, by omega, by go_num, HJ2, hL3.sub (by simp)⟩, by simp [intOf]⟩
    · have e0 := (kf.cell 32).trans (show _ = some (.string (strB [115, 97, 118, 101])) from rfl)
      have e1 := (kf.cell 33).trans (show _ = some (.int .i64 10) from rfl)
      have e2 := (kf.cell 34).trans (show _ = some (.func (.func 68) #[] #[]) from rfl)
      have e3 := (kf.cell 35).trans (show _ = some (.func (.func 63) #[.int .i64 0] #[]) from rfl)
      clear kf k0
      by_cases hij : 8 = it
      · obtain ⟨hn1, hn2, hn3⟩ := HKN.out (by omega)
        obtain rfl : op = 10 := by rw [← HOP.out, ← hij]; rfl
        rw [← hij] at hn3
        have hN : ∀ w', Calls Tryz.prog 63 #[.int .i64 0, .int .i64 k] w' fun e w2 => e = .returned (.int .i64 n) ∧ Below w'.heap.size w' w2 := fun w' => (numof_any 0 k w').mono (fun e w2 h => ⟨by rw [h.1, hn3]; rfl, h.2 ▸ Below.refl _ _⟩)
        have hU := fun w' => ckinds_any (.string (strB [115, 97, 118, 101])) (.func (.func 68) #[] #[]) (.func (.func 63) #[.int .i64 0] #[]) 10 w'
        obtain ⟨lo, hlo⟩ : ∃ lo, loO 10 = lo := ⟨_, rfl⟩
        obtain ⟨hi, hhi⟩ : ∃ hi, hiO 10 = hi := ⟨_, rfl⟩
        rw [hlo] at hn1
        rw [hhi] at hn2
        simp only [hlo, hhi] at hU
        have hR : Hid (decide (it < 12) = true) := decide_eq_true (by omega)
        have g1 : decide (k ≥ lo) = true := decide_eq_true hn1
        clear hij hn3 hlo hhi HOP HKN HJ
        go_upto_region 8 with (first
          | (refine stB (ty := 69) (cells := #[.string (strB [115, 97, 118, 101]), .int .i64 10, .func (.func 68) #[] #[], .func (.func 63) #[.int .i64 0] #[]]) rfl _ _ rfl hnew rfl rfl fo50_size rfl (by simp [Value.oneCell']) ?_; intro w3 hK3 hg3 hs3; have hL3 := hLn.set hg3 hK3 hsz hne; obtain ⟨f0, f1, f2, f3⟩ := hK3.cell4; have k03 : Bk w3 w.heap.size 26 (cmA 10 k A n c) := hL3.k 2 (by simp); obtain ⟨s0, s1, s2⟩ := k03.cell3)
          | (refine ldB rfl _ _ rfl hK3 rfl Tryz.underlying69 rfl fo50_size ?_)
          | (go_at_call 41; (with_reducible refine (hU _).mono ?_); rintro e w4 ⟨rfl, hb4⟩; have hL4 := hL3.nx hb4; have k4 : Bk w4 w.heap.size 26 (cmA 10 k A n c) := hL4.k 2 (by simp); have kn : Bk w4 wr.heap.size 69 #[.string (strB [115, 97, 118, 101]), .int .i64 10, .func (.func 68) #[] #[], .func (.func 63) #[.int .i64 0] #[]] := hL4.k 0 (by simp); obtain ⟨t0, t1, t2⟩ := k4.cell3; obtain ⟨u0, u1, u2, u3⟩ := kn.cell4))
        clear c0 c1 c2 s0 s1 s2 f0 f1 f2 f3 e0 e1 e2 e3 hnew hLn hU
        have v0 := fun (n : Nat) (os : Array Obj) => cell_regrown t0 n os
        have v1 := fun (n : Nat) (os : Array Obj) => cell_regrown t1 n os
        have v2 := fun (n : Nat) (os : Array Obj) => cell_regrown t2 n os
        have v3 := fun (n : Nat) (os : Array Obj) => cell_regrown u3 n os
        refine wp_region_quiet_below (by kernel_rfl) (by kernel_rfl) ?_
        repeat (first
          | go_big_quiet_step (with_reducible exact quiet_below (hN _))
          | quiet_step (with_reducible exact quiet_below (hN _)))
        refine wpQuiet_nil ?_
        intro _ hw'
        obtain ⟨⟨d9, os⟩, hw''⟩ := hw'
        subst hw''
        have hL9 := hL4.nx (below_regrown w4 d9 os)
        generalize Go.Sort.grow (redrawn w4 d9) os = wx at *
        go_wp2_with fail
        go_returns
        exact ⟨by rw [hR.out]; rfl, hL9.bel⟩
      · have hq : ((10 : Int) == op) = false := beq_eq_false_iff_ne.2 (fun e => hij (opI_inj (by omega) hit (show opI 8 = opI it by rw [HOP.out, ← e]; rfl)))
        have HJ2 : Hid (9 ≤ it) := by have h : 8 ≤ it := HJ.out; show _ ≤ _; omega
        clear hij HKN HOP HJ
        go_wp2_with (refine stB (ty := 69) (cells := #[.string (strB [115, 97, 118, 101]), .int .i64 10, .func (.func 68) #[] #[], .func (.func 63) #[.int .i64 0] #[]]) rfl _ _ rfl hnew rfl rfl fo50_size rfl (by simp [Value.oneCell']) ?_; intro w3 hK3 hg3 hs3; have hL3 := hLn.set hg3 hK3 hsz hne; obtain ⟨f0, f1, f2, f3⟩ := hK3.cell4; have k03 : Bk w3 w.heap.size 26 (cmA op k A n c) := hL3.k 2 (by simp); obtain ⟨s0, s1, s2⟩ := k03.cell3)
        exact ⟨⟨9, by omega, by go_num, HJ2, hL3.sub (by simp)⟩, by simp [intOf]⟩
    · have e0 := (kf.cell 36).trans (show _ = some (.string (strB [116, 105, 110, 116])) from rfl)
      have e1 := (kf.cell 37).trans (show _ = some (.int .i64 11) from rfl)
      have e2 := (kf.cell 38).trans (show _ = some (.func (.func 62) #[] #[]) from rfl)
      have e3 := (kf.cell 39).trans (show _ = some (.func (.func 63) #[.int .i64 1] #[]) from rfl)
      clear kf k0
      by_cases hij : 9 = it
      · obtain ⟨hn1, hn2, hn3⟩ := HKN.out (by omega)
        obtain rfl : op = 11 := by rw [← HOP.out, ← hij]; rfl
        rw [← hij] at hn3
        have hN : ∀ w', Calls Tryz.prog 63 #[.int .i64 1, .int .i64 k] w' fun e w2 => e = .returned (.int .i64 n) ∧ Below w'.heap.size w' w2 := fun w' => (numof_any 1 k w').mono (fun e w2 h => ⟨by rw [h.1, hn3]; rfl, h.2 ▸ Below.refl _ _⟩)
        have hU := fun w' => ckinds_any (.string (strB [116, 105, 110, 116])) (.func (.func 62) #[] #[]) (.func (.func 63) #[.int .i64 1] #[]) 11 w'
        obtain ⟨lo, hlo⟩ : ∃ lo, loO 11 = lo := ⟨_, rfl⟩
        obtain ⟨hi, hhi⟩ : ∃ hi, hiO 11 = hi := ⟨_, rfl⟩
        rw [hlo] at hn1
        rw [hhi] at hn2
        simp only [hlo, hhi] at hU
        have hR : Hid (decide (it < 12) = true) := decide_eq_true (by omega)
        have g1 : decide (k ≥ lo) = true := decide_eq_true hn1
        clear hij hn3 hlo hhi HOP HKN HJ
        go_upto_region 8 with (first
          | (refine stB (ty := 69) (cells := #[.string (strB [116, 105, 110, 116]), .int .i64 11, .func (.func 62) #[] #[], .func (.func 63) #[.int .i64 1] #[]]) rfl _ _ rfl hnew rfl rfl fo50_size rfl (by simp [Value.oneCell']) ?_; intro w3 hK3 hg3 hs3; have hL3 := hLn.set hg3 hK3 hsz hne; obtain ⟨f0, f1, f2, f3⟩ := hK3.cell4; have k03 : Bk w3 w.heap.size 26 (cmA 11 k A n c) := hL3.k 2 (by simp); obtain ⟨s0, s1, s2⟩ := k03.cell3)
          | (refine ldB rfl _ _ rfl hK3 rfl Tryz.underlying69 rfl fo50_size ?_)
          | (go_at_call 41; (with_reducible refine (hU _).mono ?_); rintro e w4 ⟨rfl, hb4⟩; have hL4 := hL3.nx hb4; have k4 : Bk w4 w.heap.size 26 (cmA 11 k A n c) := hL4.k 2 (by simp); have kn : Bk w4 wr.heap.size 69 #[.string (strB [116, 105, 110, 116]), .int .i64 11, .func (.func 62) #[] #[], .func (.func 63) #[.int .i64 1] #[]] := hL4.k 0 (by simp); obtain ⟨t0, t1, t2⟩ := k4.cell3; obtain ⟨u0, u1, u2, u3⟩ := kn.cell4))
        clear c0 c1 c2 s0 s1 s2 f0 f1 f2 f3 e0 e1 e2 e3 hnew hLn hU
        have v0 := fun (n : Nat) (os : Array Obj) => cell_regrown t0 n os
        have v1 := fun (n : Nat) (os : Array Obj) => cell_regrown t1 n os
        have v2 := fun (n : Nat) (os : Array Obj) => cell_regrown t2 n os
        have v3 := fun (n : Nat) (os : Array Obj) => cell_regrown u3 n os
        refine wp_region_quiet_below (by kernel_rfl) (by kernel_rfl) ?_
        repeat (first
          | go_big_quiet_step (with_reducible exact quiet_below (hN _))
          | quiet_step (with_reducible exact quiet_below (hN _)))
        refine wpQuiet_nil ?_
        intro _ hw'
        obtain ⟨⟨d9, os⟩, hw''⟩ := hw'
        subst hw''
        have hL9 := hL4.nx (below_regrown w4 d9 os)
        generalize Go.Sort.grow (redrawn w4 d9) os = wx at *
        go_wp2_with fail
        go_returns
        exact ⟨by rw [hR.out]; rfl, hL9.bel⟩
      · have hq : ((11 : Int) == op) = false := beq_eq_false_iff_ne.2 (fun e => hij (opI_inj (by omega) hit (show opI 9 = opI it by rw [HOP.out, ← e]; rfl)))
        have HJ2 : Hid (10 ≤ it) := by have h : 9 ≤ it := HJ.out; show _ ≤ _; omega
        clear hij HKN HOP HJ
        go_wp2_with (refine stB (ty := 69) (cells := #[.string (strB [116, 105, 110, 116]), .int .i64 11, .func (.func 62) #[] #[], .func (.func 63) #[.int .i64 1] #[]]) rfl _ _ rfl hnew rfl rfl fo50_size rfl (by simp [Value.oneCell']) ?_; intro w3 hK3 hg3 hs3; have hL3 := hLn.set hg3 hK3 hsz hne; obtain ⟨f0, f1, f2, f3⟩ := hK3.cell4; have k03 : Bk w3 w.heap.size 26 (cmA op k A n c) := hL3.k 2 (by simp); obtain ⟨s0, s1, s2⟩ := k03.cell3)
        exact ⟨⟨10, by omega, by go_num, HJ2, hL3.sub (by simp)⟩, by simp [intOf]⟩
    · have e0 := (kf.cell 40).trans (show _ = some (.string (strB [99, 114, 111, 112])) from rfl)
      have e1 := (kf.cell 41).trans (show _ = some (.int .i64 12) from rfl)
      have e2 := (kf.cell 42).trans (show _ = some (.func (.func 62) #[] #[]) from rfl)
      have e3 := (kf.cell 43).trans (show _ = some (.func (.func 63) #[.int .i64 4] #[]) from rfl)
      clear kf k0
      by_cases hij : 10 = it
      · obtain ⟨hn1, hn2, hn3⟩ := HKN.out (by omega)
        obtain rfl : op = 12 := by rw [← HOP.out, ← hij]; rfl
        rw [← hij] at hn3
        have hN : ∀ w', Calls Tryz.prog 63 #[.int .i64 4, .int .i64 k] w' fun e w2 => e = .returned (.int .i64 n) ∧ Below w'.heap.size w' w2 := fun w' => (numof_any 4 k w').mono (fun e w2 h => ⟨by rw [h.1, hn3]; rfl, h.2 ▸ Below.refl _ _⟩)
        have hU := fun w' => ckinds_any (.string (strB [99, 114, 111, 112])) (.func (.func 62) #[] #[]) (.func (.func 63) #[.int .i64 4] #[]) 12 w'
        obtain ⟨lo, hlo⟩ : ∃ lo, loO 12 = lo := ⟨_, rfl⟩
        obtain ⟨hi, hhi⟩ : ∃ hi, hiO 12 = hi := ⟨_, rfl⟩
        rw [hlo] at hn1
        rw [hhi] at hn2
        simp only [hlo, hhi] at hU
        have hR : Hid (decide (it < 12) = true) := decide_eq_true (by omega)
        have g1 : decide (k ≥ lo) = true := decide_eq_true hn1
        clear hij hn3 hlo hhi HOP HKN HJ
        go_upto_region 8 with (first
          | (refine stB (ty := 69) (cells := #[.string (strB [99, 114, 111, 112]), .int .i64 12, .func (.func 62) #[] #[], .func (.func 63) #[.int .i64 4] #[]]) rfl _ _ rfl hnew rfl rfl fo50_size rfl (by simp [Value.oneCell']) ?_; intro w3 hK3 hg3 hs3; have hL3 := hLn.set hg3 hK3 hsz hne; obtain ⟨f0, f1, f2, f3⟩ := hK3.cell4; have k03 : Bk w3 w.heap.size 26 (cmA 12 k A n c) := hL3.k 2 (by simp); obtain ⟨s0, s1, s2⟩ := k03.cell3)
          | (refine ldB rfl _ _ rfl hK3 rfl Tryz.underlying69 rfl fo50_size ?_)
          | (go_at_call 41; (with_reducible refine (hU _).mono ?_); rintro e w4 ⟨rfl, hb4⟩; have hL4 := hL3.nx hb4; have k4 : Bk w4 w.heap.size 26 (cmA 12 k A n c) := hL4.k 2 (by simp); have kn : Bk w4 wr.heap.size 69 #[.string (strB [99, 114, 111, 112]), .int .i64 12, .func (.func 62) #[] #[], .func (.func 63) #[.int .i64 4] #[]] := hL4.k 0 (by simp); obtain ⟨t0, t1, t2⟩ := k4.cell3; obtain ⟨u0, u1, u2, u3⟩ := kn.cell4))
        clear c0 c1 c2 s0 s1 s2 f0 f1 f2 f3 e0 e1 e2 e3 hnew hLn hU
        have v0 := fun (n : Nat) (os : Array Obj) => cell_regrown t0 n os
        have v1 := fun (n : Nat) (os : Array Obj) => cell_regrown t1 n os
        have v2 := fun (n : Nat) (os : Array Obj) => cell_regrown t2 n os
        have v3 := fun (n : Nat) (os : Array Obj) => cell_regrown u3 n os
        refine wp_region_quiet_below (by kernel_rfl) (by kernel_rfl) ?_
        repeat (first
          | go_big_quiet_step (with_reducible exact quiet_below (hN _))
          | quiet_step (with_reducible exact quiet_below (hN _)))
        refine wpQuiet_nil ?_
        intro _ hw'
        obtain ⟨⟨d9, os⟩, hw''⟩ := hw'
        subst hw''
        have hL9 := hL4.nx (below_regrown w4 d9 os)
        generalize Go.Sort.grow (redrawn w4 d9) os = wx at *
        go_wp2_with fail
        go_returns
        exact ⟨by rw [hR.out]; rfl, hL9.bel⟩
      · have hq : ((12 : Int) == op) = false := beq_eq_false_iff_ne.2 (fun e => hij (opI_inj (by omega) hit (show opI 10 = opI it by rw [HOP.out, ← e]; rfl)))
        have HJ2 : Hid (11 ≤ it) := by have h : 10 ≤ it := HJ.out; show _ ≤ _; omega
        clear hij HKN HOP HJ
        go_wp2_with (refine stB (ty := 69) (cells := #[.string (strB [99, 114, 111, 112]), .int .i64 12, .func (.func 62) #[] #[], .func (.func 63) #[.int .i64 4] #[]]) rfl _ _ rfl hnew rfl rfl fo50_size rfl (by simp [Value.oneCell']) ?_; intro w3 hK3 hg3 hs3; have hL3 := hLn.set hg3 hK3 hsz hne; obtain ⟨f0, f1, f2, f3⟩ := hK3.cell4; have k03 : Bk w3 w.heap.size 26 (cmA op k A n c) := hL3.k 2 (by simp); obtain ⟨s0, s1, s2⟩ := k03.cell3)
        exact ⟨⟨11, by omega, by go_num, HJ2, hL3.sub (by simp)⟩, by simp [intOf]⟩
    · have e0 := (kf.cell 44).trans (show _ = some (.string (strB [98, 117, 100, 103, 101, 116])) from rfl)
      have e1 := (kf.cell 45).trans (show _ = some (.int .i64 13) from rfl)
      have e2 := (kf.cell 46).trans (show _ = some (.func (.func 62) #[] #[]) from rfl)
      have e3 := (kf.cell 47).trans (show _ = some (.func (.func 63) #[.int .i64 1] #[]) from rfl)
      clear kf k0
      by_cases hij : 11 = it
      · obtain ⟨hn1, hn2, hn3⟩ := HKN.out (by omega)
        obtain rfl : op = 13 := by rw [← HOP.out, ← hij]; rfl
        rw [← hij] at hn3
        have hN : ∀ w', Calls Tryz.prog 63 #[.int .i64 1, .int .i64 k] w' fun e w2 => e = .returned (.int .i64 n) ∧ Below w'.heap.size w' w2 := fun w' => (numof_any 1 k w').mono (fun e w2 h => ⟨by rw [h.1, hn3]; rfl, h.2 ▸ Below.refl _ _⟩)
        have hU := fun w' => ckinds_any (.string (strB [98, 117, 100, 103, 101, 116])) (.func (.func 62) #[] #[]) (.func (.func 63) #[.int .i64 1] #[]) 13 w'
        obtain ⟨lo, hlo⟩ : ∃ lo, loO 13 = lo := ⟨_, rfl⟩
        obtain ⟨hi, hhi⟩ : ∃ hi, hiO 13 = hi := ⟨_, rfl⟩
        rw [hlo] at hn1
        rw [hhi] at hn2
        simp only [hlo, hhi] at hU
        have hR : Hid (decide (it < 12) = true) := decide_eq_true (by omega)
        have g1 : decide (k ≥ lo) = true := decide_eq_true hn1
        clear hij hn3 hlo hhi HOP HKN HJ
        go_upto_region 8 with (first
          | (refine stB (ty := 69) (cells := #[.string (strB [98, 117, 100, 103, 101, 116]), .int .i64 13, .func (.func 62) #[] #[], .func (.func 63) #[.int .i64 1] #[]]) rfl _ _ rfl hnew rfl rfl fo50_size rfl (by simp [Value.oneCell']) ?_; intro w3 hK3 hg3 hs3; have hL3 := hLn.set hg3 hK3 hsz hne; obtain ⟨f0, f1, f2, f3⟩ := hK3.cell4; have k03 : Bk w3 w.heap.size 26 (cmA 13 k A n c) := hL3.k 2 (by simp); obtain ⟨s0, s1, s2⟩ := k03.cell3)
          | (refine ldB rfl _ _ rfl hK3 rfl Tryz.underlying69 rfl fo50_size ?_)
          | (go_at_call 41; (with_reducible refine (hU _).mono ?_); rintro e w4 ⟨rfl, hb4⟩; have hL4 := hL3.nx hb4; have k4 : Bk w4 w.heap.size 26 (cmA 13 k A n c) := hL4.k 2 (by simp); have kn : Bk w4 wr.heap.size 69 #[.string (strB [98, 117, 100, 103, 101, 116]), .int .i64 13, .func (.func 62) #[] #[], .func (.func 63) #[.int .i64 1] #[]] := hL4.k 0 (by simp); obtain ⟨t0, t1, t2⟩ := k4.cell3; obtain ⟨u0, u1, u2, u3⟩ := kn.cell4))
        clear c0 c1 c2 s0 s1 s2 f0 f1 f2 f3 e0 e1 e2 e3 hnew hLn hU
        have v0 := fun (n : Nat) (os : Array Obj) => cell_regrown t0 n os
        have v1 := fun (n : Nat) (os : Array Obj) => cell_regrown t1 n os
        have v2 := fun (n : Nat) (os : Array Obj) => cell_regrown t2 n os
        have v3 := fun (n : Nat) (os : Array Obj) => cell_regrown u3 n os
        refine wp_region_quiet_below (by kernel_rfl) (by kernel_rfl) ?_
        repeat (first
          | go_big_quiet_step (with_reducible exact quiet_below (hN _))
          | quiet_step (with_reducible exact quiet_below (hN _)))
        refine wpQuiet_nil ?_
        intro _ hw'
        obtain ⟨⟨d9, os⟩, hw''⟩ := hw'
        subst hw''
        have hL9 := hL4.nx (below_regrown w4 d9 os)
        generalize Go.Sort.grow (redrawn w4 d9) os = wx at *
        go_wp2_with fail
        go_returns
        exact ⟨by rw [hR.out]; rfl, hL9.bel⟩
      · have hq : ((13 : Int) == op) = false := beq_eq_false_iff_ne.2 (fun e => hij (opI_inj (by omega) hit (show opI 11 = opI it by rw [HOP.out, ← e]; rfl)))
        have HJ2 : Hid (12 ≤ it) := by have h : 11 ≤ it := HJ.out; show _ ≤ _; omega
        clear hij HKN HOP HJ
        go_wp2_with (refine stB (ty := 69) (cells := #[.string (strB [98, 117, 100, 103, 101, 116]), .int .i64 13, .func (.func 62) #[] #[], .func (.func 63) #[.int .i64 1] #[]]) rfl _ _ rfl hnew rfl rfl fo50_size rfl (by simp [Value.oneCell']) ?_; intro w3 hK3 hg3 hs3; have hL3 := hLn.set hg3 hK3 hsz hne; obtain ⟨f0, f1, f2, f3⟩ := hK3.cell4; have k03 : Bk w3 w.heap.size 26 (cmA op k A n c) := hL3.k 2 (by simp); obtain ⟨s0, s1, s2⟩ := k03.cell3)
        exact ⟨⟨12, by omega, by go_num, HJ2, hL3.sub (by simp)⟩, by simp [intOf]⟩
    · have hR : Hid (decide (it < 12) = false) := decide_eq_false (by have h : 12 ≤ it := HJ.out; omega)
      have hLx := hLn.bel
      have hb := hnew
      clear HJ HOP HKN
      have hL : Lie w [(w.heap.size, 26, cmA op k A n c)] wr := ⟨hbel, fun x hx => by
        rcases List.mem_cons.1 hx with rfl | hx
        · exact k0
        · cases hx⟩
      go_wp2_with fail
      go_returns
      exact ⟨by rw [hR.out]; rfl, hL.bel⟩
set_option maxRecDepth 100000 in
set_option maxHeartbeats 16000000 in
theorem cright_xf (k : Int) (hk : 1 ≤ k ∧ k ≤ 6) (n : Nat) (hn : (n : Int) = cntX k n) (A : Option Addr) (c : Nat) (w : World) : Calls Tryz.prog 11 #[.agg (cmA 9 k A n c)] w fun e w' => e = .returned (.bool true) ∧ Below w.heap.size w w' := by
  have hL0 := (Lie.start w).alloc (cmA 9 k A n c) 26
  have k0 : Bk _ w.heap.size 26 (cmA 9 k A n c) := hL0.k 0 (by simp)
  obtain ⟨c0, c1, c2⟩ := k0.cell3
  have hNm : ∀ w', Calls Tryz.prog 40 #[.int .i64 k] w' fun e w2 => e = .returned (strV (nm24 k)) ∧ Below w'.heap.size w' w2 := fun w' => xnameq_any k w'
  have hC : ∀ w', Calls Tryz.prog 31 #[.int .i64 k, .int .i64 n] w' fun e w2 => e = .returned (.int .i64 n) ∧ Below w'.heap.size w' w2 := fun w' => by have := ccnt_any k n w'; rw [← hn] at this; exact this
  obtain ⟨V, HV, hem⟩ : ∃ V, strV (nm24 k) = .string V ∧ V.toList.isEmpty = false := ⟨_, rfl, bl_ne (by rw [bl_mk]; rcases sixq hk with rfl | rfl | rfl | rfl | rfl | rfl <;> decide)⟩
  rw [HV] at hNm
  clear hk hn k0 HV
  go_enter Tryz.func11, Tryz.ntmps11
  go_upto_region 2 with fail
  generalize (w.alloc (.cells (cmA 9 k A n c) 26)) = w1 at *
  have v1 := fun (n : Nat) (os : Array Obj) => cell_regrown c1 n os
  have v2 := fun (n : Nat) (os : Array Obj) => cell_regrown c2 n os
  refine wp_region_quiet_below (by kernel_rfl) (by kernel_rfl) ?_
  repeat (first
    | go_big_quiet_step (first | with_reducible exact quiet_below (hNm _) | with_reducible exact quiet_below (hC _))
    | quiet_step (first | with_reducible exact quiet_below (hNm _) | with_reducible exact quiet_below (hC _)))
  refine wpQuiet_nil ?_
  intro _ hw'
  obtain ⟨⟨d9, os⟩, hw''⟩ := hw'
  subst hw''
  have hL9 := hL0.nx (below_regrown w1 d9 os)
  generalize Go.Sort.grow (redrawn w1 d9) os = wx at *
  go_wp2_with fail
  go_returns
  exact ⟨rfl, hL9.bel⟩
theorem ok_cases {op k : Int} {n : Nat} (h : okCm op k n) : (op = 9 ∧ (1 ≤ k ∧ k ≤ 6) ∧ (n : Int) = cntX k n) ∨ ∃ it, it < 12 ∧ op = opI it ∧ loO (opI it) ≤ k ∧ k ≤ hiO (opI it) ∧ (n : Int) = cntI it k := by
  rcases h with ⟨j, hj, rfl, rfl, rfl⟩ | ⟨rfl, h1, h2, h3⟩ | ⟨q, hq, rfl, h1, h2, rfl⟩
  · right
    rcases (show j = 0 ∨ j = 1 ∨ j = 2 ∨ j = 3 ∨ j = 4 ∨ j = 5 ∨ j = 6 ∨ j = 7 by omega) with rfl | rfl | rfl | rfl | rfl | rfl | rfl | rfl
    · exact ⟨0, by decide⟩
    · exact ⟨1, by decide⟩
    · exact ⟨4, by decide⟩
    · exact ⟨5, by decide⟩
    · exact ⟨6, by decide⟩
    · exact ⟨9, by decide⟩
    · exact ⟨10, by decide⟩
    · exact ⟨11, by decide⟩
  · left
    refine ⟨rfl, ⟨h1, h2⟩, ?_⟩
    unfold cntX
    rcases h3 with ⟨h3, h4⟩ | ⟨rfl, h4⟩
    · rw [if_neg h3]; exact h4
    · rw [if_pos rfl]; omega
  · right
    rcases (show q = 0 ∨ q = 1 ∨ q = 2 ∨ q = 3 by omega) with rfl | rfl | rfl | rfl
    · exact ⟨2, by decide, rfl, h1, h2, by simp only [cntQ, cntI]; simp; split <;> rfl⟩
    · exact ⟨3, by decide, rfl, h1, h2, by simp only [cntQ, cntI]; simp; split <;> rfl⟩
    · exact ⟨7, by decide, rfl, h1, h2, by simp only [cntQ, cntI]; simp; split <;> rfl⟩
    · exact ⟨8, by decide, rfl, h1, h2, by simp [cntQ, cntI]⟩
/-- A command that is made of words is one. -/
theorem cright_ok {op k : Int} {n : Nat} (h : okCm op k n) (A : Option Addr) (c : Nat) (w : World) : Calls Tryz.prog 11 #[.agg (cmA op k A n c)] w fun e w' => e = .returned (.bool true) ∧ Below w.heap.size w w' := by
  rcases ok_cases h with ⟨rfl, h1, h2⟩ | ⟨it, hit, rfl, h1⟩
  · exact cright_xf k h1 n h2 A c w
  · have := cright_form it (by omega) k n (fun _ => h1) A c w
    rw [decide_eq_true hit] at this
    exact this
theorem cright_no (A : Option Addr) (c : Nat) (w : World) : Calls Tryz.prog 11 #[.agg (cmA 0 0 A 0 c)] w fun e w' => e = .returned (.bool false) ∧ Below w.heap.size w w' :=
  cright_form 12 (by omega) 0 0 (fun h => absurd h (by omega)) A c w
end Go.Proofs.YtgohbkkeppknoaaGreatDoor
end
