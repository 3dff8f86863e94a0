/- foot.Join, walked. -/
import Derived.Test.YtjdboclibinjoaaFt3
import Derived.Laws.OwnMore
import Derived.Test.YtjdboclibinjoaaQTail
set_option linter.unusedVariables false
namespace Go.Proofs.Ytjdboclibinjoaa
open Go.RowKit
def flt (rs : List Rn) : List Rn := rs.filter fun r => decide (r.1 < r.2)
theorem flt_snoc (rs : List Rn) (k : Nat) (hk : k < rs.length) : flt (rs.take (k + 1)) = if rs[k].1 < rs[k].2 then flt (rs.take k) ++ [rs[k]] else flt (rs.take k) := by
  rw [List.take_succ_eq_append_getElem hk]
  unfold flt
  rw [List.filter_append]
  by_cases h : rs[k].1 < rs[k].2 <;> simp [h]
theorem flt_le (rs : List Rn) : (flt rs).length ≤ rs.length := List.length_filter_le _ _
def joinL (l : List Rn) : List Rn := l.foldl stepR []
theorem stepR_len (out : List Rn) (r : Rn) : (stepR out r).length ≤ out.length + 1 := by
  unfold stepR
  split
  · simp
  · split
    · have : out.dropLast.length ≤ out.length := by simp
      rw [List.length_append]
      simp only [List.length_cons, List.length_nil]
      omega
    · simp
theorem joinL_len (l : List Rn) (k : Nat) : (joinL (l.take k)).length ≤ k := by
  induction k with
  | zero => simp [joinL]
  | succ k ih =>
    by_cases hk : k < l.length
    · rw [List.take_succ_eq_append_getElem hk]
      unfold joinL at ih ⊢
      rw [List.foldl_append]
      have := stepR_len ((l.take k).foldl stepR []) l[k]
      simp only [List.foldl_cons, List.foldl_nil]
      omega
    · rw [List.take_of_length_le (by omega)]
      rw [List.take_of_length_le (by omega)] at ih
      omega
theorem joinL_snoc (l : List Rn) (k : Nat) (hk : k < l.length) : joinL (l.take (k + 1)) = stepR (joinL (l.take k)) l[k] := by
  rw [List.take_succ_eq_append_getElem hk]
  unfold joinL
  rw [List.foldl_append]
  rfl
theorem stepR_last (o : List Rn) (q r : Rn) : stepR (o ++ [q]) r = if r.1 ≤ q.2 then o ++ [(q.1, max q.2 r.2)] else o ++ [q] ++ [r] := by
  unfold stepR
  simp
theorem encR_set (l : List Rn) (x y z : Int) : (encR (l ++ [(x, y)])).set (l.length * 2 + 1) (.int .i64 z) = encR (l ++ [(x, z)]) := by
  rw [encR_append, encR_append]
  have h := encR_len l
  rw [List.set_append, if_neg (by omega), show l.length * 2 + 1 - (encR l).length = 1 by omega]
  rfl
set_option maxHeartbeats 4000000 in
theorem join_any (rs : List Rn) (A : Option Addr) (n c : Nat) (w : World) (hn : rs.length = n) (hr : Rd w w.heap.size A (encR rs)) (hb : n ≤ 4000000000) :
    Calls Try.prog 17 #[.slice A n c] w fun e w' => ∃ v rs1, e = .returned v ∧ rs1.Perm (flt rs) ∧ rs1.Pairwise (fun a b => a.1 ≤ b.1) ∧ w'.ownsRow w.heap.size 35 2 v (joinL rs1).length (encR (joinL rs1)) ∧ Below w.heap.size w w' := by
  go_enter Try.func17, Try.ntmps17
  go_wp2_with fail
  go_loopw [3, 12] (fun v i wr => ∃ k : Nat, k ≤ n ∧ i = .int .i64 k ∧ wr.ownsRow w.heap.size 35 2 v (flt (rs.take k)).length (encR (flt (rs.take k))) ∧ Below w.heap.size w wr) (fun _ i _ => n - (intOf i).toNat)
  case atStart => exact ⟨0, by omega, rfl, by simpa [flt, encR] using World.ownsRow_nil _ _ _ _, Below.refl _ _⟩
  case round =>
    obtain ⟨k, hk, rfl, hown, hbel⟩ := hrel
    by_cases hlt : k < n
    · have hk2 : k < rs.length := by omega
      have hsn := Lib.hid (flt_snoc rs k hk2)
      have hfl := flt_le (rs.take k)
      have hfl2 : (flt (rs.take k)).length ≤ k := by simp at hfl; omega
      clear hfl
      obtain ⟨b, o, rfl, hbb, hc0, hc1⟩ := rd_run (hr.below hbel) k hk2
      generalize rs[k] = r at *
      obtain ⟨x, y⟩ := r
      simp only at hc0 hc1
      have hbw := hbel.size
      generalize hL : flt (rs.take k) = L at *
      clear hL
      by_cases hxy : x < y
      · have hd : decide (x < y) = true := by simpa using hxy
        go_wp2_with (first
          | (go_at_call 48; (with_reducible refine (some_any _ _ _).mono ?_); rintro e w1 ⟨rfl, hb1⟩; rw [hd]; have hown1 := own_below (hown.alloc _) hb1 (Nat.le_refl _); have hbel1 := (hbel.alloc hbw _).trans (hb1.mono (by simp; omega)); have hbw1 := hbel1.size; obtain ⟨d0, d1⟩ := ((Bk.new wr 35 #[.int .i64 x, .int .i64 y]).nx hb1).cell2; clear hown)
          | (at_builtin; refine app1 rfl _ _ _ rfl Try.underlying23 run_info rfl (by omega) rfl rfl hown1 hbel1 (Nat.le_refl _) hbw1 rfl (by simp [Value.oneCell']) (by omega) (by omega) ?_; intro v' w' hown' hbel' _ _ _; clear hown1))
        refine ⟨⟨k + 1, by omega, by go_num, ?_, hbel'⟩, by simp [intOf]; omega⟩
        rw [hsn.out, if_pos hxy, List.length_append, encR_append]
        exact hown'
      · have hd : decide (x < y) = false := by simpa using hxy
        go_wp2_with (go_at_call 48; (with_reducible refine (some_any _ _ _).mono ?_); rintro e w1 ⟨rfl, hb1⟩; rw [hd]; have hown1 := own_below (hown.alloc _) hb1 (Nat.le_refl _); have hbel1 := (hbel.alloc hbw _).trans (hb1.mono (by simp; omega)); clear hown)
        refine ⟨⟨k + 1, by omega, by go_num, ?_, hbel1⟩, by simp [intOf]; omega⟩
        rw [hsn.out, if_neg (by omega)]
        exact hown1
    · obtain rfl : k = n := by omega
      rw [List.take_of_length_le (by omega)] at hown
      have hfl := flt_le rs
      have hbw := hbel.size
      obtain ⟨A3, c3, rfl, h31, h32, hA3, _, _⟩ := own_form2 hown
      have hss := fun W h => sort_any (flt rs) (.slice A3 (flt rs).length c3) w.heap.size (flt rs).length W h
      have hlt2 := Lib.hid (show (flt rs).length < 4611686018427387904 by omega)
      go_wp2_with (go_at_call 49; (with_reducible refine (hss _ hown hbw hlt2.out).mono ?_); rintro e w1 ⟨rfl, rs1, hperm, hpw, hown1, hb1⟩)
      have hl1 : rs1.length = (flt rs).length := hperm.length_eq
      have hrd1 := Rd.of_own hown1
      have hbw1 := hb1.size
      have hbel1 := hbel.trans hb1
      clear hown hss hown1
      go_loopw [6, 27] (fun v i wr => ∃ k : Nat, k ≤ rs1.length ∧ i = .int .i64 k ∧ wr.ownsRow w1.heap.size 35 2 v (joinL (rs1.take k)).length (encR (joinL (rs1.take k))) ∧ Below w1.heap.size w1 wr) (fun _ i _ => rs1.length - (intOf i).toNat)
      case atStart => exact ⟨0, by omega, rfl, by simpa [joinL, encR] using World.ownsRow_nil _ _ _ _, by go_grown⟩
      case round =>
        obtain ⟨k, hk, rfl, hown, hbr⟩ := hrel
        by_cases hlt : k < rs1.length
        · have hsn := Lib.hid (joinL_snoc rs1 k hlt)
          have hjl := joinL_len rs1 k
          obtain ⟨b, o, rfl, hbb, hc0, hc1⟩ := rd_run (hrd1.below hbr) k hlt
          generalize rs1[k] = r at *
          obtain ⟨x, y⟩ := r
          simp only at hc0 hc1
          have hbw := hbr.size
          generalize hL : joinL (rs1.take k) = L at *
          clear hL
          rcases List.eq_nil_or_concat L with e | ⟨L', q, e⟩
          · subst e
            have hsn' := Lib.hid (show joinL (rs1.take (k + 1)) = [(x, y)] from hsn.out)
            obtain ⟨A6, c6, rfl, h61, h62, hA6, h63, h64⟩ := own_form2 hown
            simp only [List.length_nil] at *
            clear hsn
            have hK0 := (Bk.new wr 35 #[.int .i64 x, .int .i64 y])
            go_wp2_with fail
            go_quiet (fail)
            have hown3 : ((wr.alloc (.cells #[.int .i64 x, .int .i64 y] 35)).drewN nq).ownsRow w1.heap.size 35 2 (.slice A6 0 c6) 0 (encR []) := hown.alloc _
            have hbr3 := below_drewN (hbr.alloc hbw (.cells #[.int .i64 x, .int .i64 y] 35)) nq
            obtain ⟨f0, f1⟩ := (hK0.drewN nq).cell2
            generalize (wr.alloc (.cells #[.int .i64 x, .int .i64 y] 35)).drewN nq = w3 at *
            clear hown hK0
            have hbw3 := hbr3.size
            go_wp2_with (at_builtin; go_loud (refine app1 rfl _ _ _ rfl Try.underlying23 run_info rfl (by omega) rfl rfl hown3 hbr3 (Nat.le_refl _) hbw3 rfl (by simp [Value.oneCell']) (by omega) (by omega) ?_); intro v' w' hown' hbel' _ _ _; clear hown3)
            refine ⟨⟨k + 1, by omega, by go_num, ?_, hbel'⟩, by simp [intOf]; omega⟩
            rw [hsn'.out]
            exact hown'
          · have e' : L = L' ++ [q] := by rw [e]; simp
            clear e
            subst e'
            obtain ⟨x0, y0⟩ := q
            rw [stepR_last] at hsn
            obtain ⟨A6, c6, rfl, h61, h62, hA6, h63, h64⟩ := own_form2 hown
            rw [show (L' ++ [(x0, y0)]).length = L'.length + 1 by simp] at *
            obtain ⟨g6, rfl, hg61, hg62⟩ := own_some hown (by omega)
            obtain ⟨b6, o6, e6, _, hd0, hd1⟩ := rd_run h63 L'.length (by simp)
            injection e6 with e6
            injection e6 with e61 e62
            subst e61; subst e62
            simp at hd0 hd1
            by_cases hle : x ≤ y0
            · rw [if_pos hle] at hsn
              go_wp2_with fail
              go_quiet (fail)
              have hK0 := (Bk.new wr 35 #[.int .i64 x, .int .i64 y]).drewN nq
              have hown3 := ((hown.alloc (.cells #[.int .i64 x, .int .i64 y] 35)).drew.drew)
              have hbr3 := below_drewN (hbr.alloc hbw (.cells #[.int .i64 x, .int .i64 y] 35)) nq
              have hd1' : ((wr.alloc (.cells #[.int .i64 x, .int .i64 y] 35)).drewN nq).cell? ⟨g6, L'.length * 2 + 1, none⟩ = some (.int .i64 y0) := (World.cell?_alloc_lt wr _ _ hg62).trans hd1
              have hsz3 : wr.heap.size < ((wr.alloc (.cells #[.int .i64 x, .int .i64 y] 35)).drewN nq).heap.size := by simp
              replace hown3 : ((wr.alloc (.cells #[.int .i64 x, .int .i64 y] 35)).drewN nq).ownsRow w1.heap.size 35 2 (.slice (some ⟨g6, 0, none⟩) (L'.length + 1) c6) (L'.length + 1) (encR (L' ++ [(x0, y0)])) := hown.alloc _
              go_upto_region 15 with fail
              generalize (wr.alloc (.cells #[.int .i64 x, .int .i64 y] 35)).drewN nq = w3 at *
              clear hown hd0 hd1
              obtain ⟨f0, f1⟩ := hK0.cell2
              have q1 := fun (d : Nat) (os : Array Obj) => cell_regrown hd1' d os
              have q2 := fun (d : Nat) (os : Array Obj) => cell_regrown f1 d os
              refine wp_region_quiet_tail 14 (by kernel_rfl) (by kernel_rfl) ?_
              simp only [List.take_succ_cons, List.take_zero, List.drop_succ_cons, List.drop_zero]
              repeat (first | go_big_quiet_step (fail) | quiet_step (fail))
              refine wpQuiet_nil ?_
              intro _ hw'
              obtain ⟨⟨d, os⟩, hw''⟩ := hw'
              subst hw''
              have hby := below_regrown w3 d os
              have hbx := hbr3.trans (hby.mono hbr3.size)
              have hown4 := own_below hown3 hby (Nat.le_refl _)
              have qq := q1 d os
              clear q1 q2 hown3 hK0
              generalize Go.Sort.grow (redrawn w3 d) os = wx at *
              have hst := hown4.stored (L'.length * 2 + 1) (.int .i64 (max y0 y))
              have hfz := hown4.frozenAt (L'.length * 2 + 1)
              rw [encR_set] at hst
              have hbx2 := hbx.grown hst.2 hbx.size (fun k e => by injection e with e; omega)
              go_wp2_with fail
              refine ⟨⟨k + 1, by omega, by go_num, ?_, hbx2⟩, by simp [intOf]; omega⟩
              rw [hsn.out, show (L' ++ [(x0, max y0 y)]).length = L'.length + 1 by simp]
              exact hst.1
            · rw [if_neg hle] at hsn
              have hle' : y0 < x := by omega
              go_wp2_with fail
              go_quiet (fail)
              have hK0 := (Bk.new wr 35 #[.int .i64 x, .int .i64 y]).drewN nq
              have hown3 := ((hown.alloc (.cells #[.int .i64 x, .int .i64 y] 35)).drew.drew)
              have hbr3 := below_drewN (hbr.alloc hbw (.cells #[.int .i64 x, .int .i64 y] 35)) nq
              have hd1' : ((wr.alloc (.cells #[.int .i64 x, .int .i64 y] 35)).drewN nq).cell? ⟨g6, L'.length * 2 + 1, none⟩ = some (.int .i64 y0) := (World.cell?_alloc_lt wr _ _ hg62).trans hd1
              have hsz3 : wr.heap.size < ((wr.alloc (.cells #[.int .i64 x, .int .i64 y] 35)).drewN nq).heap.size := by simp
              replace hown3 : ((wr.alloc (.cells #[.int .i64 x, .int .i64 y] 35)).drewN nq).ownsRow w1.heap.size 35 2 (.slice (some ⟨g6, 0, none⟩) (L'.length + 1) c6) (L'.length + 1) (encR (L' ++ [(x0, y0)])) := hown.alloc _
              generalize (wr.alloc (.cells #[.int .i64 x, .int .i64 y] 35)).drewN nq = w3 at *
              clear hown hd0 hd1
              obtain ⟨f0, f1⟩ := hK0.cell2
              have hbw3 := hbr3.size
              go_wp2_with (at_builtin; go_loud (refine app1 rfl _ _ _ rfl Try.underlying23 run_info rfl (by omega) rfl rfl hown3 hbr3 (Nat.le_refl _) hbw3 rfl (by simp [Value.oneCell']) (by omega) (by omega) ?_); intro v' w' hown' hbel' _ _ _; clear hown3)
              refine ⟨⟨k + 1, by omega, by go_num, ?_, hbel'⟩, by simp [intOf]; omega⟩
              rw [hsn.out, encR_append, List.length_append, show (L' ++ [(x0, y0)]).length = L'.length + 1 by simp]
              exact hown'
        · obtain rfl : k = rs1.length := by omega
          rw [List.take_of_length_le (by omega)] at hown
          have hbw := hbr.size
          go_wp2_with fail
          go_returns
          exact ⟨_, rs1, rfl, hperm, hpw, own_base hown (by omega), hbel1.trans (hbr.mono (by omega))⟩
end Go.Proofs.Ytjdboclibinjoaa
