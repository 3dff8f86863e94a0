/- The walk of the law GenRolls. -/
import Derived.Test.YtakdcdpgojllpaaGen54a
import Derived.Test.YtakdcdpgojllpaaOpen
set_option linter.unusedVariables false
namespace Go.Proofs.Ytakdcdpgojllpaa
open Go.RowKit
set_option maxRecDepth 100000 in
set_option maxHeartbeats 2000000 in
theorem walkGenRolls (x : Int) (l : List Int) (A : Option Addr) (n cp : Nat) (a b c : Int) (w : World) (hn : l.length = n) (hn2 : n ≤ 9223372036854775807) (h : Rd w w.heap.size A (l.map (Value.int .i64))) (hl : ∀ z ∈ l, z ≤ 9223372036854775807) (h0 : 0 ≤ x ∧ x ≤ 18446744073709551615) :
    Calls Try.prog 4 #[.int .u64 x, .slice A n cp, .agg #[.int .i64 a, .int .i64 b, .int .i64 c]] w fun e w' => e = .returned (.bool true) ∧ Below w.heap.size w w' := by
  by_cases hbig : 60 < n
  · go_enter Try.func4, Try.ntmps4
    go_wp2
    go_returns
    exact ⟨rfl, by go_grown⟩
  · go_enter Try.func4, Try.ntmps4
    go_wp2_with fail
    go_loopw [8, 31] (fun y i wr => ∃ k : Nat, k ≤ n ∧ i = .int .i64 k ∧ y = .int .u64 (rlS x (l.take k)) ∧ Bk wr (w.heap.size + 1) 32 #[.int .u64 (rlS x (l.take k))] ∧ Bk wr w.heap.size 29 #[.int .i64 a, .int .i64 b, .int .i64 c] ∧ Below w.heap.size w wr) (fun _ i _ => n - (intOf i).toNat)
    case atStart => exact ⟨0, by omega, rfl, rfl, by simpa [rlS] using Bk.new (w.alloc _) _ _, (Bk.new w _ _).alloc _, by go_grown⟩
    case round =>
      obtain ⟨k, hk, rfl, rfl, hD, hS, hb⟩ := hrel
      by_cases hlt : k < n
      · have hkl : k < l.length := by omega
        obtain ⟨b1, o1, rfl, hb1, hcl⟩ := (h.below hb).get k (by simp; omega)
        simp only [List.getElem_map] at hcl
        have hX := rlS_bd x h0 (l.take k)
        have hz := hl l[k] (List.getElem_mem _)
        have ht : l.take (k + 1) = l.take k ++ [l[k]] := by rw [List.take_succ_eq_append_getElem hkl]
        have HS : Hid (rlS x (l.take (k + 1)) = nx (rlS x (l.take k))) := by show _ = _; rw [ht, rlS_snoc]
        clear ht
        have hcD := hD.cell 0
        have hfD := hD.frozen 0
        simp at hcD
        generalize l[k] = z at *
        generalize hXe : rlS x (l.take k) = X at *
        have HXe := Lib.hid hXe
        clear hXe
        go_wp2_with (first
          | (go_at_call 13; refine (rroll_any _ _ _ hX.1 hX.2 hz).mono ?_; rintro e w' ⟨rfl, rfl⟩)
          | (go_at_call 14; refine (roll_at (w.heap.size + 1) _ _ _ hX.1 hX.2 hz hcD hfD).mono ?_; rintro e w' ⟨rfl, rfl⟩)
          | (go_at_call 15; refine (next_any _ _ hX.1 hX.2).mono ?_; rintro e w' ⟨rfl, rfl⟩))
        refine ⟨⟨k + 1, by omega, by go_num, by rw [HS.out], by simpa [HS.out] using hD.set 0 (.int .u64 (nx X)), hS.far (by simp) _, hb.setCell (by simp) _⟩, by simp [intOf]; omega⟩
      · have hX := rlS_bd x h0 (l.take k)
        obtain rfl : k = n := by omega
        clear hk hlt
        generalize rlS x (l.take k) = X at *
        obtain ⟨hs0, hs1, hs2⟩ := hS.cell3
        have hslt := hS.lt
        have hdlt := hD.lt
        have hcD := hD.cell1
        by_cases hf : fitsC a b c = 0
        · have hfb : (fitsC a b c == 0) = true := by simpa using hf
          obtain ⟨hc, hw1, hw2, hh1, hh2, hp⟩ := fitsC_ok hf
          have hp0 := mul_bd a b (by omega) (by omega) hw2 hh2
          have hp3 := mul3_bd a b c (by omega) hp (by omega) (by omega)
          by_cases h3 : 3000 < a * b * c
          · have HF := Lib.hid hf
            clear hf hc
            go_wp2_with (go_at_call 16; refine (rfits_any _ _ _ _).mono ?_; rintro e w' ⟨rfl, rfl⟩)
            go_returns
            exact ⟨rfl, hb⟩
          · obtain ⟨a, rfl⟩ := Int.eq_ofNat_of_zero_le (show 0 ≤ a by omega)
            obtain ⟨b, rfl⟩ := Int.eq_ofNat_of_zero_le (show 0 ≤ b by omega)
            obtain ⟨c, rfl⟩ := Int.eq_ofNat_of_zero_le (show 0 ≤ c by omega)
            have e3 : ((a * b * c : Nat) : Int) = (a : Int) * b * c := by simp
            have e2 : ((a * b : Nat) : Int) = (a : Int) * b := by simp
            have hN : a * b * c ≤ 3000 := by omega
            have hN2 : a * b ≤ 1000000000 := by omega
            have hck : Hid (checkC a b c (a * b * c) = 0) := by show checkC _ _ _ _ = 0; unfold checkC; rw [if_neg (by rw [e3]; simp), hf]
            have HN : Hid (a * b * c = a * b * c) := rfl
            generalize hNe : a * b * c = N at *
            have HF := Lib.hid hf
            have HE := Lib.hid hNe
            clear hf hc e3 e2 HN hNe hfb
            go_wp2_with (go_at_call 16; refine (rfits_ok _ _ _ _ HF.out).mono ?_; rintro e w' ⟨rfl, rfl⟩)
            refine (dimage_at (w.heap.size + 1) a b c N X _ hX hD HF.out HE.out (by omega)).mono ?_
            rintro e w1 ⟨A1, k1, rfl, hr1, hD1, hg1⟩
            have hS1 := hS.grown hg1 (by simp)
            have hb1 : Below w.heap.size w w1 := below_of_gb hb hg1 (by omega) (by omega)
            have hz1 := hg1.size
            clear hs0 hs1 hs2 hcD hD hS hg1 hb
            obtain ⟨hs0, hs1, hs2⟩ := hS1.cell3
            have hl1 := hS1.lt
            have hl1' := hD1.lt
            go_wp2_with fail
            refine (dimage_nil a b c N _ HF.out HE.out (by omega)).mono ?_
            rintro e w2 ⟨A2, k2, rfl, hr2, hb2⟩
            have hz2 := hb2.size
            simp only [World.size_alloc] at hz2
            have hm2 : Bk w2 w1.heap.size 41 (imgA a b c A1 N k1) := (Bk.new w1 _ _).nx hb2
            have hS2 := (hS1.alloc (.cells (imgA a b c A1 N k1) 41)).nx hb2
            have hD2 := (hD1.alloc (.cells (imgA a b c A1 N k1) 41)).nx hb2
            have hb2' : Below w.heap.size w w2 := (hb1.alloc (by omega) _).trans (hb2.mono (by simp; omega))
            have hr1' : Rd w2 w1.heap.size A1 ((rlB X N).map (Value.int .u8)) := (hr1.alloc (Nat.le_refl _) _).below' hb2 (by simp)
            clear hs0 hs1 hs2 hS1 hD1 hb1 hb2 hr1
            obtain ⟨hs0, hs1, hs2⟩ := hS2.cell3
            have hl2 := hS2.lt
            have hl2' := hD2.lt
            have hl2m := hm2.lt
            go_wp2_with (go_at_call 14; refine (roll_nil _ _).mono ?_; rintro e w' ⟨rfl, rfl⟩)
            refine (rimage_any X a b c N _ HE.out (by omega) hN2 hX).mono ?_
            rintro e w3 ⟨A3, k3, rfl, hr3, hb3⟩
            have hz3 := hb3.size
            simp only [World.size_alloc] at hz3
            have hn3 : Bk w3 w2.heap.size 41 (imgA a b c A2 N k2) := (Bk.new w2 _ _).nx hb3
            have hm3 := (hm2.alloc (.cells (imgA a b c A2 N k2) 41)).nx hb3
            have hD3 := (hD2.alloc (.cells (imgA a b c A2 N k2) 41)).nx hb3
            have hb3' : Below w.heap.size w w3 := (hb2'.alloc (by omega) _).trans (hb3.mono (by simp; omega))
            have hr1'' : Rd w3 w3.heap.size A1 ((rlB X N).map (Value.int .u8)) := ((hr1'.alloc (by omega) _).below' hb3 (by simp; omega)).more (by omega)
            have hr2'' : Rd w3 w3.heap.size A2 (List.replicate N (.int .u8 0)) := ((hr2.alloc (Nat.le_refl _) _).below' hb3 (by simp)).more (by omega)
            clear hs0 hs1 hs2 hS2 hD2 hb2' hb3 hr1' hr2 hm2
            have hl3 := hn3.lt
            have hl3' := hD3.lt
            have hl3m := hm3.lt
            have HCK := hck
            obtain ⟨_, _, _, hn33⟩ := hn3.cell4
            go_wp2_with fail
            go_loop [21] (fun i => ∃ j : Nat, j ≤ N ∧ i = .int .i64 j) (fun i => N - (intOf i).toNat)
            case atStart => exact ⟨0, by omega, rfl⟩
            case round =>
              obtain ⟨j, hj, rfl⟩ := hrel
              by_cases hlt : j < N
              · obtain ⟨b2, o2, rfl, hb2, hcl⟩ := hr2''.get j (by simpa using hlt)
                simp only [List.getElem_replicate] at hcl
                go_wp2
                exact ⟨⟨j + 1, by omega, by go_num⟩, by simp [intOf]; omega⟩
              · obtain ⟨hm30, hm31, hm32, hm33⟩ := hm3.cell4
                go_wp2_with fail
                refine (same_yes a b c A1 A3 N k1 k3 ((rlB X N).map (Value.int .u8)) _ ((hr1''.alloc (Nat.le_refl _) _).more (by simp)) ((hr3.alloc (Nat.le_refl _) _).more (by simp)) (by simp [rlB_len]) (by simp) (by omega)).mono ?_
                rintro e w4 ⟨rfl, hb4⟩
                have hz4 := hb4.size
                simp only [World.size_alloc] at hz4
                have hn4 := (hn3.alloc (.cells (imgA a b c A3 N k3) 41)).nx hb4
                have hD4 := (hD3.alloc (.cells (imgA a b c A3 N k3) 41)).nx hb4
                have hcD4 := hD4.cell1
                obtain ⟨hn40, hn41, hn42, hn43⟩ := hn4.cell4
                go_wp2_with (first
                  | (go_at_call 21; refine (rcheck_ok _ _ _ _ _ _ _ HCK.out).mono ?_; rintro e w5 ⟨rfl, hb5⟩)
                  | (go_at_call 19; refine (alive54_any _).mono ?_; rintro e w' ⟨rfl, rfl⟩))
                go_returns
                exact ⟨rfl, ((hb3'.alloc (by omega) _).trans (hb4.mono (by simp; omega))).trans (hb5.mono (by omega))⟩
        · have hfb : (fitsC a b c == 0) = false := by simpa using hf
          have hfb2 : (fitsC a b c != 0) = true := by simpa using hf
          have HF := Lib.hid hf
          clear hf
          have hne : (fitsC a b c != fitsC a b c) = false := by simp
          go_wp2_with (go_at_call 16; refine (rfits_any _ _ _ _).mono ?_; rintro e w' ⟨rfl, rfl⟩)
          refine (dimage_bad _ _ _ _ _ HF.out).mono ?_
          rintro e w1 ⟨rfl, hb1⟩
          have hcb1 := bcell hb1
          have hz1 := hb1.size
          have hslt1 : w.heap.size < w1.heap.size := by omega
          have hdlt1 : w.heap.size + 1 < w1.heap.size := by omega
          go_wp2_with fail
          refine (dimage_bad _ _ _ _ _ HF.out).mono ?_
          rintro e w2 ⟨rfl, hb2⟩
          have hcb2 := bcell hb2
          have hz2 := hb2.size
          simp only [World.size_alloc] at hz2
          have hslt2 : w.heap.size < w2.heap.size := by omega
          have hdlt2 : w.heap.size + 1 < w2.heap.size := by omega
          have hmlt2 : w1.heap.size < w2.heap.size := by omega
          go_wp2_with (go_at_call 14; refine (roll_nil _ _).mono ?_; rintro e w' ⟨rfl, rfl⟩)
          refine (same_yes 0 0 0 none none 0 0 0 [] _ Rd.nil Rd.nil rfl (by simp) (by omega)).mono ?_
          rintro e w3 ⟨rfl, hb3⟩
          have hcb3 := bcell hb3
          have hz3 := hb3.size
          simp only [World.size_alloc] at hz3
          go_wp2_with fail
          refine (same_yes 0 0 0 none none 0 0 0 [] _ Rd.nil Rd.nil rfl (by simp) (by omega)).mono ?_
          rintro e w4 ⟨rfl, hb4⟩
          go_wp2_with (go_at_call 19; refine (alive54_any _).mono ?_; rintro e w' ⟨rfl, rfl⟩)
          go_returns
          exact ⟨rfl, ((((hb.trans (hb1.mono (by omega))).alloc (by omega) _).trans (hb2.mono (by simp; omega))).alloc (by omega) _ |>.trans (hb3.mono (by simp; omega))).trans (hb4.mono (by omega))⟩
theorem cells_int : Try.prog.cellsOf 3 = 1 := by kernel_rfl
theorem cells_3int : Try.prog.cellsOf 29 = 3 := by kernel_rfl
theorem lawGenRolls (x : Int) (A : Option Addr) (n cp : Nat) (cs : Array Value) (w : World) (h0 : (Lit.int .u64 x).wf = true) (h1 : Rv Try.prog w 28 [.slice A n cp]) (h2 : Rv Try.prog w 29 cs.toList) :
    Calls Try.prog 4 #[.int .u64 x, .slice A n cp, .agg cs] w fun e w' => e = .returned (.bool true) ∧ Below w.heap.size w w' := by
  obtain ⟨A', n', c', l, e1, hn, hc, hl, hw, hr⟩ := rv_ints Try.underlying28 Try.underlying3 cells_int h1
  simp at e1
  obtain ⟨rfl, rfl, rfl⟩ := e1
  obtain ⟨hlen, hel⟩ := rv_array Try.underlying29 h2
  rw [cells_int] at hel
  rw [cells_3int] at hlen
  obtain ⟨l3⟩ := cs
  match l3, hlen with
  | [v0, v1, v2], _ =>
    obtain ⟨a, e0, _⟩ := rv_int Try.underlying3 (hel 0 (by omega))
    obtain ⟨b, e1, _⟩ := rv_int Try.underlying3 (hel 1 (by omega))
    obtain ⟨c, e2, _⟩ := rv_int Try.underlying3 (hel 2 (by omega))
    simp at e0 e1 e2
    subst e0 e1 e2
    exact walkGenRolls x l A n cp a b c w hl (by simp [maxLen] at hc; omega) hr (fun z hz => (wf_i64 (hw z hz)).2) (wf_u64 h0)
end Go.Proofs.Ytakdcdpgojllpaa
