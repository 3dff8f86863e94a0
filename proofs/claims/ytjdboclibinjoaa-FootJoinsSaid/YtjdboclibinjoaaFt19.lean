/- The law: runs that are joined. -/
import Derived.Test.YtjdboclibinjoaaFt18
set_option linter.unusedVariables false
namespace Go.Proofs.Ytjdboclibinjoaa
open Go.RowKit
set_option maxRecDepth 100000 in
set_option maxHeartbeats 8000000 in
theorem lawFootJoins (A : Option Addr) (n c : Nat) (i : Int) (W : World) (q0h : Rv Try.prog W 23 [.slice A n c]) (w1 : (Lit.int .i64 i).wf = true) :
    Calls Try.prog 5 #[.slice A n c, .int .i64 i] W fun e w' => e = .returned (.bool true) ∧ Below W.heap.size W w' := by
  obtain ⟨_, _, rs, hn, hr, hI⟩ := open_runs q0h
  have hw : ∀ r ∈ rs, -9223372036854775808 ≤ r.1 ∧ r.2 ≤ 9223372036854775807 := fun r h => ⟨(hI r h).1.1, (hI r h).2.2⟩
  clear q0h w1 hI
  by_cases hbig : 60 < n
  · go_enter Try.func5, Try.ntmps5
    go_wp2
    go_returns
    exact ⟨rfl, by go_grown⟩
  have hn60 : n ≤ 60 := by omega
  clear hbig
  have hjn := joinF_len rs
  have hjoin := fun W' h => joinf_any rs A n c W' hn h (by omega)
  have hhas := fun W' h => has_any rs A n c i W' hn (by omega) h
  have hhas2 := fun A' c' W' h => has_any (joinF rs) A' (joinF rs).length c' i W' rfl (by omega) h
  have hcount := fun W' h => count_any rs A n c W' hn h (by omega) hw
  have hrunsp := fun hp out hc hm => @runs_plain rs out hp hc hm
  have hcntp := @cntF_plain rs
  rw [hasB_joinF] at hhas2
  generalize hJ : joinF rs = J at *
  generalize cntF rs = CN at *
  clear hJ
  go_enter Try.func5, Try.ntmps5
  go_wp2_with fail
  go_loopw [5, 21] (fun v x wr => ∃ k : Nat, k ≤ n ∧ x = .int .i64 k ∧ v = .bool (plB (rs.take k)) ∧ Below W.heap.size W wr) (fun _ x _ => n - (intOf x).toNat)
  case atStart => exact ⟨0, by omega, rfl, rfl, by go_grown⟩
  case round =>
    obtain ⟨k, hk, rfl, rfl, hbr⟩ := hrel
    by_cases hlt : k < n
    · have hk2 : k < rs.length := by omega
      have hsn := Lib.hid (plB_snoc rs k hk2)
      obtain ⟨b, o, rfl, hbb, hc0, hc1⟩ := rd_run (hr.below hbr) k hk2
      generalize rs[k] = r at *
      obtain ⟨x, y⟩ := r
      simp only at hc0 hc1
      have hbw := hbr.size
      generalize plB (rs.take k) = P0 at *
      by_cases g1 : x < y
      · by_cases g2 : x < 0
        · have hP : Hid (plR (x, y) = false) := by show _ = _; simp [plR, g1, g2]
          go_wp2_with fail
          exact ⟨⟨k + 1, by omega, by go_num, by rw [hsn.out, hP.out, Bool.and_false], hbr.alloc hbw _⟩, by simp [intOf]; omega⟩
        · have g2' : 0 ≤ x := by omega
          by_cases g3 : 400 < y
          · have hP : Hid (plR (x, y) = false) := by show _ = _; simp [plR, g1, g3]
            clear g2
            go_wp2_with fail
            exact ⟨⟨k + 1, by omega, by go_num, by rw [hsn.out, hP.out, Bool.and_false], hbr.alloc hbw _⟩, by simp [intOf]; omega⟩
          · have hP : Hid (plR (x, y) = true) := by show _ = _; simp [plR]; omega
            have g3' : y ≤ 400 := by omega
            clear g2 g3
            go_wp2_with fail
            exact ⟨⟨k + 1, by omega, by go_num, by rw [hsn.out, hP.out, Bool.and_true], hbr.alloc hbw _⟩, by simp [intOf]; omega⟩
      · have g1' : y ≤ x := by omega
        have hP : Hid (plR (x, y) = true) := by show _ = _; simp [plR]; omega
        clear g1
        go_wp2_with fail
        exact ⟨⟨k + 1, by omega, by go_num, by rw [hsn.out, hP.out, Bool.and_true], hbr.alloc hbw _⟩, by simp [intOf]; omega⟩
    · obtain rfl : k = n := by omega
      rw [List.take_of_length_le (by omega)]
      generalize hPL : plB rs = PL at *
      have hPLh := Lib.hid hPL
      clear hPL
      go_wp2_with fail
      go_loopw [8, 43] (fun v x wx => ∃ k' : Nat, k' ≤ k ∧ x = .int .i64 k' ∧ v = .bool (hasB (rs.take k') i) ∧ Below W.heap.size W wx) (fun _ x _ => k - (intOf x).toNat)
      case atStart => exact ⟨0, by omega, rfl, rfl, by go_grown⟩
      case round =>
        obtain ⟨k', hk', rfl, rfl, hbx⟩ := hrel
        by_cases hlt' : k' < k
        · have hk2 : k' < rs.length := by omega
          have hsn := Lib.hid (hasB_snoc rs k' hk2 i)
          obtain ⟨b, o, rfl, hbb, hc0, hc1⟩ := rd_run (hr.below hbx) k' hk2
          generalize rs[k'] = r at *
          obtain ⟨x, y⟩ := r
          simp only at hc0 hc1
          have hbw := hbx.size
          cases hP0 : hasB (rs.take k') i
          · rw [hP0, Bool.false_or] at hsn
            by_cases g1 : x ≤ i
            · by_cases g2 : i < y
              · have hD : Hid ((decide (x ≤ i) && decide (i < y)) = true) := by show _ = _; simp [g1, g2]
                go_wp2_with fail
                exact ⟨⟨k' + 1, by omega, by go_num, by rw [hsn.out, hD.out]; first | done | (congr 1; simp; omega), hbx.alloc hbw _⟩, by simp [intOf]; omega⟩
              · have hD : Hid ((decide (x ≤ i) && decide (i < y)) = false) := by show _ = _; simp [g2]
                have g2' : y ≤ i := by omega
                clear g2
                go_wp2_with fail
                exact ⟨⟨k' + 1, by omega, by go_num, by rw [hsn.out, hD.out]; first | done | (congr 1; simp; omega), hbx.alloc hbw _⟩, by simp [intOf]; omega⟩
            · have hD : Hid ((decide (x ≤ i) && decide (i < y)) = false) := by show _ = _; simp [g1]
              have g1' : i < x := by omega
              clear g1
              go_wp2_with fail
              exact ⟨⟨k' + 1, by omega, by go_num, by rw [hsn.out, hD.out]; first | done | (congr 1; simp; omega), hbx.alloc hbw _⟩, by simp [intOf]; omega⟩
          · rw [hP0, Bool.true_or] at hsn
            go_wp2_with fail
            exact ⟨⟨k' + 1, by omega, by go_num, by rw [hsn.out], hbx.alloc hbw _⟩, by simp [intOf]; omega⟩
        · obtain rfl : k' = k := by omega
          rw [List.take_of_length_le (by omega)]
          generalize hHB : hasB rs i = HB at *
          clear hHB
          have hrx := (hr.below hbx).more hbx.size
          go_wp2_with fail
          refine (hhas _ hrx).mono ?_
          rintro e w1 ⟨rfl, hb1⟩
          have hbz1 := hbx.trans (hb1.mono hbx.size)
          have hr1 := (hr.below hbz1).more hbz1.size
          go_wp2_with fail
          refine (hjoin _ hr1).mono ?_
          rintro e w2 ⟨v2, rfl, hown2, hb2⟩
          obtain ⟨A2, c2, rfl, h21, h22, hA2, hr2, _⟩ := own_form2 hown2
          have hbz2 := hbz1.trans (hb2.mono hbz1.size)
          go_wp2_with fail
          refine (hhas2 A2 c2 _ hr2).mono ?_
          rintro e w3 ⟨rfl, hb3⟩
          have hbz3 := hbz2.trans (hb3.mono hbz2.size)
          clear hbx hb1 hbz1 hb2 hbz2 hb3 hr1 hown2 hr2 hrx hhas hhas2
          cases PL
          · go_wp2_with (go_at_call 10; (with_reducible refine (alive_any _).mono ?_); rintro e w4 ⟨rfl, hb4⟩)
            go_returns
            exact ⟨rfl, hbz3.trans (hb4.mono hbz3.size)⟩
          · have hmk := fun W => run_make1 (P := Try.prog) Try.underlying40 bool_info rfl (400 : Int) 400 rfl (by omega) (by omega) W
            have hpl := hPLh.out
            have hcn := Lib.hid (hcntp rfl)
            have hrp := Lib.hid (hrunsp rfl)
            clear hcntp hrunsp
            have hsz3 := hbz3.size
            go_wp2_with fail
            clear hmk
            go_loopw [12, 13] (fun cn x wx => ∃ j : Nat, j ≤ 400 ∧ x = .int .i64 j ∧ cn = .int .i64 (cntJ rs j : Nat) ∧ wx.ownsRow w3.heap.size 4 1 (.slice (some ⟨w3.heap.size, 0, none⟩) 400 400) 400 ((bsJ rs j).map Value.bool) ∧ Below w3.heap.size w3 wx) (fun _ x _ => 400 - (intOf x).toNat)
            case atStart =>
              refine ⟨0, by omega, rfl, rfl, ?_, by go_grown⟩
              have := own_of_Bk (base := w3.heap.size) (Bk.new w3 4 (Array.replicate 400 (.bool false))) 400 (by simp) (by omega) (Nat.le_refl _)
              rw [bsJ_0, List.map_replicate]
              rw [Array.toList_replicate] at this
              exact this
            case round =>
              obtain ⟨j, hj, rfl, rfl, hown, hbx⟩ := hrel
              by_cases hlt : j < 400
              · have hcs := Lib.hid (cntJ_succ rs j)
                have hcl := cntJ_le rs j
                generalize cntJ rs j = C0 at *
                go_wp2_with fail
                go_loopw [84] (fun x wy => ∃ q : Nat, q ≤ rs.length ∧ x = .int .i64 q ∧ wy.ownsRow w3.heap.size 4 1 (.slice (some ⟨w3.heap.size, 0, none⟩) 400 400) 400 (((bsJ rs j).set j (hasB (rs.take q) (j : Int))).map Value.bool) ∧ Below w3.heap.size w3 wy) (fun x _ => rs.length - (intOf x).toNat)
                case atStart => exact ⟨0, by omega, rfl, by rw [bsJ_set0]; exact hown, by go_grown⟩
                case round =>
                  obtain ⟨q, hq, rfl, hown1, hby⟩ := hrel
                  have hbl : ∀ b', ((bsJ rs j).set j b').length = 400 := fun b' => by rw [List.length_set, bsJ_len]
                  by_cases hlq : q < rs.length
                  · have hsn := Lib.hid (hasB_snoc rs q hlq (j : Int))
                    obtain ⟨b, o, rfl, hbb, hc0, hc1⟩ := rd_run (hr.below (hbz3.trans (hby.mono hsz3))) q hlq
                    have hgl : w3.heap.size < wr.heap.size := (hown1.lt w3.heap.size rfl).2
                    have hfz := fun o => (hown1.alloc o).frozenAt j
                    obtain ⟨g', o', e', _, hcq⟩ := rd_bool (Rd.of_own hown1) j (by rw [hbl]; omega)
                    injection e' with e'
                    injection e' with e1 e2
                    subst e1; subst e2
                    rw [List.getElem_set_self, Nat.zero_add] at hcq
                    have hown2 := fun o => hown1.alloc o
                    have hby2 := fun o => hby.alloc hby.size o
                    generalize rs[q] = r at *
                    obtain ⟨x, y⟩ := r
                    simp only at hc0 hc1
                    have fin : ∀ (b' : Bool) o, hasB (rs.take (q + 1)) (j : Int) = b' → ((wr.setCell ⟨w3.heap.size, j, none⟩ (.bool b')).alloc o).ownsRow w3.heap.size 4 1 (.slice (some ⟨w3.heap.size, 0, none⟩) 400 400) 400 (((bsJ rs j).set j (hasB (rs.take (q + 1)) (j : Int))).map Value.bool) ∧ Below w3.heap.size w3 ((wr.setCell ⟨w3.heap.size, j, none⟩ (.bool b')).alloc o) := by
                      intro b' o hb'
                      have hst := hown1.stored j (.bool b')
                      rw [← List.map_set, List.set_set] at hst
                      rw [hb']
                      exact ⟨hst.1.alloc _, ((hby.setCell (p := ⟨w3.heap.size, j, none⟩) (Nat.le_refl _) _).alloc (by have := hby.size; simp [World.setCell]; omega) _)⟩
                    have finh := Lib.hid fin
                    clear fin hown1 hown2 hby2 hown
                    cases hP0 : hasB (rs.take q) (j : Int)
                    · rw [hP0] at hcq
                      rw [hP0, Bool.false_or] at hsn
                      by_cases g1 : x ≤ (j : Int)
                      · by_cases g2 : (j : Int) < y
                        · have hD : Hid ((decide (x ≤ (j : Int)) && decide ((j : Int) < y)) = true) := by show _ = _; simp [g1, g2]
                          have ff := Lib.hid (fun o => finh.out true o (by rw [hsn.out]; exact hD.out))
                          go_wp2_with fail
                          exact ⟨⟨q + 1, by omega, by go_num, (ff.out _).1, (ff.out _).2⟩, by simp [intOf]; omega⟩
                        · have hD : Hid ((decide (x ≤ (j : Int)) && decide ((j : Int) < y)) = false) := by show _ = _; simp [g2]
                          have ff := Lib.hid (fun o => finh.out false o (by rw [hsn.out]; exact hD.out))
                          have g2' : decide ((j : Int) < y) = false := by simpa using g2
                          clear g2
                          go_wp2_with fail
                          exact ⟨⟨q + 1, by omega, by go_num, by first | exact (ff.out _).1 | (rw [g2']; exact (ff.out _).1), by first | exact (ff.out _).2 | (rw [g2']; exact (ff.out _).2)⟩, by simp [intOf]; omega⟩
                      · have hD : Hid ((decide (x ≤ (j : Int)) && decide ((j : Int) < y)) = false) := by show _ = _; simp [g1]
                        have ff := Lib.hid (fun o => finh.out false o (by rw [hsn.out]; exact hD.out))
                        have g1' : decide (x ≤ (j : Int)) = false := by simpa using g1
                        have g1'' : (j : Int) < x := by omega
                        clear g1
                        go_wp2_with fail
                        exact ⟨⟨q + 1, by omega, by go_num, (ff.out _).1, (ff.out _).2⟩, by simp [intOf]; omega⟩
                    · rw [hP0] at hcq
                      rw [hP0, Bool.true_or] at hsn
                      have ff := Lib.hid (fun o => finh.out true o hsn.out)
                      go_wp2_with fail
                      exact ⟨⟨q + 1, by omega, by go_num, (ff.out _).1, (ff.out _).2⟩, by simp [intOf]; omega⟩
                  · obtain rfl : q = rs.length := by omega
                    rw [List.take_length] at hown1
                    obtain ⟨g', o', e', _, hcq⟩ := rd_bool (Rd.of_own hown1) j (by rw [hbl]; omega)
                    injection e' with e'
                    injection e' with e1 e2
                    subst e1; subst e2
                    rw [List.getElem_set_self, Nat.zero_add] at hcq
                    have hown2 := hown1
                    rw [bsJ_setN] at hown2
                    cases hB : hasB rs (j : Int)
                    · rw [hB] at hcq
                      rw [hB, if_neg (by simp)] at hcs
                      go_wp2_with fail
                      exact ⟨⟨j + 1, by omega, by go_num, by rw [hcs.out]; rfl, hown2, hby⟩, by simp [intOf]; omega⟩
                    · rw [hB] at hcq
                      rw [hB, if_pos rfl] at hcs
                      go_wp2_with fail
                      exact ⟨⟨j + 1, by omega, by go_num, by rw [hcs.out]; simp, hown2, hby⟩, by simp [intOf]; omega⟩
              · obtain rfl : j = 400 := by omega
                have hbz := hbz3.trans (hbx.mono hsz3)
                have hr5 := (hr.below hbz).more hbz.size
                have hrb := Rd.of_own hown
                rw [hcn.out] at hcount
                generalize cntJ rs 400 = C0 at *
                go_wp2_with fail
                refine (hjoin _ hr5).mono ?_
                rintro e w5 ⟨v5, rfl, hown5, hb5⟩
                obtain ⟨A5, c5, rfl, h51, h52, hA5, hr5', _⟩ := own_form2 hown5
                have hbz5 := hbz.trans (hb5.mono hbz.size)
                have hrb5 := (hrb.below' hb5 (Nat.le_refl _)).more hb5.size
                go_wp2_with fail
                refine (runs_any (bsJ rs 400) _ 400 400 _ (bsJ_len _ _) (by omega) hrb5).mono ?_
                rintro e w6 ⟨v6, out, rfl, hown6, hb6, hco, hmo⟩
                have hE := hrp.out out hco hmo
                subst hE
                obtain ⟨A6, c6, rfl, h61, h62, hA6, hr6, _⟩ := own_form2 hown6
                have hbz6 := hbz5.trans (hb6.mono hbz5.size)
                have hr56 := (hr5'.below' hb6 (Nat.le_refl _)).more hb6.size
                go_wp2_with fail
                refine (same_any out A5 A6 out.length c5 c6 _ rfl (by omega) hr56 hr6).mono ?_
                rintro e w7 ⟨rfl, hb7⟩
                have hbz7 := hbz6.trans (hb7.mono hbz6.size)
                have hr7 := (hr.below hbz7).more hbz7.size
                go_wp2_with fail
                refine (hcount _ hr7).mono ?_
                rintro e w8 ⟨rfl, hb8⟩
                have hbz8 := hbz7.trans (hb8.mono hbz7.size)
                go_wp2_with (go_at_call 10; (with_reducible refine (alive_any _).mono ?_); rintro e w9 ⟨rfl, hb9⟩)
                go_returns
                exact ⟨rfl, hbz8.trans (hb9.mono hbz8.size)⟩
end Go.Proofs.Ytjdboclibinjoaa
