/- The law HomogAsks: the walk. -/
import Derived.Test.YtebcienjeponmaaHq1
set_option linter.unusedVariables false
namespace Go.Proofs.Ytebcienjeponmaa
open Go.RowKit
set_option maxRecDepth 100000 in
set_option maxHeartbeats 8000000 in
theorem walkHomogAsks (l : List Int) (A A2 : Option Addr) (n cp m cp2 : Nat) (W H : Int) (f : Nat → Int × Int × Int) (w : World) (hl : l.length = n) (hcp : n ≤ cp) (hr : Rd w w.heap.size A (l.map (Value.int .i64))) (hok : ∀ z ∈ l, -9223372036854775808 ≤ z ∧ z ≤ 9223372036854775807) (hW : I64 W) (hH : I64 H)
    (hcp2 : m ≤ cp2) (hpl : Pls w w.heap.size A2 m f) (hf3 : ∀ k, k < m → I3 (f k)) :
    Calls Try.prog 4 #[.slice A n cp, .agg #[.int .i64 W, .int .i64 H], .slice A2 m cp2] w fun e w' => e = .returned (.bool true) ∧ Below w.heap.size w w' := by
  have hL : Lie w [(w.heap.size, 23, #[.int .i64 W, .int .i64 H])] _ := (Lie.start w).alloc _ _
  have hAl := fun w' => alive19 w'
  by_cases h60 : 60 < n
  · clear hl
    go_enter Try.func4, Try.ntmps4
    go_wp2_with fail
    go_returns
    exact ⟨rfl, hL.bel⟩
  by_cases h61 : 60 < m
  · clear hl
    go_enter Try.func4, Try.ntmps4
    go_wp2_with fail
    go_returns
    exact ⟨rfl, hL.bel⟩
  have hN := new_any l A n cp W H _ hl (hL.rd hr (Nat.le_refl _)) hL.sz hcp
  have hC := fun (w' : World) (hb : Below w.heap.size w w') => rcheck_any l A n cp W H w' hl (hr.below hb) hb.size hok hW hH
  obtain ⟨s0, s1⟩ := (hL.k 0 (by simp)).cell2
  simp only [List.getElem_cons_zero] at s0 s1
  by_cases hz : newC l W H = 0
  · have hcf := (newC_zero.1 hz).ok
    obtain rfl : n = 9 := by rw [← hl]; exact hcf.len
    have hAd := adOk hcf
    have hAn := fun (X Y D : Int) (w' : World) (hb : Below w.heap.size w w') (hp : rightH X Y D = true) (h0 : undR (adK (cf l) 9) X Y D = 0) => rat19_none l A cp X Y D w' hcf (hr.below hb) hb.size hp h0
    have hAs := fun (X Y D : Int) (w' : World) (hb : Below w.heap.size w w') (hp : rightH X Y D = true) (h0 : undR (adK (cf l) 9) X Y D ≠ 0) => rat19_some l A cp X Y D w' hcf (hr.below hb) hb.size hp h0
    rw [hz] at hN hC
    simp only [NwR, hz] at hN
    clear hz hcf hl h60 hok
    generalize adK (cf l) 9 = a at *
    go_enter Try.func4, Try.ntmps4
    go_wp2_with fail
    refine hN.mono ?_
    rintro e w2 ⟨p, rfl, ⟨_, hR⟩, hb2⟩
    obtain ⟨g, rfl, hg, hK⟩ := hR (by trivial)
    clear hR hN s0 s1
    replace hL := hL.nx hb2
    obtain ⟨s0, s1⟩ := (hL.k 0 (by simp)).cell2
    simp only [List.getElem_cons_zero] at s0 s1
    go_wp2_with fail
    refine (hC _ hL.bel).mono ?_
    rintro e w3 ⟨rfl, hb3⟩
    replace hL := hL.nx hb3
    replace hK := hK.nx hb3
    clear hC s0 s1
    have hbl := hL.bel
    go_wp2_with fail
    go_loopw [45] (fun i wr => ∃ k : Nat, i = .int .i64 k ∧ k ≤ m ∧ Bk wr g 74 (mA a) ∧ Below w.heap.size w wr) (fun i _ => m - (intOf i).toNat)
    case atStart => exact ⟨0, rfl, by omega, hK, hbl⟩
    case round =>
      clear hK hbl hL
      obtain ⟨k, rfl, hk, hK, hbl⟩ := hrel
      by_cases hlt : k < m
      · obtain ⟨b, o, rfl, hb, c0, c1, c2⟩ := (hpl.below hbl) k hlt
        obtain ⟨i0, i1, i2⟩ := hf3 k hlt
        generalize (f k).1 = X at *
        generalize (f k).2.1 = Y at *
        generalize (f k).2.2 = D at *
        have hKa := hK.alloc (.cells #[.int .i64 X, .int .i64 Y, .int .i64 D] 25)
        have kp := Bk.new wr 25 #[.int .i64 X, .int .i64 Y, .int .i64 D]
        have hba := hbl.alloc hbl.size (.cells #[.int .i64 X, .int .i64 Y, .int .i64 D] 25)
        have hbw : b < wr.heap.size := Nat.lt_of_lt_of_le hb hbl.size
        have hAt := hat_any a g X Y D _ hKa hAd
        have hRt := fun w' => rright_h X Y D w'
        by_cases hp : rightH X Y D = true
        · rw [hp] at hRt
          by_cases h0 : undR a X Y D = 0
          · have E1 : atX a X Y D = 0 := by simp [atX, h0]
            have E2 : atY a X Y D = 0 := by simp [atY, h0]
            have E3 : atE a X Y D = 41 := by simp [atE, hp, h0]
            rw [E1, E2, E3] at hAt
            have hA2 := fun (w' : World) (hb : Below w.heap.size w w') => hAn X Y D w' hb hp h0
            clear E1 E2 E3 hp h0 hAn hAs
            go_wp2_with fail
            refine hAt.mono ?_
            rintro e w4 ⟨rfl, hb4⟩
            have hb5 := hba.trans (hb4.mono hba.size)
            replace kp := kp.nx hb4
            replace hKa := hKa.nx hb4
            obtain ⟨q0, q1, q2⟩ := kp.cell3
            go_wp2_with (first
              | (go_at_call 18; (with_reducible refine (hRt _).mono ?_); rintro e w5 ⟨rfl, rfl⟩)
              | (go_at_call 21; (with_reducible refine (hA2 _ (by exact hb5)).mono ?_); rintro e w6 ⟨rfl, hb6⟩))
            exact ⟨⟨k + 1, by go_num, by omega, hKa.nx hb6, hb5.trans (hb6.mono hb5.size)⟩, by simp [intOf]; omega⟩
          · have E3 : atE a X Y D = 0 := by simp [atE, hp, h0]
            rw [E3] at hAt
            have hA2 := fun (w' : World) (hb : Below w.heap.size w w') => hAs X Y D w' hb hp h0
            clear E3 hp h0 hAn hAs
            generalize atX a X Y D = v1 at *
            generalize atY a X Y D = v2 at *
            go_wp2_with fail
            refine hAt.mono ?_
            rintro e w4 ⟨rfl, hb4⟩
            have hb5 := hba.trans (hb4.mono hba.size)
            replace kp := kp.nx hb4
            replace hKa := hKa.nx hb4
            obtain ⟨q0, q1, q2⟩ := kp.cell3
            go_wp2_with (first
              | (go_at_call 18; (with_reducible refine (hRt _).mono ?_); rintro e w5 ⟨rfl, rfl⟩)
              | (go_at_call 21; (with_reducible refine (hA2 _ (by exact hb5)).mono ?_); rintro e w6 ⟨rfl, hb6⟩))
            exact ⟨⟨k + 1, by go_num, by omega, hKa.nx hb6, hb5.trans (hb6.mono hb5.size)⟩, by simp [intOf]; omega⟩
        · have hp' : rightH X Y D = false := by simpa using hp
          have E1 : atX a X Y D = 0 := by simp [atX, hp']
          have E2 : atY a X Y D = 0 := by simp [atY, hp']
          have E3 : atE a X Y D = 11 := by simp [atE, hp']
          rw [E1, E2, E3] at hAt
          rw [hp'] at hRt
          clear E1 E2 E3 hp hp' hAn hAs
          go_wp2_with fail
          refine hAt.mono ?_
          rintro e w4 ⟨rfl, hb4⟩
          have hb5 := hba.trans (hb4.mono hba.size)
          replace kp := kp.nx hb4
          replace hKa := hKa.nx hb4
          obtain ⟨q0, q1, q2⟩ := kp.cell3
          go_wp2_with (first
            | (go_at_call 18; (with_reducible refine (hRt _).mono ?_); rintro e w5 ⟨rfl, rfl⟩))
          exact ⟨⟨k + 1, by go_num, by omega, hKa, hb5⟩, by simp [intOf]; omega⟩
      · go_wp2_with (first
          | (go_at_call 14; (with_reducible refine (hAl _).mono ?_); rintro e w4 ⟨rfl, hb4⟩))
        go_returns
        exact ⟨rfl, hbl.trans (hb4.mono hbl.size)⟩
  · have hb : (newC l W H != 0) = true := by simp [hz]
    have hne := Lib.hid hz
    simp only [NwR] at hN
    clear hz hl hok hr
    generalize newC l W H = nc at *
    go_enter Try.func4, Try.ntmps4
    go_wp2_with fail
    refine hN.mono ?_
    rintro e w2 ⟨p, rfl, ⟨hRl, _⟩, hb2⟩
    obtain rfl := hRl hne.out
    clear hRl hN s0 s1
    replace hL := hL.nx hb2
    obtain ⟨s0, s1⟩ := (hL.k 0 (by simp)).cell2
    simp only [List.getElem_cons_zero] at s0 s1
    go_wp2_with fail
    refine (hC _ hL.bel).mono ?_
    rintro e w3 ⟨rfl, hb3⟩
    replace hL := hL.nx hb3
    clear hC s0 s1
    have hbl := hL.bel
    go_wp2_with fail
    go_loopw [45] (fun i wr => ∃ k : Nat, i = .int .i64 k ∧ k ≤ m ∧ Below w.heap.size w wr) (fun i _ => m - (intOf i).toNat)
    case atStart => exact ⟨0, rfl, by omega, hbl⟩
    case round =>
      clear hbl hL
      obtain ⟨k, rfl, hk, hbl⟩ := hrel
      by_cases hlt : k < m
      · obtain ⟨b, o, rfl, hb', c0, c1, c2⟩ := (hpl.below hbl) k hlt
        generalize (f k).1 = X at *
        generalize (f k).2.1 = Y at *
        generalize (f k).2.2 = D at *
        have hba := hbl.alloc hbl.size (.cells #[.int .i64 X, .int .i64 Y, .int .i64 D] 25)
        have hbw : b < wr.heap.size := Nat.lt_of_lt_of_le hb' hbl.size
        have hAt := fun w' => at_nil X Y D w'
        go_wp2_with (first
          | (go_at_call 20; (with_reducible refine (hAt _).mono ?_); rintro e w4 ⟨rfl, rfl⟩))
        exact ⟨⟨k + 1, by go_num, by omega, hba⟩, by simp [intOf]; omega⟩
      · go_wp2_with (first
          | (go_at_call 14; (with_reducible refine (hAl _).mono ?_); rintro e w4 ⟨rfl, hb4⟩))
        go_returns
        exact ⟨rfl, hbl.trans (hb4.mono hbl.size)⟩
theorem lawHomogAsks (A : Option Addr) (n cp : Nat) (cs1 : Array Value) (A2 : Option Addr) (m cp2 : Nat) (w : World) (h0 : Rv Try.prog w 22 [.slice A n cp]) (h1 : Rv Try.prog w 23 cs1.toList) (h2 : Rv Try.prog w 46 [.slice A2 m cp2]) :
    Calls Try.prog 4 #[.slice A n cp, .agg cs1, .slice A2 m cp2] w fun e w' => e = .returned (.bool true) ∧ Below w.heap.size w w' := by
  obtain ⟨l, hl, hn, _, hok, hr⟩ := open_nums h0
  obtain ⟨W, H, rfl, hW, hH⟩ := open_size h1
  obtain ⟨hm, _, f, hf, hp⟩ := open_places h2
  exact walkHomogAsks l A A2 n cp m cp2 W H f w hl hn hr hok hW hH hm hp hf
end Go.Proofs.Ytebcienjeponmaa
