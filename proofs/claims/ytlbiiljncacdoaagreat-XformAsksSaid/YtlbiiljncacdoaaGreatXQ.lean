/- The law XformAsks: the walk, over what New, Check and At answer. -/
import Derived.Test.YtlbiiljncacdoaaGreatNP
import Derived.Test.YtlbiiljncacdoaaGreatOP
import Derived.BigRegion
import Derived.RegionTactic
set_option linter.unusedVariables false
namespace Go.Proofs.YtlbiiljncacdoaaGreat
open Go.RowKit
theorem xf_sizeQ : (Tryz.prog.info? 31).map (·.size) = some 2 := by kernel_rfl
theorem i64_infoQ : (Tryz.prog.info? 2).map (fun i => (i.zero, i.size, i.bytes)) = some (some (.int .i64 0), 1, 8) := by kernel_rfl
/-- The blocks from lo to hi lie as in w. -/
def Kp (lo hi : Nat) (w w' : World) : Prop := hi ≤ w'.heap.size ∧ ∀ i, lo ≤ i → i < hi → w'.heap[i]? = w.heap[i]?
theorem Kp.start (lo : Nat) (w : World) : Kp lo w.heap.size w w := ⟨Nat.le_refl _, fun _ _ _ => rfl⟩
theorem Kp.nx {lo hi : Nat} {w wr w' : World} (h : Kp lo hi w wr) (hb : Below wr.heap.size wr w') : Kp lo hi w w' :=
  ⟨Nat.le_trans h.1 hb.size, fun i h1 h2 => (hb.block i (Nat.lt_of_lt_of_le h2 h.1)).trans (h.2 i h1 h2)⟩
theorem Kp.alloc {lo hi : Nat} {w wr : World} (h : Kp lo hi w wr) (o : Obj) : Kp lo hi w (wr.alloc o) := h.nx ((Below.refl _ _).alloc (Nat.le_refl _) o)
theorem Kp.set {lo hi : Nat} {w wr : World} (h : Kp lo hi w wr) (g q : Nat) (hg : g < lo) (u : Value) : Kp lo hi w (wr.setCell ⟨g, q, none⟩ u) :=
  ⟨by simpa [World.setCell] using h.1, fun i h1 h2 => (Below.heap_setCell wr ⟨g, q, none⟩ u i (fun e => by have : i = g := e; omega)).trans (h.2 i h1 h2)⟩
set_option maxRecDepth 100000 in
set_option maxHeartbeats 16000000 in
theorem walkXformAsks (k : Int) (l : List Int) (A A2 : Option Addr) (n cp m cp2 : Nat) (W H : Int) (f : Nat → Int × Int × Int) (C : Int) (F G E : Int → Int → Int → Int) (w : World) (hl : l.length = n) (hr : Rd w w.heap.size A (l.map (Value.int .i64)))
    (hpl : Pls w w.heap.size A2 m f) (hf3 : ∀ k, k < m → I3 (f k))
    (hN : n ≤ 9000 → ∀ (A' : Option Addr) (cp' : Nat) (w1 : World), n ≤ cp' → cp' ≤ maxLen → Rd w1 w1.heap.size A' (l.map (Value.int .i64)) → NewMp k A' n cp' W H w1 C F G E)
    (hN0 : n ≤ 9000 → ∀ w' : World, Below w.heap.size w w' → NewMp k A n cp W H w' C F G E)
    (hC : n ≤ 9000 → ∀ w' : World, Below w.heap.size w w' → Calls Tryz.prog 26 #[xfV k A n cp, .int .i64 W, .int .i64 H] w' fun e w'' => e = .returned (.int .i64 C) ∧ Below w'.heap.size w' w'')
    (hA : C = 0 → ∀ (w' : World) (x y d : Int), I3 (x, y, d) → Below w.heap.size w w' → Calls Tryz.prog 30 #[xfV k A n cp, .int .i64 x, .int .i64 y, .int .i64 d] w' fun e w'' => e = .returned (.tuple #[.int .i64 (F x y d), .int .i64 (G x y d), .int .i64 (E x y d)]) ∧ Below w'.heap.size w' w'')
    (hAl : ∀ w : World, Calls Tryz.prog 22 #[] w fun e w' => e = .returned (.bool true) ∧ Below w.heap.size w w') :
    Calls Tryz.prog 4 #[xfV k A n cp, .agg #[.int .i64 W, .int .i64 H], .slice A2 m cp2] w fun e w' => e = .returned (.bool true) ∧ Below w.heap.size w w' := by
  have hL := ((Lie.start w).alloc #[.int .i64 k, .slice A n cp] 31).alloc #[.int .i64 W, .int .i64 H] 22
  simp only [World.size_alloc] at hL
  by_cases h9 : 9000 < n
  · clear hl hN hN0 hC hA hr
    go_enter Tryz.func4, Tryz.ntmps4
    go_wp2_with fail
    go_returns
    exact ⟨rfl, hL.bel⟩
  by_cases h60 : 60 < m
  · clear hl hN hN0 hC hA hr
    go_enter Tryz.func4, Tryz.ntmps4
    go_wp2_with fail
    go_returns
    exact ⟨rfl, hL.bel⟩
  replace hN := hN (by omega)
  replace hN0 := hN0 (by omega)
  replace hC := hC (by omega)
  go_enter Tryz.func4, Tryz.ntmps4
  go_upto_region 3 with fail
  generalize hw0 : (w.alloc (.cells #[.int .i64 k, .slice A n cp] 31)).alloc (.cells #[.int .i64 W, .int .i64 H] 22) = w0 at *
  have hsz : w0.heap.size = w.heap.size + 2 := by rw [← hw0]; simp
  have hr0 := hL.rd hr (Nat.le_refl _)
  clear hw0
  have hszle : w.heap.size + 2 ≤ w0.heap.size := by omega
  clear hsz
  obtain ⟨x0, x1⟩ := (hL.k 1 (by simp)).cell2
  simp only [List.getElem_cons_zero, List.getElem_cons_succ] at x0 x1
  have hlt0 : w.heap.size < w0.heap.size := by omega
  have hlt1 : w.heap.size + 1 < w0.heap.size := by omega
  have hb0 := (Below.refl w0.heap.size w0).alloc (Nat.le_refl _) (.cells #[] 2)
  have hown0 : (w0.alloc (.cells #[] 2)).ownsRow w0.heap.size 2 1 (.slice (some ⟨w0.heap.size, 0, none⟩) 0 0) 0 [] := by
    simpa using own_of_Bk (base := w0.heap.size) (Bk.new w0 2 #[]) 0 rfl (by omega) (Nat.le_refl _)
  have hr1 := hr0.alloc (by omega) (.cells #[] 2)
  have HLn := Lib.hid hl
  clear hl
  go_upto_region 4 with (at_builtin; go_loud (refine appR rfl _ _ _ rfl Tryz.underlying29 i64_infoQ rfl (by omega) rfl rfl hown0 hb0 (Nat.le_refl _) (by simp) hr1 (by simp [HLn.out]) (intsL l) (by omega) (by omega) ?_); intro v1 w1 hown1 hb1 _ _ _)
  rw [Nat.zero_add, List.nil_append] at hown1
  have hL1 := hL.nx hb1
  have hcell := hown1
  obtain ⟨A', cp', rfl, q1, q2, q3, q4, q5⟩ := own_form2 hown1
  have hO : n = 0 ∨ ∃ g cur, A' = some ⟨g, 0, none⟩ ∧ w.heap.size + 2 ≤ g ∧ g < w1.heap.size ∧ n ≤ cur.size ∧ Bk w1 g 2 cur := by
    rcases hown1.2 with ⟨h1, h2⟩ | ⟨g, cap, cur, h1, h2, h3, h4, h5, h6, h7⟩
    · exact .inl h2
    · injection h1 with e1 e2 e3
      exact .inr ⟨g, cur, e1, by omega, Bk.lt h3, by omega, h3⟩
  have hN1 := hN A' cp' w1 q1 q2 q4
  clear hown1 hcell q1 q2 q3 q4 q5 hown0 hr1 hb0 hr0 hL x0 x1 hb1 hN
  obtain ⟨x0, x1⟩ := (hL1.k 1 (by simp)).cell2
  obtain ⟨s0, s1⟩ := (hL1.k 0 (by simp)).cell2
  simp only [List.getElem_cons_zero, List.getElem_cons_succ] at x0 x1 s0 s1
  have hNn := hN1 w1 (Below.refl _ _)
  clear hlt0 hlt1 hN1 hszle
  go_wp2_with fail
  refine hNn.mono ?_
  rintro e w2 ⟨p, rfl, hp0, hp1, hb2⟩
  have hL2 := hL1.nx hb2
  have hsz1 : w.heap.size + 2 ≤ w1.heap.size := by have := (hL1.k 0 (by simp)).lt; simp only [List.getElem_cons_zero] at this; omega
  replace hO : n = 0 ∨ ∃ g cur, A' = some ⟨g, 0, none⟩ ∧ w.heap.size + 2 ≤ g ∧ g < w1.heap.size ∧ n ≤ cur.size ∧ Bk w2 g 2 cur := by
    rcases hO with h | ⟨g, cur, h1, h2, h3, h4, h5⟩
    · exact .inl h
    · exact .inr ⟨g, cur, h1, h2, h3, h4, h5.nx hb2⟩
  have hkp := Kp.start w1.heap.size w2
  clear hNn x0 x1 s0 s1 hL1 hb2
  have kx2 := hL2.k 1 (by simp)
  have hks := (hL2.k 0 (by simp)).cell2
  simp only [List.getElem_cons_zero, List.getElem_cons_succ] at kx2 hks
  obtain ⟨s0, s1⟩ := hks
  have hCk := fun (w' : World) (hb : Below w.heap.size w w') => xcheck_any k A n cp W H C F G E w' (hN0 w' hb).is
  by_cases hz : C = 0
  · subst hz
    obtain ⟨hM, q, rfl, hq, v, hK⟩ := hp1 rfl
    replace hA := hA rfl
    have hqlt := hK.lt
    clear hp0 hp1 hN0
    go_wp2_with (first
      | (refine ldB rfl _ _ rfl kx2 rfl Tryz.underlying31 rfl xf_sizeQ ?_)
      | (go_at_call 26; (with_reducible refine (hC _ hL2.bel).mono ?_); rintro e w3 ⟨rfl, hb3⟩; have hL3 := hL2.nx hb3; have hkp3 := hkp.nx hb3; have hxs3 : w3.cell? ⟨w.heap.size, 0, none⟩ = some (.int .i64 k) ∧ w3.cell? ⟨w.heap.size, 1, none⟩ = some (.slice A n cp) := (hL3.k 1 (by simp)).cell2; obtain ⟨y0, y1⟩ := hxs3; have hks3 : w3.cell? ⟨w.heap.size + 1, 0, none⟩ = some (.int .i64 W) ∧ w3.cell? ⟨w.heap.size + 1, 1, none⟩ = some (.int .i64 H) := (hL3.k 0 (by simp)).cell2; obtain ⟨t0, t1⟩ := hks3)
      | (go_at_call 27; (with_reducible refine (hCk _ hL3.bel).mono ?_); rintro e w4 ⟨rfl, hb4⟩; have hL4 := hL3.nx hb4; have hkp4 := hkp3.nx hb4))
    clear s0 s1 t0 t1 y0 y1 hkp hkp3 hL2 hL3 kx2 hC hCk
    have hOb : n = 0 ∨ ∃ g cur, A' = some ⟨g, 0, none⟩ ∧ w.heap.size + 2 ≤ g ∧ g < w1.heap.size ∧ n ≤ cur.size ∧ Bk w4 g 2 cur := by
      rcases hO with h | ⟨g, cur, h1, h2, h3, h4, h5⟩
      · exact .inl h
      · exact .inr ⟨g, cur, h1, h2, h3, h4, (h5.nx hb3).nx hb4⟩
    clear hb3 hb4
    go_loopw [11] (fun i wr => ∃ j : Nat, i = .int .i64 j ∧ j ≤ n ∧ (n = 0 ∨ ∃ g cur, A' = some ⟨g, 0, none⟩ ∧ w.heap.size + 2 ≤ g ∧ g < w1.heap.size ∧ n ≤ cur.size ∧ Bk wr g 2 cur) ∧ Kp w1.heap.size w2.heap.size w2 wr ∧ Lie w [(w.heap.size + 1, 22, #[.int .i64 W, .int .i64 H]), (w.heap.size, 31, #[.int .i64 k, .slice A n cp])] wr) (fun i _ => n - (intOf i).toNat)
    case atStart => exact ⟨0, rfl, by omega, hOb, hkp4, hL4⟩
    case round =>
      clear hOb hkp4 hL4 hO
      obtain ⟨j, rfl, hj, hO, hkp, hL⟩ := hrel
      by_cases hlt : j < n
      · obtain ⟨g, cur, rfl, hg1, hg2, hg3, hKc⟩ : ∃ g cur, A' = some ⟨g, 0, none⟩ ∧ w.heap.size + 2 ≤ g ∧ g < w1.heap.size ∧ n ≤ cur.size ∧ Bk wr g 2 cur := hO.resolve_left (by omega)
        have hcj : wr.cell? ⟨g, j, none⟩ = some (cur[j]'(by omega)) := by rw [hKc.cell, Array.getElem?_eq_getElem]
        have hfz := hKc.frozen j
        have hSt := hKc.set j (.int .i64 0)
        have hLs := hL.grown (gb_set1 wr ⟨g, j, none⟩ (.int .i64 0)) (by show _ ≤ g; omega) (fun x hx => by simp only [List.mem_cons, List.not_mem_nil, or_false] at hx; rcases hx with rfl | rfl <;> (show _ ≠ g; omega))
        have hks := hkp.set g j hg2 (.int .i64 0)
        generalize cur[j]'(by omega) = vj at *
        go_wp2_with fail
        exact ⟨⟨j + 1, by go_num, by omega, .inr ⟨g, _, rfl, hg1, hg2, by simpa using hg3, hSt⟩, hks, hLs⟩, by simp [intOf]; omega⟩
      · obtain rfl : n = j := by omega
        clear hO
        have hKr : Bk wr q 134 #[.int .i64 k, .int .i64 W, .int .i64 H, v] := (hkp.2 q hq hqlt).trans hK
        go_upto_region 14 with (first
          | (go_at_call 28; (with_reducible refine (xsize_at k W H v q _ hKr).mono ?_); rintro e w5 ⟨rfl, hb5⟩))
        have hL5 := hL.nx hb5
        have hkp5 := hkp.nx hb5
        clear hKr hb5 hL hkp
        go_wp2_with fail
        go_loopw [139] (fun i wr => ∃ j : Nat, i = .int .i64 j ∧ j ≤ m ∧ Kp w1.heap.size w2.heap.size w2 wr ∧ Lie w [(w.heap.size + 1, 22, #[.int .i64 W, .int .i64 H]), (w.heap.size, 31, #[.int .i64 k, .slice A n cp])] wr) (fun i _ => m - (intOf i).toNat)
        case atStart => exact ⟨0, rfl, by omega, hkp5, hL5⟩
        case round =>
          clear hL5 hkp5
          obtain ⟨i, rfl, hi, hkp, hL⟩ := hrel
          by_cases hlt : i < m
          · obtain ⟨b, o, rfl, hb, c0, c1, c2⟩ := (hpl.below hL.bel) i hlt
            have hI : I3 ((f i).1, (f i).2.1, (f i).2.2) := hf3 i hlt
            generalize (f i).1 = X at *
            generalize (f i).2.1 = Y at *
            generalize (f i).2.2 = D at *
            have hLa := hL.alloc #[.int .i64 X, .int .i64 Y, .int .i64 D] 24
            have hkpa := hkp.alloc (.cells #[.int .i64 X, .int .i64 Y, .int .i64 D] 24)
            have hbw : b < wr.heap.size := Nat.lt_of_lt_of_le hb hL.sz
            have hAt := hM _ hkpa.1 hkpa.2 X Y D
            have hR := fun (w' : World) (hb : Below w.heap.size w w') => hA w' X Y D hI hb
            go_wp2_with (first
              | (go_at_call 24; (with_reducible refine hAt.mono ?_); rintro e w6 ⟨rfl, hb6⟩; have hL6 := hLa.nx hb6; have hkp6 := hkpa.nx hb6; have kx6 : Bk w6 w.heap.size 31 #[.int .i64 k, .slice A n cp] := hL6.k 2 (by simp); have hks6 : w6.cell? ⟨wr.heap.size, 0, none⟩ = some (.int .i64 X) ∧ w6.cell? ⟨wr.heap.size, 1, none⟩ = some (.int .i64 Y) ∧ w6.cell? ⟨wr.heap.size, 2, none⟩ = some (.int .i64 D) := (hL6.k 0 (by simp)).cell3; obtain ⟨t0, t1, t2⟩ := hks6)
              | (refine ldB rfl _ _ rfl kx6 rfl Tryz.underlying31 rfl xf_sizeQ ?_)
              | (go_at_call 30; (with_reducible refine (hR _ hL6.bel).mono ?_); rintro e w7 ⟨rfl, hb7⟩))
            exact ⟨⟨i + 1, by go_num, by omega, hkp6.nx hb7, (hL6.nx hb7).sub (by simp)⟩, by simp [intOf]; omega⟩
          · have hKr : Bk wr q 134 #[.int .i64 k, .int .i64 W, .int .i64 H, v] := (hkp.2 q hq hqlt).trans hK
            obtain ⟨t0, t1⟩ := (hL.k 0 (by simp)).cell2
            obtain ⟨y0, y1⟩ := (hL.k 1 (by simp)).cell2
            simp only [List.getElem_cons_zero, List.getElem_cons_succ] at t0 t1 y0 y1
            have hKd : Bk wr.drew q 134 #[.int .i64 k, .int .i64 W, .int .i64 H, v] := hKr
            have hKn := xkind_at k W H v q _ hKd
            clear hKr hKd
            go_wp2_with fail
            go_region_with (first
              | (go_at_call 29; (with_reducible refine hKn.mono ?_); rintro e w8 ⟨rfl, rfl⟩)
              | (go_at_call 22; (with_reducible refine (hAl _).mono ?_); rintro e w9 ⟨rfl, hb9⟩))
            all_goals
              go_wp2_with fail
              go_returns
              exact ⟨rfl, (hL.drew.nx hb9).bel⟩
  · obtain rfl := hp0 hz
    have hbz : (C != 0) = true := by simp [hz]
    clear hp0 hp1 hN0 hA hz
    go_wp2_with (first
      | (refine ldB rfl _ _ rfl kx2 rfl Tryz.underlying31 rfl xf_sizeQ ?_)
      | (go_at_call 26; (with_reducible refine (hC _ hL2.bel).mono ?_); rintro e w3 ⟨rfl, hb3⟩; have hL3 := hL2.nx hb3; have hkp3 := hkp.nx hb3; have hxs3 : w3.cell? ⟨w.heap.size, 0, none⟩ = some (.int .i64 k) ∧ w3.cell? ⟨w.heap.size, 1, none⟩ = some (.slice A n cp) := (hL3.k 1 (by simp)).cell2; obtain ⟨y0, y1⟩ := hxs3; have hks3 : w3.cell? ⟨w.heap.size + 1, 0, none⟩ = some (.int .i64 W) ∧ w3.cell? ⟨w.heap.size + 1, 1, none⟩ = some (.int .i64 H) := (hL3.k 0 (by simp)).cell2; obtain ⟨t0, t1⟩ := hks3)
      | (go_at_call 27; (with_reducible refine (hCk _ hL3.bel).mono ?_); rintro e w4 ⟨rfl, hb4⟩; have hL4 := hL3.nx hb4; have hkp4 := hkp3.nx hb4))
    clear s0 s1 t0 t1 y0 y1 hkp hkp3 hkp4 hL2 hL3 kx2 hC hCk
    have hOb : n = 0 ∨ ∃ g cur, A' = some ⟨g, 0, none⟩ ∧ w.heap.size + 2 ≤ g ∧ g < w1.heap.size ∧ n ≤ cur.size ∧ Bk w4 g 2 cur := by
      rcases hO with h | ⟨g, cur, h1, h2, h3, h4, h5⟩
      · exact .inl h
      · exact .inr ⟨g, cur, h1, h2, h3, h4, (h5.nx hb3).nx hb4⟩
    clear hb3 hb4
    go_loopw [11] (fun i wr => ∃ j : Nat, i = .int .i64 j ∧ j ≤ n ∧ (n = 0 ∨ ∃ g cur, A' = some ⟨g, 0, none⟩ ∧ w.heap.size + 2 ≤ g ∧ g < w1.heap.size ∧ n ≤ cur.size ∧ Bk wr g 2 cur) ∧ Below w.heap.size w wr) (fun i _ => n - (intOf i).toNat)
    case atStart => exact ⟨0, rfl, by omega, hOb, hL4.bel⟩
    case round =>
      clear hOb hL4 hO
      obtain ⟨j, rfl, hj, hO, hL⟩ := hrel
      by_cases hlt : j < n
      · obtain ⟨g, cur, rfl, hg1, hg2, hg3, hKc⟩ : ∃ g cur, A' = some ⟨g, 0, none⟩ ∧ w.heap.size + 2 ≤ g ∧ g < w1.heap.size ∧ n ≤ cur.size ∧ Bk wr g 2 cur := hO.resolve_left (by omega)
        have hcj : wr.cell? ⟨g, j, none⟩ = some (cur[j]'(by omega)) := by rw [hKc.cell, Array.getElem?_eq_getElem]
        have hfz := hKc.frozen j
        have hSt := hKc.set j (.int .i64 0)
        have hLs := hL.setCell (p := ⟨g, j, none⟩) (by show _ ≤ g; omega) (.int .i64 0)
        generalize cur[j]'(by omega) = vj at *
        go_wp2_with fail
        exact ⟨⟨j + 1, by go_num, by omega, .inr ⟨g, _, rfl, hg1, hg2, by simpa using hg3, hSt⟩, hLs⟩, by simp [intOf]; omega⟩
      · obtain rfl : n = j := by omega
        clear hO
        go_upto_region 14 with (first
          | (go_at_call 28; (with_reducible refine (xsize_nil _).mono ?_); rintro e w5 ⟨rfl, rfl⟩))
        go_wp2_with fail
        go_loopw [96] (fun i wr => ∃ j : Nat, i = .int .i64 j ∧ j ≤ m ∧ Below w.heap.size w wr) (fun i _ => m - (intOf i).toNat)
        case atStart => exact ⟨0, rfl, by omega, hL⟩
        case round =>
          clear hL
          obtain ⟨i, rfl, hi, hL⟩ := hrel
          by_cases hlt : i < m
          · obtain ⟨b, o, rfl, hb, c0, c1, c2⟩ := (hpl.below hL) i hlt
            generalize (f i).1 = X at *
            generalize (f i).2.1 = Y at *
            generalize (f i).2.2 = D at *
            have hLa := hL.alloc hL.size (.cells #[.int .i64 X, .int .i64 Y, .int .i64 D] 24)
            have hbw : b < wr.heap.size := Nat.lt_of_lt_of_le hb hL.size
            go_wp2_with (first
              | (go_at_call 24; (with_reducible refine (xat_nil _ _ _ _).mono ?_); rintro e w6 ⟨rfl, rfl⟩))
            exact ⟨⟨i + 1, by go_num, by omega, hLa⟩, by simp [intOf]; omega⟩
          · go_wp2_with (first
              | (go_at_call 29; (with_reducible refine (xkind_nil _).mono ?_); rintro e w8 ⟨rfl, rfl⟩)
              | (go_at_call 22; (with_reducible refine (hAl _).mono ?_); rintro e w9 ⟨rfl, hb9⟩))
            go_returns
            exact ⟨rfl, hL.trans (hb9.mono hL.size)⟩
end Go.Proofs.YtlbiiljncacdoaaGreat
