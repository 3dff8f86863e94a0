/- Several texts in one: The reference's reading of numbers in parts. (Printed by wip/tools/gennc6.py.) -/
import Derived.Test.YtgohbkkeppknoaaGreatDoorCmdParsesZz19
section
set_option linter.unusedVariables false
namespace Go.Proofs.YtgohbkkeppknoaaGreatDoor
open Go.RowKit
/-- Where the first point is, or the length. -/
def ptI : List UInt8 → Nat
  | [] => 0
  | b :: r => if b = 46 then 0 else ptI r + 1
theorem ptI_le : ∀ l : List UInt8, ptI l ≤ l.length
  | [] => Nat.le_refl _
  | b :: r => by
    unfold ptI
    have := ptI_le r
    split
    · simp
    · simp; omega
theorem cutD_ptI : ∀ l : List UInt8, cutD l = (l.take (ptI l), if ptI l < l.length then some (l.drop (ptI l + 1)) else none)
  | [] => rfl
  | b :: r => by
    unfold cutD ptI
    by_cases h : b = 46
    · rw [if_pos h, if_pos h]; simp
    · rw [if_neg h, if_neg h, cutD_ptI r]
      simp
/-- The same from a place on. -/
def ptF (l : List UInt8) (i : Nat) : Nat := i + ptI (l.drop i)
theorem ptF_end (l : List UInt8) : ptF l l.length = l.length := by unfold ptF; simp [ptI]
theorem ptF_zero (l : List UInt8) : ptF l 0 = ptI l := by unfold ptF; simp
theorem ptF_step (l : List UInt8) (i : Nat) (h : i < l.length) : ptF l i = if l[i] = 46 then i else ptF l (i + 1) := by
  unfold ptF
  rw [List.drop_eq_getElem_cons h]
  simp only [ptI]
  split
  · omega
  · omega
theorem readO_no {l : List UInt8} (h : ¬ ((unsg l).length ≤ 60)) : readO l = none := by
  cases hr : readO l with
  | none => rfl
  | some x => exact absurd (readO_ok hr).2.1 h
/-- Whether head and tail may be. -/
def okB (u : List UInt8) : Bool := (!(u.take (ptI u)).isEmpty && (u.take (ptI u)).all isD) && (if ptI u < u.length then (!(u.drop (ptI u + 1)).isEmpty && (u.drop (ptI u + 1)).all isD) else true)
theorem okB_of {u : List UInt8} (h : okP (cutD u).1 (cutD u).2) : okB u = true := by
  rw [cutD_ptI] at h
  obtain ⟨h1, _, h3, _, h5⟩ := h
  unfold okB
  rw [h3]
  have e1 : (u.take (ptI u)).isEmpty = false := by
    cases hh : (u.take (ptI u)) with
    | nil => exact absurd hh h1
    | cons a r => rfl
  rw [e1]
  split
  · rename_i hlt
    obtain ⟨h6, _, h7⟩ := h5 (u.drop (ptI u + 1)) (by simp [hlt])
    rw [h7]
    have e2 : (u.drop (ptI u + 1)).isEmpty = false := by
      cases hh : (u.drop (ptI u + 1)) with
      | nil => exact absurd hh h6
      | cons a r => rfl
    rw [e2]; rfl
  · rfl
theorem readO_bad {l : List UInt8} (h : okB (unsg l) = false) : readO l = none := by
  cases hr : readO l with
  | none => rfl
  | some x => rw [okB_of (readO_ok hr).1] at h; cases h
/-- The number that stands there. -/
def hdZ (u : List UInt8) : Int := (numV 0 (u.take (ptI u)) : Int) * 65536 + (if ptI u < u.length then partZ (u.drop (ptI u + 1)) else 0)
theorem hdZ_eq (u : List UInt8) : hdZ u = headZ (cutD u).1 (cutD u).2 := by
  rw [cutD_ptI]
  unfold hdZ headZ
  by_cases h : ptI u < u.length
  · simp [h]
  · simp [h]
theorem readO_def (l : List UInt8) : readO l = if in64 (sgL l (hdZ (unsg l))) ∧ showL (sgL l (hdZ (unsg l))) = l then some (sgL l (hdZ (unsg l))) else none := by
  unfold readO
  rw [hdZ_eq]
theorem unsg_len (s : ByteArray) : (unsg (bl s)).length ≤ s.size := by
  rw [← bl_len]
  unfold unsg
  split
  · rw [List.length_tail]; omega
  · exact Nat.le_refl _
theorem sm_nat2 {z : Nat} (h : z < 10 ^ 95) : Sm (z : Int) := sm_nat (Nat.lt_of_lt_of_le h (Nat.pow_le_pow_right (by decide) (by decide)))
theorem e80 : (10 : Nat) ^ 80 * 65536 ≤ 10 ^ 85 := by decide
theorem e81 : (10 : Nat) ^ 85 + 10 ^ 85 ≤ 10 ^ 86 := by decide
theorem e38 : (10 : Nat) ^ 60 < 10 ^ 90 := by decide
theorem b60 {k : Nat} (h : k ≤ 60) : (((10 ^ k : Nat) : Int).natAbs : Int) < Bp 38 := by
  rw [Int.natAbs_natCast]
  have h1 : (10 : Nat) ^ k ≤ 10 ^ 60 := Nat.pow_le_pow_right (by decide) h
  have h2 : (10 : Int) ^ 60 < Bp 38 := by
    have h5 := Bp_mono (show 20 ≤ 38 by decide)
    rw [Bp20] at h5
    have h6 : (10 : Int) ^ 60 = 1000000000000000000000000000000000000000000000000000000000000 := by decide
    omega
  have h3 : ((10 ^ k : Nat) : Int) ≤ ((10 ^ 60 : Nat) : Int) := Int.ofNat_le.2 h1
  have h4 : ((10 ^ 60 : Nat) : Int) = (10 : Int) ^ 60 := by simp
  omega
set_option maxRecDepth 100000 in
set_option maxHeartbeats 32000000 in
theorem rread_any (s : ByteArray) (hs : s.size ≤ 1000000) (w : World) : Calls Tryz.prog 137 #[.string s] w fun e w' => e = .returned (optV (readO (bl s))) ∧ Below w.heap.size w w' := by
  obtain ⟨T, hT⟩ : ∃ T : ByteArray, (⟨(unsg (bl s)).toArray⟩ : ByteArray) = T := ⟨_, rfl⟩
  have hbT : bl T = unsg (bl s) := by rw [← hT]
  have HBT := Lib.hid hbT
  have hTs : T.size ≤ 1000000 := by have := unsg_len s; rw [← hbT, bl_len] at this; omega
  have HT := Lib.hid hT
  obtain ⟨ng, hng⟩ : ∃ ng, neg? (bl s) = ng := ⟨_, rfl⟩
  have HNG := Lib.hid hng
  clear hbT hT hng
  go_enter Tryz.func137, Tryz.ntmps137
  go_upto_region 2 with fail
  go_cut [5] (fun nv wx => nv = .bool ng ∧ wx = w)
  case first =>
    rcases (show ng = true ∨ ng = false by cases ng <;> simp) with hn2 | hn2
    · obtain ⟨hz1, -, -, hidx0⟩ := neg_parts (HNG.out.trans hn2)
      have hz3 : (0 : Int) < (s.size : Int) := by omega
      have HN2 := Lib.hid hn2
      clear hn2
      go_wp2_with fail
      go_meet
      exact ⟨by rw [HN2.out], rfl⟩
    · have HN2 := Lib.hid hn2
      by_cases hz0 : 0 < s.size
      · obtain ⟨c0, hc0, hc1, hidx0⟩ := pos_parts (HNG.out.trans hn2) hz0
        have hc2 : ((c0 : Int) == 45) = false := beq_eq_false_iff_ne.2 (by omega)
        have hc3 : ¬ ((c0 : Int) = 45) := by omega
        have hz3 : (0 : Int) < (s.size : Int) := by omega
        clear hn2
        go_wp2_with fail
        go_meet
        exact ⟨by rw [HN2.out], rfl⟩
      · have hz3 : ((s.size : Nat) : Int) = 0 := by omega
        clear hn2
        go_wp2_with fail
        go_meet
        exact ⟨by rw [HN2.out], rfl⟩
  case rest =>
    obtain ⟨rfl, rfl⟩ := hcut
    obtain ⟨w, rfl⟩ : ∃ wd : World, wd = wc := ⟨_, rfl⟩
    go_upto_if 23 with fail
    go_cut [4, 5] (fun tv nv wx => tv = .string T ∧ nv = .bool ng ∧ wx = w)
    case first =>
      rcases (show ng = true ∨ ng = false by cases ng <;> simp) with hn2 | hn2 <;> subst hn2
      · obtain ⟨hz1, hx, -, -⟩ := neg_parts HNG.out
        rw [HT.out] at hx
        have hz2 : (1 : Int) ≤ (s.size : Int) := by omega
        go_wp2_with fail
        go_meet
        exact ⟨rfl, rfl, rfl⟩
      · have hst : s = T := by rw [← HT.out, unsg_pos HNG.out, mk_bl]
        have HST := Lib.hid hst
        clear hst
        go_wp2_with fail
        go_meet
        exact ⟨by rw [← HST.out], rfl, rfl⟩
    case rest =>
      obtain ⟨rfl, rfl, rfl⟩ := hcut
      obtain ⟨w, rfl⟩ : ∃ wd : World, wd = wc := ⟨_, rfl⟩
      have HM : Hid (∀ k (h : k < T.size), ptF (bl T) k = if (T[k]'h).toNat = 46 then k else ptF (bl T) (k + 1)) := fun k h => by
        rw [ptF_step (bl T) k (by rw [bl_len]; exact h), bl_get T k h]
        congr 1
        rw [eq_iff_iff]
        exact ⟨fun e => by rw [e]; rfl, fun e => UInt8.toNat_inj.1 (by rw [e]; rfl)⟩
      have HE : Hid (ptF (bl T) T.size = T.size) := by show _ = _; rw [← bl_len, ptF_end]
      have HZ : Hid (ptF (bl T) 0 = ptI (bl T)) := ptF_zero _
      have HPL : Hid (ptI (bl T) ≤ T.size) := by show _ ≤ _; rw [← bl_len]; exact ptI_le _
      go_wp2_with fail
      go_loopw [6, 7] (fun pv iv wr => ∃ i : Nat, i ≤ T.size ∧ pv = .int .i64 (ptF (bl T) i : Nat) ∧ iv = .int .i64 ((i : Int) - 1) ∧ w = wr) (fun _ iv _ => (intOf iv + 1).toNat)
      case atStart => exact ⟨T.size, Nat.le_refl _, by rw [HE.out], by go_num, rfl⟩
      case round =>
        obtain ⟨i, hi, rfl, rfl, rfl⟩ := hrel
        by_cases h0 : 0 < i
        · obtain ⟨j, rfl⟩ : ∃ j, i = j + 1 := ⟨i - 1, by omega⟩
          have hj : j < T.size := by omega
          have hm := HM.out j hj
          have e1 : ((j + 1 : Nat) : Int) - 1 = (j : Int) := by omega
          rw [e1]
          have hidx : ∀ W, (Instr.index 9 (.string T) (.int .i64 (j : Int))).run Tryz.prog W = .ok (.int .u8 ((T[j]'hj).toNat : Int)) W := fun W => by
            rw [run_index_string (P := Tryz.prog) W 9 T .i64 (j : Int) Tryz.underlying9, dif_pos ⟨by omega, by omega⟩]
            rfl
          have hcz := (T[j]'hj).toNat_lt
          generalize (T[j]'hj).toNat = c at *
          generalize ptF (bl T) (j + 1) = P1 at *
          have HM1 := Lib.hid hm
          have hjz : (0 : Int) ≤ (j : Int) := by omega
          have hw1 : wrap64 ((j : Int) - 1) = (j : Int) - 1 := IntWalk.wrap64_in _ ⟨by omega, by omega⟩
          clear hm e1
          by_cases hc : c = 46
          · subst hc
            go_wp2_with fail
            exact ⟨⟨j, by omega, by rw [HM1.out, if_pos rfl], rfl, trivial⟩, by simp [intOf] <;> omega⟩
          · have hc2 : ((c : Int) == 46) = false := beq_eq_false_iff_ne.2 (by omega)
            have hc3 : ¬ ((c : Int) = 46) := by omega
            go_wp2_with fail
            exact ⟨⟨j, by omega, by rw [HM1.out, if_neg hc], rfl, trivial⟩, by simp [intOf] <;> omega⟩
        · obtain rfl : i = 0 := by omega
          rw [HZ.out]
          have hpl := HPL.out
          have HO : Hid (okB (bl T) = okB (unsg (bl s))) := by show _ = _; rw [HBT.out]
          have HH : Hid (hdZ (bl T) = hdZ (unsg (bl s))) := by show _ = _; rw [HBT.out]
          obtain ⟨p, hp⟩ : ∃ p, ptI (bl T) = p := ⟨_, rfl⟩
          rw [hp] at hpl ⊢
          have HPP := Lib.hid hp
          clear hp HM HE HZ HPL
          by_cases h60 : 60 < T.size
          · have HR : Hid (readO (bl s) = none) := readO_no (by rw [← HBT.out, bl_len]; omega)
            have f1 : decide ((T.size : Int) > 60) = true := by simp; omega
            have f2 : decide (60 < (T.size : Int)) = true := by simp; omega
            go_wp2_with fail
            go_returns
            exact ⟨by rw [optV_none HR.out]; rfl, Below.refl _ _⟩
          · have f1 : decide ((T.size : Int) > 60) = false := by simp; omega
            have f2 : decide (60 < (T.size : Int)) = false := by simp; omega
            have c1 : (0 : Int) ≤ (p : Int) := by omega
            have c2 : (p : Int) ≤ (T.size : Int) := by omega
            have e1 : T.extract 0 p = ⟨((bl T).take p).toArray⟩ := by rw [ext_eq]; simp
            obtain ⟨TH, hTH⟩ : ∃ TH : ByteArray, (⟨((bl T).take p).toArray⟩ : ByteArray) = TH := ⟨_, rfl⟩
            rw [hTH] at e1
            have hTHz : TH.size ≤ 80 := by rw [← hTH, str_size, List.length_take]; omega
            have hbH : bl TH = (bl T).take p := by rw [← hTH]
            have hDg := fun w' => rdig_any TH hTHz w'
            obtain ⟨o1, ho1⟩ : ∃ o1, (!(bl TH).isEmpty && (bl TH).all isD) = o1 := ⟨_, rfl⟩
            simp only [ho1] at hDg
            have HTH := Lib.hid hbH
            clear hTH hbH
            go_upto_region 14 with (first
              | (go_at_call 200; (with_reducible refine (hDg _).mono ?_); rintro e w1 ⟨v1, n, rfl, hN1, hn80, hnv, hb1⟩; obtain ⟨s1, A1, n1, q1, rfl⟩ := hN1.shape; have hK1 := Bk.new w1 200 #[.bool false, .slice none 0 0]; have hN1a := (hN1.alloc (.cells #[.bool false, .slice none 0 0] 200)).any)
              | (refine stBig rfl _ _ rfl hK1 rfl rfl rfl ?_; intro w2 hK2 hg2 hs2))
            have hC0 : BgC w2 w1.heap.size (n : Int) := ⟨_, _, _, _, hK2, hN1a.gbig hK1 hg2⟩
            have hbel0 : Below w.heap.size w w2 := below_of_gb (hb1.alloc hb1.size _) hg2 hb1.size (hb1.alloc hb1.size _).size
            have hgg : w.heap.size ≤ w1.heap.size := hb1.size
            obtain ⟨g8, hg8⟩ : ∃ g8, w1.heap.size = g8 := ⟨_, rfl⟩
            rw [hg8] at hC0 hgg
            simp only [hg8]
            clear hg8 hb1 hN1 hK1 hN1a hK2 hg2 hs2 hDg e1
            have hP := fun w' => pow_any1 16 w' (by omega)
            rw [p16] at hP
            have s16 : Sm 65536 := sm_of (by omega) (by omega)
            have sn : Sm (n : Int) := sm_nat2 (Nat.lt_of_lt_of_le hn80 (Nat.pow_le_pow_right (by decide) (by decide)))
            have hn85 : n * 65536 < 10 ^ 85 := Nat.lt_of_lt_of_le (Nat.mul_lt_mul_of_pos_right hn80 (by decide)) e80
            have sn6 : Sm ((n : Int) * 65536) := by
              rw [show (n : Int) * 65536 = ((n * 65536 : Nat) : Int) by simp]
              exact sm_nat2 (Nat.lt_of_lt_of_le hn85 (Nat.pow_le_pow_right (by decide) (by decide)))
            have HO1 := Lib.hid ho1
            have HNV := Lib.hid hnv
            clear ho1 hnv
            refine wp_region_dag' 3 [2, 0] id
              (SatL [bigS n, bigS 65536, bigS (n * 65536), none])
              (fun b w' => Below w.heap.size w w' ∧ BgC w' g8 (if b then (n : Int) * 65536 else n))
              (by kernel_rfl) (by kernel_rfl) (by kernel_rfl) (by kernel_rfl) ⟨below_drewN hbel0 1, hC0.nx (below_drewN (Below.refl _ _) 1)⟩ ?_ ?_
            case refine_1 =>
              intro K i o y wr b ho hG hs hdep hK
              have hG' := hG
              obtain ⟨hB, hC⟩ := hG'
              rcases i with _ | i
              · obtain rfl : _ = o := Option.some.inj ho
                unfold StepTo
                simp only [↓reduceIte, Nat.zero_add, Nat.reduceAdd, Nat.reduceEqDiff, List.map_cons, List.map_nil, puts, updV, Act.put, List.setIfInBounds_toArray, List.set_cons_zero, List.set_cons_succ] at hK ⊢
                generalize y 0 = y0 at *; generalize y 1 = y1 at *; generalize y 2 = y2 at *; generalize y 3 = y3 at *
                obtain ⟨rfl, -⟩ := hs (.inl (by simp))
                obtain ⟨s1', A1', n1', c1', k1, hN⟩ := hC
                refine ldBig rfl _ rfl k1 rfl ?_
                exact ⟨rfl, hK _ _ hN hG (fun _ _ _ h => h)⟩
              rcases i with _ | i
              · obtain rfl : _ = o := Option.some.inj ho
                unfold StepTo
                simp only [↓reduceIte, Nat.zero_add, Nat.reduceAdd, Nat.reduceEqDiff, List.map_cons, List.map_nil, puts, updV, Act.put, List.setIfInBounds_toArray, List.set_cons_zero, List.set_cons_succ] at hK ⊢
                generalize y 0 = y0 at *; generalize y 1 = y1 at *; generalize y 2 = y2 at *; generalize y 3 = y3 at *
                clear hs
                go_wp2_with (go_at_call 201; refine (hP _).mono ?_; rintro e w2 ⟨v, rfl, hN, hb⟩)
                exact hK _ _ hN.any ⟨hB.trans (hb.mono hB.size), hC.nx hb⟩ (fun _ _ _ h => Sat.nx hb h)
              rcases i with _ | i
              · obtain rfl : _ = o := Option.some.inj ho
                have p0 : BigN 0 wr (y 0) n := hdep { on := 0, ground := .data } (by simp) rfl
                have p1 : BigN 0 wr (y 1) 65536 := hdep { on := 1, ground := .data } (by simp) rfl
                unfold StepTo
                simp only [↓reduceIte, Nat.zero_add, Nat.reduceAdd, Nat.reduceEqDiff, List.map_cons, List.map_nil, puts, updV, Act.put, List.setIfInBounds_toArray, List.set_cons_zero, List.set_cons_succ] at hK ⊢
                generalize y 0 = y0 at *; generalize y 1 = y1 at *; generalize y 2 = y2 at *; generalize y 3 = y3 at *
                clear hs
                go_wp2_with (go_at_call 196; refine (mul_any _ _ _ _ _ p0 p1 sn s16).mono ?_; rintro e w2 ⟨v, rfl, hN, hb⟩)
                exact hK _ _ hN.any ⟨hB.trans (hb.mono hB.size), hC.nx hb⟩ (fun _ _ _ h => Sat.nx hb h)
              rcases i with _ | i
              · obtain rfl : _ = o := Option.some.inj ho
                have p2 : BigN 0 wr (y 2) (n * 65536) := hdep { on := 2, ground := .data } (by simp) rfl
                unfold StepTo
                simp only [↓reduceIte, Nat.zero_add, Nat.reduceAdd, Nat.reduceEqDiff, List.map_cons, List.map_nil, puts, updV, Act.put, List.setIfInBounds_toArray, List.set_cons_zero, List.set_cons_succ] at hK ⊢
                generalize y 0 = y0 at *; generalize y 1 = y1 at *; generalize y 2 = y2 at *; generalize y 3 = y3 at *
                obtain ⟨rfl, -⟩ := hs (.inr rfl)
                obtain ⟨s1', A1', n1', c1', k1, hN⟩ := hC
                obtain ⟨s9, A9, n9, c9, rfl⟩ := p2.shape
                refine stBig rfl _ _ rfl k1 rfl rfl rfl ?_
                intro w2 hk hg hs2
                exact ⟨rfl, hK undef _ trivial ⟨below_of_gb hB hg (by omega) hB.size, ⟨_, _, _, _, hk, p2.gbig k1 hg⟩⟩ (fun _ _ _ h => Sat.gb k1 hg h)⟩
              · exact absurd ho (by simp)
            case refine_2 =>
              intro y wr b hG hF hbs
              obtain rfl := hbs (by decide)
              clear hbs
              obtain ⟨hB, hC⟩ := hG
              simp only [Nat.zero_add, Nat.reduceAdd, List.map_cons, List.map_nil, puts, Act.put, List.setIfInBounds_toArray, List.set_cons_zero, List.set_cons_succ]
              generalize y 0 = y0 at *; generalize y 1 = y1 at *; generalize y 2 = y2 at *; generalize y 3 = y3 at *
              clear hF
              have hC : BgC wr g8 ((n * 65536 : Nat) : Int) := by rw [show ((n * 65536 : Nat) : Int) = (n : Int) * 65536 by simp]; simpa using hC
              clear hC0 hbel0
              go_upto_region 15 with fail
              go_upto_if 56 with fail
              go_cut [9] (fun ov wx => ∃ (ok : Bool) (Z : Nat), ov = .bool ok ∧ Hid (okB (unsg (bl s)) = ok) ∧ Hid (ok = true → (Z : Int) = hdZ (unsg (bl s))) ∧ Z < 10 ^ 86 ∧ BgC wx g8 (Z : Int) ∧ Below w.heap.size w wx)
              case first =>
                by_cases hpt : p < T.size
                · have hpt2 : (p : Int) < (T.size : Int) := by omega
                  have c3 : (0 : Int) ≤ (p : Int) + 1 := by omega
                  have v1 : IntKind.i64.wrap ((p : Int) + 1) = (p : Int) + 1 := IntWalk.i64_in _ ⟨by omega, by omega⟩
                  have c4 : (p : Int) + 1 ≤ (T.size : Int) := by omega
                  have e2 : T.extract (p + 1) T.size = ⟨((bl T).drop (p + 1)).toArray⟩ := by
                    rw [ext_eq, List.take_of_length_le (by rw [List.length_drop, bl_len]; exact Nat.le_refl _)]
                  obtain ⟨TT, hTT⟩ : ∃ TT : ByteArray, (⟨((bl T).drop (p + 1)).toArray⟩ : ByteArray) = TT := ⟨_, rfl⟩
                  rw [hTT] at e2
                  have hTTs : TT.size = T.size - (p + 1) := by rw [← hTT, str_size, List.length_drop, bl_len]
                  have hTTz : TT.size ≤ 80 := by omega
                  have hbU : bl TT = (bl T).drop (p + 1) := by rw [← hTT]
                  have hDg := fun w' => rdig_any TT hTTz w'
                  obtain ⟨o2, ho2⟩ : ∃ o2, (!(bl TT).isEmpty && (bl TT).all isD) = o2 := ⟨_, rfl⟩
                  simp only [ho2] at hDg
                  have HTS : Hid (p + 1 + TT.size = T.size) := by show _ = _; omega
                  clear hTTs
                  have HTT := Lib.hid hbU
                  have hO1 := fun w' => of_any 1 w' (by omega) (by omega)
                  clear hTT hbU
                  obtain ⟨wq, rfl⟩ : ∃ wq : World, wq = wr := ⟨_, rfl⟩
                  have hqz := hB.size
                  have hg8q : g8 < wq.heap.size := by obtain ⟨_, _, _, _, k, _⟩ := hC; exact k.lt
                  go_wp2_with (first
                    | (go_at_call 200; (with_reducible refine (hDg _).mono ?_); rintro e w1 ⟨v1, m, rfl, hN1, hm80, hmv, hb1⟩; obtain ⟨s1, A1, n1, q1, rfl⟩ := hN1.shape; have hK1 := Bk.new w1 200 #[.bool false, .slice none 0 0]; have hN1a := (hN1.alloc (.cells #[.bool false, .slice none 0 0] 200)).any)
                    | (refine stBig rfl _ _ rfl hK1 rfl rfl rfl ?_; intro w2 hK2 hg2 hs2)
                    | (go_at_call 151; (with_reducible refine (hO1 _).mono ?_); rintro e w3 ⟨v3, rfl, hN3, hb3⟩; obtain ⟨s3, A3, n3, q3, rfl⟩ := hN3.shape; have hK3 := Bk.new w3 200 #[.bool false, .slice none 0 0]; have hN3a := (hN3.alloc (.cells #[.bool false, .slice none 0 0] 200)).any)
                    | (refine stBig rfl _ _ rfl hK3 rfl rfl rfl ?_; intro w4 hK4 hg4 hs4))
                  have hba := hb1.alloc hb1.size (.cells #[.bool false, .slice none 0 0] 200)
                  have hz1 := hb1.size
                  have B1 := hB.trans (hba.mono hqz)
                  have C8b := (hC.nx hba).gb hK1 hg2 (by omega)
                  have C10b : BgC w2 w1.heap.size (m : Int) := ⟨_, _, _, _, hK2, hN1a.gbig hK1 hg2⟩
                  have B2 : Below w.heap.size w w2 := below_of_gb B1 hg2 (by omega) B1.size
                  have hbc := hb3.alloc hb3.size (.cells #[.bool false, .slice none 0 0] 200)
                  have hz3 := hb3.size
                  have hz2 : w2.heap.size = w1.heap.size + 1 := by rw [hs2]; simp
                  have B3 := B2.trans (hbc.mono B2.size)
                  have C8d := (C8b.nx hbc).gb hK3 hg4 (by omega)
                  have C10d := (C10b.nx hbc).gb hK3 hg4 (by omega)
                  have C12 : BgC w4 w3.heap.size ((1 : Nat) : Int) := ⟨_, _, _, _, hK4, hN3a.gbig hK3 hg4⟩
                  have B4 : Below w.heap.size w w4 := below_of_gb B3 hg4 (by omega) B3.size
                  have hgw : w.heap.size ≤ w1.heap.size ∧ w.heap.size ≤ w3.heap.size ∧ g8 ≠ w1.heap.size ∧ g8 ≠ w3.heap.size ∧ w1.heap.size ≠ w3.heap.size := by omega
                  generalize w1.heap.size = g10 at *
                  generalize w3.heap.size = g12 at *
                  obtain ⟨G0, G1, G2, G3, G4⟩ := hgw
                  clear hba hz1 B1 C8b C10b B2 hbc hz3 hz2 B3 hK1 hg2 hK2 hN1a hN1 hb1 hs2 hb3 hN3 hN3a hK3 hg4 hK4 hs4 hC hB e2 hDg hO1 hqz hg8q
                  have HO2 := Lib.hid ho2
                  have HMV := Lib.hid hmv
                  clear ho2 hmv
                  have hO10 := fun w' => of_any 10 w' (by omega) (by omega)
                  have s10 : Sm 10 := sm_of (by omega) (by omega)
                  go_loopw [13] (fun iv wr => ∃ (j : Nat) (iz : Int), j ≤ TT.size ∧ iv = .int .i64 iz ∧ Hid (iz = (p : Int) + 1 + j) ∧ (1 ≤ iz ∧ iz ≤ 100) ∧ BgC wr g12 ((10 ^ j : Nat) : Int) ∧ BgC wr g8 ((n * 65536 : Nat) : Int) ∧ BgC wr g10 (m : Int) ∧ Below w.heap.size w wr) (fun iv _ => T.size - (intOf iv).toNat)
                  case atStart => exact ⟨0, (p : Int) + 1, by omega, rfl, (by show _ = _; omega), by omega, C12, C8d, C10d, B4⟩
                  case round =>
                    clear C12 C8d C10d B4
                    obtain ⟨j, iz, hj, rfl, hiz, hizb, hC12, hC8, hC10, hbr⟩ := hrel
                    have HJ := Lib.hid hj
                    by_cases hlj : j < TT.size
                    · have hi1 : iz < (T.size : Int) := by have h1 := HTS.out; have h2 := hiz.out; omega
                      obtain ⟨KT, hKK⟩ : ∃ KT, 10 ^ j = KT := ⟨_, rfl⟩
                      have hK1 : 10 ^ (j + 1) = KT * 10 := by rw [Nat.pow_succ, hKK]
                      have hKb : KT * 10 < 10 ^ 95 := by
                        rw [← hK1]
                        exact Nat.pow_lt_pow_right (by decide) (by omega)
                      have sK : Sm (KT : Int) := sm_nat2 (by omega)
                      rw [hKK] at hC12
                      have HK1 := Lib.hid hK1
                      clear hK1 hKK
                      go_upto_region 21 with fail
                      refine wp_region_dag' 3 [2, 0] id
                        (SatL [bigS KT, bigS 10, bigS (KT * 10), none])
                        (fun b w' => Below w.heap.size w w' ∧ BgC w' g12 (if b then (KT : Int) * 10 else KT) ∧ BgC w' g8 ((n * 65536 : Nat) : Int) ∧ BgC w' g10 (m : Int))
                        (by kernel_rfl) (by kernel_rfl) (by kernel_rfl) (by kernel_rfl) ⟨below_drewN hbr 1, hC12.nx (below_drewN (Below.refl _ _) 1), hC8.nx (below_drewN (Below.refl _ _) 1), hC10.nx (below_drewN (Below.refl _ _) 1)⟩ ?_ ?_
                      case refine_1 =>
                        intro K i o y wr b ho hG hs hdep hK
                        have hG' := hG
                        obtain ⟨hB, hC12, hC8, hC10⟩ := hG'
                        rcases i with _ | i
                        · obtain rfl : _ = o := Option.some.inj ho
                          unfold StepTo
                          simp only [↓reduceIte, Nat.zero_add, Nat.reduceAdd, Nat.reduceEqDiff, List.map_cons, List.map_nil, puts, updV, Act.put, List.setIfInBounds_toArray, List.set_cons_zero, List.set_cons_succ] at hK ⊢
                          generalize y 0 = y0 at *; generalize y 1 = y1 at *; generalize y 2 = y2 at *; generalize y 3 = y3 at *
                          obtain ⟨rfl, -⟩ := hs (.inl (by simp))
                          obtain ⟨s1', A1', n1', c1', k1, hN⟩ := hC12
                          refine ldBig rfl _ rfl k1 rfl ?_
                          exact ⟨rfl, hK _ _ hN hG (fun _ _ _ h => h)⟩
                        rcases i with _ | i
                        · obtain rfl : _ = o := Option.some.inj ho
                          unfold StepTo
                          simp only [↓reduceIte, Nat.zero_add, Nat.reduceAdd, Nat.reduceEqDiff, List.map_cons, List.map_nil, puts, updV, Act.put, List.setIfInBounds_toArray, List.set_cons_zero, List.set_cons_succ] at hK ⊢
                          generalize y 0 = y0 at *; generalize y 1 = y1 at *; generalize y 2 = y2 at *; generalize y 3 = y3 at *
                          clear hs
                          go_wp2_with (go_at_call 151; refine (hO10 _).mono ?_; rintro e w2 ⟨v, rfl, hN, hb⟩)
                          exact hK _ _ hN.any ⟨hB.trans (hb.mono hB.size), hC12.nx hb, hC8.nx hb, hC10.nx hb⟩ (fun _ _ _ h => Sat.nx hb h)
                        rcases i with _ | i
                        · obtain rfl : _ = o := Option.some.inj ho
                          have p0 : BigN 0 wr (y 0) KT := hdep { on := 0, ground := .data } (by simp) rfl
                          have p1 : BigN 0 wr (y 1) 10 := hdep { on := 1, ground := .data } (by simp) rfl
                          unfold StepTo
                          simp only [↓reduceIte, Nat.zero_add, Nat.reduceAdd, Nat.reduceEqDiff, List.map_cons, List.map_nil, puts, updV, Act.put, List.setIfInBounds_toArray, List.set_cons_zero, List.set_cons_succ] at hK ⊢
                          generalize y 0 = y0 at *; generalize y 1 = y1 at *; generalize y 2 = y2 at *; generalize y 3 = y3 at *
                          clear hs
                          go_wp2_with (go_at_call 196; refine (mul_any _ _ _ _ _ p0 p1 sK s10).mono ?_; rintro e w2 ⟨v, rfl, hN, hb⟩)
                          exact hK _ _ hN.any ⟨hB.trans (hb.mono hB.size), hC12.nx hb, hC8.nx hb, hC10.nx hb⟩ (fun _ _ _ h => Sat.nx hb h)
                        rcases i with _ | i
                        · obtain rfl : _ = o := Option.some.inj ho
                          have p2 : BigN 0 wr (y 2) (KT * 10) := hdep { on := 2, ground := .data } (by simp) rfl
                          unfold StepTo
                          simp only [↓reduceIte, Nat.zero_add, Nat.reduceAdd, Nat.reduceEqDiff, List.map_cons, List.map_nil, puts, updV, Act.put, List.setIfInBounds_toArray, List.set_cons_zero, List.set_cons_succ] at hK ⊢
                          generalize y 0 = y0 at *; generalize y 1 = y1 at *; generalize y 2 = y2 at *; generalize y 3 = y3 at *
                          obtain ⟨rfl, -⟩ := hs (.inr rfl)
                          obtain ⟨s1', A1', n1', c1', k1, hN⟩ := hC12
                          obtain ⟨s9, A9, n9, c9, rfl⟩ := p2.shape
                          refine stBig rfl _ _ rfl k1 rfl rfl rfl ?_
                          intro w2 hk hg hs2
                          exact ⟨rfl, hK undef _ trivial ⟨below_of_gb hB hg (by omega) hB.size, ⟨_, _, _, _, hk, p2.gbig k1 hg⟩, hC8.gb k1 hg (by omega), hC10.gb k1 hg (by omega)⟩ (fun _ _ _ h => Sat.gb k1 hg h)⟩
                        · exact absurd ho (by simp)
                      case refine_2 =>
                        intro y wr b hG hF hbs
                        obtain rfl := hbs (by decide)
                        clear hbs
                        obtain ⟨hB, hC12, hC8, hC10⟩ := hG
                        simp only [Nat.zero_add, Nat.reduceAdd, List.map_cons, List.map_nil, puts, Act.put, List.setIfInBounds_toArray, List.set_cons_zero, List.set_cons_succ]
                        generalize y 0 = y0 at *; generalize y 1 = y1 at *; generalize y 2 = y2 at *; generalize y 3 = y3 at *
                        clear hF
                        have hC12 : BgC wr g12 ((10 ^ (j + 1) : Nat) : Int) := by rw [HK1.out, show ((KT * 10 : Nat) : Int) = (KT : Int) * 10 by simp]; simpa using hC12
                        go_wp2_with fail
                        exact ⟨⟨j + 1, iz + 1, by omega, rfl, (by have h := hiz.out; show _ = _; omega), by omega, hC12, hC8, hC10, hB⟩, by simp [intOf] <;> omega⟩
                    · obtain rfl : j = TT.size := by omega
                      have hi1 : ¬ (iz < (T.size : Int)) := by have h1 := HTS.out; have h2 := hiz.out; omega
                      obtain ⟨KT, hKK⟩ : ∃ KT, 10 ^ TT.size = KT := ⟨_, rfl⟩
                      rw [hKK] at hC12
                      have hK0 : 0 < KT := by rw [← hKK]; exact Nat.pow_pos (by decide)
                      have bK : ((KT : Int).natAbs : Int) < Bp 38 := by rw [← hKK]; exact b60 (by have h1 := HTS.out; omega)
                      have hm85 : m * 65536 < 10 ^ 85 := Nat.lt_of_lt_of_le (Nat.mul_lt_mul_of_pos_right hm80 (by decide)) e80
                      obtain ⟨Q, hQ⟩ : ∃ Q, m * 65536 / KT = Q := ⟨_, rfl⟩
                      have hQb : Q < 10 ^ 85 := by rw [← hQ]; exact Nat.lt_of_le_of_lt (Nat.div_le_self _ _) hm85
                      have hfl : flo ((m : Int) * 65536) (KT : Int) = (Q : Int) := by
                        unfold flo
                        rw [if_pos (by omega), ← hQ]
                        simp
                      have sm1 : Sm (m : Int) := sm_nat2 (Nat.lt_of_lt_of_le hm80 (Nat.pow_le_pow_right (by decide) (by decide)))
                      have sm6 : Sm ((m : Int) * 65536) := by
                        rw [show (m : Int) * 65536 = ((m * 65536 : Nat) : Int) by simp]
                        exact sm_nat2 (Nat.lt_of_lt_of_le hm85 (Nat.pow_le_pow_right (by decide) (by decide)))
                      have sQ : Sm (Q : Int) := sm_nat2 (Nat.lt_of_lt_of_le hQb (Nat.pow_le_pow_right (by decide) (by decide)))
                      obtain ⟨N6, hN6⟩ : ∃ N6, n * 65536 = N6 := ⟨_, rfl⟩
                      rw [hN6] at hC8 hn85
                      have sN6 : Sm (N6 : Int) := sm_nat2 (Nat.lt_of_lt_of_le hn85 (Nat.pow_le_pow_right (by decide) (by decide)))
                      have HOK : Hid (okB (unsg (bl s)) = (o1 && o2)) := by
                        show _ = _
                        rw [← HO.out]
                        unfold okB
                        rw [HPP.out, if_pos (by rw [bl_len]; omega), ← HTH.out, ← HTT.out, HO1.out, HO2.out]
                      have HHZ : Hid ((o1 && o2) = true → ((N6 + Q : Nat) : Int) = hdZ (unsg (bl s))) := fun h => by
                        rw [← HH.out]
                        unfold hdZ partZ
                        rw [HPP.out, if_pos (by rw [bl_len]; omega), ← HTH.out, ← HTT.out, bl_len, hKK]
                        have h1 := HO1.out
                        have h2 := HO2.out
                        rw [Bool.and_eq_true] at h
                        rw [h.1, Bool.and_eq_true] at h1
                        rw [h.2, Bool.and_eq_true] at h2
                        rw [← HNV.out h1.2, ← HMV.out h2.2, hQ, ← hN6]
                        simp
                      have hZb : N6 + Q < 10 ^ 86 := Nat.lt_of_lt_of_le (Nat.add_lt_add hn85 hQb) e81
                      clear hKK hQ hN6 hm85 hn85 hm80
                      go_upto_region 22 with fail
                      refine wp_region_dag' 7 [6, 0] id
                        (SatL [bigS N6, bigS m, bigS 65536, bigS (m * 65536), bigS KT, bigS Q, bigS (N6 + Q), none])
                        (fun b w' => Below w.heap.size w w' ∧ BgC w' g12 (KT : Int) ∧ BgC w' g8 (if b then (N6 : Int) + Q else N6) ∧ BgC w' g10 (m : Int))
                        (by kernel_rfl) (by kernel_rfl) (by kernel_rfl) (by kernel_rfl) ⟨below_drewN hbr 1, hC12.nx (below_drewN (Below.refl _ _) 1), hC8.nx (below_drewN (Below.refl _ _) 1), hC10.nx (below_drewN (Below.refl _ _) 1)⟩ ?_ ?_
                      case refine_1 =>
                        intro K i o y wr b ho hG hs hdep hK
                        have hG' := hG
                        obtain ⟨hB, hC12, hC8, hC10⟩ := hG'
                        rcases i with _ | i
                        · obtain rfl : _ = o := Option.some.inj ho
                          unfold StepTo
                          simp only [↓reduceIte, Nat.zero_add, Nat.reduceAdd, Nat.reduceEqDiff, List.map_cons, List.map_nil, puts, updV, Act.put, List.setIfInBounds_toArray, List.set_cons_zero, List.set_cons_succ] at hK ⊢
                          generalize y 0 = y0 at *; generalize y 1 = y1 at *; generalize y 2 = y2 at *; generalize y 3 = y3 at *; generalize y 4 = y4 at *; generalize y 5 = y5 at *; generalize y 6 = y6 at *; generalize y 7 = y7 at *
                          obtain ⟨rfl, -⟩ := hs (.inl (by simp))
                          obtain ⟨s1', A1', n1', c1', k1, hN⟩ := hC8
                          refine ldBig rfl _ rfl k1 rfl ?_
                          exact ⟨rfl, hK _ _ hN hG (fun _ _ _ h => h)⟩
                        rcases i with _ | i
                        · obtain rfl : _ = o := Option.some.inj ho
                          unfold StepTo
                          simp only [↓reduceIte, Nat.zero_add, Nat.reduceAdd, Nat.reduceEqDiff, List.map_cons, List.map_nil, puts, updV, Act.put, List.setIfInBounds_toArray, List.set_cons_zero, List.set_cons_succ] at hK ⊢
                          generalize y 0 = y0 at *; generalize y 1 = y1 at *; generalize y 2 = y2 at *; generalize y 3 = y3 at *; generalize y 4 = y4 at *; generalize y 5 = y5 at *; generalize y 6 = y6 at *; generalize y 7 = y7 at *
                          clear hs
                          obtain ⟨s1', A1', n1', c1', k1, hN⟩ := hC10
                          refine ldBig rfl _ rfl k1 rfl ?_
                          exact ⟨rfl, hK _ _ hN hG (fun _ _ _ h => h)⟩
                        rcases i with _ | i
                        · obtain rfl : _ = o := Option.some.inj ho
                          unfold StepTo
                          simp only [↓reduceIte, Nat.zero_add, Nat.reduceAdd, Nat.reduceEqDiff, List.map_cons, List.map_nil, puts, updV, Act.put, List.setIfInBounds_toArray, List.set_cons_zero, List.set_cons_succ] at hK ⊢
                          generalize y 0 = y0 at *; generalize y 1 = y1 at *; generalize y 2 = y2 at *; generalize y 3 = y3 at *; generalize y 4 = y4 at *; generalize y 5 = y5 at *; generalize y 6 = y6 at *; generalize y 7 = y7 at *
                          clear hs
                          go_wp2_with (go_at_call 201; refine (hP _).mono ?_; rintro e w2 ⟨v, rfl, hN, hb⟩)
                          exact hK _ _ hN.any ⟨hB.trans (hb.mono hB.size), hC12.nx hb, hC8.nx hb, hC10.nx hb⟩ (fun _ _ _ h => Sat.nx hb h)
                        rcases i with _ | i
                        · obtain rfl : _ = o := Option.some.inj ho
                          have p1 : BigN 0 wr (y 1) m := hdep { on := 1, ground := .data } (by simp) rfl
                          have p2 : BigN 0 wr (y 2) 65536 := hdep { on := 2, ground := .data } (by simp) rfl
                          unfold StepTo
                          simp only [↓reduceIte, Nat.zero_add, Nat.reduceAdd, Nat.reduceEqDiff, List.map_cons, List.map_nil, puts, updV, Act.put, List.setIfInBounds_toArray, List.set_cons_zero, List.set_cons_succ] at hK ⊢
                          generalize y 0 = y0 at *; generalize y 1 = y1 at *; generalize y 2 = y2 at *; generalize y 3 = y3 at *; generalize y 4 = y4 at *; generalize y 5 = y5 at *; generalize y 6 = y6 at *; generalize y 7 = y7 at *
                          clear hs
                          go_wp2_with (go_at_call 196; refine (mul_any _ _ _ _ _ p1 p2 sm1 s16).mono ?_; rintro e w2 ⟨v, rfl, hN, hb⟩)
                          exact hK _ _ hN.any ⟨hB.trans (hb.mono hB.size), hC12.nx hb, hC8.nx hb, hC10.nx hb⟩ (fun _ _ _ h => Sat.nx hb h)
                        rcases i with _ | i
                        · obtain rfl : _ = o := Option.some.inj ho
                          unfold StepTo
                          simp only [↓reduceIte, Nat.zero_add, Nat.reduceAdd, Nat.reduceEqDiff, List.map_cons, List.map_nil, puts, updV, Act.put, List.setIfInBounds_toArray, List.set_cons_zero, List.set_cons_succ] at hK ⊢
                          generalize y 0 = y0 at *; generalize y 1 = y1 at *; generalize y 2 = y2 at *; generalize y 3 = y3 at *; generalize y 4 = y4 at *; generalize y 5 = y5 at *; generalize y 6 = y6 at *; generalize y 7 = y7 at *
                          clear hs
                          obtain ⟨s1', A1', n1', c1', k1, hN⟩ := hC12
                          refine ldBig rfl _ rfl k1 rfl ?_
                          exact ⟨rfl, hK _ _ hN hG (fun _ _ _ h => h)⟩
                        rcases i with _ | i
                        · obtain rfl : _ = o := Option.some.inj ho
                          have p3 : BigN 0 wr (y 3) (m * 65536) := hdep { on := 3, ground := .data } (by simp) rfl
                          have p4 : BigN 0 wr (y 4) KT := hdep { on := 4, ground := .data } (by simp) rfl
                          unfold StepTo
                          simp only [↓reduceIte, Nat.zero_add, Nat.reduceAdd, Nat.reduceEqDiff, List.map_cons, List.map_nil, puts, updV, Act.put, List.setIfInBounds_toArray, List.set_cons_zero, List.set_cons_succ] at hK ⊢
                          generalize y 0 = y0 at *; generalize y 1 = y1 at *; generalize y 2 = y2 at *; generalize y 3 = y3 at *; generalize y 4 = y4 at *; generalize y 5 = y5 at *; generalize y 6 = y6 at *; generalize y 7 = y7 at *
                          clear hs
                          go_wp2_with (go_at_call 202; refine (floor_any _ _ _ _ _ p3 p4 (by omega) sm6 bK).mono ?_; rintro e w2 ⟨v, rfl, hN, hb⟩)
                          exact hK _ _ (by rw [hfl] at hN; exact hN.any) ⟨hB.trans (hb.mono hB.size), hC12.nx hb, hC8.nx hb, hC10.nx hb⟩ (fun _ _ _ h => Sat.nx hb h)
                        rcases i with _ | i
                        · obtain rfl : _ = o := Option.some.inj ho
                          have p0 : BigN 0 wr (y 0) N6 := hdep { on := 0, ground := .data } (by simp) rfl
                          have p5 : BigN 0 wr (y 5) Q := hdep { on := 5, ground := .data } (by simp) rfl
                          unfold StepTo
                          simp only [↓reduceIte, Nat.zero_add, Nat.reduceAdd, Nat.reduceEqDiff, List.map_cons, List.map_nil, puts, updV, Act.put, List.setIfInBounds_toArray, List.set_cons_zero, List.set_cons_succ] at hK ⊢
                          generalize y 0 = y0 at *; generalize y 1 = y1 at *; generalize y 2 = y2 at *; generalize y 3 = y3 at *; generalize y 4 = y4 at *; generalize y 5 = y5 at *; generalize y 6 = y6 at *; generalize y 7 = y7 at *
                          clear hs
                          go_wp2_with (go_at_call 195; refine (add_any _ _ _ _ _ p0 p5 sN6 sQ).mono ?_; rintro e w2 ⟨v, rfl, hN, hb⟩)
                          exact hK _ _ hN.any ⟨hB.trans (hb.mono hB.size), hC12.nx hb, hC8.nx hb, hC10.nx hb⟩ (fun _ _ _ h => Sat.nx hb h)
                        rcases i with _ | i
                        · obtain rfl : _ = o := Option.some.inj ho
                          have p6 : BigN 0 wr (y 6) (N6 + Q) := hdep { on := 6, ground := .data } (by simp) rfl
                          unfold StepTo
                          simp only [↓reduceIte, Nat.zero_add, Nat.reduceAdd, Nat.reduceEqDiff, List.map_cons, List.map_nil, puts, updV, Act.put, List.setIfInBounds_toArray, List.set_cons_zero, List.set_cons_succ] at hK ⊢
                          generalize y 0 = y0 at *; generalize y 1 = y1 at *; generalize y 2 = y2 at *; generalize y 3 = y3 at *; generalize y 4 = y4 at *; generalize y 5 = y5 at *; generalize y 6 = y6 at *; generalize y 7 = y7 at *
                          obtain ⟨rfl, -⟩ := hs (.inr rfl)
                          obtain ⟨s1', A1', n1', c1', k1, hN⟩ := hC8
                          obtain ⟨s9, A9, n9, c9, rfl⟩ := p6.shape
                          refine stBig rfl _ _ rfl k1 rfl rfl rfl ?_
                          intro w2 hk hg hs2
                          exact ⟨rfl, hK undef _ trivial ⟨below_of_gb hB hg (by omega) hB.size, hC12.gb k1 hg (by omega), ⟨_, _, _, _, hk, p6.gbig k1 hg⟩, hC10.gb k1 hg (by omega)⟩ (fun _ _ _ h => Sat.gb k1 hg h)⟩
                        · exact absurd ho (by simp)
                      case refine_2 =>
                        intro y wr b hG hF hbs
                        obtain rfl := hbs (by decide)
                        clear hbs
                        obtain ⟨hB, hC12, hC8, hC10⟩ := hG
                        simp only [Nat.zero_add, Nat.reduceAdd, List.map_cons, List.map_nil, puts, Act.put, List.setIfInBounds_toArray, List.set_cons_zero, List.set_cons_succ]
                        generalize y 0 = y0 at *; generalize y 1 = y1 at *; generalize y 2 = y2 at *; generalize y 3 = y3 at *; generalize y 4 = y4 at *; generalize y 5 = y5 at *; generalize y 6 = y6 at *; generalize y 7 = y7 at *
                        clear hF
                        have hC8 : BgC wr g8 ((N6 + Q : Nat) : Int) := by rw [show ((N6 + Q : Nat) : Int) = (N6 : Int) + Q by simp]; simpa using hC8
                        rcases (show o1 = true ∨ o1 = false by cases o1 <;> simp) with ho | ho <;> subst ho
                        · go_wp2_with fail
                          go_meet
                          exact ⟨true && o2, N6 + Q, rfl, HOK, HHZ, hZb, hC8, hB⟩
                        · go_wp2_with fail
                          go_meet
                          exact ⟨false && o2, N6 + Q, rfl, HOK, HHZ, hZb, hC8, hB⟩
                · have hpt2 : ¬ ((p : Int) < (T.size : Int)) := by omega
                  have HOK : Hid (okB (unsg (bl s)) = o1) := by
                    show _ = _
                    rw [← HO.out]
                    unfold okB
                    rw [HPP.out, if_neg (by rw [bl_len]; omega), Bool.and_true, ← HTH.out, HO1.out]
                  have HHZ : Hid (o1 = true → ((n * 65536 : Nat) : Int) = hdZ (unsg (bl s))) := fun h => by
                    rw [← HH.out]
                    unfold hdZ
                    rw [HPP.out, if_neg (by rw [bl_len]; omega), ← HTH.out]
                    have h1 := HO1.out
                    rw [h, Bool.and_eq_true] at h1
                    rw [HNV.out h1.2]
                    simp
                  go_wp2_with fail
                  go_meet
                  exact ⟨o1, n * 65536, rfl, HOK, HHZ, Nat.lt_of_lt_of_le hn85 (Nat.pow_le_pow_right (by decide) (by decide)), hC, hB⟩
              case rest =>
                obtain ⟨ok, Z, rfl, HOK, HHZ, hZ, hC, hB⟩ := hcut
                obtain ⟨wd, rfl⟩ : ∃ wd : World, wd = wc := ⟨_, rfl⟩
                have sZ : Sm (Z : Int) := sm_nat2 (Nat.lt_of_lt_of_le hZ (Nat.pow_le_pow_right (by decide) (by decide)))
                have snZ : Sm (-(Z : Int)) := by unfold Sm at *; simpa using sZ
                clear hP s16 sn hn85 sn6 hn80 hZ
                rcases (show ng = true ∨ ng = false by cases ng <;> simp) with hn2 | hn2 <;> subst hn2
                · have HSG : Hid (∀ z, sgL (bl s) z = -z) := fun z => by unfold sgL; rw [if_pos HNG.out]
                  obtain ⟨s4, A4, n4, c4, k4, hN4⟩ := hC
                  have hgw : w.heap.size ≤ g8 := hgg
                  go_upto_region 26 with (first
                    | (refine ldBig rfl _ rfl k4 rfl ?_)
                    | (go_at_call 197; refine (neg_any _ _ _ hN4 sZ).mono ?_; rintro e w6 ⟨v6, rfl, hN6, hb6⟩; obtain ⟨s6, A6, n6, c6, rfl⟩ := hN6.shape; have k46 := k4.nx hb6)
                    | (refine stBig rfl _ _ rfl k46 rfl rfl rfl ?_; intro w7 k7 hg7 hs7))
                  have hC : BgC w7 g8 (-(Z : Int)) := ⟨_, _, _, _, k7, hN6.any.gbig k46 hg7⟩
                  have hB6 := hB.trans (hb6.mono hB.size)
                  have hB : Below w.heap.size w w7 := below_of_gb hB6 hg7 hgg hB6.size
                  have HZZ : Hid (ok = true → sgL (bl s) (hdZ (unsg (bl s))) = -(Z : Int)) := fun h => by rw [HSG.out, HHZ.out h]
                  clear k7 hN6 k46 hg7 hs7 hB6 hb6 hN4 k4
                  have sz := snZ
                  generalize -(Z : Int) = z at *
                  obtain ⟨s8, A8, n8, c8, k8, hN8⟩ := hC
                  obtain ⟨x0, x1⟩ := k8.cell2
                  have hFt := rfits_any63 _ z _ hN8 sz
                  rcases (show ok = true ∨ ok = false by cases ok <;> simp) with ho | ho <;> subst ho
                  · have hzz := HZZ.out rfl
                    by_cases hin : in64 z
                    · rw [decide_eq_true hin] at hFt
                      have hSm := fun w' v (h : BigN 0 w' v z) => small_any v z w' h (by unfold in64 at hin; omega) (by unfold in64 at hin; omega)
                      have hSh := fun w' => rshow_any z hin w'
                      have hcmp := str_eqB (showL z) s
                      by_cases hit : showL z = bl s
                      · have HR : Hid (readO (bl s) = some z) := by
                          show _ = _
                          rw [readO_def, hzz, if_pos ⟨hin, hit⟩]
                        rw [decide_eq_true hit] at hcmp
                        unfold strV at hSh
                        generalize (⟨(showL z).toArray⟩ : ByteArray) = SB at *
                        clear hit hin hzz
                        go_wp2_with (first
                          | (go_at_call 198; refine hFt.mono ?_; rintro e w9 ⟨rfl, hb9⟩; have k8b := k8.nx hb9; have hN8b := hN8.nx hb9; obtain ⟨y0, y1⟩ := k8b.cell2)
                          | (go_at_call 199; refine (hSm _ _ hN8b).mono ?_; rintro e wa ⟨rfl, hba⟩; have hN8c := hN8b.nx hba)
                          | (go_at_call 149; refine (hSh _).mono ?_; rintro e wb ⟨rfl, hbb⟩; have k9 := (k8b.nx hba).nx hbb; have hN9 := hN8c.nx hbb; have hB9 := ((hB.trans (hb9.mono hB.size)).trans (hba.mono (hB.trans (hb9.mono hB.size)).size)).trans (hbb.mono ((hB.trans (hb9.mono hB.size)).trans (hba.mono (hB.trans (hb9.mono hB.size)).size)).size))
                          | (refine ldBig rfl _ rfl k9 rfl ?_)
                          | (go_at_call 199; refine (hSm _ _ hN9).mono ?_; rintro e wa ⟨rfl, hba⟩))
                        go_returns
                        exact ⟨by rw [optV_some HR.out]; rfl, hB9.trans (hba.mono hB9.size)⟩
                      · have HR : Hid (readO (bl s) = none) := by
                          show _ = _
                          rw [readO_def, hzz, if_neg (fun h => hit h.2)]
                        rw [decide_eq_false hit] at hcmp
                        unfold strV at hSh
                        generalize (⟨(showL z).toArray⟩ : ByteArray) = SB at *
                        clear hit hin hzz
                        go_wp2_with (first
                          | (go_at_call 198; refine hFt.mono ?_; rintro e w9 ⟨rfl, hb9⟩; have k8b := k8.nx hb9; have hN8b := hN8.nx hb9; obtain ⟨y0, y1⟩ := k8b.cell2)
                          | (go_at_call 199; refine (hSm _ _ hN8b).mono ?_; rintro e wa ⟨rfl, hba⟩; have hN8c := hN8b.nx hba)
                          | (go_at_call 149; refine (hSh _).mono ?_; rintro e wb ⟨rfl, hbb⟩; have k9 := (k8b.nx hba).nx hbb; have hN9 := hN8c.nx hbb; have hB9 := ((hB.trans (hb9.mono hB.size)).trans (hba.mono (hB.trans (hb9.mono hB.size)).size)).trans (hbb.mono ((hB.trans (hb9.mono hB.size)).trans (hba.mono (hB.trans (hb9.mono hB.size)).size)).size))
                          | (refine ldBig rfl _ rfl k9 rfl ?_)
                          | (go_at_call 199; refine (hSm _ _ hN9).mono ?_; rintro e wa ⟨rfl, hba⟩))
                        go_returns
                        exact ⟨by rw [optV_none HR.out]; rfl, hB9⟩
                    · have HR : Hid (readO (bl s) = none) := by
                        show _ = _
                        rw [readO_def, hzz, if_neg (fun h => hin h.1)]
                      rw [decide_eq_false hin] at hFt
                      clear hin hzz
                      go_wp2_with (go_at_call 198; refine hFt.mono ?_; rintro e w9 ⟨rfl, hb9⟩)
                      go_returns
                      exact ⟨by rw [optV_none HR.out]; rfl, hB.trans (hb9.mono hB.size)⟩
                  · have HR : Hid (readO (bl s) = none) := readO_bad HOK.out
                    go_wp2_with fail
                    go_returns
                    exact ⟨by rw [optV_none HR.out]; rfl, hB⟩
                · have HSG : Hid (∀ z, sgL (bl s) z = z) := fun z => by unfold sgL; rw [if_neg (by rw [HNG.out]; simp)]
                  have HZZ : Hid (ok = true → sgL (bl s) (hdZ (unsg (bl s))) = (Z : Int)) := fun h => by rw [HSG.out, HHZ.out h]
                  have sz := sZ
                  generalize (Z : Int) = z at *
                  go_upto_region 26 with fail
                  obtain ⟨s8, A8, n8, c8, k8, hN8⟩ := hC
                  obtain ⟨x0, x1⟩ := k8.cell2
                  have hFt := rfits_any63 _ z _ hN8 sz
                  rcases (show ok = true ∨ ok = false by cases ok <;> simp) with ho | ho <;> subst ho
                  · have hzz := HZZ.out rfl
                    by_cases hin : in64 z
                    · rw [decide_eq_true hin] at hFt
                      have hSm := fun w' v (h : BigN 0 w' v z) => small_any v z w' h (by unfold in64 at hin; omega) (by unfold in64 at hin; omega)
                      have hSh := fun w' => rshow_any z hin w'
                      have hcmp := str_eqB (showL z) s
                      by_cases hit : showL z = bl s
                      · have HR : Hid (readO (bl s) = some z) := by
                          show _ = _
                          rw [readO_def, hzz, if_pos ⟨hin, hit⟩]
                        rw [decide_eq_true hit] at hcmp
                        unfold strV at hSh
                        generalize (⟨(showL z).toArray⟩ : ByteArray) = SB at *
                        clear hit hin hzz
                        go_wp2_with (first
                          | (go_at_call 198; refine hFt.mono ?_; rintro e w9 ⟨rfl, hb9⟩; have k8b := k8.nx hb9; have hN8b := hN8.nx hb9; obtain ⟨y0, y1⟩ := k8b.cell2)
                          | (go_at_call 199; refine (hSm _ _ hN8b).mono ?_; rintro e wa ⟨rfl, hba⟩; have hN8c := hN8b.nx hba)
                          | (go_at_call 149; refine (hSh _).mono ?_; rintro e wb ⟨rfl, hbb⟩; have k9 := (k8b.nx hba).nx hbb; have hN9 := hN8c.nx hbb; have hB9 := ((hB.trans (hb9.mono hB.size)).trans (hba.mono (hB.trans (hb9.mono hB.size)).size)).trans (hbb.mono ((hB.trans (hb9.mono hB.size)).trans (hba.mono (hB.trans (hb9.mono hB.size)).size)).size))
                          | (refine ldBig rfl _ rfl k9 rfl ?_)
                          | (go_at_call 199; refine (hSm _ _ hN9).mono ?_; rintro e wa ⟨rfl, hba⟩))
                        go_returns
                        exact ⟨by rw [optV_some HR.out]; rfl, hB9.trans (hba.mono hB9.size)⟩
                      · have HR : Hid (readO (bl s) = none) := by
                          show _ = _
                          rw [readO_def, hzz, if_neg (fun h => hit h.2)]
                        rw [decide_eq_false hit] at hcmp
                        unfold strV at hSh
                        generalize (⟨(showL z).toArray⟩ : ByteArray) = SB at *
                        clear hit hin hzz
                        go_wp2_with (first
                          | (go_at_call 198; refine hFt.mono ?_; rintro e w9 ⟨rfl, hb9⟩; have k8b := k8.nx hb9; have hN8b := hN8.nx hb9; obtain ⟨y0, y1⟩ := k8b.cell2)
                          | (go_at_call 199; refine (hSm _ _ hN8b).mono ?_; rintro e wa ⟨rfl, hba⟩; have hN8c := hN8b.nx hba)
                          | (go_at_call 149; refine (hSh _).mono ?_; rintro e wb ⟨rfl, hbb⟩; have k9 := (k8b.nx hba).nx hbb; have hN9 := hN8c.nx hbb; have hB9 := ((hB.trans (hb9.mono hB.size)).trans (hba.mono (hB.trans (hb9.mono hB.size)).size)).trans (hbb.mono ((hB.trans (hb9.mono hB.size)).trans (hba.mono (hB.trans (hb9.mono hB.size)).size)).size))
                          | (refine ldBig rfl _ rfl k9 rfl ?_)
                          | (go_at_call 199; refine (hSm _ _ hN9).mono ?_; rintro e wa ⟨rfl, hba⟩))
                        go_returns
                        exact ⟨by rw [optV_none HR.out]; rfl, hB9⟩
                    · have HR : Hid (readO (bl s) = none) := by
                        show _ = _
                        rw [readO_def, hzz, if_neg (fun h => hin h.1)]
                      rw [decide_eq_false hin] at hFt
                      clear hin hzz
                      go_wp2_with (go_at_call 198; refine hFt.mono ?_; rintro e w9 ⟨rfl, hb9⟩)
                      go_returns
                      exact ⟨by rw [optV_none HR.out]; rfl, hB.trans (hb9.mono hB.size)⟩
                  · have HR : Hid (readO (bl s) = none) := readO_bad HOK.out
                    go_wp2_with fail
                    go_returns
                    exact ⟨by rw [optV_none HR.out]; rfl, hB⟩
end Go.Proofs.YtgohbkkeppknoaaGreatDoor
end
