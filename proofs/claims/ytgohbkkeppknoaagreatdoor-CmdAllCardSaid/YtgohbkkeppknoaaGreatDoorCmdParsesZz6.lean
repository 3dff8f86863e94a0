/- Several texts in one: The reference's numbers of any length: quotients of long numbers, digit by digit. -/
import Derived.Test.YtgohbkkeppknoaaGreatDoorCmdParsesZz5
import Derived.Deep.DeepCutAuto
section
set_option linter.unusedVariables false
namespace Go.Proofs.YtgohbkkeppknoaaGreatDoor
open Go.RowKit
theorem digit_q (l : List Int) (A : Option Addr) (n c : Nat) (i : Int) (w : World) {B : Nat} (hn : l.length = n) (hn2 : n ≤ 1000000) (h : RdI w B A l) :
    Calls Tryz.prog 278 #[.slice A n c, .int .i64 i] w fun e w' => e = .returned (.int .i64 (dgi l i)) ∧ w' = w :=
  (digit_any l A n c i w hn hn2 h).mono fun e w' ⟨h1, h2⟩ => ⟨h1, h2.symm⟩
theorem digit_d (l : List Int) (A : Option Addr) (n c : Nat) (i : Int) (w : World) {B : Nat} (hn : l.length = n) (hn2 : n ≤ 1000000) (h : RdI w B A l) :
    Calls Tryz.prog 278 #[.slice A n c, .int .i64 i] w fun e w' => e = .returned (.int .i64 (dgi l i)) ∧ w = w' := digit_any l A n c i w hn hn2 h
/-- After the digits from j on: the quotient's digits q, and what is left r. -/
def FlO (a b q r : List Int) (j : Nat) : Prop :=
  okd q ∧ q.length = a.length - j ∧ Norm r ∧ vd r < vd b ∧ vd (a.drop j) = vd q * vd b + vd r
theorem flO_start (a b : List Int) (hb : 1 ≤ vd b) : FlO a b [] [] a.length := ⟨okd_nil, by simp, norm_nil, by simp [vd]; omega, by simp [vd]⟩
theorem flO_step {a b q r r' : List Int} {j : Nat} {Q : Int} (h : FlO a b q r (j + 1)) (ha : okd a) (hj : j < a.length) (hb : 1 ≤ vd b) (hQ : Q = vd (dgt a j :: r) / vd b) (hr' : Norm r') (hv : vd r' = vd (dgt a j :: r) - Q * vd b) :
    FlO a b (Q :: q) r' j ∧ 0 ≤ Q ∧ Q ≤ 32767 := by
  obtain ⟨h1, h2, h3, h4, h5⟩ := h
  have hd := dgt_ok ha j
  have hr0 := vd_nonneg h3.1
  have hR : vd (dgt a j :: r) = dgt a j + 32768 * vd r := rfl
  have hq0 : 0 ≤ Q := by rw [hQ]; exact Int.ediv_nonneg (by rw [hR]; omega) (by omega)
  have hq1 : Q ≤ 32767 := by
    have : Q < 32768 := by rw [hQ]; exact Int.ediv_lt_of_lt_mul (by omega) (by rw [hR]; omega)
    omega
  have hm := Int.mul_ediv_add_emod (vd (dgt a j :: r)) (vd b)
  have hm1 := Int.emod_lt_of_pos (vd (dgt a j :: r)) (show 0 < vd b by omega)
  rw [← hQ, Int.mul_comm] at hm
  refine ⟨⟨okd_cons.2 ⟨⟨hq0, hq1⟩, h1⟩, by simp; omega, hr', by omega, ?_⟩, hq0, hq1⟩
  rw [vd_drop, h5, vd, Int.add_mul, hv, hR, Int.mul_add, Int.mul_assoc]
  omega
theorem norm_cons_tr {d : Int} {r : List Int} (hd : 0 ≤ d ∧ d ≤ 32767) (hr : Norm r) : Norm (tr (d :: r)) ∧ vd (tr (d :: r)) = vd (d :: r) ∧ okd (d :: r) :=
  ⟨tr_norm (okd_cons.2 ⟨hd, hr.1⟩), tr_vd _, okd_cons.2 ⟨hd, hr.1⟩⟩
theorem flO_end {l l' q r : List Int} {x y : Int} (h : FlO l l' q r 0) (hy : y ≠ 0) (h7 : vd l = (x.natAbs : Int)) (h7' : vd l' = (y.natAbs : Int)) :
    (decide (x < 0) = decide (y < 0) → flo x y = vd q) ∧ (decide (x < 0) ≠ decide (y < 0) → flo x y = if vd r = 0 then - vd q else -(vd q + 1)) := by
  obtain ⟨h1, h2, h3, h4, h5⟩ := h
  have h0 := vd_nonneg h3.1
  rw [List.drop_zero] at h5
  rw [h7'] at h4 h5
  constructor
  · intro e
    rw [flo_same hy e]
    exact div_uniq (by omega) (by omega) (by omega)
  · intro e
    exact flo_diff hy e (by omega) h0 h4
theorem sm_mul {m v : Int} (h0 : 0 ≤ m) (h1 : m ≤ 32768) (h2 : 0 ≤ v) (h3 : v < Bp 38) : Sm (m * v) := by
  show ((m * v).natAbs : Int) < Bp 40
  have h4 : m * v ≤ 32768 * v := Int.mul_le_mul_of_nonneg_right h1 h2
  have h5 := Int.mul_nonneg h0 h2
  have h6 := Bp1s 38
  have h7 := Bp_mono (show 39 ≤ 40 by omega)
  simp only [Nat.reduceAdd] at h6
  omega
def slA : Value → Option Addr | .slice A _ _ => A | _ => none
set_option maxRecDepth 100000 in
set_option maxHeartbeats 4000000 in
theorem floor_long (va vb : Value) (x y : Int) (w : World) {lo lo' : Nat} (ha : BigN lo w va x) (hb : BigN lo' w vb y) (hy : y ≠ 0) (hsa : Sm x) (hsb : (y.natAbs : Int) < Bp 38) (hlong : Bp 4 ≤ (x.natAbs : Int) ∨ Bp 4 ≤ (y.natAbs : Int)) :
    Calls Tryz.prog 202 #[va, vb] w fun e w' => ∃ v, e = .returned v ∧ BigN w.heap.size w' v (flo x y) ∧ Below w.heap.size w w' := by
  obtain ⟨A, c, l, rfl, h2, h3, h4, h5, h6, h7⟩ := id ha
  obtain ⟨A', c', l', rfl, h2', h3', h4', h5', h6', h7'⟩ := id hb
  have hbY : ∀ W, Below w.heap.size w W → BigN lo' W (.agg #[.bool false, .slice A' l'.length c']) (vd l') := fun W hW => by
    have hnn := vd_nonneg h6'.1
    exact ⟨A', c', l', by rw [show decide (vd l' < 0) = false by simp; omega], h2', h3', h4', h5'.below hW (Nat.le_refl _), h6', by omega⟩
  have HBY := Lib.hid hbY
  clear hbY
  have hl : l.length ≤ 40 := sm_len hsa h6 h7
  have hl' : l'.length ≤ 38 := norm_len h6' (by rw [h7']; exact hsb)
  have hlong2 : ¬ (l.length ≤ 4 ∧ l'.length ≤ 4) := by
    rintro ⟨e1, e2⟩
    have v1 := vd_lt h6.1
    have v2 := vd_lt h6'.1
    have b1 := Bp_mono e1
    have b2 := Bp_mono e2
    omega
  have hY1 : 1 ≤ vd l' := by rw [h7']; omega
  have hk1 : 1 ≤ l'.length := by
    rcases Nat.eq_zero_or_pos l'.length with e | e
    · rw [List.eq_nil_of_length_eq_zero e] at hY1; simp [vd] at hY1
    · exact e
  have ok1 := h6.1
  have ok2 := h6'.1
  have hd1 := dgi_ok ok2 ((l'.length : Int) - 1)
  have hd2 := dgi_ok ok2 ((l'.length : Int) - 2)
  have HY := Lib.hid hy
  have H7 := Lib.hid h7
  have H7' := Lib.hid h7'
  have HSB := Lib.hid hsb
  clear hy h7 h7' hsb hlong h2 h3 h4 h2' h3' h4'
  have hT := TwoW.start w (decide (x < 0)) (decide (y < 0)) A A' l.length l'.length c c'
  generalize hsx : decide (x < 0) = s at *
  generalize hsy : decide (y < 0) = s' at *
  have HSX := Lib.hid hsx
  have HSY := Lib.hid hsy
  clear hsx hsy
  have hl2 := hT.2.2.1.lt
  have hr1 : ∀ W, Below w.heap.size w W → RdI W W.heap.size A l := fun W hW => (h5.below hW (Nat.le_refl _)).rd
  have hr2 : ∀ W, Below w.heap.size w W → RdI W W.heap.size A' l' := fun W hW => (h5'.below hW (Nat.le_refl _)).rd
  have HR1 := Lib.hid hr1
  have HR2 := Lib.hid hr2
  have hrq := hr2 _ hT.2.2.2
  clear hr1 hr2 h5 h5'
  go_enter Tryz.func202, Tryz.ntmps202
  have hcs : (l.length ≤ 4 ∧ 4 < l'.length) ∨ 4 < l.length := by omega
  clear hlong2
  generalize hW0 : ((w.alloc (.cells #[.bool s, .slice A l.length c] 200)).alloc (.cells #[.bool s', .slice A' l'.length c'] 200)).alloc (.cells #[.bool false, .slice none 0 0] 200) = W0 at *
  have HW0 := Lib.hid hW0
  clear hW0
  obtain ⟨q00, q01⟩ := hT.1.cell2
  obtain ⟨q10, q11⟩ := hT.2.1.cell2
  go_upto_region 1 with fail
  rw [HW0.out]
  go_cut [23] (fun v wx => v = .bool false ∧ wx = W0)
  case first =>
    rcases hcs with ⟨hl4, hl5⟩ | hl4
    · go_wp2_with fail
      go_meet
      exact ⟨by simp; omega, rfl⟩
    · go_wp2_with fail
      go_meet
      exact ⟨rfl, rfl⟩
  case rest =>
    obtain ⟨rfl, rfl⟩ := hcut
    clear q00 q01 q10 q11
    have hT20 := hT.2.1.cell2
    have q11 := hT20.2
    clear hT20
    go_wp2_with fail
    go_quiet ((go_at_call 278; exact Calls.quiet_of_same (digit_q l' _ _ _ _ _ rfl (by omega) (hrq.drewN _))))
    generalize htop : dgi l' ((l'.length : Int) - 1) * 32768 + dgi l' ((l'.length : Int) - 2) = top at *
    have HTOP := Lib.hid htop
    clear htop hd1 hd2 hrq
    have hT2 := hT.drewN nq
    obtain ⟨q00, q01⟩ := hT2.1.cell2
    go_wp2_with fail
    go_loopw [5, 6, 9] (fun qv rv iv wr => ∃ (j : Nat) (q r : List Int) (Aq : Option Addr) (cq : Nat) (Ar : Option Addr) (cr : Nat), j ≤ l.length ∧ iv = .int .i64 ((j : Int) - 1) ∧ qv = .slice Aq q.length cq ∧ rv = .slice Ar r.length cr ∧
      q.length ≤ cq ∧ cq ≤ maxLen ∧ (Aq = none → cq = 0) ∧ RdL wr (w.heap.size + 1 + 1 + 1) Aq (q.map (Value.int .i64)) ∧ r.length ≤ cr ∧ cr ≤ maxLen ∧ (Ar = none → cr = 0) ∧ RdI wr wr.heap.size Ar r ∧ FlO l l' q r j ∧ TwoW w wr s s' A A' l.length l'.length c c')
      (fun _ _ iv _ => (intOf iv + 1).toNat)
    case atStart => exact ⟨l.length, [], [], none, 0, none, 0, Nat.le_refl _, rfl, rfl, rfl, by simp, by simp [maxLen], fun _ => rfl, fun k hk => absurd hk (by simp), by simp, by simp [maxLen], fun _ => rfl, Rd.nil, flO_start l l' hY1, hT2⟩
    case round =>
      clear hT2 q00 q01 hT hl2
      obtain ⟨j, q, r, Aq, cq, Ar, cr, hj, rfl, rfl, rfl, hq1, hq2, hq3, hq4, hr1, hr2, hr3, hr4, hF, hT⟩ := hrel
      have hl2 := hT.2.2.1.lt
      rcases Nat.eq_zero_or_pos j with h0 | h0
      · subst h0
        have hend := flO_end hF HY.out H7.out H7'.out
        rw [HSX.out, HSY.out] at hend
        have HEND := Lib.hid hend
        have hqlen : q.length ≤ l.length := by have := hF.2.1; omega
        have hvq0 := vd_nonneg hF.1
        have hnt := tr_norm hF.1
        have hnr := hF.2.2.1
        have hzr := norm_zero hnr
        have HZR := Lib.hid hzr
        have HNT := Lib.hid (norm_zero hnt)
        have HVT := Lib.hid (tr_vd q)
        have hTd := hT.drew
        have hl2 := hT.2.2.1.lt
        have hl3 := hTd.2.2.1.lt
        obtain ⟨q00, q01⟩ := hT.1.cell2
        obtain ⟨q10, q11⟩ := hT.2.1.cell2
        obtain ⟨d00, d01⟩ := hTd.1.cell2
        obtain ⟨d10, d11⟩ := hTd.2.1.cell2
        have hrq : RdI wr wr.heap.size Aq q := RdL.rd hq4
        have hrqd : RdI wr.drew wr.drew.heap.size Aq q := hrq
        have hqd4 : RdL wr.drew (w.heap.size + 1 + 1 + 1) Aq (q.map (Value.int .i64)) := hq4
        have hcs2 : s = s' ∨ (s' = !s ∧ r = []) ∨ (s' = !s ∧ 0 < r.length) := by
          rcases Nat.eq_zero_or_pos r.length with e | e
          · have e := List.eq_nil_of_length_eq_zero e
            cases s <;> cases s' <;> simp [e]
          · cases s <;> cases s' <;> simp [e]
        clear hend hF hzr
        rcases hcs2 with rfl | ⟨rfl, rfl⟩ | ⟨rfl, hr0⟩
        · go_wp2_with fail
          go_region_held3 (fun w' => w'.cell? ⟨w.heap.size, 0, none⟩ = some (.bool s) ∧ w'.cell? ⟨w.heap.size + 1, 0, none⟩ = some (.bool s))
            (first | exact ⟨q00, q10⟩ | exact ⟨d00, d10⟩ | exact ⟨e00, e10⟩ | (refine ⟨?_, ?_⟩ <;> go_simp))
            (first
            | (go_at_call 275; (with_reducible refine (trim_any q _ _ _ _ (B := wr.drew.heap.size) rfl (by omega) (by omega) (by simpa [maxLen] using hq2) hq3 hrqd).mono ?_); rintro e w1 ⟨rfl, rfl⟩)
            | (go_at_call 271; refine (made_big _ _ _ _ _).mono ?_; rintro e w2 ⟨rfl, hb2⟩; have hK22 := hTd.2.2.1.nx hb2; obtain ⟨c20, c21⟩ := hK22.cell2; have f20 := hK22.frozen 0; have f21 := hK22.frozen 1; have e00 := (hTd.1.nx hb2).cell2.1; have e10 := (hTd.2.1.nx hb2).cell2.1))
          go_wp2_with fail
          refine bodyPost_ret (res_big rfl (hK22.set2 _ _) rfl) rfl ?_
          have hz2 := hb2.size
          simp only [World.size_drew] at hz2 hl3
          have hbW : Below w.heap.size w w2 := hTd.2.2.2.trans (hb2.mono (by simp; omega))
          have hle := tr_le q
          have hn := HNT.out
          rw [HVT.out] at hn
          have hfl : flo x y = vd q := HEND.out.1 (by first | trivial | rfl)
          refine ⟨_, rfl, ⟨Aq, cq, tr q, by rw [show decide (flo x y < 0) = false by simp; omega] <;> simp, by omega, hq2, hq3, ?_, hnt, by rw [HVT.out]; omega⟩, below_of_gb hbW (gb2 w2 _ _ _) (by omega) (by omega)⟩
          rw [tr_take, List.map_take]
          exact (((hqd4.take _).below hb2 (Nat.le_refl _)).grown (gb2 w2 _ _ _) (fun g e => .inl (by injection e with e; omega))).less (by omega)
        · go_wp2_with fail
          go_region_held3 (fun w' => w'.cell? ⟨w.heap.size, 0, none⟩ = some (.bool s) ∧ w'.cell? ⟨w.heap.size + 1, 0, none⟩ = some (.bool (!s)))
            (first | exact ⟨q00, q10⟩ | exact ⟨d00, d10⟩ | exact ⟨e00, e10⟩ | (refine ⟨?_, ?_⟩ <;> go_simp))
            (first
            | (go_at_call 275; (with_reducible refine (trim_any q _ _ _ _ (B := wr.drew.heap.size) rfl (by omega) (by omega) (by simpa [maxLen] using hq2) hq3 hrqd).mono ?_); rintro e w1 ⟨rfl, rfl⟩)
            | (go_at_call 271; refine (made_big _ _ _ _ _).mono ?_; rintro e w2 ⟨rfl, hb2⟩; have hK22 := hTd.2.2.1.nx hb2; obtain ⟨c20, c21⟩ := hK22.cell2; have f20 := hK22.frozen 0; have f21 := hK22.frozen 1; have e00 := (hTd.1.nx hb2).cell2.1; have e10 := (hTd.2.1.nx hb2).cell2.1))
          go_wp2_with fail
          refine bodyPost_ret (res_big rfl (hK22.set2 _ _) rfl) rfl ?_
          have hz2 := hb2.size
          simp only [World.size_drew] at hz2 hl3
          have hbW : Below w.heap.size w w2 := hTd.2.2.2.trans (hb2.mono (by simp; omega))
          have hle := tr_le q
          have hn := HNT.out
          rw [HVT.out] at hn
          have hfl : flo x y = -vd q := by
            have := HEND.out.2 (by cases s <;> simp)
            simpa [vd] using this
          refine ⟨_, rfl, ⟨Aq, cq, tr q, ?_, by omega, hq2, hq3, ?_, hnt, by rw [HVT.out]; omega⟩, below_of_gb hbW (gb2 w2 _ _ _) (by omega) (by omega)⟩
          · have : (!(s == !s) && decide (0 < (tr q).length)) = decide (flo x y < 0) := by
              rw [hfl]
              by_cases hm : tr q = []
              · have h0 := hn.1 hm
                rw [hm]; simp; omega
              · have h1 := List.length_pos_iff.2 hm
                have h2 : vd q ≠ 0 := fun e => hm (hn.2 e)
                simp [h1]; omega
            rw [← this]; simp
          · rw [tr_take, List.map_take]
            exact (((hqd4.take _).below hb2 (Nat.le_refl _)).grown (gb2 w2 _ _ _) (fun g e => .inl (by injection e with e; omega))).less (by omega)
        · go_wp2_with fail
          refine (trim_any q Aq q.length cq wr (B := wr.heap.size) rfl (by omega) (by omega) (by simpa [maxLen] using hq2) hq3 hrq).mono ?_
          rintro e w1 ⟨rfl, rfl⟩
          have hle := tr_le q
          have hrt : RdI (wr.alloc (.cells #[.int .i64 1] 3)) (wr.alloc (.cells #[.int .i64 1] 3)).heap.size Aq (tr q) := by
            rw [tr_take, RdI, List.map_take]
            exact RdL.rd ((RdL.take hq4 _).below ((Below.refl _ wr).alloc (Nat.le_refl _) _) (Nat.le_refl _))
          have hr1' : RdI (wr.alloc (.cells #[.int .i64 1] 3)) (wr.alloc (.cells #[.int .i64 1] 3)).heap.size (some ⟨wr.heap.size, 0, none⟩) [1] := by
            have := own_of_Bk (base := wr.heap.size) (Bk.new wr 3 #[.int .i64 1]) 1 rfl (by omega) (Nat.le_refl _)
            exact Rd.of_own (c := 1) (n := 1) (size := 1) (by simpa using this)
          go_wp2_with fail
          refine (sum_any (tr q) [1] Aq _ _ 1 _ _ _ rfl rfl (by omega) (by omega) hnt.1 (okd_cons.2 ⟨by omega, okd_nil⟩) hrt hr1').mono ?_
          rintro e w5 ⟨v5, rfl, ⟨A5, c5, l5, rfl, x2, x3, x4, x5, x6, x7⟩, hb5⟩
          have X7 := Lib.hid x7
          clear x7
          go_wp2_with fail
          refine (made_big _ _ _ _ _).mono ?_
          rintro e w6 ⟨rfl, hb6⟩
          have hT6 := ((hT.alloc (.cells #[.int .i64 1] 3)).nx hb5).nx hb6
          have hK6 := hT6.2.2.1
          obtain ⟨c20, c21⟩ := hK6.cell2
          have f20 := hK6.frozen 0
          have f21 := hK6.frozen 1
          go_wp2_with fail
          refine bodyPost_ret (res_big rfl (hK6.set2 _ _) rfl) rfl ?_
          have hz5 := hb5.size
          have hz6 := hb6.size
          have hs5 : wr.heap.size ≤ (wr.alloc (.cells #[.int .i64 1] 3)).heap.size := by simp
          have hv5 : vd l5 = vd q + 1 := by rw [X7.out, HVT.out]; simp [vd]
          have hfl : flo x y = -(vd q + 1) := by
            have := HEND.out.2 (by cases s <;> simp)
            have hvr : ¬ vd r = 0 := fun e => by rw [HZR.out.2 e] at hr0; simp at hr0
            rw [this, if_neg hvr]
          have h1 : 0 < l5.length := by
            rcases Nat.eq_zero_or_pos l5.length with e | e
            · rw [List.eq_nil_of_length_eq_zero e] at hv5; simp [vd] at hv5; omega
            · exact e
          refine ⟨_, rfl, ⟨A5, c5, l5, ?_, x2, x3, x4, ?_, x6, by omega⟩, below_of_gb hT6.2.2.2 (gb2 w6 _ _ _) (by omega) (by omega)⟩
          · rw [show decide (flo x y < 0) = true by simp; omega]; simp [h1]
          · exact ((x5.below hb6 (by omega)).grown (gb2 w6 _ _ _) (fun g e => .inl (by injection e with e; omega))).less (by omega)
      · obtain ⟨jj, rfl⟩ : ∃ jj, j = jj + 1 := ⟨j - 1, by omega⟩
        have e1 : ((jj + 1 : Nat) : Int) - 1 = jj := by omega
        simp only [e1]
        clear e1
        obtain ⟨b1, o1, rfl, hb1, hc1⟩ := RdI.get (HR1.out _ hT.2.2.2) jj (by omega)
        rw [getD_dgt] at hc1
        have hdj := dgt_ok ok1 jj
        obtain ⟨q00, q01⟩ := hT.1.cell2
        have hrlen : r.length ≤ 38 := norm_len hF.2.2.1 (by have := hF.2.2.2.1; have := vd_lt ok2; have := Bp_mono hl'; omega)
        have hown0 : (wr.alloc (.cells #[.int .i64 (dgt l jj)] 3)).ownsRow wr.heap.size 3 1 (.slice (some ⟨wr.heap.size, 0, none⟩) 1 1) 1 [.int .i64 (dgt l jj)] := by
          simpa using own_of_Bk (base := wr.heap.size) (Bk.new wr 3 #[.int .i64 (dgt l jj)]) 1 rfl (by omega) (Nat.le_refl _)
        go_wp2_with (at_builtin; refine appR rfl _ _ _ rfl Tryz.underlying80 big_int_info rfl (by omega) rfl rfl hown0 ((Below.refl _ wr).alloc (Nat.le_refl _) _) (Nat.le_refl _) (by simp) (hr4.alloc (Nat.le_refl _) _) (by simp) (intsL r) (by omega) (by omega) ?_; intro v1 w1 hown1 hb1' _ _ _)
        obtain ⟨A1, c1, rfl, k1, k2, k3, k4, k5⟩ := own_form2 hown1
        have hT1 := hT.nx hb1'
        have hrq1 : RdL w1 (w.heap.size + 1 + 1 + 1) Aq (q.map (Value.int .i64)) := hq4.below hb1' (Nat.le_refl _)
        have hL : ([Value.int .i64 (dgt l jj)] ++ r.map (Value.int .i64)) = (dgt l jj :: r).map (Value.int .i64) := by simp
        rw [hL] at k4
        obtain ⟨hn1, hv1, hok1⟩ := norm_cons_tr hdj hF.2.2.1
        have HV1 := Lib.hid hv1
        clear hv1 hL hown1 hown0 q00 q01 hq4 hr4
        go_wp2_with fail
        refine (trim_any (dgt l jj :: r) A1 (1 + r.length) c1 w1 (by simp; omega) (by omega) k1 (by simpa [maxLen] using k2) k3 k4).mono ?_
        rintro e w2 ⟨rfl, rfl⟩
        have hrr : RdI w1 w1.heap.size A1 (tr (dgt l jj :: r)) := by rw [tr_take, RdI, List.map_take]; exact k4.take _
        have hle1 : (tr (dgt l jj :: r)).length ≤ 1 + r.length := by have := tr_le (dgt l jj :: r); simpa [Nat.add_comm] using this
        generalize hr1d : tr (dgt l jj :: r) = r1 at *
        have HR1D := Lib.hid hr1d
        clear hr1d k4 k5 hok1
        have ok3 := hn1.1
        have hm1 := dgi_ok ok3 (l'.length : Int)
        have hm2 := dgi_ok ok3 ((l'.length : Int) - 1)
        have hm3 := dgi_ok ok3 ((l'.length : Int) - 2)
        have hRlt : vd r1 < 32768 * vd l' := by rw [HV1.out, vd]; have := hF.2.2.2.1; omega
        have hlr : r1.length ≤ l'.length + 1 := norm_len hn1 (by have := vd_lt ok2; rw [Bp1s]; omega)
        have htr := trial h6' ok3 rfl hk1 hlr hRlt HTOP.out.symm rfl
        have HTR := Lib.hid htr
        have htop0 := htr.1
        have htop1 : top ≤ 1073741823 := by
          have := HTOP.out
          have := dgi_ok ok2 ((l'.length : Int) - 1)
          have := dgi_ok ok2 ((l'.length : Int) - 2)
          omega
        clear htr
        go_wp2_with (go_at_call 278; (with_reducible refine (digit_d r1 _ _ _ _ _ rfl (by omega) hrr).mono ?_); rintro e w' ⟨rfl, rfl⟩)
        generalize hfd : (dgi r1 (l'.length : Int) * 32768 + dgi r1 ((l'.length : Int) - 1)) * 32768 + dgi r1 ((l'.length : Int) - 2) = first at *
        have hf0 : 0 ≤ first ∧ first ≤ 35184372088831 := by omega
        have HFD := Lib.hid hfd
        clear hfd hm1 hm2 hm3
        have hQ0 : 0 ≤ vd r1 / vd l' := Int.ediv_nonneg (vd_nonneg ok3) (by omega)
        generalize hQd : vd r1 / vd l' = Q at *
        have HQD := Lib.hid hQd
        clear hQd
        have hA0 : 0 ≤ first / (top + 1) := Int.ediv_nonneg hf0.1 (by omega)
        have hA1 : first / (top + 1) ≤ 35184372088831 := by have := Int.ediv_le_self (a := first) (top + 1) hf0.1; omega
        have hA2 : 0 ≤ (first + 1) / top := Int.ediv_nonneg (by omega) (by omega)
        have hA3 : (first + 1) / top ≤ 35184372088832 := by have := Int.ediv_le_self (a := first + 1) top (by omega); omega
        have hT1' := hT1.2.2.1.lt
        go_upto_region 12 with fail
        go_cut [11, 12] (fun a b wx => a = .int .i64 (first / (top + 1)) ∧ (∃ hi, b = .int .i64 hi ∧ Q ≤ hi ∧ hi ≤ 32767) ∧ ∃ k, wx = w1.drewN k)
        case first =>
          go_quiet (fail)
          all_goals (go_wp2_with fail)
          all_goals go_meet
          all_goals exact ⟨rfl, ⟨_, rfl, by have := HTR.out; omega, by omega⟩, _, rfl⟩
        case rest =>
          obtain ⟨rfl, ⟨hi, rfl, hhi1, hhi2⟩, k, rfl⟩ := hcut
          have hlo1 : first / (top + 1) ≤ Q := HTR.out.2.1
          generalize first / (top + 1) = lo1 at *
          have hT2 := hT1.drewN k
          generalize hwo : w1.drewN k = wo at *
          have hb2 : Below wr.heap.size wr wo := by rw [← hwo]; exact below_drewN hb1' k
          have hrr2 : RdI wo w1.heap.size A1 r1 := by rw [← hwo]; exact hrr.drewN k
          have hz2 : wo.heap.size = w1.heap.size := by rw [← hwo]; rfl
          obtain ⟨wu, rfl⟩ : ∃ wu : World, wu = wr := ⟨_, rfl⟩
          have HWO := Lib.hid hwo
          clear hwo
          go_wp2_with fail
          go_loopw [11, 12] (fun av bv wr2 => ∃ a b : Int, av = .int .i64 a ∧ bv = .int .i64 b ∧ 0 ≤ a ∧ a ≤ Q ∧ Q ≤ b ∧ b ≤ 32767 ∧ Below wo.heap.size wo wr2) (fun av bv _ => (intOf bv - intOf av).toNat)
          case atStart => exact ⟨_, _, rfl, rfl, hA0, hlo1, hhi1, hhi2, Below.refl _ _⟩
          case round =>
            obtain ⟨a, b, rfl, rfl, ha0, haQ, hQb, hb9, hbo⟩ := hrel
            have hTo := hT2.nx hbo
            have hTd := hTo.drew
            have hbW := hTd.2.2.2
            have hl3 := hTd.2.2.1.lt
            have hbo2 := hbo.drew
            obtain ⟨c10, c11⟩ := hTo.2.1.cell2
            obtain ⟨d10, d11⟩ := hTd.2.1.cell2
            have hSb : Sm (vd l') := by
              have := HSB.out
              have := H7'.out
              have hm := Bp_mono (show 38 ≤ 40 by omega)
              show ((vd l').natAbs : Int) < Bp 40
              omega
            have hSm : ∀ m : Int, 0 ≤ m → m ≤ 32767 → Sm (m * vd l') := fun m m0 m1 => sm_mul m0 (by omega) (by omega) (by have := HSB.out; have := H7'.out; omega)
            have HSM := Lib.hid hSm
            clear hSm
            go_wp2_with fail
            · go_region_held3 (fun w' => w'.cell? ⟨w.heap.size + 1, 1, none⟩ = some (.slice A' l'.length c'))
                (first | exact c11 | exact d11 | exact c11' | exact c11'' | go_simp)
                (first
                | (go_at_call 151; (with_reducible refine (of_any _ _ (by omega) (by omega)).mono ?_); rintro e wa ⟨va1, rfl, hNa, hba⟩; obtain ⟨c10', c11'⟩ := (hTd.2.1.nx hba).cell2; obtain ⟨sa1, Aa1, na1, ca1, rfl⟩ := hNa.shape)
                | (go_at_call 196; (with_reducible refine (mul_any _ _ _ _ _ hNa (HBY.out _ (hbW.trans (hba.mono (by omega)))) (sm_of (by omega) (by omega)) hSb).mono ?_); rintro e wb ⟨vb1, rfl, hNb, hbb⟩; obtain ⟨c10'', c11''⟩ := ((hTd.2.1.nx hba).nx hbb).cell2; obtain ⟨Ab1, cb1, lb, rfl, g2, g3, g4, g5, g6, g7⟩ := hNb; have hlb := sm_len (HSM.out _ (by omega) (by omega)) g6 g7; have ok4 := g6.1; have G7 := Lib.hid g7; clear g7)
                | (go_at_call 273; (with_reducible refine (less_any lb r1 _ _ _ _ _ _ _ rfl rfl (by omega) (by omega) ok4 ok3 g5.rd (((hrr2.below' hbo2 (by omega)).below' hba (by have := hbo2.size; omega)).below' hbb (by have := hbo2.size; have := hba.size; omega))).mono ?_); rintro e w' ⟨rfl, rfl⟩))
              all_goals
                have g7' : vd lb = (a + b + 1) / 2 * vd l' := by
                  have := Int.mul_nonneg (show 0 ≤ (a + b + 1) / 2 by omega) (show 0 ≤ vd l' by omega)
                  have := G7.out
                  omega
                have hbo4 := hba.size
                have hbo5 := hbo2.size
                have hbo6 := (hbo2.trans (hba.mono hbo5)).trans (hbb.mono (by omega))
                have hq5 := Int.ediv_mul_le (vd r1) (show vd l' ≠ 0 by omega)
                rw [HQD.out] at hq5
                have e1 : cmpI (vd lb) (vd r1) ≤ 0 ↔ vd lb ≤ vd r1 := by unfold cmpI; split <;> (try split) <;> omega
                have e2 : vd lb ≤ vd r1 ↔ (a + b + 1) / 2 ≤ Q := by
                  rw [g7']
                  constructor
                  · intro h
                    rw [← HQD.out]
                    exact Int.le_ediv_of_mul_le (by omega) h
                  · intro h
                    exact Int.le_trans (Int.mul_le_mul_of_nonneg_right h (by omega)) hq5
                have e3 : cmpI (vd lb) (vd r1) ≤ 0 ↔ (a + b + 1) / 2 ≤ Q := e1.trans e2
                clear e1 e2
                generalize cmpI (vd lb) (vd r1) = cv at *
                go_wp2_with fail
              · exact ⟨⟨_, _, rfl, rfl, by omega, by omega, by omega, by omega, hbo6⟩, by simp only [intOf]; omega⟩
              · exact ⟨⟨_, _, rfl, rfl, by omega, by omega, by omega, by omega, hbo6⟩, by simp only [intOf]; omega⟩
            · obtain rfl : a = Q := by omega
              have hqk := HQD.out
              have hm0 := Int.mul_nonneg ha0 (show 0 ≤ vd l' by omega)
              have hm1 := Int.ediv_mul_le (vd r1) (show vd l' ≠ 0 by omega)
              have hlq : ∀ m : List Int, vd m = (a * vd l').natAbs → Norm m → m.length ≤ r1.length ∧ vd m ≤ vd r1 := fun m h hn => by
                have hm2 : vd m ≤ vd r1 := by rw [hqk] at hm1; omega
                exact ⟨norm_len hn (by have := vd_lt ok3; omega), hm2⟩
              have HLQ := Lib.hid hlq
              clear hqk hm0 hm1 hlq
              go_region_held3 (fun w' => w'.cell? ⟨w.heap.size + 1, 1, none⟩ = some (.slice A' l'.length c'))
                (first | exact c11 | exact d11 | exact c11' | exact c11'' | exact c11x | go_simp)
                (first
                | (go_at_call 151; (with_reducible refine (of_any _ _ (by omega) (by omega)).mono ?_); rintro e wa ⟨va1, rfl, hNa, hba⟩; obtain ⟨c10', c11'⟩ := (hTd.2.1.nx hba).cell2; obtain ⟨sa1, Aa1, na1, ca1, rfl⟩ := hNa.shape)
                | (go_at_call 196; (with_reducible refine (mul_any _ _ _ _ _ hNa (HBY.out _ (hbW.trans (hba.mono (by omega)))) (sm_of (by omega) (by omega)) hSb).mono ?_); rintro e wb ⟨vb1, rfl, hNb, hbb⟩; obtain ⟨c10'', c11''⟩ := ((hTd.2.1.nx hba).nx hbb).cell2; obtain ⟨Ab1, cb1, lb, rfl, g2, g3, g4, g5, g6, g7⟩ := hNb; have hlb := sm_len (HSM.out _ (by omega) (by omega)) g6 g7; have ok4 := g6.1; have G7 := Lib.hid g7; have hl9 := HLQ.out lb g7 g6; clear g7; have hl10 := hl9.1; have hl11 := hl9.2)
                | (go_at_call 274; (with_reducible refine (rest_any r1 lb _ _ _ _ _ _ _ rfl rfl (by omega) hl10 ok3 ok4 hl11 (((((hrr2.below' hbo2 (by omega)).below' hba (by have := hbo2.size; omega)).below' hbb (by have := hbo2.size; have := hba.size; omega))).more (by have := hbo2.size; have := hba.size; have := hbb.size; omega)) g5.rd).mono ?_); rintro e wx ⟨vx, rfl, ⟨Ax, cx, lx, rfl, x2, x3, x4, x5, x6, x7⟩, hbx⟩; obtain ⟨c10x, c11x⟩ := (((hTd.2.1.nx hba).nx hbb).nx hbx).cell2; have X7 := Lib.hid x7; clear x7))
              have hqlen : q.length ≤ 40 := by have := hF.2.1; omega
              have z1 := hbo2.size
              have z2 := hba.size
              have z3 := hbb.size
              have z4 := hbx.size
              have hw5 : Below wo.heap.size wo wx := ((hbo2.trans (hba.mono z1)).trans (hbb.mono (by omega))).trans (hbx.mono (by omega))
              have hw6 : Below w1.heap.size w1 wx := by
                have h9 : Below w1.heap.size w1 wo := by rw [← HWO.out]; exact below_drewN (Below.refl _ _) k
                exact h9.trans (hz2 ▸ hw5)
              have hTx := hT2.nx hw5
              have hrqx := hrq1.below hw6 (Nat.le_refl _)
              have hownq : (wx.alloc (.cells #[.int .i64 a] 3)).ownsRow wx.heap.size 3 1 (.slice (some ⟨wx.heap.size, 0, none⟩) 1 1) 1 [.int .i64 a] := by
                simpa using own_of_Bk (base := wx.heap.size) (Bk.new wx 3 #[.int .i64 a]) 1 rfl (by omega) (Nat.le_refl _)
              go_wp2_with (at_builtin; go_loud (refine appR rfl _ _ _ rfl Tryz.underlying80 big_int_info rfl (by omega) rfl rfl hownq ((Below.refl _ wx).alloc (Nat.le_refl _) _) (Nat.le_refl _) (by simp) ((RdL.rd hrqx).alloc (Nat.le_refl _) _) (by simp) (intsL q) (by omega) (by omega) ?_); intro vy wy howny hby _ _ _)
              have hA6 := own_form2 howny
              have hRL : RdL wy (w.heap.size + 1 + 1 + 1) (slA vy) ([Value.int .i64 a] ++ q.map (Value.int .i64)) := by
                obtain ⟨Ay, cy, rfl, _⟩ := hA6
                exact (RdL.of_own howny).less (by omega)
              obtain ⟨Ay, cy, rfl, y1, y2, y3, y4, y5⟩ := hA6
              have hTy := hTx.nx hby
              have hF2 := flO_step (Q := a) hF ok1 (by omega) hY1 (by rw [← HV1.out]; exact HQD.out.symm) x6 (by rw [X7.out, ← HV1.out]; have := G7.out; have := Int.mul_nonneg ha0 (show 0 ≤ vd l' by omega); omega)
              have hL : ([Value.int .i64 a] ++ q.map (Value.int .i64)) = (a :: q).map (Value.int .i64) := by simp
              rw [hL] at hRL
              have hlen9 : 1 + q.length = (a :: q).length := by simp; omega
              rw [hlen9] at y1 ⊢
              exact ⟨⟨jj, a :: q, lx, Ay, cy, Ax, cx, by omega, rfl, rfl, rfl, y1, y2, y3, hRL, x2, x3, x4, (x5.below hby (by omega)).rd, hF2.1, hTy⟩, by simp only [intOf]; omega⟩
theorem floor_any (va vb : Value) (x y : Int) (w : World) {lo lo' : Nat} (ha : BigN lo w va x) (hb : BigN lo' w vb y) (hy : y ≠ 0) (hsa : Sm x) (hsb : (y.natAbs : Int) < Bp 38) :
    Calls Tryz.prog 202 #[va, vb] w fun e w' => ∃ v, e = .returned v ∧ BigN w.heap.size w' v (flo x y) ∧ Below w.heap.size w w' := by
  rcases Int.lt_or_le (x.natAbs : Int) (Bp 4) with h | h
  · rcases Int.lt_or_le (y.natAbs : Int) (Bp 4) with h' | h'
    · exact floor_short va vb x y w ha hb hy h h'
    · exact floor_long va vb x y w ha hb hy hsa hsb (.inr h')
  · exact floor_long va vb x y w ha hb hy hsa hsb (.inl h)
end Go.Proofs.YtgohbkkeppknoaaGreatDoor
end
