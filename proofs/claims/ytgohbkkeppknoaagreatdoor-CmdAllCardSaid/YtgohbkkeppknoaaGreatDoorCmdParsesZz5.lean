/- Several texts in one: The reference's numbers of any length: products. Plain mathematics of the reference's quotients: rounding down by sizes and signs, trial digits, one digit after the other. The reference's numbers of any length: quotients of short numbers. The reference's numbers of any length: quotients, rounded down. -/
import Derived.Test.YtgohbkkeppknoaaGreatDoorCmdParsesZz4
import Derived.RegionTactic
section
set_option linter.unusedVariables false
namespace Go.Proofs.YtgohbkkeppknoaaGreatDoor
open Go.RowKit
/-- What stands in the inner loop after k rounds. -/
def MulI (a b o : List Int) (i k : Nat) (c : Int) : Prop :=
  okd o ∧ o.length = a.length + b.length + 1 ∧ (∀ j, i + b.length ≤ j → dgt o j = 0) ∧ 0 ≤ c ∧ c ≤ 32767 ∧ vd o + Bp (i + k) * c = vd (a.take i) * vd b + Bp i * (dgt a i * vd (b.take k))
/-- What stands in the outer loop after i rounds. -/
def MulO (a b o : List Int) (i : Nat) : Prop :=
  okd o ∧ o.length = a.length + b.length + 1 ∧ (∀ j, i + b.length ≤ j → dgt o j = 0) ∧ vd o = vd (a.take i) * vd b
theorem dgt_zeros (n j : Nat) : dgt (List.replicate n 0) j = 0 := by
  unfold dgt
  by_cases h : j < n
  · rw [List.getElem?_eq_getElem (by simpa using h)]; simp
  · rw [List.getElem?_eq_none (by simpa using h)]; rfl
theorem mulO_zero (a b : List Int) : MulO a b (List.replicate (a.length + b.length + 1) 0) 0 :=
  ⟨fun d hd => by rw [List.eq_of_mem_replicate hd]; omega, by simp, fun j _ => dgt_zeros _ j, by simp [vd_zeros, vd]⟩
theorem mulI_zero {a b o : List Int} {i : Nat} (h : MulO a b o i) : MulI a b o i 0 0 := by
  obtain ⟨h1, h2, h3, h4⟩ := h
  exact ⟨h1, h2, h3, by omega, by omega, by simp [h4, vd]⟩
theorem bmul_bd {a b : List Int} (ha : okd a) (hb : okd b) {o : List Int} (ho : okd o) {c : Int} (hc : 0 ≤ c ∧ c ≤ 32767) (i k j : Nat) :
    0 ≤ dgt a i * dgt b k ∧ dgt a i * dgt b k ≤ 1073676289 ∧ 0 ≤ dgt o j + dgt a i * dgt b k + c ∧ (dgt o j + dgt a i * dgt b k + c) / 32768 ≤ 32767 := by
  have h1 := dgt_ok ha i
  have h2 := dgt_ok hb k
  have h3 := dgt_ok ho j
  have h4 : dgt a i * dgt b k ≤ 32767 * 32767 := Int.mul_le_mul h1.2 h2.2 h2.1 (by omega)
  have h5 : 0 ≤ dgt a i * dgt b k := Int.mul_nonneg h1.1 h2.1
  refine ⟨h5, by omega, by omega, by omega⟩
theorem mulI_step {a b o : List Int} {i k : Nat} {c : Int} (ha : okd a) (hb : okd b) (hi : i < a.length) (hk : k < b.length) (h : MulI a b o i k c) :
    MulI a b (o.set (i + k) ((dgt o (i + k) + dgt a i * dgt b k + c) % 32768)) i (k + 1) ((dgt o (i + k) + dgt a i * dgt b k + c) / 32768) := by
  obtain ⟨h1, h2, h3, h4, h5, h6⟩ := h
  have hbd := bmul_bd ha hb h1 ⟨h4, h5⟩ i k (i + k)
  refine ⟨okd_set h1 _ _ (by omega), by simpa using h2, fun j hj => ?_, by omega, hbd.2.2.2, ?_⟩
  · rw [dgt_set _ _ _ _ (by omega), if_neg (by omega)]; exact h3 j hj
  · rw [vd_set _ _ _ (by omega), vd_take_succ, ← Nat.add_assoc, Bp, Int.mul_add, Int.mul_add]
    generalize dgt o (i + k) = x at *
    generalize dgt a i = u at *
    generalize dgt b k = v at *
    have e1 : Bp (i + k) * ((x + u * v + c) % 32768 - x) + 32768 * Bp (i + k) * ((x + u * v + c) / 32768) = Bp (i + k) * (u * v + c) := by
      rw [Int.mul_comm 32768 (Bp (i + k)), Int.mul_assoc, ← Int.mul_add]
      congr 1
      omega
    have e2 : Bp i * (u * (Bp k * v)) = Bp (i + k) * (u * v) := by
      rw [Bp_add, Int.mul_left_comm u, Int.mul_assoc]
    rw [e2]
    rw [Int.mul_add (Bp (i + k)) (u * v) c] at e1
    omega
theorem mulI_done {a b o : List Int} {i : Nat} {c : Int} (hi : i < a.length) (h : MulI a b o i b.length c) :
    MulO a b (o.set (i + b.length) (dgt o (i + b.length) + c)) (i + 1) := by
  obtain ⟨h1, h2, h3, h4, h5, h6⟩ := h
  have hz := h3 (i + b.length) (Nat.le_refl _)
  refine ⟨okd_set h1 _ _ (by omega), by simpa using h2, fun j hj => ?_, ?_⟩
  · rw [dgt_set _ _ _ _ (by omega), if_neg (by omega)]; exact h3 j (by omega)
  · have e : dgt o (i + b.length) + c - dgt o (i + b.length) = c := by omega
    rw [vd_set _ _ _ (by omega), e, vd_take_succ, Int.add_mul]
    rw [List.take_of_length_le (Nat.le_refl _)] at h6
    have : Bp i * dgt a i * vd b = Bp i * (dgt a i * vd b) := by rw [Int.mul_assoc]
    rw [this]
    omega
theorem mulO_end {a b o : List Int} (h : MulO a b o a.length) : vd o = vd a * vd b := by
  have := h.2.2.2
  rwa [List.take_of_length_le (Nat.le_refl _)] at this
theorem getD_dgt {l : List Int} {i : Nat} (h : i < l.length) : l[i] = dgt l i := by simp [dgt, List.getElem?_eq_getElem h]
theorem map_get {l : List Int} {i : Nat} (h : i < l.length) : (l.map (Value.int .i64))[i]? = some (.int .i64 (dgt l i)) := by
  rw [List.getElem?_map, List.getElem?_eq_getElem h, ← getD_dgt h]; rfl
/-- The memory in the loops of the product: both numbers' variables, the result's, and the digits that are made. -/
def MulS (w wr : World) (sx sy : Bool) (A A' : Option Addr) (n n' c c' : Nat) (o : List Int) : Prop :=
  Bk wr w.heap.size 200 #[.bool sx, .slice A n c] ∧ Bk wr (w.heap.size + 1) 200 #[.bool sy, .slice A' n' c'] ∧ Bk wr (w.heap.size + 1 + 1) 200 #[.bool false, .slice none 0 0] ∧
  wr.ownsRow (w.heap.size + 1 + 1 + 1) 3 1 (.slice (some ⟨w.heap.size + 1 + 1 + 1, 0, none⟩) (n + n' + 1) (n + n' + 1)) (n + n' + 1) (o.map (Value.int .i64)) ∧ Below w.heap.size w wr
theorem MulS.drew {w wr : World} {sx sy : Bool} {A A' : Option Addr} {n n' c c' : Nat} {o : List Int} (h : MulS w wr sx sy A A' n n' c c' o) : MulS w wr.drew sx sy A A' n n' c c' o :=
  ⟨h.1.drew, h.2.1.drew, h.2.2.1.drew, h.2.2.2.1.drew, h.2.2.2.2.drew⟩
theorem MulS.drewN {w wr : World} {sx sy : Bool} {A A' : Option Addr} {n n' c c' : Nat} {o : List Int} (h : MulS w wr sx sy A A' n n' c c' o) (k : Nat) : MulS w (wr.drewN k) sx sy A A' n n' c c' o :=
  ⟨h.1.drewN k, h.2.1.drewN k, h.2.2.1.drewN k, h.2.2.2.1, below_drewN h.2.2.2.2 k⟩
theorem MulS.store {w wr : World} {sx sy : Bool} {A A' : Option Addr} {n n' c c' : Nat} {o : List Int} (h : MulS w wr sx sy A A' n n' c c' o) (j : Nat) (z : Int) :
    MulS w (wr.setCell ⟨w.heap.size + 1 + 1 + 1, j, none⟩ (.int .i64 z)) sx sy A A' n n' c c' (o.set j z) := by
  obtain ⟨h1, h2, h3, h4, h5⟩ := h
  refine ⟨h1.far (by simp; omega) _, h2.far (by simp) _, h3.far (by simp) _, ?_, h5.setCell (by simp; omega) _⟩
  rw [List.map_set]
  exact (h4.stored j (.int .i64 z)).1
set_option maxRecDepth 100000 in
set_option maxHeartbeats 2000000 in
theorem mul_any (va vb : Value) (x y : Int) (w : World) {lo lo' : Nat} (ha : BigN lo w va x) (hb : BigN lo' w vb y) (hsa : Sm x) (hsb : Sm y) :
    Calls Tryz.prog 196 #[va, vb] w fun e w' => ∃ v, e = .returned v ∧ BigN w.heap.size w' v (x * y) ∧ Below w.heap.size w w' := by
  obtain ⟨A, c, l, rfl, h2, h3, h4, h5, h6, h7⟩ := ha
  obtain ⟨A', c', l', rfl, h2', h3', h4', h5', h6', h7'⟩ := hb
  have hl := sm_len hsa h6 h7
  have hl' := sm_len hsb h6' h7'
  have H7 := Lib.hid h7
  have H7' := Lib.hid h7'
  have ok1 := h6.1
  have ok2 := h6'.1
  clear h7 h7' h2 h3 h4 h2' h3' h4'
  generalize hsx : decide (x < 0) = sx
  generalize hsy : decide (y < 0) = sy
  have HSX := Lib.hid hsx
  have HSY := Lib.hid hsy
  clear hsx hsy
  have hmk := fun W => run_make1 (P := Tryz.prog) Tryz.underlying80 big_int_info rfl ((l.length : Int) + l'.length + 1) (l.length + l'.length + 1) (by omega) (by omega) (by omega) W
  go_enter Tryz.func196, Tryz.ntmps196
  go_wp2
  go_loopw [6] (fun iv wr => ∃ (i : Nat) (o : List Int), i ≤ l.length ∧ iv = .int .i64 i ∧ MulO l l' o i ∧ MulS w wr sx sy A A' l.length l'.length c c' o) (fun iv _ => l.length - (intOf iv).toNat)
  case atStart =>
    refine ⟨0, List.replicate (l.length + l'.length + 1) 0, Nat.zero_le _, rfl, mulO_zero l l', ?_, ?_, ?_, ?_, by go_grown⟩
    · exact ((Bk.new w _ _).alloc _).alloc _ |>.alloc _
    · simpa using ((Bk.new (w.alloc _) 200 #[Value.bool sy, Value.slice A' l'.length c']).alloc _).alloc _
    · simpa using (Bk.new ((w.alloc _).alloc _) 200 #[.bool false, .slice none 0 0]).alloc _
    · simpa using own_of_Bk (base := w.heap.size + 1 + 1 + 1) (Bk.new (((w.alloc _).alloc _).alloc _) 3 (Array.replicate (l.length + l'.length + 1) (.int .i64 0))) (l.length + l'.length + 1) (by simp) (by omega) (by simp)
  case round =>
    obtain ⟨i, o, hi, rfl, hO, hS⟩ := hrel
    by_cases hlt : i < l.length
    · have hI := mulI_zero hO
      obtain ⟨q1, q2⟩ := hS.1.cell2
      obtain ⟨q3, q4⟩ := hS.2.1.cell2
      go_wp2_with fail
      clear q1 q2 q3 q4 hO
      obtain ⟨wo, rfl⟩ : ∃ wo : World, wo = wr := ⟨_, rfl⟩
      go_loopw [7, 8] (fun cv kv wr => ∃ (k : Nat) (o : List Int) (cc : Int), k ≤ l'.length ∧ kv = .int .i64 k ∧ cv = .int .i64 cc ∧ MulI l l' o i k cc ∧ MulS w wr sx sy A A' l.length l'.length c c' o) (fun _ kv _ => l'.length - (intOf kv).toNat)
      case atStart => exact ⟨0, o, 0, Nat.zero_le _, rfl, rfl, hI, hS⟩
      case round =>
        clear hI hS
        obtain ⟨k, o, cc, hk, rfl, rfl, hI, hS⟩ := hrel
        have hr1 := (h5.below hS.2.2.2.2 (Nat.le_refl _)).rd
        have hr2 := (h5'.below hS.2.2.2.2 (Nat.le_refl _)).rd
        obtain ⟨b1, o1, rfl, hb1, hc1⟩ := RdI.get hr1 i (by omega)
        rw [getD_dgt] at hc1
        have hol := hI.2.1
        obtain ⟨q1, q2⟩ := hS.1.cell2
        obtain ⟨q3, q4⟩ := hS.2.1.cell2
        by_cases hlt2 : k < l'.length
        · obtain ⟨b2, o2, rfl, hb2, hc2⟩ := RdI.get hr2 k (by omega)
          rw [getD_dgt] at hc2
          have hbd := bmul_bd ok1 ok2 hI.1 ⟨hI.2.2.2.1, hI.2.2.2.2.1⟩ i k (i + k)
          have hdo := dgt_ok hI.1 (i + k)
          have hcc0 := hI.2.2.2.1
          have hcc1 := hI.2.2.2.2.1
          have hc3 := hS.2.2.2.1.cellAt (i + k) (by omega)
          rw [map_get (by omega)] at hc3
          have hf3 := hS.2.2.2.1.frozenAt (i + k)
          have hst := hS.store (i + k) ((dgt o (i + k) + dgt l i * dgt l' k + cc) % 32768)
          have HI := Lib.hid (mulI_step ok1 ok2 hlt hlt2 hI)
          have HL := Lib.hid hol
          clear hI hol
          generalize dgt o (i + k) = xo at *
          generalize hxa : dgt l i = xa at *
          generalize hxb : dgt l' k = xb at *
          have HXA := Lib.hid hxa
          have HXB := Lib.hid hxb
          clear hxa hxb
          go_wp2_with fail
          go_quiet (fail)
          go_wp2
          exact ⟨⟨k + 1, _, _, by omega, by go_num, rfl, HI.out, (hS.drewN _).store _ _⟩, by simp [intOf]; omega⟩
        · obtain rfl : k = l'.length := by omega
          have hcc0 := hI.2.2.2.1
          have hcc1 := hI.2.2.2.2.1
          have hz0 := hI.2.2.1 (i + l'.length) (Nat.le_refl _)
          have hc3 := hS.2.2.2.1.cellAt (i + l'.length) (by omega)
          rw [map_get (by omega), hz0] at hc3
          have hf3 := hS.2.2.2.1.frozenAt (i + l'.length)
          have HI := Lib.hid (mulI_done hlt hI)
          have HZ := Lib.hid hz0
          clear hI hz0 hol
          go_wp2_with fail
          go_region
          all_goals
            go_wp2
            have hI2 := HI.out
            rw [HZ.out, Int.zero_add] at hI2
            exact ⟨⟨i + 1, _, by omega, by go_num, hI2, (hS.store _ cc).drew⟩, by simp [intOf]; omega⟩
    · obtain rfl : i = l.length := by omega
      have hv := mulO_end hO
      have hok := hO.1
      have hol := hO.2.1
      have HV := Lib.hid hv
      have HOL := Lib.hid hol
      clear hv hol hO
      obtain ⟨hK0, hK1, hK2, hown, hb0⟩ := hS
      obtain ⟨q1, q2⟩ := hK0.cell2
      obtain ⟨q3, q4⟩ := hK1.cell2
      have hrd : RdI wr.drew wr.heap.size (some ⟨w.heap.size + 1 + 1 + 1, 0, none⟩) o := Rd.of_own hown
      have hrl := RdL.of_own hown
      have hl2 := hK2.lt
      have hK2d := hK2.drew
      have hK0d := hK0.drew
      have hK1d := hK1.drew
      go_wp2_with fail
      go_region_held3 (fun w' => w'.cell? ⟨w.heap.size, 0, none⟩ = some (.bool sx) ∧ w'.cell? ⟨w.heap.size + 1, 0, none⟩ = some (.bool sy))
        (first | exact ⟨q1, q3⟩ | exact ⟨q1', q3'⟩ | (refine ⟨?_, ?_⟩ <;> go_simp))
        (first
        | (go_at_call 275; (with_reducible refine (trim_any o _ (l.length + l'.length + 1) _ _ (B := wr.heap.size) HOL.out (by omega) (by omega) (by omega) (by intro e; cases e) hrd).mono ?_); rintro e w1 ⟨rfl, rfl⟩)
        | (go_at_call 271; refine (made_big _ _ _ _ _).mono ?_; rintro e w2 ⟨rfl, hb2⟩; have hK22 := hK2d.nx hb2; obtain ⟨c20, c21⟩ := hK22.cell2; have f20 := hK22.frozen 0; have f21 := hK22.frozen 1; have q1' := (hK0d.nx hb2).cell2.1; have q3' := (hK1d.nx hb2).cell2.1))
      go_wp2
      refine bodyPost_ret (res_big rfl (hK22.set2 _ _) rfl) rfl ?_
      have hz2 := hb2.size
      simp only [World.size_drew] at hz2
      have hnt := tr_norm hok
      have hvt : vd (tr o) = ((x * y).natAbs : Int) := by rw [tr_vd, HV.out, H7.out, H7'.out, Int.natAbs_mul]; simp
      have hn := norm_zero hnt
      rw [hvt] at hn
      have hsgn : (!(sx == sy) && decide (0 < (tr o).length)) = decide (x * y < 0) := by
        rw [← HSX.out, ← HSY.out]
        by_cases hm : tr o = []
        · have h0 := hn.1 hm
          rw [hm]
          simp
          omega
        · have h1 := List.length_pos_iff.2 hm
          have hne : x * y ≠ 0 := fun e => hm (hn.2 (by rw [e]; rfl))
          have hx0 : x ≠ 0 := fun e => hne (by rw [e, Int.zero_mul])
          have hy0 : y ≠ 0 := fun e => hne (by rw [e, Int.mul_zero])
          simp only [h1, decide_true, Bool.and_true]
          rcases Int.lt_or_gt_of_ne hx0 with hx | hx <;> rcases Int.lt_or_gt_of_ne hy0 with hy | hy
          · have := Int.mul_pos_of_neg_of_neg hx hy
            simp [hx, hy]; omega
          · have := Int.mul_neg_of_neg_of_pos hx hy
            simp [hx, this]; omega
          · have := Int.mul_neg_of_pos_of_neg hx hy
            simp [hy, this]; omega
          · have := Int.mul_pos hx hy
            have h5 : ¬ x < 0 := by omega
            have h6 : ¬ y < 0 := by omega
            have h7 : ¬ x * y < 0 := by omega
            simp [h5, h6, h7]
      have hbW : Below w.heap.size w w2 := (hb0.drew).trans (hb2.mono (by simp; omega))
      have hle := tr_le o
      rw [HOL.out] at hle
      refine ⟨_, rfl, ⟨some ⟨w.heap.size + 1 + 1 + 1, 0, none⟩, l.length + l'.length + 1, tr o, by rw [← hsgn], hle, by simp only [maxLen]; omega, (by intro e; cases e), ?_, hnt, hvt⟩, below_of_gb hbW (gb2 w2 _ _ _) (by omega) (by omega)⟩
      rw [tr_take, List.map_take]
      have hd : RdL wr.drew (w.heap.size + 1 + 1 + 1) (some ⟨w.heap.size + 1 + 1 + 1, 0, none⟩) (o.map (Value.int .i64)) := hrl
      exact (((hd.take _).below hb2 (Nat.le_refl _)).grown (gb2 w2 _ _ _) (fun g e => .inl (by injection e with e; omega))).less (by omega)
end Go.Proofs.YtgohbkkeppknoaaGreatDoor
end
section
set_option linter.unusedVariables false
namespace Go.Proofs.YtgohbkkeppknoaaGreatDoor
theorem div_uniq {x y q : Int} (hy : 0 < y) (h1 : q * y ≤ x) (h2 : x < q * y + y) : x / y = q := by
  have h3 := Int.le_ediv_of_mul_le hy h1
  have h4 := Int.ediv_lt_of_lt_mul hy (show x < (q + 1) * y by rw [Int.add_mul, Int.one_mul]; exact h2)
  omega
/-- A quotient, rounded down; b isn't 0. -/
def flo (x y : Int) : Int := if 0 < y then x / y else (-x) / (-y)
theorem flo_pos (x : Int) {y : Int} (h : 0 < y) : flo x y = x / y := by unfold flo; rw [if_pos h]
theorem flo_same {x y : Int} (hy : y ≠ 0) (h : decide (x < 0) = decide (y < 0)) : flo x y = (x.natAbs : Int) / (y.natAbs : Int) := by
  unfold flo
  by_cases hx : x < 0
  · have hy2 : y < 0 := by simpa [hx] using h
    rw [if_neg (by omega), show ((x.natAbs : Int)) = -x by omega, show ((y.natAbs : Int)) = -y by omega]
  · have hy2 : ¬ y < 0 := by simpa [hx] using h
    rw [if_pos (by omega), show ((x.natAbs : Int)) = x by omega, show ((y.natAbs : Int)) = y by omega]
theorem flo_diff {x y q r : Int} (hy : y ≠ 0) (h : decide (x < 0) ≠ decide (y < 0)) (hq : (x.natAbs : Int) = q * (y.natAbs : Int) + r) (h0 : 0 ≤ r) (h1 : r < (y.natAbs : Int)) :
    flo x y = if r = 0 then -q else -(q + 1) := by
  have key : ∀ X Y : Int, 0 < Y → -X = q * Y + r → 0 ≤ r → r < Y → X / Y = if r = 0 then -q else -(q + 1) := by
    intro X Y hY e h0 h1
    split
    · rename_i hr
      refine div_uniq hY ?_ ?_ <;> rw [Int.neg_mul] <;> omega
    · rename_i hr
      refine div_uniq hY ?_ ?_ <;> rw [Int.neg_mul, Int.add_mul, Int.one_mul] <;> omega
  unfold flo
  by_cases hx : x < 0
  · have hy2 : ¬ y < 0 := by intro hh; apply h; simp [hx, hh]
    rw [if_pos (by omega)]
    have e1 : ((x.natAbs : Int)) = -x := by omega
    have e2 : ((y.natAbs : Int)) = y := by omega
    rw [e1, e2] at hq
    rw [e2] at h1
    exact key x y (by omega) hq h0 h1
  · have hy2 : y < 0 := by
      rcases Int.lt_or_le y 0 with hh | hh
      · exact hh
      · exfalso; apply h; simp [hx]; omega
    rw [if_neg (by omega)]
    have e1 : ((x.natAbs : Int)) = x := by omega
    have e2 : ((y.natAbs : Int)) = -y := by omega
    rw [e1, e2] at hq
    rw [e2] at h1
    exact key (-x) (-y) (by omega) (by rw [Int.neg_neg]; exact hq) h0 h1
theorem flo_zero {x y : Int} (hy : y ≠ 0) : (flo x y).natAbs ≤ x.natAbs := by
  by_cases h : decide (x < 0) = decide (y < 0)
  · rw [flo_same hy h]
    have := Int.ediv_le_self (a := (x.natAbs : Int)) (y.natAbs : Int) (by omega)
    have h2 := Int.ediv_nonneg (show (0:Int) ≤ x.natAbs by omega) (show (0:Int) ≤ y.natAbs by omega)
    omega
  · have h3 := Int.mul_ediv_add_emod (x.natAbs : Int) (y.natAbs : Int)
    have h4 := Int.emod_nonneg (x.natAbs : Int) (show (y.natAbs : Int) ≠ 0 by omega)
    have h5 := Int.emod_lt_of_pos (x.natAbs : Int) (show 0 < (y.natAbs : Int) by omega)
    rw [Int.mul_comm] at h3
    rw [flo_diff hy h h3.symm h4 h5]
    have h6 := Int.ediv_nonneg (show (0:Int) ≤ x.natAbs by omega) (show (0:Int) ≤ y.natAbs by omega)
    have h7 := Int.mul_le_mul_of_nonneg_left (show (1:Int) ≤ y.natAbs by omega) h6
    split <;> omega
/-- A digit by its whole-numbered place; none below 0. -/
def dgi (l : List Int) (i : Int) : Int := if 0 ≤ i then dgt l i.toNat else 0
theorem dgi_ok {l : List Int} (h : okd l) (i : Int) : 0 ≤ dgi l i ∧ dgi l i ≤ 32767 := by
  unfold dgi; split
  · exact dgt_ok h _
  · omega
theorem vd_top (l : List Int) (hl : okd l) (k : Nat) (hk : 1 ≤ k) (hlen : l.length ≤ k) : ∃ e, 0 ≤ e ∧ e < Bp (k - 1) ∧ 32768 * vd l = (dgi l ((k : Int) - 1) * 32768 + dgi l ((k : Int) - 2)) * Bp (k - 1) + e := by
  obtain ⟨j, rfl⟩ : ∃ j, k = j + 1 := ⟨k - 1, by omega⟩
  have e1 : dgi l (((j + 1 : Nat) : Int) - 1) = dgt l j := by unfold dgi; rw [if_pos (by omega)]; congr 1; omega
  have hv : vd l = vd (l.take j) + Bp j * dgt l j := by rw [← vd_take_succ, List.take_of_length_le hlen]
  cases j with
  | zero =>
    have e2 : dgi l (((0 + 1 : Nat) : Int) - 2) = 0 := by unfold dgi; rw [if_neg (by omega)]
    rw [e1, e2]
    refine ⟨0, by omega, by simp [Bp], ?_⟩
    simp [Bp, vd] at hv ⊢
    omega
  | succ i =>
    have e2 : dgi l (((i + 1 + 1 : Nat) : Int) - 2) = dgt l i := by unfold dgi; rw [if_pos (by omega)]; congr 1; omega
    rw [e1, e2]
    rw [vd_take_succ] at hv
    have ht := vd_lt (okd_take hl i)
    have ht0 := vd_nonneg (okd_take hl i)
    have hb : Bp (l.take i).length ≤ Bp i := Bp_mono (by simp; omega)
    refine ⟨32768 * vd (l.take i), by omega, ?_, ?_⟩
    · rw [Nat.add_sub_cancel, Bp]; omega
    · rw [hv, Nat.add_sub_cancel, Bp, Int.add_mul, Int.mul_add, Int.mul_add]
      have a1 : 32768 * (Bp i * dgt l i) = dgt l i * (32768 * Bp i) := by rw [Int.mul_comm (Bp i), Int.mul_left_comm]
      have a2 : 32768 * (32768 * Bp i * dgt l (i + 1)) = dgt l (i + 1) * 32768 * (32768 * Bp i) := by
        rw [Int.mul_comm (32768 * Bp i) (dgt l (i + 1)), ← Int.mul_assoc, Int.mul_comm 32768 (dgt l (i + 1))]
      omega
theorem tq1 {q Y T P e F f R : Int} (hq : 0 ≤ q) (h : q * (T + 1) ≤ F) (hY : 32768 * Y = T * P + e) (he : e < P) (hR : 32768 * R = F * P + f) (hf : 0 ≤ f) (hP : 1 ≤ P) : q * Y ≤ R := by
  have h1 : q * (32768 * Y) ≤ q * ((T + 1) * P) := Int.mul_le_mul_of_nonneg_left (by rw [hY, Int.add_mul, Int.one_mul]; omega) hq
  have h2 : q * (T + 1) * P ≤ F * P := Int.mul_le_mul_of_nonneg_right h (by omega)
  rw [Int.mul_assoc] at h2
  rw [Int.mul_left_comm] at h1
  omega
theorem tq2 {q Y T P e F f R : Int} (hq : 0 ≤ q) (h : q * Y ≤ R) (hY : 32768 * Y = T * P + e) (he : 0 ≤ e) (hR : 32768 * R = F * P + f) (hf : f < P) (hP : 1 ≤ P) : q * T ≤ F + 1 := by
  rcases Int.lt_or_le (F + 1) (q * T) with h3 | h3
  · exfalso
    have h1 : q * (T * P) ≤ q * (32768 * Y) := Int.mul_le_mul_of_nonneg_left (by omega) hq
    have h2 : (F + 1) * P ≤ q * T * P := Int.mul_le_mul_of_nonneg_right (by omega) (by omega)
    rw [Int.mul_assoc, Int.add_mul, Int.one_mul] at h2
    rw [Int.mul_left_comm q 32768] at h1
    omega
  · exact h3
theorem trial {b r : List Int} {k : Nat} (hb : Norm b) (hr : okd r) (hk : b.length = k) (hk1 : 1 ≤ k) (hlr : r.length ≤ k + 1) (hR : vd r < 32768 * vd b) {top first : Int}
    (htp : top = dgi b ((k : Int) - 1) * 32768 + dgi b ((k : Int) - 2)) (hfs : first = (dgi r k * 32768 + dgi r ((k : Int) - 1)) * 32768 + dgi r ((k : Int) - 2)) :
    32768 ≤ top ∧ first / (top + 1) ≤ vd r / vd b ∧ vd r / vd b ≤ min 32767 ((first + 1) / top) := by
  obtain ⟨e, he0, he1, he⟩ := vd_top b hb.1 k hk1 (by omega)
  obtain ⟨f, hf0, hf1, hf⟩ : ∃ f, 0 ≤ f ∧ f < Bp (k - 1) ∧ 32768 * vd r = first * Bp (k - 1) + f := by
    have hsp := vd_take_succ r k
    rw [List.take_of_length_le hlr] at hsp
    have hlen : (r.take k).length ≤ k := by simp; omega
    obtain ⟨f, h0, h1, h2⟩ := vd_top (r.take k) (okd_take hr k) k hk1 hlen
    refine ⟨f, h0, h1, ?_⟩
    have d1 : ∀ i : Int, i < k → dgi (r.take k) i = dgi r i := fun i hi => by
      unfold dgi
      split
      · unfold dgt; rw [List.getElem?_take, if_pos (by omega)]
      · rfl
    rw [d1 _ (by omega), d1 _ (by omega)] at h2
    have e3 : dgi r k = dgt r k := by unfold dgi; rw [if_pos (by omega), Int.toNat_natCast]
    have hB : Bp k = 32768 * Bp (k - 1) := by
      obtain ⟨j, rfl⟩ : ∃ j, k = j + 1 := ⟨k - 1, by omega⟩
      exact Bp1s j
    rw [hsp, hB, hfs, e3]
    have a1 : (dgt r k * 32768 + dgi r ((k : Int) - 1)) * 32768 + dgi r ((k : Int) - 2) = dgt r k * 1073741824 + (dgi r ((k : Int) - 1) * 32768 + dgi r ((k : Int) - 2)) := by omega
    rw [a1]
    generalize dgi r ((k : Int) - 1) * 32768 + dgi r ((k : Int) - 2) = T at *
    rw [Int.add_mul, Int.mul_add, h2]
    have a2 : 32768 * (32768 * Bp (k - 1) * dgt r k) = dgt r k * 1073741824 * Bp (k - 1) := by
      rw [Int.mul_comm (32768 * Bp (k - 1)) (dgt r k), Int.mul_left_comm, Int.mul_assoc, ← Int.mul_assoc 32768 32768]
      rfl
    omega
  have hP := Bp_pos (k - 1)
  have hbne : b ≠ [] := by rintro rfl; simp at hk; omega
  have hY : 1 ≤ vd b := by have := norm_pos hb hbne; have := Bp_pos (b.length - 1); omega
  have hR0 := vd_nonneg hr
  have hk1' := dgi_ok hb.1 ((k : Int) - 1)
  have hk2' := dgi_ok hb.1 ((k : Int) - 2)
  have htop : 32768 ≤ top := by
    have : dgi b ((k : Int) - 1) ≠ 0 := by
      obtain ⟨m, d, rfl⟩ := list_snoc b hbne
      have hd := hb.2 d (by simp)
      have hkk : k = m.length + 1 := by rw [← hk]; simp
      unfold dgi
      rw [if_pos (by omega)]
      have : ((k : Int) - 1).toNat = m.length := by omega
      rw [this]
      simpa [dgt] using hd
    omega
  have hF0 : 0 ≤ first := by
    have h1 := dgi_ok hr k
    have h2 := dgi_ok hr ((k : Int) - 1)
    have h3 := dgi_ok hr ((k : Int) - 2)
    omega
  rw [← htp] at he
  clear htp hfs hk1' hk2'
  refine ⟨htop, ?_, ?_⟩
  · refine Int.le_ediv_of_mul_le (by omega) ?_
    exact tq1 (Int.ediv_nonneg hF0 (by omega)) (Int.ediv_mul_le first (by omega)) he he1 hf hf0 hP
  · have hq := Int.ediv_mul_le (vd r) (show vd b ≠ 0 by omega)
    have hq0 := Int.ediv_nonneg hR0 (show 0 ≤ vd b by omega)
    have hlt := Int.ediv_lt_of_lt_mul (show 0 < vd b by omega) hR
    have h3 : vd r / vd b ≤ (first + 1) / top := Int.le_ediv_of_mul_le (by omega) (tq2 hq0 hq he he0 hf hf1 hP)
    omega
end Go.Proofs.YtgohbkkeppknoaaGreatDoor
end
section
set_option linter.unusedVariables false
namespace Go.Proofs.YtgohbkkeppknoaaGreatDoor
open Go.RowKit
theorem len_one : ([1] : List Int).length = 1 := rfl
theorem norm_one : Norm [1] := ⟨fun d hd => by simp at hd; subst hd; omega, fun d hd => by simp at hd; subst hd; omega⟩
set_option maxRecDepth 100000 in
set_option maxHeartbeats 2000000 in
theorem short_any (va vb : Value) (x y : Int) (w : World) {lo lo' : Nat} (ha : BigN lo w va x) (hb : BigN lo' w vb y) (hy : y ≠ 0) (hsa : (x.natAbs : Int) ≤ 18446744073709551615) (hsb : (y.natAbs : Int) ≤ 18446744073709551615) :
    Calls Tryz.prog 277 #[va, vb] w fun e w' => ∃ v, e = .returned v ∧ BigN w.heap.size w' v (flo x y) ∧ Below w.heap.size w w' := by
  obtain ⟨s, A, n, c, rfl, hs⟩ := ha.form
  obtain ⟨s', A', n', c', rfl, hs'⟩ := hb.form
  have HS := Lib.hid hs
  have HS' := Lib.hid hs'
  clear hs hs'
  have hq := Int.mul_ediv_add_emod (x.natAbs : Int) (y.natAbs : Int)
  have hr0 := Int.emod_nonneg (x.natAbs : Int) (show (y.natAbs : Int) ≠ 0 by omega)
  have hr1 := Int.emod_lt_of_pos (x.natAbs : Int) (show 0 < (y.natAbs : Int) by omega)
  have hq0 := Int.ediv_nonneg (show (0:Int) ≤ x.natAbs by omega) (show (0:Int) ≤ y.natAbs by omega)
  have hq1 := Int.ediv_le_self (a := (x.natAbs : Int)) (y.natAbs : Int) (by omega)
  rw [Int.mul_comm] at hq
  have HQ := Lib.hid hq
  have HY := Lib.hid hy
  clear hq hy
  have hy1 : (1:Int) ≤ y.natAbs := by have := HY.out; omega
  have hx0 : (0:Int) ≤ x.natAbs := by omega
  generalize hX : (x.natAbs : Int) = X at *
  generalize hY : (y.natAbs : Int) = Y at *
  have HX := Lib.hid hX
  have HYY := Lib.hid hY
  clear hX hY
  have hb0 : Below w.heap.size w (((w.alloc (Obj.cells #[Value.bool s, Value.slice A n c] 200)).alloc (Obj.cells #[Value.bool s', Value.slice A' n' c'] 200)).alloc (Obj.cells #[Value.bool false, Value.slice none 0 0] 200)) := by go_grown
  have ha1 := ha.nx hb0
  have hb1 := hb.nx hb0
  have hz0 : w.heap.size + 1 + 1 + 1 = (((w.alloc (Obj.cells #[Value.bool s, Value.slice A n c] 200)).alloc (Obj.cells #[Value.bool s', Value.slice A' n' c'] 200)).alloc (Obj.cells #[Value.bool false, Value.slice none 0 0] 200)).heap.size := by simp
  have hK0 := ((Bk.new w 200 #[.bool s, .slice A n c]).alloc (.cells #[Value.bool s', Value.slice A' n' c'] 200)).alloc (.cells #[Value.bool false, Value.slice none 0 0] 200)
  have hK1 := (Bk.new (w.alloc (.cells #[.bool s, .slice A n c] 200)) 200 #[Value.bool s', Value.slice A' n' c']).alloc (.cells #[Value.bool false, Value.slice none 0 0] 200)
  have hK2 := Bk.new ((w.alloc (.cells #[.bool s, .slice A n c] 200)).alloc (.cells #[Value.bool s', Value.slice A' n' c'] 200)) 200 #[Value.bool false, Value.slice none 0 0]
  simp only [World.size_alloc] at hK1 hK2
  go_enter Tryz.func277, Tryz.ntmps277
  have HZ0 := Lib.hid hz0
  clear hz0
  go_wp2_with fail
  refine (unsigned_any _ x _ ha1 (by rw [HX.out]; omega)).mono ?_
  rintro e w1 ⟨rfl, hbx⟩
  rw [HX.out]
  have hb2 := hb1.nx hbx
  have hK0' := hK0.nx hbx
  have hK1' := hK1.nx hbx
  have hK2' := hK2.nx hbx
  obtain ⟨q10, q11⟩ := hK1'.cell2
  go_wp2_with fail
  refine (unsigned_any _ y _ hb2 (by rw [HYY.out]; omega)).mono ?_
  rintro e w2 ⟨rfl, hby⟩
  rw [HYY.out]
  have hb01 := hb0.trans (hbx.mono (by rw [← HZ0.out]; omega))
  have hK0'' := hK0'.nx hby
  have hK1'' := hK1'.nx hby
  have hK2'' := hK2'.nx hby
  go_wp2_with fail
  refine (uns_any (X / Y) _ hq0 (by omega)).mono ?_
  rintro e w3 ⟨v3, rfl, ⟨A3, c3, l3, rfl, g2, g3, g4, g5, g6, g7⟩, hb3⟩
  have hL0 := hK0''.nx hb3
  have hL1 := hK1''.nx hb3
  have hL2 := hK2''.nx hb3
  obtain ⟨q00, q01⟩ := hL0.cell2
  obtain ⟨q10, q11⟩ := hL1.cell2
  have hl2 := hL2.lt
  have hz1 := hbx.size
  have hz2 := hby.size
  have hz3 := hb3.size
  have hbW : Below w.heap.size w w3 := (hb01.trans (hby.mono (by rw [← HZ0.out] at hz1; omega))).trans (hb3.mono (by rw [← HZ0.out] at hz1; omega))
  have g7' : vd l3 = X / Y := by rw [g7]; omega
  have G7 := Lib.hid g7'
  rw [← HZ0.out] at hz1
  clear g7 g7' hK0' hK0'' hK1' hK1'' hK2' hK2'' hb2 hb1 ha1 hb0 hbx hby hb01
  have hneg : decide (X / Y < 0) = false := by simp; omega
  rw [hneg]
  clear hneg
  have hnz := norm_zero g6
  rw [G7.out] at hnz
  have HNZ := Lib.hid hnz
  clear hnz
  by_cases hss : s = s'
  · have HF : Hid (flo x y = X / Y) := by show _ = _; rw [← HX.out, ← HYY.out]; exact flo_same HY.out (by rw [← HS.out, ← HS'.out, hss])
    subst hss
    go_wp2_with (first
      | (go_at_call 271; (with_reducible refine (made_big _ _ _ _ _).mono ?_); rintro e w5 ⟨rfl, hb5⟩; have hK5 := hL2.nx hb5)
      | (refine stBig rfl _ _ rfl hK5 rfl rfl rfl ?_; intro w6 hK6 hg6 hs6))
    refine bodyPost_ret (res_big rfl hK6 rfl) rfl ?_
    have hz5 := hb5.size
    have hneg : decide (flo x y < 0) = false := by rw [HF.out]; simp; omega
    refine ⟨_, rfl, ⟨A3, c3, l3, by rw [hneg] <;> simp, g2, g3, g4, ?_, g6, by rw [G7.out, HF.out]; omega⟩, below_of_gb (hbW.trans (hb5.mono (by omega))) hg6 (by omega) (by omega)⟩
    exact ((g5.below hb5 (Nat.le_refl _)).grown hg6 (fun g e => .inl (by injection e with e; omega))).less (by omega)
  · have hsb : (s == s') = false := by simpa using hss
    have hsx : decide (x < 0) ≠ decide (y < 0) := by rw [← HS.out, ← HS'.out]; exact hss
    have hfl := flo_diff HY.out hsx (q := X / Y) (r := X % Y) (by rw [HX.out, HYY.out]; exact HQ.out.symm) hr0 (by rw [HYY.out]; exact hr1)
    have HF := Lib.hid hfl
    clear hfl hsx hss
    by_cases hrz : X % Y = 0
    · have HRZ := Lib.hid hrz
      have hrb : (X % Y == 0) = true := by simpa using hrz
      clear hrz
      go_wp2_with (first
        | (go_at_call 271; (with_reducible refine (made_big _ _ _ _ _).mono ?_); rintro e w5 ⟨rfl, hb5⟩; have hK5 := hL2.nx hb5)
        | (refine stBig rfl _ _ rfl hK5 rfl rfl rfl ?_; intro w6 hK6 hg6 hs6))
      refine bodyPost_ret (res_big rfl hK6 rfl) rfl ?_
      have hz5 := hb5.size
      have hf := HF.out
      rw [if_pos HRZ.out] at hf
      have hneg : decide (0 < l3.length) = decide (flo x y < 0) := by
        rw [hf]
        by_cases hm : l3 = []
        · have := HNZ.out.1 hm; rw [hm]; simp; omega
        · have h1 := List.length_pos_iff.2 hm
          have h2 : X / Y ≠ 0 := fun e => hm (HNZ.out.2 e)
          simp [h1] <;> omega
      refine ⟨_, rfl, ⟨A3, c3, l3, by rw [← hneg] <;> simp, g2, g3, g4, ?_, g6, by rw [G7.out, hf]; omega⟩, below_of_gb (hbW.trans (hb5.mono (by omega))) hg6 (by omega) (by omega)⟩
      exact ((g5.below hb5 (Nat.le_refl _)).grown hg6 (fun g e => .inl (by injection e with e; omega))).less (by omega)
    · have HRZ := Lib.hid hrz
      have hrb : (X % Y == 0) = false := by simpa using hrz
      clear hrz
      have hlen3 : l3.length ≤ 5 := norm_len g6 (by rw [G7.out]; have := Bp5
                                                    omega)
      have ok3 := g6.1
      have ok1 := norm_one.1
      have hr3 : RdI (w3.alloc (.cells #[.int .i64 1] 3)) (w3.alloc (.cells #[.int .i64 1] 3)).heap.size A3 l3 := (g5.rd.alloc (Nat.le_refl _) _).more (by simp)
      have hr4 : RdI (w3.alloc (.cells #[.int .i64 1] 3)) (w3.alloc (.cells #[.int .i64 1] 3)).heap.size (some ⟨w3.heap.size, 0, none⟩) [1] := fun k hk => by
        simp at hk
        subst hk
        exact ⟨w3.heap.size, 0, rfl, by simp, by simp⟩
      go_wp2_with (first
        | (go_at_call 272; (with_reducible refine (sum_any l3 [1] _ _ _ 1 _ _ _ rfl len_one (by omega) (by omega) ok3 ok1 hr3 hr4).mono ?_); rintro e w4 ⟨v4, rfl, ⟨A5, c5, l5, rfl, k2, k3, k4, k5, k6, k7⟩, hb4⟩; have hK4 := (hL2.alloc (.cells #[.int .i64 1] 3)).nx hb4)
        | (go_at_call 271; (with_reducible refine (made_big _ _ _ _ _).mono ?_); rintro e w5 ⟨rfl, hb5⟩; have hK5 := hK4.nx hb5)
        | (refine stBig rfl _ _ rfl hK5 rfl rfl rfl ?_; intro w6 hK6 hg6 hs6))
      refine bodyPost_ret (res_big rfl hK6 rfl) rfl ?_
      have hz4 := hb4.size
      simp only [World.size_alloc] at hz4
      have hz5 := hb5.size
      have hf := HF.out
      rw [if_neg HRZ.out] at hf
      have hv5 : vd l5 = X / Y + 1 := by rw [k7, G7.out]; simp [vd]
      have hpos : 0 < l5.length := by
        rcases Nat.eq_zero_or_pos l5.length with e | e
        · have := (norm_zero k6).1 (List.eq_nil_of_length_eq_zero e); omega
        · exact e
      have hneg : decide (flo x y < 0) = true := by rw [hf]; simp; omega
      refine ⟨_, rfl, ⟨A5, c5, l5, by rw [hneg] <;> simp [hpos], k2, k3, k4, ?_, k6, by rw [hv5, hf]; omega⟩, below_of_gb (((hbW.alloc (by omega) _).trans (hb4.mono (by simp; omega))).trans (hb5.mono (by omega))) hg6 (by omega) (by omega)⟩
      exact ((k5.below hb5 (Nat.le_refl _)).grown hg6 (fun g e => .inl (by injection e with e; simp; omega))).less (by simp; omega)
end Go.Proofs.YtgohbkkeppknoaaGreatDoor
end
section
set_option linter.unusedVariables false
namespace Go.Proofs.YtgohbkkeppknoaaGreatDoor
open Go.RowKit
/-- The memory in a function of two numbers: both numbers' variables, and the result's. -/
def TwoW (w wr : World) (s s' : Bool) (A A' : Option Addr) (n n' c c' : Nat) : Prop :=
  Bk wr w.heap.size 200 #[.bool s, .slice A n c] ∧ Bk wr (w.heap.size + 1) 200 #[.bool s', .slice A' n' c'] ∧ Bk wr (w.heap.size + 1 + 1) 200 #[.bool false, .slice none 0 0] ∧ Below w.heap.size w wr
section
variable {w wr wr' : World} {s s' : Bool} {A A' : Option Addr} {n n' c c' : Nat}
theorem TwoW.nx (h : TwoW w wr s s' A A' n n' c c') (hb : Below wr.heap.size wr wr') : TwoW w wr' s s' A A' n n' c c' :=
  ⟨h.1.nx hb, h.2.1.nx hb, h.2.2.1.nx hb, h.2.2.2.trans (hb.mono (by have := h.2.2.1.lt; omega))⟩
theorem TwoW.drew (h : TwoW w wr s s' A A' n n' c c') : TwoW w wr.drew s s' A A' n n' c c' := ⟨h.1.drew, h.2.1.drew, h.2.2.1.drew, h.2.2.2.drew⟩
theorem TwoW.drewN (h : TwoW w wr s s' A A' n n' c c') (k : Nat) : TwoW w (wr.drewN k) s s' A A' n n' c c' := ⟨h.1.drewN k, h.2.1.drewN k, h.2.2.1.drewN k, below_drewN h.2.2.2 k⟩
theorem TwoW.alloc (h : TwoW w wr s s' A A' n n' c c') (o : Obj) : TwoW w (wr.alloc o) s s' A A' n n' c c' := h.nx ((Below.refl _ _).alloc (Nat.le_refl _) o)
theorem TwoW.start (w : World) (s s' : Bool) (A A' : Option Addr) (n n' c c' : Nat) :
    TwoW w (((w.alloc (.cells #[.bool s, .slice A n c] 200)).alloc (.cells #[.bool s', .slice A' n' c'] 200)).alloc (.cells #[.bool false, .slice none 0 0] 200)) s s' A A' n n' c c' := by
  refine ⟨((Bk.new w _ _).alloc _).alloc _, ?_, ?_, by go_grown⟩
  · simpa using (Bk.new (w.alloc (.cells #[.bool s, .slice A n c] 200)) 200 #[.bool s', .slice A' n' c']).alloc _
  · simpa using Bk.new ((w.alloc (.cells #[.bool s, .slice A n c] 200)).alloc (.cells #[.bool s', .slice A' n' c'] 200)) 200 #[.bool false, .slice none 0 0]
end
set_option maxRecDepth 100000 in
set_option maxHeartbeats 1000000 in
theorem floor_short (va vb : Value) (x y : Int) (w : World) {lo lo' : Nat} (ha : BigN lo w va x) (hb : BigN lo' w vb y) (hy : y ≠ 0) (hsa : (x.natAbs : Int) < Bp 4) (hsb : (y.natAbs : Int) < Bp 4) :
    Calls Tryz.prog 202 #[va, vb] w fun e w' => ∃ v, e = .returned v ∧ BigN w.heap.size w' v (flo x y) ∧ Below w.heap.size w w' := by
  have hB := Bp4
  rw [hB] at hsa hsb
  obtain ⟨A, c, l, rfl, h2, h3, h4, h5, h6, h7⟩ := id ha
  obtain ⟨A', c', l', rfl, h2', h3', h4', h5', h6', h7'⟩ := id hb
  have hl : l.length ≤ 4 := norm_len h6 (by rw [h7, hB]; exact hsa)
  have hl' : l'.length ≤ 4 := norm_len h6' (by rw [h7', hB]; exact hsb)
  clear h2 h3 h4 h5 h6 h7 h2' h3' h4' h5' h6' h7' hB
  generalize l.length = n at *
  generalize l'.length = n' at *
  have hy0 : Hid (y ≠ 0) := hy
  have hxa : (x.natAbs : Int) ≤ 18446744073709551615 := by omega
  have hya : (y.natAbs : Int) ≤ 18446744073709551615 := by omega
  have HXA := Lib.hid hxa
  have HYA := Lib.hid hya
  clear hy hsa hsb hxa hya
  have hT := TwoW.start w (decide (x < 0)) (decide (y < 0)) A A' n n' c c'
  generalize decide (x < 0) = s at *
  generalize decide (y < 0) = s' at *
  have ha1 := ha.nx hT.2.2.2
  have hb1 := hb.nx hT.2.2.2
  have hl2 := hT.2.2.1.lt
  go_enter Tryz.func202, Tryz.ntmps202
  go_wp2_with (first
    | (go_at_call 277; (with_reducible refine (short_any _ _ x y _ ha1 hb1 hy0.out HXA.out HYA.out).mono ?_); rintro e w1 ⟨v1, rfl, hN1, hb2⟩; obtain ⟨s1, A1, n1, c1, rfl⟩ := hN1.shape; have hT1 := hT.nx hb2)
    | (refine stBig rfl _ _ rfl hT1.2.2.1 rfl rfl rfl ?_; intro w6 hK6 hg6 hs6))
  refine bodyPost_ret (res_big rfl hK6 rfl) rfl ?_
  have hz := hb2.size
  exact ⟨_, rfl, (hN1.grown hg6 (.inl (by omega))).less (by omega), below_of_gb hT1.2.2.2 hg6 (by omega) (by omega)⟩
end Go.Proofs.YtgohbkkeppknoaaGreatDoor
end
