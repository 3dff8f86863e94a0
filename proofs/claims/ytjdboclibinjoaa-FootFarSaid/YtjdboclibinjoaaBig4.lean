/- The reference's numbers of any length: products. -/
import Derived.Test.YtjdboclibinjoaaBig3
import Derived.RegionTactic
set_option linter.unusedVariables false
namespace Go.Proofs.Ytjdboclibinjoaa
open Go.RowKit
/-- What stands in the inner loop after k rounds. -/
def MulI (a b o : List Int) (i k : Nat) (c : Int) : Prop :=
  okd o ∧ o.length = a.length + b.length + 1 ∧ (∀ j, i + b.length ≤ j → dgt o j = 0) ∧ 0 ≤ c ∧ c ≤ 32767 ∧ vd o + Bp (i + k) * c = vd (a.take i) * vd b + Bp i * (dgt a i * vd (b.take k))
/-- What stands in the outer loop after i rounds. -/
def MulO (a b o : List Int) (i : Nat) : Prop :=
  okd o ∧ o.length = a.length + b.length + 1 ∧ (∀ j, i + b.length ≤ j → dgt o j = 0) ∧ vd o = vd (a.take i) * vd b
theorem dgt_zeros (n j : Nat) : dgt (List.replicate n 0) j = 0 := by
  unfold dgt
  by_cases h : j < n
  · rw [List.getElem?_eq_getElem (by simpa using h)]; simp
  · rw [List.getElem?_eq_none (by simpa using h)]; rfl
theorem mulO_zero (a b : List Int) : MulO a b (List.replicate (a.length + b.length + 1) 0) 0 :=
  ⟨fun d hd => by rw [List.eq_of_mem_replicate hd]; omega, by simp, fun j _ => dgt_zeros _ j, by simp [vd_zeros, vd]⟩
theorem mulI_zero {a b o : List Int} {i : Nat} (h : MulO a b o i) : MulI a b o i 0 0 := by
  obtain ⟨h1, h2, h3, h4⟩ := h
  exact ⟨h1, h2, h3, by omega, by omega, by simp [h4, vd]⟩
theorem bmul_bd {a b : List Int} (ha : okd a) (hb : okd b) {o : List Int} (ho : okd o) {c : Int} (hc : 0 ≤ c ∧ c ≤ 32767) (i k j : Nat) :
    0 ≤ dgt a i * dgt b k ∧ dgt a i * dgt b k ≤ 1073676289 ∧ 0 ≤ dgt o j + dgt a i * dgt b k + c ∧ (dgt o j + dgt a i * dgt b k + c) / 32768 ≤ 32767 := by
  have h1 := dgt_ok ha i
  have h2 := dgt_ok hb k
  have h3 := dgt_ok ho j
  have h4 : dgt a i * dgt b k ≤ 32767 * 32767 := Int.mul_le_mul h1.2 h2.2 h2.1 (by omega)
  have h5 : 0 ≤ dgt a i * dgt b k := Int.mul_nonneg h1.1 h2.1
  refine ⟨h5, by omega, by omega, by omega⟩
theorem mulI_step {a b o : List Int} {i k : Nat} {c : Int} (ha : okd a) (hb : okd b) (hi : i < a.length) (hk : k < b.length) (h : MulI a b o i k c) :
    MulI a b (o.set (i + k) ((dgt o (i + k) + dgt a i * dgt b k + c) % 32768)) i (k + 1) ((dgt o (i + k) + dgt a i * dgt b k + c) / 32768) := by
  obtain ⟨h1, h2, h3, h4, h5, h6⟩ := h
  have hbd := bmul_bd ha hb h1 ⟨h4, h5⟩ i k (i + k)
  refine ⟨okd_set h1 _ _ (by omega), by simpa using h2, fun j hj => ?_, by omega, hbd.2.2.2, ?_⟩
  · rw [dgt_set _ _ _ _ (by omega), if_neg (by omega)]; exact h3 j hj
  · rw [vd_set _ _ _ (by omega), vd_take_succ, ← Nat.add_assoc, Bp, Int.mul_add, Int.mul_add]
    generalize dgt o (i + k) = x at *
    generalize dgt a i = u at *
    generalize dgt b k = v at *
    have e1 : Bp (i + k) * ((x + u * v + c) % 32768 - x) + 32768 * Bp (i + k) * ((x + u * v + c) / 32768) = Bp (i + k) * (u * v + c) := by
      rw [Int.mul_comm 32768 (Bp (i + k)), Int.mul_assoc, ← Int.mul_add]
      congr 1
      omega
    have e2 : Bp i * (u * (Bp k * v)) = Bp (i + k) * (u * v) := by
      rw [Bp_add, Int.mul_left_comm u, Int.mul_assoc]
    rw [e2]
    rw [Int.mul_add (Bp (i + k)) (u * v) c] at e1
    omega
theorem mulI_done {a b o : List Int} {i : Nat} {c : Int} (hi : i < a.length) (h : MulI a b o i b.length c) :
    MulO a b (o.set (i + b.length) (dgt o (i + b.length) + c)) (i + 1) := by
  obtain ⟨h1, h2, h3, h4, h5, h6⟩ := h
  have hz := h3 (i + b.length) (Nat.le_refl _)
  refine ⟨okd_set h1 _ _ (by omega), by simpa using h2, fun j hj => ?_, ?_⟩
  · rw [dgt_set _ _ _ _ (by omega), if_neg (by omega)]; exact h3 j (by omega)
  · have e : dgt o (i + b.length) + c - dgt o (i + b.length) = c := by omega
    rw [vd_set _ _ _ (by omega), e, vd_take_succ, Int.add_mul]
    rw [List.take_of_length_le (Nat.le_refl _)] at h6
    have : Bp i * dgt a i * vd b = Bp i * (dgt a i * vd b) := by rw [Int.mul_assoc]
    rw [this]
    omega
theorem mulO_end {a b o : List Int} (h : MulO a b o a.length) : vd o = vd a * vd b := by
  have := h.2.2.2
  rwa [List.take_of_length_le (Nat.le_refl _)] at this
theorem getD_dgt {l : List Int} {i : Nat} (h : i < l.length) : l[i] = dgt l i := by simp [dgt, List.getElem?_eq_getElem h]
theorem map_get {l : List Int} {i : Nat} (h : i < l.length) : (l.map (Value.int .i64))[i]? = some (.int .i64 (dgt l i)) := by
  rw [List.getElem?_map, List.getElem?_eq_getElem h, ← getD_dgt h]; rfl
/-- The memory in the loops of the product: both numbers' variables, the result's, and the digits that are made. -/
def MulS (w wr : World) (sx sy : Bool) (A A' : Option Addr) (n n' c c' : Nat) (o : List Int) : Prop :=
  Bk wr w.heap.size 150 #[.bool sx, .slice A n c] ∧ Bk wr (w.heap.size + 1) 150 #[.bool sy, .slice A' n' c'] ∧ Bk wr (w.heap.size + 1 + 1) 150 #[.bool false, .slice none 0 0] ∧
  wr.ownsRow (w.heap.size + 1 + 1 + 1) 3 1 (.slice (some ⟨w.heap.size + 1 + 1 + 1, 0, none⟩) (n + n' + 1) (n + n' + 1)) (n + n' + 1) (o.map (Value.int .i64)) ∧ Below w.heap.size w wr
theorem MulS.drew {w wr : World} {sx sy : Bool} {A A' : Option Addr} {n n' c c' : Nat} {o : List Int} (h : MulS w wr sx sy A A' n n' c c' o) : MulS w wr.drew sx sy A A' n n' c c' o :=
  ⟨h.1.drew, h.2.1.drew, h.2.2.1.drew, h.2.2.2.1.drew, h.2.2.2.2.drew⟩
theorem MulS.drewN {w wr : World} {sx sy : Bool} {A A' : Option Addr} {n n' c c' : Nat} {o : List Int} (h : MulS w wr sx sy A A' n n' c c' o) (k : Nat) : MulS w (wr.drewN k) sx sy A A' n n' c c' o :=
  ⟨h.1.drewN k, h.2.1.drewN k, h.2.2.1.drewN k, h.2.2.2.1, below_drewN h.2.2.2.2 k⟩
theorem MulS.store {w wr : World} {sx sy : Bool} {A A' : Option Addr} {n n' c c' : Nat} {o : List Int} (h : MulS w wr sx sy A A' n n' c c' o) (j : Nat) (z : Int) :
    MulS w (wr.setCell ⟨w.heap.size + 1 + 1 + 1, j, none⟩ (.int .i64 z)) sx sy A A' n n' c c' (o.set j z) := by
  obtain ⟨h1, h2, h3, h4, h5⟩ := h
  refine ⟨h1.far (by simp; omega) _, h2.far (by simp) _, h3.far (by simp) _, ?_, h5.setCell (by simp; omega) _⟩
  rw [List.map_set]
  exact (h4.stored j (.int .i64 z)).1
set_option maxRecDepth 100000 in
set_option maxHeartbeats 2000000 in
theorem mul_any (va vb : Value) (x y : Int) (w : World) {lo lo' : Nat} (ha : BigN lo w va x) (hb : BigN lo' w vb y) (hsa : Sm x) (hsb : Sm y) :
    Calls Try.prog 107 #[va, vb] w fun e w' => ∃ v, e = .returned v ∧ BigN w.heap.size w' v (x * y) ∧ Below w.heap.size w w' := by
  obtain ⟨A, c, l, rfl, h2, h3, h4, h5, h6, h7⟩ := ha
  obtain ⟨A', c', l', rfl, h2', h3', h4', h5', h6', h7'⟩ := hb
  have hl := sm_len hsa h6 h7
  have hl' := sm_len hsb h6' h7'
  have H7 := Lib.hid h7
  have H7' := Lib.hid h7'
  have ok1 := h6.1
  have ok2 := h6'.1
  clear h7 h7' h2 h3 h4 h2' h3' h4'
  generalize hsx : decide (x < 0) = sx
  generalize hsy : decide (y < 0) = sy
  have HSX := Lib.hid hsx
  have HSY := Lib.hid hsy
  clear hsx hsy
  have hmk := fun W => run_make1 (P := Try.prog) Try.underlying50 big_int_info rfl ((l.length : Int) + l'.length + 1) (l.length + l'.length + 1) (by omega) (by omega) (by omega) W
  go_enter Try.func107, Try.ntmps107
  go_wp2
  go_loopw [6] (fun iv wr => ∃ (i : Nat) (o : List Int), i ≤ l.length ∧ iv = .int .i64 i ∧ MulO l l' o i ∧ MulS w wr sx sy A A' l.length l'.length c c' o) (fun iv _ => l.length - (intOf iv).toNat)
  case atStart =>
    refine ⟨0, List.replicate (l.length + l'.length + 1) 0, Nat.zero_le _, rfl, mulO_zero l l', ?_, ?_, ?_, ?_, by go_grown⟩
    · exact ((Bk.new w _ _).alloc _).alloc _ |>.alloc _
    · simpa using ((Bk.new (w.alloc _) 150 #[Value.bool sy, Value.slice A' l'.length c']).alloc _).alloc _
    · simpa using (Bk.new ((w.alloc _).alloc _) 150 #[.bool false, .slice none 0 0]).alloc _
    · simpa using own_of_Bk (base := w.heap.size + 1 + 1 + 1) (Bk.new (((w.alloc _).alloc _).alloc _) 3 (Array.replicate (l.length + l'.length + 1) (.int .i64 0))) (l.length + l'.length + 1) (by simp) (by omega) (by simp)
  case round =>
    obtain ⟨i, o, hi, rfl, hO, hS⟩ := hrel
    by_cases hlt : i < l.length
    · have hI := mulI_zero hO
      obtain ⟨q1, q2⟩ := hS.1.cell2
      obtain ⟨q3, q4⟩ := hS.2.1.cell2
      go_wp2_with fail
      clear q1 q2 q3 q4 hO
      obtain ⟨wo, rfl⟩ : ∃ wo : World, wo = wr := ⟨_, rfl⟩
      go_loopw [7, 8] (fun cv kv wr => ∃ (k : Nat) (o : List Int) (cc : Int), k ≤ l'.length ∧ kv = .int .i64 k ∧ cv = .int .i64 cc ∧ MulI l l' o i k cc ∧ MulS w wr sx sy A A' l.length l'.length c c' o) (fun _ kv _ => l'.length - (intOf kv).toNat)
      case atStart => exact ⟨0, o, 0, Nat.zero_le _, rfl, rfl, hI, hS⟩
      case round =>
        clear hI hS
        obtain ⟨k, o, cc, hk, rfl, rfl, hI, hS⟩ := hrel
        have hr1 := (h5.below hS.2.2.2.2 (Nat.le_refl _)).rd
        have hr2 := (h5'.below hS.2.2.2.2 (Nat.le_refl _)).rd
        obtain ⟨b1, o1, rfl, hb1, hc1⟩ := RdI.get hr1 i (by omega)
        rw [getD_dgt] at hc1
        have hol := hI.2.1
        obtain ⟨q1, q2⟩ := hS.1.cell2
        obtain ⟨q3, q4⟩ := hS.2.1.cell2
        by_cases hlt2 : k < l'.length
        · obtain ⟨b2, o2, rfl, hb2, hc2⟩ := RdI.get hr2 k (by omega)
          rw [getD_dgt] at hc2
          have hbd := bmul_bd ok1 ok2 hI.1 ⟨hI.2.2.2.1, hI.2.2.2.2.1⟩ i k (i + k)
          have hdo := dgt_ok hI.1 (i + k)
          have hcc0 := hI.2.2.2.1
          have hcc1 := hI.2.2.2.2.1
          have hc3 := hS.2.2.2.1.cellAt (i + k) (by omega)
          rw [map_get (by omega)] at hc3
          have hf3 := hS.2.2.2.1.frozenAt (i + k)
          have hst := hS.store (i + k) ((dgt o (i + k) + dgt l i * dgt l' k + cc) % 32768)
          have HI := Lib.hid (mulI_step ok1 ok2 hlt hlt2 hI)
          have HL := Lib.hid hol
          clear hI hol
          generalize dgt o (i + k) = xo at *
          generalize hxa : dgt l i = xa at *
          generalize hxb : dgt l' k = xb at *
          have HXA := Lib.hid hxa
          have HXB := Lib.hid hxb
          clear hxa hxb
          go_wp2_with fail
          go_quiet (fail)
          go_wp2
          exact ⟨⟨k + 1, _, _, by omega, by go_num, rfl, HI.out, (hS.drewN _).store _ _⟩, by simp [intOf]; omega⟩
        · obtain rfl : k = l'.length := by omega
          have hcc0 := hI.2.2.2.1
          have hcc1 := hI.2.2.2.2.1
          have hz0 := hI.2.2.1 (i + l'.length) (Nat.le_refl _)
          have hc3 := hS.2.2.2.1.cellAt (i + l'.length) (by omega)
          rw [map_get (by omega), hz0] at hc3
          have hf3 := hS.2.2.2.1.frozenAt (i + l'.length)
          have HI := Lib.hid (mulI_done hlt hI)
          have HZ := Lib.hid hz0
          clear hI hz0 hol
          go_wp2_with fail
          go_region
          all_goals
            go_wp2
            have hI2 := HI.out
            rw [HZ.out, Int.zero_add] at hI2
            exact ⟨⟨i + 1, _, by omega, by go_num, hI2, (hS.store _ cc).drew⟩, by simp [intOf]; omega⟩
    · obtain rfl : i = l.length := by omega
      have hv := mulO_end hO
      have hok := hO.1
      have hol := hO.2.1
      have HV := Lib.hid hv
      have HOL := Lib.hid hol
      clear hv hol hO
      obtain ⟨hK0, hK1, hK2, hown, hb0⟩ := hS
      obtain ⟨q1, q2⟩ := hK0.cell2
      obtain ⟨q3, q4⟩ := hK1.cell2
      have hrd : RdI wr.drew wr.heap.size (some ⟨w.heap.size + 1 + 1 + 1, 0, none⟩) o := Rd.of_own hown
      have hrl := RdL.of_own hown
      have hl2 := hK2.lt
      have hK2d := hK2.drew
      have hK0d := hK0.drew
      have hK1d := hK1.drew
      go_wp2_with fail
      go_region_held3 (fun w' => w'.cell? ⟨w.heap.size, 0, none⟩ = some (.bool sx) ∧ w'.cell? ⟨w.heap.size + 1, 0, none⟩ = some (.bool sy))
        (first | exact ⟨q1, q3⟩ | exact ⟨q1', q3'⟩ | (refine ⟨?_, ?_⟩ <;> go_simp))
        (first
        | (go_at_call 145; (with_reducible refine (trim_any o _ (l.length + l'.length + 1) _ _ (B := wr.heap.size) HOL.out (by omega) (by omega) (by omega) (by intro e; cases e) hrd).mono ?_); rintro e w1 ⟨rfl, rfl⟩)
        | (go_at_call 144; refine (made_big _ _ _ _ _).mono ?_; rintro e w2 ⟨rfl, hb2⟩; have hK22 := hK2d.nx hb2; obtain ⟨c20, c21⟩ := hK22.cell2; have f20 := hK22.frozen 0; have f21 := hK22.frozen 1; have q1' := (hK0d.nx hb2).cell2.1; have q3' := (hK1d.nx hb2).cell2.1))
      go_wp2
      refine bodyPost_ret (res_big rfl (hK22.set2 _ _) rfl) rfl ?_
      have hz2 := hb2.size
      simp only [World.size_drew] at hz2
      have hnt := tr_norm hok
      have hvt : vd (tr o) = ((x * y).natAbs : Int) := by rw [tr_vd, HV.out, H7.out, H7'.out, Int.natAbs_mul]; simp
      have hn := norm_zero hnt
      rw [hvt] at hn
      have hsgn : (!(sx == sy) && decide (0 < (tr o).length)) = decide (x * y < 0) := by
        rw [← HSX.out, ← HSY.out]
        by_cases hm : tr o = []
        · have h0 := hn.1 hm
          rw [hm]
          simp
          omega
        · have h1 := List.length_pos_iff.2 hm
          have hne : x * y ≠ 0 := fun e => hm (hn.2 (by rw [e]; rfl))
          have hx0 : x ≠ 0 := fun e => hne (by rw [e, Int.zero_mul])
          have hy0 : y ≠ 0 := fun e => hne (by rw [e, Int.mul_zero])
          simp only [h1, decide_true, Bool.and_true]
          rcases Int.lt_or_gt_of_ne hx0 with hx | hx <;> rcases Int.lt_or_gt_of_ne hy0 with hy | hy
          · have := Int.mul_pos_of_neg_of_neg hx hy
            simp [hx, hy]; omega
          · have := Int.mul_neg_of_neg_of_pos hx hy
            simp [hx, this]; omega
          · have := Int.mul_neg_of_pos_of_neg hx hy
            simp [hy, this]; omega
          · have := Int.mul_pos hx hy
            have h5 : ¬ x < 0 := by omega
            have h6 : ¬ y < 0 := by omega
            have h7 : ¬ x * y < 0 := by omega
            simp [h5, h6, h7]
      have hbW : Below w.heap.size w w2 := (hb0.drew).trans (hb2.mono (by simp; omega))
      have hle := tr_le o
      rw [HOL.out] at hle
      refine ⟨_, rfl, ⟨some ⟨w.heap.size + 1 + 1 + 1, 0, none⟩, l.length + l'.length + 1, tr o, by rw [← hsgn], hle, by simp only [maxLen]; omega, (by intro e; cases e), ?_, hnt, hvt⟩, below_of_gb hbW (gb2 w2 _ _ _) (by omega) (by omega)⟩
      rw [tr_take, List.map_take]
      have hd : RdL wr.drew (w.heap.size + 1 + 1 + 1) (some ⟨w.heap.size + 1 + 1 + 1, 0, none⟩) (o.map (Value.int .i64)) := hrl
      exact (((hd.take _).below hb2 (Nat.le_refl _)).grown (gb2 w2 _ _ _) (fun g e => .inl (by injection e with e; omega))).less (by omega)
end Go.Proofs.Ytjdboclibinjoaa
