/- Several texts in one: Walks of the reference's numbers of any length (layer 1): digits, trimming, comparing, adding, subtracting. The reference's numbers that lie in a variable's block: stores, loads, results. -/
import Derived.Test.YtgohbkkeppknoaaGreatDoorCmdParsesZz2
import Derived.Test.YtgohbkkeppknoaaGreatDoorCmdParsesZz1
import Derived.Deep.QuietTactic
import Derived.BigQuiet
section
set_option linter.unusedVariables false
namespace Go.Proofs.YtgohbkkeppknoaaGreatDoor
open Go.RowKit
/-- What a slice of digits is called with: it begins at A and holds l. -/
abbrev RdI (w : World) (B : Nat) (A : Option Addr) (l : List Int) : Prop := Rd w B A (l.map (Value.int .i64))
theorem RdI.get {w : World} {B : Nat} {A : Option Addr} {l : List Int} (h : RdI w B A l) (k : Nat) (hk : k < l.length) : ∃ b o, A = some ⟨b, o, none⟩ ∧ b < B ∧ w.cell? ⟨b, o + k, none⟩ = some (.int .i64 l[k]) := by
  obtain ⟨b, o, h1, h2, h3⟩ := Rd.get h k (by simpa using hk)
  exact ⟨b, o, h1, h2, by simpa using h3⟩
theorem big_int_info : (Tryz.prog.info? 3).map (fun i => (i.zero, i.size, i.bytes)) = some (some (.int .i64 0), 1, 8) := by kernel_rfl
set_option maxHeartbeats 400000 in
theorem digit_any (l : List Int) (A : Option Addr) (n c : Nat) (i : Int) (w : World) {B : Nat} (hn : l.length = n) (hn2 : n ≤ 1000000) (h : RdI w B A l) :
    Calls Tryz.prog 278 #[.slice A n c, .int .i64 i] w fun e w' => e = .returned (.int .i64 (if 0 ≤ i then dgt l i.toNat else 0)) ∧ w = w' := by
  by_cases hi : 0 ≤ i
  · obtain ⟨k, rfl⟩ := Int.eq_ofNat_of_zero_le hi
    by_cases hk : k < n
    · obtain ⟨b, o, rfl, hb, hc⟩ := h.get k (by omega)
      have e : dgt l k = l[k] := by simp [dgt, List.getElem?_eq_getElem (show k < l.length by omega)]
      have HE := Lib.hid e; clear e
      go_enter Tryz.func278, Tryz.ntmps278
      go_wp2
      go_ret
      exact ⟨ret_int HE.out.symm, rfl⟩
    · have e : dgt l k = 0 := by simp [dgt, List.getElem?_eq_none (show l.length ≤ k by omega)]
      have HE := Lib.hid e; clear e
      go_enter Tryz.func278, Tryz.ntmps278
      go_wp2
      go_ret
      exact ⟨ret_int HE.out.symm, rfl⟩
  · go_enter Tryz.func278, Tryz.ntmps278
    go_wp2
    go_ret
    exact ⟨rfl, rfl⟩
theorem digit_nat (l : List Int) (A : Option Addr) (n c k : Nat) (w : World) {B : Nat} (hn : l.length = n) (hn2 : n ≤ 1000000) (h : RdI w B A l) :
    Calls Tryz.prog 278 #[.slice A n c, .int .i64 k] w fun e w' => e = .returned (.int .i64 (dgt l k)) ∧ w = w' :=
  (digit_any l A n c k w hn hn2 h).mono fun e w' ⟨h1, h2⟩ => ⟨by rw [h1, if_pos (by omega), Int.toNat_natCast], h2⟩
set_option maxHeartbeats 400000 in
theorem trim_any (l : List Int) (A : Option Addr) (n c : Nat) (w : World) {B : Nat} (hn : l.length = n) (hn2 : n ≤ 1000000) (hnc : n ≤ c) (hc : c ≤ 9223372036854775807) (hA : A = none → c = 0) (h : RdI w B A l) :
    Calls Tryz.prog 275 #[.slice A n c] w fun e w' => e = .returned (.slice A (tr l).length c) ∧ w = w' := by
  go_enter Tryz.func275, Tryz.ntmps275
  go_wp2
  go_loop [3] (fun k => ∃ m : Nat, m ≤ n ∧ k = .int .i64 m ∧ tr l = tr (l.take m)) (fun k => (intOf k).toNat)
  case atStart => exact ⟨n, Nat.le_refl _, rfl, by rw [List.take_of_length_le (by omega)]⟩
  case round =>
    obtain ⟨m, hm, rfl, ht⟩ := hrel
    have HT := Lib.hid ht
    clear ht
    rcases Nat.eq_zero_or_pos m with h0 | h0
    · subst h0
      go_wp2
      go_ret
      exact ⟨by rw [HT.out]; rfl, rfl⟩
    · obtain ⟨b, o, rfl, hb, hcl⟩ := h.get (m - 1) (by omega)
      have hs := tr_step l (m - 1) (by omega)
      rw [show m - 1 + 1 = m by omega] at hs
      have HS := Lib.hid hs
      clear hs
      by_cases hz : l[m - 1] = 0
      · have HZ := Lib.hid hz
        rw [hz] at hcl
        clear hz
        go_wp2
        exact ⟨⟨m - 1, by omega, val_int (by omega), by rw [HT.out, HS.out, if_pos HZ.out]⟩, by simp [intOf]; omega⟩
      · have hzb : (l[m - 1] == 0) = false := by simpa using hz
        have HZ := Lib.hid hz
        clear hz
        go_wp2
        go_ret
        refine ⟨?_, rfl⟩
        have e : (tr l).length = m := by rw [HT.out, HS.out, if_neg HZ.out]; simp; omega
        simp only [Array.getD_eq_getD_getElem?, List.getElem?_toArray]
        rw [e]
        rfl
/-- less: how the values stand to each other. -/
def cmpI (x y : Int) : Int := if x < y then -1 else if y < x then 1 else 0
theorem less_step (a b : List Int) (k : Nat) (h : vd (a.drop (k + 1)) = vd (b.drop (k + 1))) (ha : okd a) (hb : okd b) (he : dgt a k = dgt b k) : vd (a.drop k) = vd (b.drop k) := by
  rw [vd_drop a, vd_drop b, h, he]
theorem less_lt (a b : List Int) (k : Nat) (h : vd (a.drop (k + 1)) = vd (b.drop (k + 1))) (ha : okd a) (hb : okd b) (he : dgt a k < dgt b k) : vd a < vd b := by
  have hd : vd (a.drop k) + 1 ≤ vd (b.drop k) := by rw [vd_drop a, vd_drop b, h]; omega
  have sp : ∀ l : List Int, vd l = vd (l.take k) + Bp k * vd (l.drop k) := fun l => by
    by_cases hk : k ≤ l.length
    · exact vd_split l k hk
    · rw [List.take_of_length_le (by omega), List.drop_eq_nil_of_le (by omega)]; simp [vd]
  have tl : vd (a.take k) < Bp k := by
    have := vd_lt (okd_take ha k)
    have h2 := Bp_mono (show (a.take k).length ≤ k by simp; omega)
    omega
  have t0 := vd_nonneg (okd_take hb k)
  rw [sp a, sp b]
  have h3 := Bp_pos k
  have := Int.mul_le_mul_of_nonneg_left hd (by omega : 0 ≤ Bp k)
  rw [Int.mul_add] at this
  omega
set_option maxHeartbeats 400000 in
theorem less_any (a b : List Int) (A A' : Option Addr) (n m c c' : Nat) (w : World) {B B' : Nat} (hn : a.length = n) (hm : b.length = m) (hn2 : n ≤ 1000000) (hm2 : m ≤ 1000000) (ha : okd a) (hb : okd b) (h : RdI w B A a) (h' : RdI w B' A' b) :
    Calls Tryz.prog 273 #[.slice A n c, .slice A' m c'] w fun e w' => e = .returned (.int .i64 (cmpI (vd a) (vd b))) ∧ w = w' := by
  go_enter Tryz.func273, Tryz.ntmps273
  by_cases hnm : n < m
  all_goals
    go_wp2
    go_loop [5] (fun i => ∃ k : Nat, k ≤ max n m ∧ i = .int .i64 ((k : Int) - 1) ∧ vd (a.drop k) = vd (b.drop k)) (fun i => (intOf i + 1).toNat)
    case atStart => exact ⟨max n m, Nat.le_refl _, val_int (by omega), by rw [List.drop_eq_nil_of_le (by omega), List.drop_eq_nil_of_le (by omega)]⟩
    case round =>
      obtain ⟨k, hk, rfl, hd⟩ := hrel
      have HD := Lib.hid hd
      clear hd
      rcases Nat.eq_zero_or_pos k with h0 | h0
      · subst h0
        go_wp2
        go_ret
        refine ⟨ret_int ?_, rfl⟩
        have := HD.out
        simp only [List.drop_zero] at this
        unfold cmpI
        rw [if_neg (by omega), if_neg (by omega)]
      · obtain ⟨j, rfl⟩ : ∃ j, k = j + 1 := ⟨k - 1, by omega⟩
        have e1 : ((j + 1 : Nat) : Int) - 1 = j := by omega
        have hE1 := Lib.hid e1
        simp only [e1]
        clear e1
        rcases Int.lt_trichotomy (dgt a j) (dgt b j) with hc | hc | hc
        · have hv := less_lt a b j HD.out ha hb hc
          go_wp2_with (first
            | (go_at_call 278; (with_reducible refine (digit_nat a _ _ _ _ _ hn hn2 h).mono ?_); rintro e w' ⟨rfl, rfl⟩)
            | (go_at_call 278; (with_reducible refine (digit_nat b _ _ _ _ _ hm hm2 h').mono ?_); rintro e w' ⟨rfl, rfl⟩))
          go_ret
          exact ⟨ret_int (by unfold cmpI; rw [if_pos hv]), rfl⟩
        · have hs := less_step a b j HD.out ha hb hc
          have HS := Lib.hid hs
          have hlt1 : ¬ dgt a j < dgt b j := by omega
          have hlt2 : ¬ dgt b j < dgt a j := by omega
          clear hs hc
          go_wp2_with (first
            | (go_at_call 278; (with_reducible refine (digit_nat a _ _ _ _ _ hn hn2 h).mono ?_); rintro e w' ⟨rfl, rfl⟩)
            | (go_at_call 278; (with_reducible refine (digit_nat b _ _ _ _ _ hm hm2 h').mono ?_); rintro e w' ⟨rfl, rfl⟩))
          exact ⟨⟨j, by omega, rfl, HS.out⟩, by simp [intOf]⟩
        · have hv := less_lt b a j HD.out.symm hb ha hc
          have hlt1 : ¬ dgt a j < dgt b j := by omega
          go_wp2_with (first
            | (go_at_call 278; (with_reducible refine (digit_nat a _ _ _ _ _ hn hn2 h).mono ?_); rintro e w' ⟨rfl, rfl⟩)
            | (go_at_call 278; (with_reducible refine (digit_nat b _ _ _ _ _ hm hm2 h').mono ?_); rintro e w' ⟨rfl, rfl⟩))
          go_ret
          exact ⟨ret_int (by unfold cmpI; rw [if_neg (by omega), if_pos hv]), rfl⟩
/-- What the loop of the sum has after k rounds: the digits and the carry. -/
def smL (a b : List Int) : Nat → List Int
  | 0 => []
  | k + 1 => smL a b k ++ [(dgt a k + dgt b k + smC a b k) % 32768]
where smC (a b : List Int) : Nat → Int
  | 0 => 0
  | k + 1 => (dgt a k + dgt b k + smC a b k) / 32768
theorem smL_len (a b : List Int) (k : Nat) : (smL a b k).length = k := by
  induction k with
  | zero => rfl
  | succ k ih => simp [smL, ih]
theorem smC_bd (a b : List Int) (ha : okd a) (hb : okd b) (k : Nat) : 0 ≤ smL.smC a b k ∧ smL.smC a b k ≤ 1 := by
  induction k with
  | zero => simp [smL.smC]
  | succ k ih =>
    have := dgt_ok ha k
    have := dgt_ok hb k
    rw [smL.smC]
    omega
theorem smL_ok (a b : List Int) (k : Nat) : okd (smL a b k) := by
  induction k with
  | zero => exact okd_nil
  | succ k ih =>
    rw [smL, okd_append]
    refine ⟨ih, fun d hd => ?_⟩
    simp at hd
    subst hd
    omega
theorem smL_vd (a b : List Int) (k : Nat) : vd (smL a b k) + Bp k * smL.smC a b k = vd (a.take k) + vd (b.take k) := by
  induction k with
  | zero => simp [smL, smL.smC, vd]
  | succ k ih =>
    rw [smL, vd_snoc, smL_len, vd_take_succ, vd_take_succ, smL.smC, Bp, Int.mul_assoc]
    have e : Bp k * ((dgt a k + dgt b k + smL.smC a b k) % 32768) + 32768 * (Bp k * ((dgt a k + dgt b k + smL.smC a b k) / 32768)) = Bp k * dgt a k + Bp k * dgt b k + Bp k * smL.smC a b k := by
      rw [show 32768 * (Bp k * ((dgt a k + dgt b k + smL.smC a b k) / 32768)) = Bp k * (32768 * ((dgt a k + dgt b k + smL.smC a b k) / 32768)) by rw [← Int.mul_assoc, ← Int.mul_assoc, Int.mul_comm 32768 (Bp k)]]
      rw [← Int.mul_add, Int.emod_add_mul_ediv, Int.mul_add, Int.mul_add]
    omega
/-- A new slice with these digits, in their normal form. -/
def BigD (lo : Nat) (w' : World) (v : Value) (z : Int) : Prop :=
  ∃ A c l, v = .slice A l.length c ∧ l.length ≤ c ∧ c ≤ maxLen ∧ (A = none → c = 0) ∧ RdL w' lo A (l.map (Value.int .i64)) ∧ Norm l ∧ vd l = z
set_option maxHeartbeats 1000000 in
theorem sum_any (a b : List Int) (A A' : Option Addr) (n m c c' : Nat) (w : World) (hn : a.length = n) (hm : b.length = m) (hn2 : n ≤ 100000) (hm2 : m ≤ 100000) (ha : okd a) (hb : okd b) (h : RdI w w.heap.size A a) (h' : RdI w w.heap.size A' b) :
    Calls Tryz.prog 272 #[.slice A n c, .slice A' m c'] w fun e w' => ∃ v, e = .returned v ∧ BigD w.heap.size w' v (vd a + vd b) ∧ Below w.heap.size w w' := by
  go_enter Tryz.func272, Tryz.ntmps272
  go_wp2
  go_loopw [5, 6, 7] (fun v cr i wr => ∃ k : Nat, k ≤ max n m ∧ i = .int .i64 k ∧ cr = .int .i64 (smL.smC a b k) ∧ wr.ownsRow w.heap.size 3 1 v k ((smL a b k).map (Value.int .i64)) ∧ Below w.heap.size w wr) (fun _ _ i _ => max n m - (intOf i).toNat)
  case atStart => exact ⟨0, by omega, rfl, rfl, World.ownsRow_nil _ _ _ _, Below.refl _ _⟩
  case round =>
    obtain ⟨k, hk, rfl, rfl, hown, hbel⟩ := hrel
    have hC := smC_bd a b ha hb k
    have hda := dgt_ok ha k
    have hdb := dgt_ok hb k
    by_cases hlt : k < max n m
    · have hrA := h.below hbel
      have hrB := h'.below hbel
      by_cases hnm : n < m
      all_goals
        go_wp2_with (first
          | (go_at_call 278; (with_reducible refine (digit_nat a _ _ _ _ _ hn (by omega) hrA).mono ?_); rintro e w' ⟨rfl, rfl⟩)
          | (go_at_call 278; (with_reducible refine (digit_nat b _ _ _ _ _ hm (by omega) hrB).mono ?_); rintro e w' ⟨rfl, rfl⟩)
          | (at_builtin; refine app1 rfl _ _ _ rfl Tryz.underlying80 big_int_info rfl (by omega) rfl rfl hown hbel (Nat.le_refl _) hbel.size rfl ints1 (by omega) (by omega) ?_; intro v' w' hown' hbel' _ _ _; clear hown hbel hrA hrB))
        exact ⟨⟨k + 1, by omega, by go_num, rfl, by simpa [smL] using hown', hbel'⟩, by simp [intOf]; omega⟩
    · obtain rfl : k = max n m := by omega
      by_cases hnm : n < m
      all_goals
        go_wp2_with (at_builtin; refine app1 rfl _ _ _ rfl Tryz.underlying80 big_int_info rfl (by omega) rfl rfl hown hbel (Nat.le_refl _) hbel.size rfl ints1 (by omega) (by omega) ?_; intro v' w' hown' hbel' _ _ _; clear hown hbel)
        obtain ⟨A3, c3, hv3, h31, h32, hA3, h33, h34⟩ := own_form2 hown'
        have h35 := RdL.of_own (hv3 ▸ hown')
        subst hv3
        have hL : ((smL a b (max n m)).map (Value.int .i64)) ++ (#[Value.int .i64 (smL.smC a b (max n m))] : Array Value).toList = (smL a b (max n m) ++ [smL.smC a b (max n m)]).map (Value.int .i64) := by simp
        simp only at hL
        rw [hL] at h33 h35
        refine (trim_any (smL a b (max n m) ++ [smL.smC a b (max n m)]) A3 (max n m + 1) c3 w' (by simp [smL_len]) (by omega) h31 (by simpa [maxLen] using h32) hA3 h33).mono ?_
        rintro e w3 ⟨rfl, rfl⟩
        go_wp2
        go_ret
        have hok : okd (smL a b (max n m) ++ [smL.smC a b (max n m)]) := okd_append.2 ⟨smL_ok a b _, fun d hd => by simp at hd; subst hd; omega⟩
        refine ⟨_, rfl, ⟨A3, c3, tr (smL a b (max n m) ++ [smL.smC a b (max n m)]), rfl, ?_, h32, hA3, ?_, tr_norm hok, ?_⟩, hbel'⟩
        · have := tr_le (smL a b (max n m) ++ [smL.smC a b (max n m)]); simp [smL_len] at this; omega
        · rw [tr_take, List.map_take]; exact h35.take _
        · rw [tr_vd, vd_snoc, smL_len, smL_vd, List.take_of_length_le (by omega), List.take_of_length_le (by omega)]
/-- What the loop of the rest has after k rounds: the digits and the borrow. -/
def rsL (a b : List Int) : Nat → List Int
  | 0 => []
  | k + 1 => rsL a b k ++ [(dgt a k - dgt b k - rsB a b k) % 32768]
where rsB (a b : List Int) : Nat → Int
  | 0 => 0
  | k + 1 => if dgt a k - dgt b k - rsB a b k < 0 then 1 else 0
theorem rsL_len (a b : List Int) (k : Nat) : (rsL a b k).length = k := by
  induction k with
  | zero => rfl
  | succ k ih => simp [rsL, ih]
theorem rsB_bd (a b : List Int) (k : Nat) : 0 ≤ rsL.rsB a b k ∧ rsL.rsB a b k ≤ 1 := by
  cases k with
  | zero => simp [rsL.rsB]
  | succ k => rw [rsL.rsB]; split <;> omega
theorem rsL_ok (a b : List Int) (k : Nat) : okd (rsL a b k) := by
  induction k with
  | zero => exact okd_nil
  | succ k ih =>
    rw [rsL, okd_append]
    refine ⟨ih, fun d hd => ?_⟩
    simp at hd
    subst hd
    omega
theorem rsL_vd (a b : List Int) (ha : okd a) (hb : okd b) (k : Nat) : vd (rsL a b k) - Bp k * rsL.rsB a b k = vd (a.take k) - vd (b.take k) := by
  induction k with
  | zero => simp [rsL, rsL.rsB, vd]
  | succ k ih =>
    have h1 := dgt_ok ha k
    have h2 := dgt_ok hb k
    have h3 := rsB_bd a b k
    rw [rsL, vd_snoc, rsL_len, vd_take_succ, vd_take_succ, rsL.rsB, Bp, Int.mul_assoc]
    generalize dgt a k = x at *
    generalize dgt b k = y at *
    generalize rsL.rsB a b k = c at *
    have e : Bp k * ((x - y - c) % 32768) - 32768 * (Bp k * (if x - y - c < 0 then 1 else 0)) = Bp k * x - Bp k * y - Bp k * c := by
      rw [show 32768 * (Bp k * (if x - y - c < 0 then (1:Int) else 0)) = Bp k * (32768 * (if x - y - c < 0 then 1 else 0)) by rw [← Int.mul_assoc, ← Int.mul_assoc, Int.mul_comm 32768 (Bp k)]]
      rw [← Int.mul_sub, ← Int.mul_sub, ← Int.mul_sub]
      congr 1
      split <;> omega
    omega
theorem rsL_done (a b : List Int) (ha : okd a) (hb : okd b) (hl : b.length ≤ a.length) (hv : vd b ≤ vd a) : vd (rsL a b a.length) = vd a - vd b := by
  have h1 := rsL_vd a b ha hb a.length
  rw [List.take_of_length_le (Nat.le_refl _), List.take_of_length_le hl] at h1
  have h2 := rsB_bd a b a.length
  have h3 := vd_lt (rsL_ok a b a.length)
  rw [rsL_len] at h3
  rcases (show rsL.rsB a b a.length = 0 ∨ rsL.rsB a b a.length = 1 by omega) with h4 | h4 <;> rw [h4] at h1 <;> omega
set_option maxHeartbeats 1000000 in
theorem rest_any (a b : List Int) (A A' : Option Addr) (n m c c' : Nat) (w : World) (hn : a.length = n) (hm : b.length = m) (hn2 : n ≤ 100000) (hmn : m ≤ n) (ha : okd a) (hb : okd b) (hv : vd b ≤ vd a) (h : RdI w w.heap.size A a) (h' : RdI w w.heap.size A' b) :
    Calls Tryz.prog 274 #[.slice A n c, .slice A' m c'] w fun e w' => ∃ v, e = .returned v ∧ BigD w.heap.size w' v (vd a - vd b) ∧ Below w.heap.size w w' := by
  go_enter Tryz.func274, Tryz.ntmps274
  go_wp2
  go_loopw [5, 6, 7] (fun v cr i wr => ∃ k : Nat, k ≤ n ∧ i = .int .i64 k ∧ cr = .int .i64 (rsL.rsB a b k) ∧ wr.ownsRow w.heap.size 3 1 v k ((rsL a b k).map (Value.int .i64)) ∧ Below w.heap.size w wr) (fun _ _ i _ => n - (intOf i).toNat)
  case atStart => exact ⟨0, by omega, rfl, rfl, World.ownsRow_nil _ _ _ _, Below.refl _ _⟩
  case round =>
    obtain ⟨k, hk, rfl, rfl, hown, hbel⟩ := hrel
    have hC := rsB_bd a b k
    have hda := dgt_ok ha k
    have hdb := dgt_ok hb k
    by_cases hlt : k < n
    · have hrA := h.below hbel
      have hrB := h'.below hbel
      have HB1 : Hid (rsL.rsB a b (k + 1) = if dgt a k - dgt b k - rsL.rsB a b k < 0 then 1 else 0) := rfl
      have HL1 : Hid (rsL a b (k + 1) = rsL a b k ++ [(dgt a k - dgt b k - rsL.rsB a b k) % 32768]) := rfl
      by_cases hneg : dgt a k - dgt b k - rsL.rsB a b k < 0
      all_goals
        go_wp2_with (first
          | (go_at_call 278; (with_reducible refine (digit_nat a _ _ _ _ _ hn (by omega) hrA).mono ?_); rintro e w' ⟨rfl, rfl⟩)
          | (go_at_call 278; (with_reducible refine (digit_nat b _ _ _ _ _ hm (by omega) hrB).mono ?_); rintro e w' ⟨rfl, rfl⟩)
          | (at_builtin; refine app1 rfl _ _ _ rfl Tryz.underlying80 big_int_info rfl (by omega) rfl rfl hown hbel (Nat.le_refl _) hbel.size rfl ints1 (by omega) (by omega) ?_; intro v' w' hown' hbel' _ _ _; clear hown hbel hrA hrB))
      · exact ⟨⟨k + 1, by omega, by go_num, by rw [HB1.out, if_pos hneg], by rw [HL1.out, show (dgt a k - dgt b k - rsL.rsB a b k) % 32768 = dgt a k - dgt b k - rsL.rsB a b k + 32768 by omega]; simpa using hown', hbel'⟩, by simp [intOf]; omega⟩
      · exact ⟨⟨k + 1, by omega, by go_num, by rw [HB1.out, if_neg (by omega)], by rw [HL1.out, show (dgt a k - dgt b k - rsL.rsB a b k) % 32768 = dgt a k - dgt b k - rsL.rsB a b k by omega]; simpa using hown', hbel'⟩, by simp [intOf]; omega⟩
    · obtain rfl : k = n := by omega
      obtain ⟨A3, c3, rfl, h31, h32, hA3, h33, h34⟩ := own_form2 hown
      have h35 := RdL.of_own hown
      go_wp2_with fail
      refine (trim_any (rsL a b k) A3 k c3 wr (rsL_len a b k) (by omega) h31 (by simpa [maxLen] using h32) hA3 h33).mono ?_
      rintro e w3 ⟨rfl, rfl⟩
      go_wp2
      go_ret
      refine ⟨_, rfl, ⟨A3, c3, tr (rsL a b k), rfl, ?_, h32, hA3, ?_, tr_norm (rsL_ok a b k), ?_⟩, hbel⟩
      · have := tr_le (rsL a b k); rw [rsL_len] at this; omega
      · rw [tr_take, List.map_take]; exact h35.take _
      · rw [tr_vd, ← hn]; exact rsL_done a b ha hb (by omega) hv
set_option maxHeartbeats 400000 in
theorem made_big (g : Bool) (A : Option Addr) (n c : Nat) (w : World) :
    Calls Tryz.prog 271 #[.bool g, .slice A n c] w fun e w' => e = .returned (.agg #[.bool (g && decide (0 < n)), .slice A n c]) ∧ Below w.heap.size w w' := by
  cases g
  · go_enter Tryz.func271, Tryz.ntmps271
    go_wp2
    go_returns
    exact ⟨rfl, by go_grown⟩
  · by_cases hn : 0 < n
    all_goals
      go_enter Tryz.func271, Tryz.ntmps271
      go_wp2
      go_returns
      exact ⟨by simp [hn], by go_grown⟩
end Go.Proofs.YtgohbkkeppknoaaGreatDoor
end
section
set_option linter.unusedVariables false
namespace Go.Proofs.YtgohbkkeppknoaaGreatDoor
open Go.RowKit
theorem big_size : (Tryz.prog.info? 200).map (·.size) = some 2 := by kernel_rfl
@[go_sem] theorem field_big0 (s : Bool) (A : Option Addr) (n c : Nat) (w : World) : (Instr.field 200 (.agg #[.bool s, .slice A n c]) 0).run Tryz.prog w = .ok (.bool s) w :=
  run_field1 (P := Tryz.prog) (T := 200) (i := 0) Tryz.underlying200 rfl Tryz.underlying4 rfl #[.bool s, .slice A n c] (.bool s) rfl w
@[go_sem] theorem field_big1 (s : Bool) (A : Option Addr) (n c : Nat) (w : World) : (Instr.field 200 (.agg #[.bool s, .slice A n c]) 1).run Tryz.prog w = .ok (.slice A n c) w :=
  run_field1 (P := Tryz.prog) (T := 200) (i := 1) Tryz.underlying200 rfl Tryz.underlying80 rfl #[.bool s, .slice A n c] (.slice A n c) rfl w
theorem stBig {ops : Array Oper} {rest : List Oper} {o : Oper} {a : Act} {w : World} {Q : Exit → Act → World → Prop} (hgd : o.guard = none) (x y : Operand) (ho : o.op = .store 200 x y)
    {g : Nat} {old : Array Value} (hK : Bk w g 200 old) (hold : old.size = 2) {s : Bool} {A : Option Addr} {n c : Nat} (hx : a.eval x = .pointer (some ⟨g, 0, none⟩)) (hy : a.eval y = .agg #[.bool s, .slice A n c])
    (h : ∀ w', Bk w' g 200 #[.bool s, .slice A n c] → w.grownBy w' (some g) → w'.heap.size = w.heap.size → wpList Tryz.prog ops Q rest (a.put o.dst undef) w') : wpList Tryz.prog ops Q (o :: rest) a w :=
  stB hgd _ x y ho hK _ hx hy big_size (by simpa using hold) (by simp [Value.oneCell']) h
theorem ldBig {ops : Array Oper} {rest : List Oper} {o : Oper} {a : Act} {w : World} {Q : Exit → Act → World → Prop} (hgd : o.guard = none) (x : Operand) (ho : o.op = .load 200 x)
    {g : Nat} {s : Bool} {A : Option Addr} {n c : Nat} (hK : Bk w g 200 #[.bool s, .slice A n c]) (hx : a.eval x = .pointer (some ⟨g, 0, none⟩))
    (h : wpList Tryz.prog ops Q rest (a.put o.dst (.agg #[.bool s, .slice A n c])) w) : wpList Tryz.prog ops Q (o :: rest) a w :=
  ldB hgd _ x ho hK hx Tryz.underlying200 rfl big_size h
theorem res_big {fn : Func} {p : Tmp} (h : fn.results = #[.cell p 200]) {tmps : Array Value} {w : World} {g : Nat} {s : Bool} {A : Option Addr} {n c : Nat} (hK : Bk w g 200 #[.bool s, .slice A n c])
    (hp : tmps.getD p undef = .pointer (some ⟨g, 0, none⟩)) : (results fn tmps).run Tryz.prog w = .ok (.agg #[.bool s, .slice A n c]) w :=
  res_cell h hK hp Tryz.underlying200 rfl big_size
end Go.Proofs.YtgohbkkeppknoaaGreatDoor
end
