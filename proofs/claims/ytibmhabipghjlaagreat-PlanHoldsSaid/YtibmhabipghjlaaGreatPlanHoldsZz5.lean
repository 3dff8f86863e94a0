/- Several texts in one: Walks of the reference's numbers of any length (layer 1): digits, trimming, comparing, adding, subtracting. The reference's numbers that lie in a variable's block: stores, loads, results. The reference's numbers of any length as whole numbers: making, signs, sums, differences, comparing, reading. The reference's numbers of any length: differences, comparing, reading as 64 bits, powers of two. -/
import Derived.Test.YtibmhabipghjlaaGreatPlanHoldsZz4
import Derived.Test.YtibmhabipghjlaaGreatPlanHoldsZz1
import Derived.Deep.QuietTactic
import Derived.BigQuiet
import Derived.Deep.RegionWith
import Derived.Deep.RegionHeld3
section
set_option linter.unusedVariables false
namespace Go.Proofs.YtibmhabipghjlaaGreat
open Go.RowKit
/-- What a slice of digits is called with: it begins at A and holds l. -/
abbrev RdI (w : World) (B : Nat) (A : Option Addr) (l : List Int) : Prop := Rd w B A (l.map (Value.int .i64))
theorem RdI.get {w : World} {B : Nat} {A : Option Addr} {l : List Int} (h : RdI w B A l) (k : Nat) (hk : k < l.length) : ∃ b o, A = some ⟨b, o, none⟩ ∧ b < B ∧ w.cell? ⟨b, o + k, none⟩ = some (.int .i64 l[k]) := by
  obtain ⟨b, o, h1, h2, h3⟩ := Rd.get h k (by simpa using hk)
  exact ⟨b, o, h1, h2, by simpa using h3⟩
theorem big_int_info : (Tryz.prog.info? 3).map (fun i => (i.zero, i.size, i.bytes)) = some (some (.int .i64 0), 1, 8) := by kernel_rfl
set_option maxHeartbeats 400000 in
theorem digit_any (l : List Int) (A : Option Addr) (n c : Nat) (i : Int) (w : World) {B : Nat} (hn : l.length = n) (hn2 : n ≤ 1000000) (h : RdI w B A l) :
    Calls Tryz.prog 142 #[.slice A n c, .int .i64 i] w fun e w' => e = .returned (.int .i64 (if 0 ≤ i then dgt l i.toNat else 0)) ∧ w = w' := by
  by_cases hi : 0 ≤ i
  · obtain ⟨k, rfl⟩ := Int.eq_ofNat_of_zero_le hi
    by_cases hk : k < n
    · obtain ⟨b, o, rfl, hb, hc⟩ := h.get k (by omega)
      have e : dgt l k = l[k] := by simp [dgt, List.getElem?_eq_getElem (show k < l.length by omega)]
      have HE := Lib.hid e; clear e
      go_enter Tryz.func142, Tryz.ntmps142
      go_wp2
      go_ret
      exact ⟨ret_int HE.out.symm, rfl⟩
    · have e : dgt l k = 0 := by simp [dgt, List.getElem?_eq_none (show l.length ≤ k by omega)]
      have HE := Lib.hid e; clear e
      go_enter Tryz.func142, Tryz.ntmps142
      go_wp2
      go_ret
      exact ⟨ret_int HE.out.symm, rfl⟩
  · go_enter Tryz.func142, Tryz.ntmps142
    go_wp2
    go_ret
    exact ⟨rfl, rfl⟩
theorem digit_nat (l : List Int) (A : Option Addr) (n c k : Nat) (w : World) {B : Nat} (hn : l.length = n) (hn2 : n ≤ 1000000) (h : RdI w B A l) :
    Calls Tryz.prog 142 #[.slice A n c, .int .i64 k] w fun e w' => e = .returned (.int .i64 (dgt l k)) ∧ w = w' :=
  (digit_any l A n c k w hn hn2 h).mono fun e w' ⟨h1, h2⟩ => ⟨by rw [h1, if_pos (by omega), Int.toNat_natCast], h2⟩
set_option maxHeartbeats 400000 in
theorem trim_any (l : List Int) (A : Option Addr) (n c : Nat) (w : World) {B : Nat} (hn : l.length = n) (hn2 : n ≤ 1000000) (hnc : n ≤ c) (hc : c ≤ 9223372036854775807) (hA : A = none → c = 0) (h : RdI w B A l) :
    Calls Tryz.prog 140 #[.slice A n c] w fun e w' => e = .returned (.slice A (tr l).length c) ∧ w = w' := by
  go_enter Tryz.func140, Tryz.ntmps140
  go_wp2
  go_loop [3] (fun k => ∃ m : Nat, m ≤ n ∧ k = .int .i64 m ∧ tr l = tr (l.take m)) (fun k => (intOf k).toNat)
  case atStart => exact ⟨n, Nat.le_refl _, rfl, by rw [List.take_of_length_le (by omega)]⟩
  case round =>
    obtain ⟨m, hm, rfl, ht⟩ := hrel
    have HT := Lib.hid ht
    clear ht
    rcases Nat.eq_zero_or_pos m with h0 | h0
    · subst h0
      go_wp2
      go_ret
      exact ⟨by rw [HT.out]; rfl, rfl⟩
    · obtain ⟨b, o, rfl, hb, hcl⟩ := h.get (m - 1) (by omega)
      have hs := tr_step l (m - 1) (by omega)
      rw [show m - 1 + 1 = m by omega] at hs
      have HS := Lib.hid hs
      clear hs
      by_cases hz : l[m - 1] = 0
      · have HZ := Lib.hid hz
        rw [hz] at hcl
        clear hz
        go_wp2
        exact ⟨⟨m - 1, by omega, val_int (by omega), by rw [HT.out, HS.out, if_pos HZ.out]⟩, by simp [intOf]; omega⟩
      · have hzb : (l[m - 1] == 0) = false := by simpa using hz
        have HZ := Lib.hid hz
        clear hz
        go_wp2
        go_ret
        refine ⟨?_, rfl⟩
        have e : (tr l).length = m := by rw [HT.out, HS.out, if_neg HZ.out]; simp; omega
        simp only [Array.getD_eq_getD_getElem?, List.getElem?_toArray]
        rw [e]
        rfl
/-- less: how the values stand to each other. -/
def cmpI (x y : Int) : Int := if x < y then -1 else if y < x then 1 else 0
theorem less_step (a b : List Int) (k : Nat) (h : vd (a.drop (k + 1)) = vd (b.drop (k + 1))) (ha : okd a) (hb : okd b) (he : dgt a k = dgt b k) : vd (a.drop k) = vd (b.drop k) := by
  rw [vd_drop a, vd_drop b, h, he]
theorem less_lt (a b : List Int) (k : Nat) (h : vd (a.drop (k + 1)) = vd (b.drop (k + 1))) (ha : okd a) (hb : okd b) (he : dgt a k < dgt b k) : vd a < vd b := by
  have hd : vd (a.drop k) + 1 ≤ vd (b.drop k) := by rw [vd_drop a, vd_drop b, h]; omega
  have sp : ∀ l : List Int, vd l = vd (l.take k) + Bp k * vd (l.drop k) := fun l => by
    by_cases hk : k ≤ l.length
    · exact vd_split l k hk
    · rw [List.take_of_length_le (by omega), List.drop_eq_nil_of_le (by omega)]; simp [vd]
  have tl : vd (a.take k) < Bp k := by
    have := vd_lt (okd_take ha k)
    have h2 := Bp_mono (show (a.take k).length ≤ k by simp; omega)
    omega
  have t0 := vd_nonneg (okd_take hb k)
  rw [sp a, sp b]
  have h3 := Bp_pos k
  have := Int.mul_le_mul_of_nonneg_left hd (by omega : 0 ≤ Bp k)
  rw [Int.mul_add] at this
  omega
set_option maxHeartbeats 400000 in
theorem less_any (a b : List Int) (A A' : Option Addr) (n m c c' : Nat) (w : World) {B B' : Nat} (hn : a.length = n) (hm : b.length = m) (hn2 : n ≤ 1000000) (hm2 : m ≤ 1000000) (ha : okd a) (hb : okd b) (h : RdI w B A a) (h' : RdI w B' A' b) :
    Calls Tryz.prog 143 #[.slice A n c, .slice A' m c'] w fun e w' => e = .returned (.int .i64 (cmpI (vd a) (vd b))) ∧ w = w' := by
  go_enter Tryz.func143, Tryz.ntmps143
  by_cases hnm : n < m
  all_goals
    go_wp2
    go_loop [5] (fun i => ∃ k : Nat, k ≤ max n m ∧ i = .int .i64 ((k : Int) - 1) ∧ vd (a.drop k) = vd (b.drop k)) (fun i => (intOf i + 1).toNat)
    case atStart => exact ⟨max n m, Nat.le_refl _, val_int (by omega), by rw [List.drop_eq_nil_of_le (by omega), List.drop_eq_nil_of_le (by omega)]⟩
    case round =>
      obtain ⟨k, hk, rfl, hd⟩ := hrel
      have HD := Lib.hid hd
      clear hd
      rcases Nat.eq_zero_or_pos k with h0 | h0
      · subst h0
        go_wp2
        go_ret
        refine ⟨ret_int ?_, rfl⟩
        have := HD.out
        simp only [List.drop_zero] at this
        unfold cmpI
        rw [if_neg (by omega), if_neg (by omega)]
      · obtain ⟨j, rfl⟩ : ∃ j, k = j + 1 := ⟨k - 1, by omega⟩
        have e1 : ((j + 1 : Nat) : Int) - 1 = j := by omega
        have hE1 := Lib.hid e1
        simp only [e1]
        clear e1
        rcases Int.lt_trichotomy (dgt a j) (dgt b j) with hc | hc | hc
        · have hv := less_lt a b j HD.out ha hb hc
          go_wp2_with (first
            | (go_at_call 142; (with_reducible refine (digit_nat a _ _ _ _ _ hn hn2 h).mono ?_); rintro e w' ⟨rfl, rfl⟩)
            | (go_at_call 142; (with_reducible refine (digit_nat b _ _ _ _ _ hm hm2 h').mono ?_); rintro e w' ⟨rfl, rfl⟩))
          go_ret
          exact ⟨ret_int (by unfold cmpI; rw [if_pos hv]), rfl⟩
        · have hs := less_step a b j HD.out ha hb hc
          have HS := Lib.hid hs
          have hlt1 : ¬ dgt a j < dgt b j := by omega
          have hlt2 : ¬ dgt b j < dgt a j := by omega
          clear hs hc
          go_wp2_with (first
            | (go_at_call 142; (with_reducible refine (digit_nat a _ _ _ _ _ hn hn2 h).mono ?_); rintro e w' ⟨rfl, rfl⟩)
            | (go_at_call 142; (with_reducible refine (digit_nat b _ _ _ _ _ hm hm2 h').mono ?_); rintro e w' ⟨rfl, rfl⟩))
          exact ⟨⟨j, by omega, rfl, HS.out⟩, by simp [intOf]⟩
        · have hv := less_lt b a j HD.out.symm hb ha hc
          have hlt1 : ¬ dgt a j < dgt b j := by omega
          go_wp2_with (first
            | (go_at_call 142; (with_reducible refine (digit_nat a _ _ _ _ _ hn hn2 h).mono ?_); rintro e w' ⟨rfl, rfl⟩)
            | (go_at_call 142; (with_reducible refine (digit_nat b _ _ _ _ _ hm hm2 h').mono ?_); rintro e w' ⟨rfl, rfl⟩))
          go_ret
          exact ⟨ret_int (by unfold cmpI; rw [if_neg (by omega), if_pos hv]), rfl⟩
/-- What the loop of the sum has after k rounds: the digits and the carry. -/
def smL (a b : List Int) : Nat → List Int
  | 0 => []
  | k + 1 => smL a b k ++ [(dgt a k + dgt b k + smC a b k) % 32768]
where smC (a b : List Int) : Nat → Int
  | 0 => 0
  | k + 1 => (dgt a k + dgt b k + smC a b k) / 32768
theorem smL_len (a b : List Int) (k : Nat) : (smL a b k).length = k := by
  induction k with
  | zero => rfl
  | succ k ih => simp [smL, ih]
theorem smC_bd (a b : List Int) (ha : okd a) (hb : okd b) (k : Nat) : 0 ≤ smL.smC a b k ∧ smL.smC a b k ≤ 1 := by
  induction k with
  | zero => simp [smL.smC]
  | succ k ih =>
    have := dgt_ok ha k
    have := dgt_ok hb k
    rw [smL.smC]
    omega
theorem smL_ok (a b : List Int) (k : Nat) : okd (smL a b k) := by
  induction k with
  | zero => exact okd_nil
  | succ k ih =>
    rw [smL, okd_append]
    refine ⟨ih, fun d hd => ?_⟩
    simp at hd
    subst hd
    omega
theorem smL_vd (a b : List Int) (k : Nat) : vd (smL a b k) + Bp k * smL.smC a b k = vd (a.take k) + vd (b.take k) := by
  induction k with
  | zero => simp [smL, smL.smC, vd]
  | succ k ih =>
    rw [smL, vd_snoc, smL_len, vd_take_succ, vd_take_succ, smL.smC, Bp, Int.mul_assoc]
    have e : Bp k * ((dgt a k + dgt b k + smL.smC a b k) % 32768) + 32768 * (Bp k * ((dgt a k + dgt b k + smL.smC a b k) / 32768)) = Bp k * dgt a k + Bp k * dgt b k + Bp k * smL.smC a b k := by
      rw [show 32768 * (Bp k * ((dgt a k + dgt b k + smL.smC a b k) / 32768)) = Bp k * (32768 * ((dgt a k + dgt b k + smL.smC a b k) / 32768)) by rw [← Int.mul_assoc, ← Int.mul_assoc, Int.mul_comm 32768 (Bp k)]]
      rw [← Int.mul_add, Int.emod_add_mul_ediv, Int.mul_add, Int.mul_add]
    omega
/-- A new slice with these digits, in their normal form. -/
def BigD (lo : Nat) (w' : World) (v : Value) (z : Int) : Prop :=
  ∃ A c l, v = .slice A l.length c ∧ l.length ≤ c ∧ c ≤ maxLen ∧ (A = none → c = 0) ∧ RdL w' lo A (l.map (Value.int .i64)) ∧ Norm l ∧ vd l = z
set_option maxHeartbeats 1000000 in
theorem sum_any (a b : List Int) (A A' : Option Addr) (n m c c' : Nat) (w : World) (hn : a.length = n) (hm : b.length = m) (hn2 : n ≤ 100000) (hm2 : m ≤ 100000) (ha : okd a) (hb : okd b) (h : RdI w w.heap.size A a) (h' : RdI w w.heap.size A' b) :
    Calls Tryz.prog 145 #[.slice A n c, .slice A' m c'] w fun e w' => ∃ v, e = .returned v ∧ BigD w.heap.size w' v (vd a + vd b) ∧ Below w.heap.size w w' := by
  go_enter Tryz.func145, Tryz.ntmps145
  go_wp2
  go_loopw [5, 6, 7] (fun v cr i wr => ∃ k : Nat, k ≤ max n m ∧ i = .int .i64 k ∧ cr = .int .i64 (smL.smC a b k) ∧ wr.ownsRow w.heap.size 3 1 v k ((smL a b k).map (Value.int .i64)) ∧ Below w.heap.size w wr) (fun _ _ i _ => max n m - (intOf i).toNat)
  case atStart => exact ⟨0, by omega, rfl, rfl, World.ownsRow_nil _ _ _ _, Below.refl _ _⟩
  case round =>
    obtain ⟨k, hk, rfl, rfl, hown, hbel⟩ := hrel
    have hC := smC_bd a b ha hb k
    have hda := dgt_ok ha k
    have hdb := dgt_ok hb k
    by_cases hlt : k < max n m
    · have hrA := h.below hbel
      have hrB := h'.below hbel
      by_cases hnm : n < m
      all_goals
        go_wp2_with (first
          | (go_at_call 142; (with_reducible refine (digit_nat a _ _ _ _ _ hn (by omega) hrA).mono ?_); rintro e w' ⟨rfl, rfl⟩)
          | (go_at_call 142; (with_reducible refine (digit_nat b _ _ _ _ _ hm (by omega) hrB).mono ?_); rintro e w' ⟨rfl, rfl⟩)
          | (at_builtin; refine app1 rfl _ _ _ rfl Tryz.underlying41 big_int_info rfl (by omega) rfl rfl hown hbel (Nat.le_refl _) hbel.size rfl ints1 (by omega) (by omega) ?_; intro v' w' hown' hbel' _ _ _; clear hown hbel hrA hrB))
        exact ⟨⟨k + 1, by omega, by go_num, rfl, by simpa [smL] using hown', hbel'⟩, by simp [intOf]; omega⟩
    · obtain rfl : k = max n m := by omega
      by_cases hnm : n < m
      all_goals
        go_wp2_with (at_builtin; refine app1 rfl _ _ _ rfl Tryz.underlying41 big_int_info rfl (by omega) rfl rfl hown hbel (Nat.le_refl _) hbel.size rfl ints1 (by omega) (by omega) ?_; intro v' w' hown' hbel' _ _ _; clear hown hbel)
        obtain ⟨A3, c3, hv3, h31, h32, hA3, h33, h34⟩ := own_form2 hown'
        have h35 := RdL.of_own (hv3 ▸ hown')
        subst hv3
        have hL : ((smL a b (max n m)).map (Value.int .i64)) ++ (#[Value.int .i64 (smL.smC a b (max n m))] : Array Value).toList = (smL a b (max n m) ++ [smL.smC a b (max n m)]).map (Value.int .i64) := by simp
        simp only at hL
        rw [hL] at h33 h35
        refine (trim_any (smL a b (max n m) ++ [smL.smC a b (max n m)]) A3 (max n m + 1) c3 w' (by simp [smL_len]) (by omega) h31 (by simpa [maxLen] using h32) hA3 h33).mono ?_
        rintro e w3 ⟨rfl, rfl⟩
        go_wp2
        go_ret
        have hok : okd (smL a b (max n m) ++ [smL.smC a b (max n m)]) := okd_append.2 ⟨smL_ok a b _, fun d hd => by simp at hd; subst hd; omega⟩
        refine ⟨_, rfl, ⟨A3, c3, tr (smL a b (max n m) ++ [smL.smC a b (max n m)]), rfl, ?_, h32, hA3, ?_, tr_norm hok, ?_⟩, hbel'⟩
        · have := tr_le (smL a b (max n m) ++ [smL.smC a b (max n m)]); simp [smL_len] at this; omega
        · rw [tr_take, List.map_take]; exact h35.take _
        · rw [tr_vd, vd_snoc, smL_len, smL_vd, List.take_of_length_le (by omega), List.take_of_length_le (by omega)]
/-- What the loop of the rest has after k rounds: the digits and the borrow. -/
def rsL (a b : List Int) : Nat → List Int
  | 0 => []
  | k + 1 => rsL a b k ++ [(dgt a k - dgt b k - rsB a b k) % 32768]
where rsB (a b : List Int) : Nat → Int
  | 0 => 0
  | k + 1 => if dgt a k - dgt b k - rsB a b k < 0 then 1 else 0
theorem rsL_len (a b : List Int) (k : Nat) : (rsL a b k).length = k := by
  induction k with
  | zero => rfl
  | succ k ih => simp [rsL, ih]
theorem rsB_bd (a b : List Int) (k : Nat) : 0 ≤ rsL.rsB a b k ∧ rsL.rsB a b k ≤ 1 := by
  cases k with
  | zero => simp [rsL.rsB]
  | succ k => rw [rsL.rsB]; split <;> omega
theorem rsL_ok (a b : List Int) (k : Nat) : okd (rsL a b k) := by
  induction k with
  | zero => exact okd_nil
  | succ k ih =>
    rw [rsL, okd_append]
    refine ⟨ih, fun d hd => ?_⟩
    simp at hd
    subst hd
    omega
theorem rsL_vd (a b : List Int) (ha : okd a) (hb : okd b) (k : Nat) : vd (rsL a b k) - Bp k * rsL.rsB a b k = vd (a.take k) - vd (b.take k) := by
  induction k with
  | zero => simp [rsL, rsL.rsB, vd]
  | succ k ih =>
    have h1 := dgt_ok ha k
    have h2 := dgt_ok hb k
    have h3 := rsB_bd a b k
    rw [rsL, vd_snoc, rsL_len, vd_take_succ, vd_take_succ, rsL.rsB, Bp, Int.mul_assoc]
    generalize dgt a k = x at *
    generalize dgt b k = y at *
    generalize rsL.rsB a b k = c at *
    have e : Bp k * ((x - y - c) % 32768) - 32768 * (Bp k * (if x - y - c < 0 then 1 else 0)) = Bp k * x - Bp k * y - Bp k * c := by
      rw [show 32768 * (Bp k * (if x - y - c < 0 then (1:Int) else 0)) = Bp k * (32768 * (if x - y - c < 0 then 1 else 0)) by rw [← Int.mul_assoc, ← Int.mul_assoc, Int.mul_comm 32768 (Bp k)]]
      rw [← Int.mul_sub, ← Int.mul_sub, ← Int.mul_sub]
      congr 1
      split <;> omega
    omega
theorem rsL_done (a b : List Int) (ha : okd a) (hb : okd b) (hl : b.length ≤ a.length) (hv : vd b ≤ vd a) : vd (rsL a b a.length) = vd a - vd b := by
  have h1 := rsL_vd a b ha hb a.length
  rw [List.take_of_length_le (Nat.le_refl _), List.take_of_length_le hl] at h1
  have h2 := rsB_bd a b a.length
  have h3 := vd_lt (rsL_ok a b a.length)
  rw [rsL_len] at h3
  rcases (show rsL.rsB a b a.length = 0 ∨ rsL.rsB a b a.length = 1 by omega) with h4 | h4 <;> rw [h4] at h1 <;> omega
set_option maxHeartbeats 1000000 in
theorem rest_any (a b : List Int) (A A' : Option Addr) (n m c c' : Nat) (w : World) (hn : a.length = n) (hm : b.length = m) (hn2 : n ≤ 100000) (hmn : m ≤ n) (ha : okd a) (hb : okd b) (hv : vd b ≤ vd a) (h : RdI w w.heap.size A a) (h' : RdI w w.heap.size A' b) :
    Calls Tryz.prog 144 #[.slice A n c, .slice A' m c'] w fun e w' => ∃ v, e = .returned v ∧ BigD w.heap.size w' v (vd a - vd b) ∧ Below w.heap.size w w' := by
  go_enter Tryz.func144, Tryz.ntmps144
  go_wp2
  go_loopw [5, 6, 7] (fun v cr i wr => ∃ k : Nat, k ≤ n ∧ i = .int .i64 k ∧ cr = .int .i64 (rsL.rsB a b k) ∧ wr.ownsRow w.heap.size 3 1 v k ((rsL a b k).map (Value.int .i64)) ∧ Below w.heap.size w wr) (fun _ _ i _ => n - (intOf i).toNat)
  case atStart => exact ⟨0, by omega, rfl, rfl, World.ownsRow_nil _ _ _ _, Below.refl _ _⟩
  case round =>
    obtain ⟨k, hk, rfl, rfl, hown, hbel⟩ := hrel
    have hC := rsB_bd a b k
    have hda := dgt_ok ha k
    have hdb := dgt_ok hb k
    by_cases hlt : k < n
    · have hrA := h.below hbel
      have hrB := h'.below hbel
      have HB1 : Hid (rsL.rsB a b (k + 1) = if dgt a k - dgt b k - rsL.rsB a b k < 0 then 1 else 0) := rfl
      have HL1 : Hid (rsL a b (k + 1) = rsL a b k ++ [(dgt a k - dgt b k - rsL.rsB a b k) % 32768]) := rfl
      by_cases hneg : dgt a k - dgt b k - rsL.rsB a b k < 0
      all_goals
        go_wp2_with (first
          | (go_at_call 142; (with_reducible refine (digit_nat a _ _ _ _ _ hn (by omega) hrA).mono ?_); rintro e w' ⟨rfl, rfl⟩)
          | (go_at_call 142; (with_reducible refine (digit_nat b _ _ _ _ _ hm (by omega) hrB).mono ?_); rintro e w' ⟨rfl, rfl⟩)
          | (at_builtin; refine app1 rfl _ _ _ rfl Tryz.underlying41 big_int_info rfl (by omega) rfl rfl hown hbel (Nat.le_refl _) hbel.size rfl ints1 (by omega) (by omega) ?_; intro v' w' hown' hbel' _ _ _; clear hown hbel hrA hrB))
      · exact ⟨⟨k + 1, by omega, by go_num, by rw [HB1.out, if_pos hneg], by rw [HL1.out, show (dgt a k - dgt b k - rsL.rsB a b k) % 32768 = dgt a k - dgt b k - rsL.rsB a b k + 32768 by omega]; simpa using hown', hbel'⟩, by simp [intOf]; omega⟩
      · exact ⟨⟨k + 1, by omega, by go_num, by rw [HB1.out, if_neg (by omega)], by rw [HL1.out, show (dgt a k - dgt b k - rsL.rsB a b k) % 32768 = dgt a k - dgt b k - rsL.rsB a b k by omega]; simpa using hown', hbel'⟩, by simp [intOf]; omega⟩
    · obtain rfl : k = n := by omega
      obtain ⟨A3, c3, rfl, h31, h32, hA3, h33, h34⟩ := own_form2 hown
      have h35 := RdL.of_own hown
      go_wp2_with fail
      refine (trim_any (rsL a b k) A3 k c3 wr (rsL_len a b k) (by omega) h31 (by simpa [maxLen] using h32) hA3 h33).mono ?_
      rintro e w3 ⟨rfl, rfl⟩
      go_wp2
      go_ret
      refine ⟨_, rfl, ⟨A3, c3, tr (rsL a b k), rfl, ?_, h32, hA3, ?_, tr_norm (rsL_ok a b k), ?_⟩, hbel⟩
      · have := tr_le (rsL a b k); rw [rsL_len] at this; omega
      · rw [tr_take, List.map_take]; exact h35.take _
      · rw [tr_vd, ← hn]; exact rsL_done a b ha hb (by omega) hv
set_option maxHeartbeats 400000 in
theorem made_big (g : Bool) (A : Option Addr) (n c : Nat) (w : World) :
    Calls Tryz.prog 139 #[.bool g, .slice A n c] w fun e w' => e = .returned (.agg #[.bool (g && decide (0 < n)), .slice A n c]) ∧ Below w.heap.size w w' := by
  cases g
  · go_enter Tryz.func139, Tryz.ntmps139
    go_wp2
    go_returns
    exact ⟨rfl, by go_grown⟩
  · by_cases hn : 0 < n
    all_goals
      go_enter Tryz.func139, Tryz.ntmps139
      go_wp2
      go_returns
      exact ⟨by simp [hn], by go_grown⟩
end Go.Proofs.YtibmhabipghjlaaGreat
end
section
set_option linter.unusedVariables false
namespace Go.Proofs.YtibmhabipghjlaaGreat
open Go.RowKit
theorem big_size : (Tryz.prog.info? 138).map (·.size) = some 2 := by kernel_rfl
@[go_sem] theorem field_big0 (s : Bool) (A : Option Addr) (n c : Nat) (w : World) : (Instr.field 138 (.agg #[.bool s, .slice A n c]) 0).run Tryz.prog w = .ok (.bool s) w :=
  run_field1 (P := Tryz.prog) (T := 138) (i := 0) Tryz.underlying138 rfl Tryz.underlying4 rfl #[.bool s, .slice A n c] (.bool s) rfl w
@[go_sem] theorem field_big1 (s : Bool) (A : Option Addr) (n c : Nat) (w : World) : (Instr.field 138 (.agg #[.bool s, .slice A n c]) 1).run Tryz.prog w = .ok (.slice A n c) w :=
  run_field1 (P := Tryz.prog) (T := 138) (i := 1) Tryz.underlying138 rfl Tryz.underlying41 rfl #[.bool s, .slice A n c] (.slice A n c) rfl w
theorem stBig {ops : Array Oper} {rest : List Oper} {o : Oper} {a : Act} {w : World} {Q : Exit → Act → World → Prop} (hgd : o.guard = none) (x y : Operand) (ho : o.op = .store 138 x y)
    {g : Nat} {old : Array Value} (hK : Bk w g 138 old) (hold : old.size = 2) {s : Bool} {A : Option Addr} {n c : Nat} (hx : a.eval x = .pointer (some ⟨g, 0, none⟩)) (hy : a.eval y = .agg #[.bool s, .slice A n c])
    (h : ∀ w', Bk w' g 138 #[.bool s, .slice A n c] → w.grownBy w' (some g) → w'.heap.size = w.heap.size → wpList Tryz.prog ops Q rest (a.put o.dst undef) w') : wpList Tryz.prog ops Q (o :: rest) a w :=
  stB hgd _ x y ho hK _ hx hy big_size (by simpa using hold) (by simp [Value.oneCell']) h
theorem ldBig {ops : Array Oper} {rest : List Oper} {o : Oper} {a : Act} {w : World} {Q : Exit → Act → World → Prop} (hgd : o.guard = none) (x : Operand) (ho : o.op = .load 138 x)
    {g : Nat} {s : Bool} {A : Option Addr} {n c : Nat} (hK : Bk w g 138 #[.bool s, .slice A n c]) (hx : a.eval x = .pointer (some ⟨g, 0, none⟩))
    (h : wpList Tryz.prog ops Q rest (a.put o.dst (.agg #[.bool s, .slice A n c])) w) : wpList Tryz.prog ops Q (o :: rest) a w :=
  ldB hgd _ x ho hK hx Tryz.underlying138 rfl big_size h
theorem res_big {fn : Func} {p : Tmp} (h : fn.results = #[.cell p 138]) {tmps : Array Value} {w : World} {g : Nat} {s : Bool} {A : Option Addr} {n c : Nat} (hK : Bk w g 138 #[.bool s, .slice A n c])
    (hp : tmps.getD p undef = .pointer (some ⟨g, 0, none⟩)) : (results fn tmps).run Tryz.prog w = .ok (.agg #[.bool s, .slice A n c]) w :=
  res_cell h hK hp Tryz.underlying138 rfl big_size
end Go.Proofs.YtibmhabipghjlaaGreat
end
section
set_option linter.unusedVariables false
namespace Go.Proofs.YtibmhabipghjlaaGreat
open Go.RowKit
/-- v is the number z: its sign, and the digits of its size, as they lie in w, in a block from lo on. -/
def BigN (lo : Nat) (w : World) (v : Value) (z : Int) : Prop :=
  ∃ A c l, v = .agg #[.bool (decide (z < 0)), .slice A l.length c] ∧ l.length ≤ c ∧ c ≤ maxLen ∧ (A = none → c = 0) ∧ RdL w lo A (l.map (Value.int .i64)) ∧ Norm l ∧ vd l = (z.natAbs : Int)
theorem BigN.less {lo lo' : Nat} {w : World} {v : Value} {z : Int} (h : BigN lo w v z) (hl : lo' ≤ lo) : BigN lo' w v z := by
  obtain ⟨A, c, l, h1, h2, h3, h4, h5, h6, h7⟩ := h
  exact ⟨A, c, l, h1, h2, h3, h4, h5.less hl, h6, h7⟩
theorem BigN.keep {lo : Nat} {w w' : World} {B : Nat} {v : Value} {z : Int} (h : BigN lo w v z) (hb : Below B w w') (hB : w.heap.size ≤ B) : BigN lo w' v z := by
  obtain ⟨A, c, l, h1, h2, h3, h4, h5, h6, h7⟩ := h
  exact ⟨A, c, l, h1, h2, h3, h4, h5.below hb hB, h6, h7⟩
theorem BigN.nx {lo : Nat} {w w' : World} {v : Value} {z : Int} (h : BigN lo w v z) (hb : Below w.heap.size w w') : BigN lo w' v z := h.keep hb (Nat.le_refl _)
theorem BigN.alloc {lo : Nat} {w : World} {v : Value} {z : Int} (h : BigN lo w v z) (o : Obj) : BigN lo (w.alloc o) v z :=
  h.keep ((Below.refl w.heap.size w).alloc (Nat.le_refl _) o) (Nat.le_refl _)
theorem BigN.drew {lo : Nat} {w : World} {v : Value} {z : Int} (h : BigN lo w v z) : BigN lo w.drew v z := h.keep (Below.refl w.heap.size w).drew (Nat.le_refl _)
theorem BigN.grown {lo : Nat} {w w' : World} {v : Value} {z : Int} {g : Nat} (h : BigN lo w v z) (hg : w.grownBy w' (some g)) (hr : g < lo ∨ w.heap.size ≤ g) : BigN lo w' v z := by
  obtain ⟨A, c, l, h1, h2, h3, h4, h5, h6, h7⟩ := h
  exact ⟨A, c, l, h1, h2, h3, h4, h5.grown hg (fun g' e => by injection e with e; omega), h6, h7⟩
/-- Small enough: fewer than 600 bits. -/
def Sm (z : Int) : Prop := (z.natAbs : Int) < Bp 40
theorem sm_len {z : Int} {l : List Int} (h : Sm z) (hn : Norm l) (hv : vd l = (z.natAbs : Int)) : l.length ≤ 40 := norm_len hn (by rw [hv]; exact h)
theorem sm_of {z : Int} (h : -1606938044258990275541962092341162602522202993782792835301376 ≤ z) (h' : z ≤ 1606938044258990275541962092341162602522202993782792835301376) : Sm z := by
  unfold Sm; rw [Bp40]; omega
set_option maxHeartbeats 1000000 in
theorem uns_any (x : Int) (w : World) (h0 : 0 ≤ x) (h1 : x ≤ 18446744073709551615) :
    Calls Tryz.prog 113 #[.int .u64 x] w fun e w' => ∃ v, e = .returned v ∧ BigN w.heap.size w' v x ∧ Below w.heap.size w w' := by
  have hB5 := Bp5
  go_enter Tryz.func113, Tryz.ntmps113
  go_wp2
  go_loopw [0, 3] (fun y v wr => ∃ (yy : Int) (l : List Int), y = .int .u64 yy ∧ 0 ≤ yy ∧ yy ≤ 18446744073709551615 ∧ okd l ∧ vd l + Bp l.length * yy = x ∧ (yy = 0 → Norm l) ∧ wr.ownsRow (w.heap.size + 1) 3 1 v l.length (l.map (Value.int .i64)) ∧ Below (w.heap.size + 1) (w.alloc (.cells #[.bool false, .slice none 0 0] 138)) wr) (fun y _ _ => (intOf y).toNat)
  case atStart => exact ⟨x, [], rfl, h0, h1, okd_nil, by simp [vd, Bp], fun _ => norm_nil, World.ownsRow_nil _ _ _ _, Below.refl _ _⟩
  case round =>
    obtain ⟨yy, l, rfl, hy0, hy1, hok, hv, hnm, hown, hbel⟩ := hrel
    have hsz := hbel.size
    simp only [World.size_alloc] at hsz
    by_cases hlt : 0 < yy
    · have hl5 : l.length < 5 := by
        have hp := Bp_pos l.length
        have := Int.mul_le_mul_of_nonneg_left (show 1 ≤ yy by omega) (by omega : 0 ≤ Bp l.length)
        have hv0 := vd_nonneg hok
        rcases Nat.lt_or_ge l.length 5 with h | h
        · exact h
        · have := Bp_mono h; omega
      have HV : Hid (vd (l ++ [yy % 32768]) + Bp (l ++ [yy % 32768]).length * (yy / 32768) = x) := by
        show _ = _
        rw [vd_snoc, List.length_append, List.length_singleton, Bp1s, Int.mul_assoc, ← hv]
        have : Bp l.length * (yy % 32768) + 32768 * (Bp l.length * (yy / 32768)) = Bp l.length * yy := by
          rw [show 32768 * (Bp l.length * (yy / 32768)) = Bp l.length * (32768 * (yy / 32768)) by rw [← Int.mul_assoc, ← Int.mul_assoc, Int.mul_comm 32768]]
          rw [← Int.mul_add, Int.emod_add_mul_ediv]
        omega
      have HN : Hid (yy / 32768 = 0 → Norm (l ++ [yy % 32768])) := by
        intro h
        refine ⟨okd_append.2 ⟨hok, fun d hd => by simp at hd; subst hd; omega⟩, fun d hd => ?_⟩
        simp at hd; subst hd; omega
      have HO : Hid (okd (l ++ [yy % 32768])) := okd_append.2 ⟨hok, fun d hd => by simp at hd; subst hd; omega⟩
      clear hv hnm hok
      go_wp2_with (at_builtin; refine app1 rfl _ _ _ rfl Tryz.underlying41 big_int_info rfl (by omega) rfl rfl hown hbel (Nat.le_refl _) hsz rfl ints1 (by omega) (by omega) ?_; intro v' w' hown' hbel' _ _ _; clear hown hbel)
      exact ⟨⟨yy / 32768, l ++ [yy % 32768], rfl, by omega, by omega, HO.out, HV.out, HN.out, by simpa using hown', hbel'⟩, by simp [intOf]; omega⟩
    · have hy : yy = 0 := by omega
      have hN := hnm hy
      subst hy
      have hvd : vd l = x := by simpa using hv
      clear hnm hv
      have HV := Lib.hid hvd
      clear hvd
      obtain ⟨A3, c3, rfl, h31, h32, hA3, h33, h34⟩ := own_form2 hown
      have hK : Bk wr w.heap.size 138 #[.bool false, .slice none 0 0] := (Bk.new w _ _).below hbel (by omega)
      go_wp2_with (refine stBig rfl _ _ rfl hK rfl rfl rfl ?_; intro w6 hK6 hg6 hs6)
      refine bodyPost_ret (res_big rfl hK6 rfl) rfl ?_
      have h6 := (RdL.of_own hown).grown hg6 (fun g e => .inl (by injection e; omega))
      have hbz : Below w.heap.size w wr := ((Below.refl _ w).alloc (Nat.le_refl _) _).trans (hbel.mono (by omega))
      have hneg : decide (x < 0) = false := by simp; omega
      exact ⟨_, rfl, ⟨A3, c3, l, by rw [hneg], h31, h32, hA3, h6.less (by omega), hN, by rw [HV.out]; omega⟩, below_grown hbz hg6 (Nat.le_refl _) (by omega)⟩
set_option maxHeartbeats 1000000 in
theorem of_any (x : Int) (w : World) (h0 : -9223372036854775808 ≤ x) (h1 : x ≤ 9223372036854775807) :
    Calls Tryz.prog 80 #[.int .i64 x] w fun e w' => ∃ v, e = .returned v ∧ BigN w.heap.size w' v x ∧ Below w.heap.size w w' := by
  by_cases hx : x < 0
  · go_enter Tryz.func80, Tryz.ntmps80
    go_wp2_with fail
    have e : IntKind.u64.wrap (-(x + 1)) = -(x + 1) := by rw [IntKind.wrap_u64]; omega
    rw [show -(x + 1) + 1 = -x by omega]
    refine (uns_any (-x) _ (by omega) (by omega)).mono ?_
    rintro e w1 ⟨v, rfl, ⟨A, c, l, rfl, h2, h3, h4, h5, h6, h7⟩, hb⟩
    have hK := (Bk.new w 138 #[.bool false, .slice none 0 0]).nx hb
    have hz := hb.size
    simp only [World.size_alloc] at hz
    have hneg : decide (-x < 0) = false := by simp; omega
    rw [hneg]
    clear hneg
    go_wp2_with (refine stBig rfl _ _ rfl (hK.alloc _) rfl rfl rfl ?_; intro w6 hK6 hg6 hs6)
    refine bodyPost_ret (res_big rfl hK6 rfl) rfl ?_
    have hbz : Below w.heap.size w w1 := ((Below.refl _ w).alloc (Nat.le_refl _) _).trans (hb.mono (by simp))
    have hneg : decide (x < 0) = true := by simp; omega
    refine ⟨_, rfl, ⟨A, c, l, by rw [hneg], h2, h3, h4, ?_, h6, by omega⟩, below_grown (hbz.alloc (by omega) _) hg6 (Nat.le_refl _) (by simp; omega)⟩
    exact ((h5.below ((Below.refl w1.heap.size w1).alloc (Nat.le_refl _) _) (Nat.le_refl _)).grown hg6 (fun g e => .inl (by injection e with e; simp; omega))).less (by simp)
  · go_enter Tryz.func80, Tryz.ntmps80
    have hneg : decide (x < 0) = false := by simp; omega
    go_wp2_with fail
    refine (uns_any x _ (by omega) (by omega)).mono ?_
    rintro e w1 ⟨v, rfl, ⟨A, c, l, rfl, h2, h3, h4, h5, h6, h7⟩, hb⟩
    have hK := (Bk.new w 138 #[.bool false, .slice none 0 0]).nx hb
    have hz := hb.size
    simp only [World.size_alloc] at hz
    go_wp2_with (refine stBig rfl _ _ rfl hK rfl rfl rfl ?_; intro w6 hK6 hg6 hs6)
    refine bodyPost_ret (res_big rfl hK6 rfl) rfl ?_
    have hbz : Below w.heap.size w w1 := ((Below.refl _ w).alloc (Nat.le_refl _) _).trans (hb.mono (by simp))
    have hng0 : decide (x < 0) = false := by simp; omega
    refine ⟨_, rfl, ⟨A, c, l, by rw [hng0], h2, h3, h4, ?_, h6, h7⟩, below_grown hbz hg6 (Nat.le_refl _) (by omega)⟩
    exact (h5.grown hg6 (fun g e => .inl (by injection e with e; simp; omega))).less (by simp)
theorem abs_of (l : List Int) (z : Int) (hv : vd l = (z.natAbs : Int)) : z = if z < 0 then - vd l else vd l := by split <;> omega
set_option maxHeartbeats 1000000 in
theorem neg_any (va : Value) (x : Int) (w : World) {lo : Nat} (ha : BigN lo w va x) (hs : Sm x) :
    Calls Tryz.prog 115 #[va] w fun e w' => ∃ v, e = .returned v ∧ BigN lo w' v (-x) ∧ Below w.heap.size w w' := by
  obtain ⟨A, c, l, rfl, h2, h3, h4, h5, h6, h7⟩ := ha
  generalize hsx : decide (x < 0) = sx
  have HSX := Lib.hid hsx
  clear hsx
  go_enter Tryz.func115, Tryz.ntmps115
  go_wp2_with fail
  refine (made_big (!sx) A l.length c _).mono ?_
  rintro e w1 ⟨rfl, hb⟩
  have hz := hb.size
  simp only [World.size_alloc] at hz
  have hK := (Bk.new (w.alloc (.cells #[.bool sx, .slice A l.length c] 138)) 138 #[.bool false, .slice none 0 0]).nx hb
  simp only [World.size_alloc] at hK
  go_wp2_with (refine stBig rfl _ _ rfl hK rfl rfl rfl ?_; intro w6 hK6 hg6 hs6)
  refine bodyPost_ret (res_big rfl hK6 rfl) rfl ?_
  have hbz : Below w.heap.size w w1 := (((Below.refl _ w).alloc (Nat.le_refl _) _).alloc (by simp) _).trans (hb.mono (by simp; omega))
  have hneg : (!sx && decide (0 < l.length)) = decide (-x < 0) := by
    rw [← HSX.out]
    have := norm_zero h6
    rw [h7] at this
    by_cases hl : l = []
    · have := this.1 hl; subst hl; simp; omega
    · have hn : ¬ (x.natAbs : Int) = 0 := fun e => hl (this.2 e)
      have hp := List.length_pos_iff.2 hl
      rw [Bool.eq_iff_iff]; simp [hp]; omega
  have hb6 := below_grown hbz hg6 (by simp) (by omega)
  exact ⟨_, rfl, ⟨A, c, l, by rw [← hneg], h2, h3, h4, h5.below hb6 (Nat.le_refl _), h6, by rw [h7]; omega⟩, hb6⟩
set_option maxRecDepth 100000 in
set_option maxHeartbeats 2000000 in
theorem add_any (va vb : Value) (x y : Int) (w : World) {lo lo' : Nat} (ha : BigN lo w va x) (hb : BigN lo' w vb y) (hsa : Sm x) (hsb : Sm y) :
    Calls Tryz.prog 112 #[va, vb] w fun e w' => ∃ v, e = .returned v ∧ BigN w.heap.size w' v (x + y) ∧ Below w.heap.size w w' := by
  obtain ⟨A, c, l, rfl, h2, h3, h4, h5, h6, h7⟩ := ha
  obtain ⟨A', c', l', rfl, h2', h3', h4', h5', h6', h7'⟩ := hb
  have hl := sm_len hsa h6 h7
  have ok1 := h6.1
  have ok2 := h6'.1
  have H7 := Lib.hid h7
  have H7' := Lib.hid h7'
  clear h7 h7'
  have hs1 := h5.rd
  have hs2 := h5'.rd
  have hl' := sm_len hsb h6' H7'.out
  by_cases hsg : decide (x < 0) = decide (y < 0)
  · have hsb2 : (decide (x < 0) == decide (y < 0)) = true := by simpa using hsg
    have HSG := Lib.hid hsg
    clear hsg
    generalize hgx : decide (x < 0) = sx at *
    generalize hgy : decide (y < 0) = sy at *
    have HGX := Lib.hid hgx
    have HGY := Lib.hid hgy
    clear hgx hgy
    go_enter Tryz.func112, Tryz.ntmps112
    go_wp2_with (go_at_call 143; refine (less_any l l' A A' _ _ _ _ _ rfl rfl (by omega) (by omega) ok1 ok2 (B := w.heap.size) (B' := w.heap.size) (by exact (((hs1.alloc (Nat.le_refl _) _).alloc (by simp) _).alloc (by simp; omega) _)) (by exact (((hs2.alloc (Nat.le_refl _) _).alloc (by simp) _).alloc (by simp; omega) _))).mono ?_; rintro e w1 ⟨rfl, rfl⟩)
    generalize hW : ((w.alloc (Obj.cells #[Value.bool sx, Value.slice A l.length c] 138)).alloc (Obj.cells #[Value.bool sy, Value.slice A' l'.length c'] 138)).alloc (Obj.cells #[Value.bool false, Value.slice none 0 0] 138) = W
    have hb0 : Below w.heap.size w W := by subst hW; go_grown
    have hr1 : RdI W.drew W.drew.heap.size A l := (h5.below hb0 (Nat.le_refl _)).rd
    have hr2 : RdI W.drew W.drew.heap.size A' l' := (h5'.below hb0 (Nat.le_refl _)).rd
    have hK0 : Bk W w.heap.size 138 #[.bool sx, .slice A l.length c] := by subst hW; exact ((Bk.new _ _ _).alloc _).alloc _
    have hK1 : Bk W (w.heap.size + 1) 138 #[.bool sy, .slice A' l'.length c'] := by subst hW; simpa using (Bk.new (w.alloc _) 138 #[Value.bool sy, Value.slice A' l'.length c']).alloc _
    have hK2 : Bk W (w.heap.size + 1 + 1) 138 #[.bool false, .slice none 0 0] := by subst hW; simpa using (Bk.new ((w.alloc _).alloc _) 138 #[.bool false, .slice none 0 0])
    obtain ⟨c00, c01⟩ := hK0.cell2
    obtain ⟨c10, c11⟩ := hK1.cell2
    have l0 := hK0.lt
    have l1 := hK1.lt
    have l2 := hK2.lt
    have HW := Lib.hid hW
    clear hW
    have hK0d := hK0.drew
    have hK1d := hK1.drew
    have hK2d := hK2.drew
    go_region_held3 (fun w' => w'.cell? ⟨w.heap.size, 0, none⟩ = some (.bool sx) ∧ w'.cell? ⟨w.heap.size, 1, none⟩ = some (.slice A l.length c) ∧ w'.cell? ⟨w.heap.size + 1, 1, none⟩ = some (.slice A' l'.length c'))
      (first | exact ⟨c00, c01, c11⟩ | exact ⟨c00', c01', c11'⟩ | exact ⟨c00'', c01'', c11''⟩ | (refine ⟨?_, ?_, ?_⟩ <;> go_simp))
      (first
      | (go_at_call 145; (with_reducible refine (sum_any l l' A A' _ _ _ _ _ rfl rfl (by omega) (by omega) ok1 ok2 hr1 hr2).mono ?_); rintro e w1 ⟨v1, rfl, ⟨A1, c1, m1, rfl, g2, g3, g4, g5, g6, g7⟩, hb1⟩; obtain ⟨c00', c01'⟩ := (hK0d.nx hb1).cell2; obtain ⟨c10', c11'⟩ := (hK1d.nx hb1).cell2; have hK2' := hK2d.nx hb1)
      | (go_at_call 139; refine (made_big _ A1 _ c1 _).mono ?_; rintro e w2 ⟨rfl, hb2⟩; have hK22 := hK2'.nx hb2; obtain ⟨c20, c21⟩ := hK22.cell2; have f20 := hK22.frozen 0; have f21 := hK22.frozen 1; obtain ⟨c00'', c01''⟩ := ((hK0d.nx hb1).nx hb2).cell2; obtain ⟨c10'', c11''⟩ := ((hK1d.nx hb1).nx hb2).cell2))
    go_wp2
    refine bodyPost_ret (res_big rfl (hK22.set2 _ _) rfl) rfl ?_
    have hz1 := hb1.size
    have hz2 := hb2.size
    simp only [World.size_drew] at hz1
    have hsgn : (sx && decide (0 < m1.length)) = decide (x + y < 0) := by
      have hn := norm_zero g6
      rw [g7, H7.out, H7'.out] at hn
      have e1 := HGX.out
      have e2 := HGY.out
      rw [HSG.out] at e1
      rw [← e2] at e1
      by_cases hx : x < 0
      · have hy : y < 0 := by simpa [hx] using e1
        have : m1 ≠ [] := fun e => by have := hn.1 e; omega
        rw [HSG.out, ← e2]
        simp [hy, List.length_pos_iff.2 this]; omega
      · have hy : ¬ y < 0 := by simpa [hx] using e1
        rw [HSG.out, ← e2]
        simp [hy]; omega
    have hbW : Below w.heap.size w w2 := ((hb0.drew).trans (hb1.mono (by simp; omega))).trans (hb2.mono (by omega))
    refine ⟨_, rfl, ⟨A1, c1, m1, by rw [← hsgn], g2, g3, g4, ?_, g6, ?_⟩, below_of_gb hbW (gb2 w2 _ _ _) (by omega) (by omega)⟩
    · exact ((g5.below hb2 (Nat.le_refl _)).grown (gb2 w2 _ _ _) (fun g e => .inl (by injection e with e; simp; omega))).less (by simp; omega)
    · rw [g7, H7.out, H7'.out]
      have e1 := HGX.out
      have e2 := HGY.out
      rw [HSG.out, ← e2] at e1
      by_cases hx : x < 0
      · have hy : y < 0 := by simpa [hx] using e1
        omega
      · have hy : ¬ y < 0 := by simpa [hx] using e1
        omega
  · have hsb2 : (decide (x < 0) == decide (y < 0)) = false := by simpa using hsg
    have hxy : (x < 0 ∧ 0 ≤ y) ∨ (0 ≤ x ∧ y < 0) := by
      by_cases h1 : x < 0 <;> by_cases h2 : y < 0 <;> simp_all <;> omega
    clear hsg
    rcases (show vd l' ≤ vd l ∨ vd l < vd l' by omega) with hge | hgt
    · have hcm : 0 ≤ cmpI (vd l) (vd l') := by unfold cmpI; rw [if_neg (by omega)]; split <;> omega
      have hlen : l'.length ≤ l.length := norm_len h6' (by have := vd_lt ok1; omega)
      generalize hgx : decide (x < 0) = sx at *
      generalize hgy : decide (y < 0) = sy at *
      have HGX := Lib.hid hgx
      have HGY := Lib.hid hgy
      clear hgx hgy
      go_enter Tryz.func112, Tryz.ntmps112
      go_wp2_with fail
      refine (less_any l l' A A' _ _ _ _ _ rfl rfl (by omega) (by omega) ok1 ok2 (B := w.heap.size) (B' := w.heap.size) ?_ ?_).mono ?_
      · exact (((hs1.alloc (Nat.le_refl _) _).alloc (by simp) _).alloc (by simp; omega) _)
      · exact (((hs2.alloc (Nat.le_refl _) _).alloc (by simp) _).alloc (by simp; omega) _)
      rintro e w1 ⟨rfl, rfl⟩
      clear hsb2
      go_wp2_with fail
      generalize hW : ((w.alloc (Obj.cells #[Value.bool sx, Value.slice A l.length c] 138)).alloc (Obj.cells #[Value.bool sy, Value.slice A' l'.length c'] 138)).alloc (Obj.cells #[Value.bool false, Value.slice none 0 0] 138) = W
      have hb0 : Below w.heap.size w W := by subst hW; go_grown
      have hr1 : RdI W.drew W.drew.heap.size A l := (h5.below hb0 (Nat.le_refl _)).rd
      have hr2 : RdI W.drew W.drew.heap.size A' l' := (h5'.below hb0 (Nat.le_refl _)).rd
      have hK0 : Bk W w.heap.size 138 #[.bool sx, .slice A l.length c] := by subst hW; exact ((Bk.new _ _ _).alloc _).alloc _
      have hK1 : Bk W (w.heap.size + 1) 138 #[.bool sy, .slice A' l'.length c'] := by subst hW; simpa using (Bk.new (w.alloc _) 138 #[Value.bool sy, Value.slice A' l'.length c']).alloc _
      have hK2 : Bk W (w.heap.size + 1 + 1) 138 #[.bool false, .slice none 0 0] := by subst hW; simpa using (Bk.new ((w.alloc _).alloc _) 138 #[.bool false, .slice none 0 0])
      obtain ⟨c00, c01⟩ := hK0.cell2
      obtain ⟨c10, c11⟩ := hK1.cell2
      have l0 := hK0.lt
      have l1 := hK1.lt
      have l2 := hK2.lt
      have HW := Lib.hid hW
      clear hW
      have hK0d := hK0.drew
      have hK1d := hK1.drew
      have hK2d := hK2.drew
      go_region_held3 (fun w' => w'.cell? ⟨w.heap.size, 0, none⟩ = some (.bool sx) ∧ w'.cell? ⟨w.heap.size, 1, none⟩ = some (.slice A l.length c) ∧ w'.cell? ⟨w.heap.size + 1, 1, none⟩ = some (.slice A' l'.length c'))
        (first | exact ⟨c00, c01, c11⟩ | exact ⟨c00', c01', c11'⟩ | exact ⟨c00'', c01'', c11''⟩ | (refine ⟨?_, ?_, ?_⟩ <;> go_simp))
        (first
        | (go_at_call 144; (with_reducible refine (rest_any l l' A A' _ _ _ _ _ rfl rfl (by omega) hlen ok1 ok2 hge hr1 hr2).mono ?_); rintro e w1 ⟨v1, rfl, ⟨A1, c1, m1, rfl, g2, g3, g4, g5, g6, g7⟩, hb1⟩; obtain ⟨c00', c01'⟩ := (hK0d.nx hb1).cell2; obtain ⟨c10', c11'⟩ := (hK1d.nx hb1).cell2; have hK2' := hK2d.nx hb1)
        | (go_at_call 139; refine (made_big _ A1 _ c1 _).mono ?_; rintro e w2 ⟨rfl, hb2⟩; have hK22 := hK2'.nx hb2; obtain ⟨c20, c21⟩ := hK22.cell2; have f20 := hK22.frozen 0; have f21 := hK22.frozen 1; obtain ⟨c00'', c01''⟩ := ((hK0d.nx hb1).nx hb2).cell2; obtain ⟨c10'', c11''⟩ := ((hK1d.nx hb1).nx hb2).cell2))
      go_wp2
      refine bodyPost_ret (res_big rfl (hK22.set2 _ _) rfl) rfl ?_
      have hz1 := hb1.size
      have hz2 := hb2.size
      simp only [World.size_drew] at hz1
      have hn := norm_zero g6
      rw [g7, H7.out, H7'.out] at hn
      rw [H7.out, H7'.out] at hge
      have hsgn : (sx && decide (0 < m1.length)) = decide (x + y < 0) := by
        rw [← HGX.out]
        by_cases hm : m1 = []
        · have := hn.1 hm
          subst hm
          simp
          omega
        · have h1 := List.length_pos_iff.2 hm
          have h2 : ¬ _ := fun e => hm (hn.2 e)
          simp [h1]; omega
      have hbW : Below w.heap.size w w2 := ((hb0.drew).trans (hb1.mono (by simp; omega))).trans (hb2.mono (by omega))
      refine ⟨_, rfl, ⟨A1, c1, m1, by rw [← hsgn], g2, g3, g4, ?_, g6, ?_⟩, below_of_gb hbW (gb2 w2 _ _ _) (by omega) (by omega)⟩
      · exact ((g5.below hb2 (Nat.le_refl _)).grown (gb2 w2 _ _ _) (fun g e => .inl (by injection e with e; simp; omega))).less (by simp; omega)
      · rw [g7, H7.out, H7'.out]; omega
    · have hcm : cmpI (vd l) (vd l') = -1 := by unfold cmpI; rw [if_pos (by omega)]
      have hge : vd l ≤ vd l' := by omega
      have hlen : l.length ≤ l'.length := norm_len h6 (by have := vd_lt ok2; omega)
      generalize hgx : decide (x < 0) = sx at *
      generalize hgy : decide (y < 0) = sy at *
      have HGX := Lib.hid hgx
      have HGY := Lib.hid hgy
      clear hgx hgy
      go_enter Tryz.func112, Tryz.ntmps112
      go_wp2_with fail
      refine (less_any l l' A A' _ _ _ _ _ rfl rfl (by omega) (by omega) ok1 ok2 (B := w.heap.size) (B' := w.heap.size) ?_ ?_).mono ?_
      · exact (((hs1.alloc (Nat.le_refl _) _).alloc (by simp) _).alloc (by simp; omega) _)
      · exact (((hs2.alloc (Nat.le_refl _) _).alloc (by simp) _).alloc (by simp; omega) _)
      rintro e w1 ⟨rfl, rfl⟩
      clear hsb2
      go_wp2_with fail
      generalize hW : ((w.alloc (Obj.cells #[Value.bool sx, Value.slice A l.length c] 138)).alloc (Obj.cells #[Value.bool sy, Value.slice A' l'.length c'] 138)).alloc (Obj.cells #[Value.bool false, Value.slice none 0 0] 138) = W
      have hb0 : Below w.heap.size w W := by subst hW; go_grown
      have hr1 : RdI W.drew W.drew.heap.size A l := (h5.below hb0 (Nat.le_refl _)).rd
      have hr2 : RdI W.drew W.drew.heap.size A' l' := (h5'.below hb0 (Nat.le_refl _)).rd
      have hK0 : Bk W w.heap.size 138 #[.bool sx, .slice A l.length c] := by subst hW; exact ((Bk.new _ _ _).alloc _).alloc _
      have hK1 : Bk W (w.heap.size + 1) 138 #[.bool sy, .slice A' l'.length c'] := by subst hW; simpa using (Bk.new (w.alloc _) 138 #[Value.bool sy, Value.slice A' l'.length c']).alloc _
      have hK2 : Bk W (w.heap.size + 1 + 1) 138 #[.bool false, .slice none 0 0] := by subst hW; simpa using (Bk.new ((w.alloc _).alloc _) 138 #[.bool false, .slice none 0 0])
      obtain ⟨c00, c01⟩ := hK0.cell2
      obtain ⟨c10, c11⟩ := hK1.cell2
      have l0 := hK0.lt
      have l1 := hK1.lt
      have l2 := hK2.lt
      have HW := Lib.hid hW
      clear hW
      have hK0d := hK0.drew
      have hK1d := hK1.drew
      have hK2d := hK2.drew
      go_region_held3 (fun w' => w'.cell? ⟨w.heap.size + 1, 0, none⟩ = some (.bool sy) ∧ w'.cell? ⟨w.heap.size, 1, none⟩ = some (.slice A l.length c) ∧ w'.cell? ⟨w.heap.size + 1, 1, none⟩ = some (.slice A' l'.length c'))
        (first | exact ⟨c10, c01, c11⟩ | exact ⟨c10', c01', c11'⟩ | exact ⟨c10'', c01'', c11''⟩ | (refine ⟨?_, ?_, ?_⟩ <;> go_simp))
        (first
        | (go_at_call 144; (with_reducible refine (rest_any l' l A' A _ _ _ _ _ rfl rfl (by omega) hlen ok2 ok1 hge hr2 hr1).mono ?_); rintro e w1 ⟨v1, rfl, ⟨A1, c1, m1, rfl, g2, g3, g4, g5, g6, g7⟩, hb1⟩; obtain ⟨c00', c01'⟩ := (hK0d.nx hb1).cell2; obtain ⟨c10', c11'⟩ := (hK1d.nx hb1).cell2; have hK2' := hK2d.nx hb1)
        | (go_at_call 139; refine (made_big _ A1 _ c1 _).mono ?_; rintro e w2 ⟨rfl, hb2⟩; have hK22 := hK2'.nx hb2; obtain ⟨c20, c21⟩ := hK22.cell2; have f20 := hK22.frozen 0; have f21 := hK22.frozen 1; obtain ⟨c00'', c01''⟩ := ((hK0d.nx hb1).nx hb2).cell2; obtain ⟨c10'', c11''⟩ := ((hK1d.nx hb1).nx hb2).cell2))
      go_wp2
      refine bodyPost_ret (res_big rfl (hK22.set2 _ _) rfl) rfl ?_
      have hz1 := hb1.size
      have hz2 := hb2.size
      simp only [World.size_drew] at hz1
      have hn := norm_zero g6
      rw [g7, H7.out, H7'.out] at hn
      rw [H7.out, H7'.out] at hge
      have hsgn : (sy && decide (0 < m1.length)) = decide (x + y < 0) := by
        rw [← HGY.out]
        by_cases hm : m1 = []
        · have := hn.1 hm
          subst hm
          simp
          omega
        · have h1 := List.length_pos_iff.2 hm
          have h2 : ¬ _ := fun e => hm (hn.2 e)
          simp [h1]; omega
      have hbW : Below w.heap.size w w2 := ((hb0.drew).trans (hb1.mono (by simp; omega))).trans (hb2.mono (by omega))
      refine ⟨_, rfl, ⟨A1, c1, m1, by rw [← hsgn], g2, g3, g4, ?_, g6, ?_⟩, below_of_gb hbW (gb2 w2 _ _ _) (by omega) (by omega)⟩
      · exact ((g5.below hb2 (Nat.le_refl _)).grown (gb2 w2 _ _ _) (fun g e => .inl (by injection e with e; simp; omega))).less (by simp; omega)
      · rw [g7, H7.out, H7'.out]; omega
end Go.Proofs.YtibmhabipghjlaaGreat
end
section
set_option linter.unusedVariables false
namespace Go.Proofs.YtibmhabipghjlaaGreat
open Go.RowKit
theorem BigN.form {lo : Nat} {w : World} {v : Value} {z : Int} (h : BigN lo w v z) : ∃ s A n c, v = .agg #[.bool s, .slice A n c] ∧ s = decide (z < 0) := by
  obtain ⟨A, c, l, h1, _⟩ := h
  exact ⟨_, A, l.length, c, h1, rfl⟩
theorem BigN.shape {lo : Nat} {w : World} {v : Value} {z : Int} (h : BigN lo w v z) : ∃ s A n c, v = .agg #[.bool s, .slice A n c] := by
  obtain ⟨A, c, l, h1, _⟩ := h
  exact ⟨_, A, l.length, c, h1⟩
theorem BigN.any {lo : Nat} {w : World} {v : Value} {z : Int} (h : BigN lo w v z) : BigN 0 w v z := h.less (Nat.zero_le _)
theorem sm_add {x y : Int} (hx : (x.natAbs : Int) < Bp 39) (hy : (y.natAbs : Int) < Bp 39) : Sm (x + y) := by
  unfold Sm
  have e := Bp39s
  omega
set_option maxRecDepth 100000 in
set_option maxHeartbeats 400000 in
theorem sub_any (va vb : Value) (x y : Int) (w : World) {lo lo' : Nat} (ha : BigN lo w va x) (hb : BigN lo' w vb y) (hsa : Sm x) (hsb : Sm y) :
    Calls Tryz.prog 82 #[va, vb] w fun e w' => ∃ v, e = .returned v ∧ BigN w.heap.size w' v (x - y) ∧ Below w.heap.size w w' := by
  obtain ⟨s, A, n, c, rfl⟩ := ha.shape
  obtain ⟨s', A', n', c', rfl⟩ := hb.shape
  go_enter Tryz.func82, Tryz.ntmps82
  go_wp2_with fail
  generalize hW : ((w.alloc (Obj.cells #[Value.bool s, Value.slice A n c] 138)).alloc (Obj.cells #[Value.bool s', Value.slice A' n' c'] 138)).alloc (Obj.cells #[Value.bool false, Value.slice none 0 0] 138) = W
  have hb0 : Below w.heap.size w W := by subst hW; go_grown
  have ha1 : BigN lo W.drew _ x := (ha.nx hb0).drew
  have hb1 : BigN lo' W.drew _ y := (hb.nx hb0).drew
  have hK0 : Bk W w.heap.size 138 #[.bool s, .slice A n c] := by subst hW; exact ((Bk.new _ _ _).alloc _).alloc _
  have hK1 : Bk W (w.heap.size + 1) 138 #[.bool s', .slice A' n' c'] := by subst hW; simpa using (Bk.new (w.alloc _) 138 #[Value.bool s', Value.slice A' n' c']).alloc _
  have hK2 : Bk W (w.heap.size + 1 + 1) 138 #[.bool false, .slice none 0 0] := by subst hW; simpa using (Bk.new ((w.alloc _).alloc _) 138 #[.bool false, .slice none 0 0])
  obtain ⟨c00, c01⟩ := hK0.cell2
  obtain ⟨c10, c11⟩ := hK1.cell2
  have l0 := hK0.lt
  have l1 := hK1.lt
  have l2 := hK2.lt
  have HW := Lib.hid hW
  clear hW
  have hK0d := hK0.drew
  have hK1d := hK1.drew
  have hK2d := hK2.drew
  have hsn : Sm (-y) := by unfold Sm at *; omega
  go_region_held3 (fun w' => w'.cell? ⟨w.heap.size, 0, none⟩ = some (.bool s) ∧ w'.cell? ⟨w.heap.size, 1, none⟩ = some (.slice A n c) ∧ w'.cell? ⟨w.heap.size + 1, 0, none⟩ = some (.bool s') ∧ w'.cell? ⟨w.heap.size + 1, 1, none⟩ = some (.slice A' n' c'))
    (first | exact ⟨c00, c01, c10, c11⟩ | exact ⟨c00', c01', c10', c11'⟩ | exact ⟨c00'', c01'', c10'', c11''⟩ | (refine ⟨?_, ?_, ?_, ?_⟩ <;> go_simp))
    (first
    | (go_at_call 115; (with_reducible refine (neg_any _ y _ hb1 hsb).mono ?_); rintro e w1 ⟨v1, rfl, hN1, hb1'⟩; obtain ⟨s1, A1, n1, c1, rfl⟩ := hN1.shape; obtain ⟨c00', c01'⟩ := (hK0d.nx hb1').cell2; obtain ⟨c10', c11'⟩ := (hK1d.nx hb1').cell2; have hK2' := hK2d.nx hb1'; have ha2 := ha1.nx hb1')
    | (go_at_call 112; (with_reducible refine (add_any _ _ x (-y) _ ha2 hN1 hsa hsn).mono ?_); rintro e w2 ⟨v2, rfl, hN2, hb2⟩; obtain ⟨s2, A2, n2, c2, rfl⟩ := hN2.shape; have hK22 := hK2'.nx hb2; obtain ⟨c20, c21⟩ := hK22.cell2; have f20 := hK22.frozen 0; have f21 := hK22.frozen 1; obtain ⟨c00'', c01''⟩ := ((hK0d.nx hb1').nx hb2).cell2; obtain ⟨c10'', c11''⟩ := ((hK1d.nx hb1').nx hb2).cell2))
  go_wp2
  refine bodyPost_ret (res_big rfl (hK22.set2 _ _) rfl) rfl ?_
  have hz1 := hb1'.size
  have hz2 := hb2.size
  simp only [World.size_drew] at hz1
  have hbW : Below w.heap.size w w2 := ((hb0.drew).trans (hb1'.mono (by simp; omega))).trans (hb2.mono (by omega))
  refine ⟨_, rfl, ?_, below_of_gb hbW (gb2 w2 _ _ _) (by omega) (by omega)⟩
  rw [show x - y = x + -y by omega]
  exact (hN2.grown (gb2 w2 _ _ _) (.inl (by omega))).less (by omega)
set_option maxRecDepth 100000 in
set_option maxHeartbeats 1000000 in
theorem cmp_any (va vb : Value) (x y : Int) (w : World) {lo lo' : Nat} (ha : BigN lo w va x) (hb : BigN lo' w vb y) (hsa : Sm x) (hsb : Sm y) :
    Calls Tryz.prog 79 #[va, vb] w fun e w' => e = .returned (.int .i64 (cmpI x y)) ∧ Below w.heap.size w w' := by
  obtain ⟨s, A, n, c, rfl⟩ := ha.shape
  obtain ⟨s', A', n', c', rfl⟩ := hb.shape
  go_enter Tryz.func79, Tryz.ntmps79
  go_wp2_with fail
  have hb0 : Below w.heap.size w ((w.alloc (Obj.cells #[Value.bool s, Value.slice A n c] 138)).alloc (Obj.cells #[Value.bool s', Value.slice A' n' c'] 138)) := by go_grown
  refine (sub_any _ _ x y _ (ha.nx hb0) (hb.nx hb0) hsa hsb).mono ?_
  rintro e w1 ⟨v1, rfl, ⟨A1, c1, l1, rfl, h2, h3, h4, h5, h6, h7⟩, hb1⟩
  have hbe := hb0.trans (hb1.mono (by simp; omega))
  have hz := norm_zero h6
  rw [h7] at hz
  have H7 := Lib.hid h7
  have HZ := Lib.hid hz
  clear h7 hz
  rcases Int.lt_trichotomy x y with hlt | hlt | hlt
  · have hne : 0 < l1.length := by
      rcases Nat.eq_zero_or_pos l1.length with e | e
      · have := HZ.out.1 (List.eq_nil_of_length_eq_zero e); omega
      · exact e
    have hnb : ((l1.length : Int) == 0) = false := by simp; exact List.length_pos_iff.1 hne
    generalize l1.length = n1 at *
    have hd : decide (x - y < 0) = true := by simp; omega
    rw [hd]
    clear hd h5 h6 H7 HZ
    go_wp2
    go_returns
    exact ⟨ret_int (by unfold cmpI; rw [if_pos hlt]), hbe.alloc (by have := hb1.size; simp at this; omega) _⟩
  · have hne : l1.length = 0 := by rw [HZ.out.2 (by omega)]; rfl
    obtain rfl : l1 = [] := List.eq_nil_of_length_eq_zero hne
    clear hne
    go_wp2
    go_returns
    exact ⟨ret_int (by unfold cmpI; rw [if_neg (by omega), if_neg (by omega)]), hbe.alloc (by have := hb1.size; simp at this; omega) _⟩
  · have hne : 0 < l1.length := by
      rcases Nat.eq_zero_or_pos l1.length with e | e
      · have := HZ.out.1 (List.eq_nil_of_length_eq_zero e); omega
      · exact e
    have hnb : ((l1.length : Int) == 0) = false := by simp; exact List.length_pos_iff.1 hne
    generalize l1.length = n1 at *
    have hd : decide (x - y < 0) = false := by simp; omega
    rw [hd]
    clear hd h5 h6 H7 HZ
    go_wp2
    go_returns
    exact ⟨ret_int (by unfold cmpI; rw [if_neg (by omega), if_pos hlt]), hbe.alloc (by have := hb1.size; simp at this; omega) _⟩
theorem vd_drop_le {l : List Int} (h : okd l) (k : Nat) : vd (l.drop k) ≤ vd l := by
  by_cases hk : k ≤ l.length
  · have h1 := vd_split l k hk
    have h2 := vd_nonneg (okd_take h k)
    have h3 := vd_nonneg (okd_drop h k)
    have h4 := Bp_pos k
    have := Int.mul_le_mul_of_nonneg_right h4 h3
    omega
  · rw [List.drop_eq_nil_of_le (by omega)]; exact vd_nonneg h
set_option maxHeartbeats 1000000 in
theorem unsigned_any (va : Value) (x : Int) (w : World) {lo : Nat} (ha : BigN lo w va x) (hx : (x.natAbs : Int) ≤ 18446744073709551615) :
    Calls Tryz.prog 114 #[va] w fun e w' => e = .returned (.int .u64 x.natAbs) ∧ Below w.heap.size w w' := by
  obtain ⟨A, c, l, rfl, h2, h3, h4, h5, h6, h7⟩ := ha
  have hl := sm_len (show Sm x by unfold Sm; rw [Bp40]; omega) h6 h7
  have ok := h6.1
  have hr := h5.rd
  have H7 := Lib.hid h7
  have hv : vd l ≤ 18446744073709551615 := by omega
  clear h7
  generalize decide (x < 0) = sx
  go_enter Tryz.func114, Tryz.ntmps114
  go_wp2
  go_loop [3, 4] (fun y i => ∃ k : Nat, k ≤ l.length ∧ i = .int .i64 ((k : Int) - 1) ∧ y = .int .u64 (vd (l.drop k))) (fun _ i => (intOf i + 1).toNat)
  case atStart => exact ⟨l.length, Nat.le_refl _, rfl, by simp [vd]⟩
  case round =>
    obtain ⟨k, hk, rfl, rfl⟩ := hrel
    rcases Nat.eq_zero_or_pos k with h0 | h0
    · subst h0
      go_wp2
      go_returns
      exact ⟨ret_int (by have := H7.out; simpa using this), by go_grown⟩
    · obtain ⟨j, rfl⟩ : ∃ j, k = j + 1 := ⟨k - 1, by omega⟩
      have e1 : ((j + 1 : Nat) : Int) - 1 = j := by omega
      have hE1 := Lib.hid e1
      simp only [e1]
      clear e1
      obtain ⟨b, o, rfl, hb, hc⟩ := RdI.get hr j (by omega)
      have hd := ok l[j] (List.getElem_mem _)
      have hs := vd_drop l j
      have e2 : dgt l j = l[j] := by simp [dgt, List.getElem?_eq_getElem (show j < l.length by omega)]
      rw [e2] at hs
      have hle := vd_drop_le ok j
      have hnn := vd_nonneg (okd_drop ok (j + 1))
      have HS := Lib.hid hs
      have hle2 : l[j] + 32768 * vd (l.drop (j + 1)) ≤ 18446744073709551615 := by omega
      clear hs hle e2
      generalize l[j] = z at *
      generalize vd (l.drop (j + 1)) = y at *
      go_wp2
      exact ⟨⟨j, by omega, rfl, by rw [HS.out]; exact val_int (by omega)⟩, by simp [intOf]⟩
set_option maxHeartbeats 1000000 in
theorem small_any (va : Value) (x : Int) (w : World) {lo : Nat} (ha : BigN lo w va x) (h0 : -9223372036854775808 ≤ x) (h1 : x ≤ 9223372036854775807) :
    Calls Tryz.prog 81 #[va] w fun e w' => e = .returned (.int .i64 x) ∧ Below w.heap.size w w' := by
  obtain ⟨s, A, n, c, rfl, hs⟩ := ha.form
  by_cases hx : x < 0
  · have hs' : s = true := by rw [hs]; simpa using hx
    subst hs'
    clear hs
    go_enter Tryz.func81, Tryz.ntmps81
    go_wp2_with (go_at_call 114; (with_reducible refine (unsigned_any _ x _ (ha.alloc _) (by omega)).mono ?_); rintro e w1 ⟨rfl, hb⟩; have hcb := bcell hb)
    go_returns
    exact ⟨ret_int (by unfold wrap64; omega), ((Below.refl _ w).alloc (Nat.le_refl _) _).trans (hb.mono (by simp))⟩
  · have hs' : s = false := by rw [hs]; simpa using hx
    subst hs'
    clear hs
    go_enter Tryz.func81, Tryz.ntmps81
    go_wp2_with (go_at_call 114; (with_reducible refine (unsigned_any _ x _ (ha.alloc _) (by omega)).mono ?_); rintro e w1 ⟨rfl, hb⟩; have hcb := bcell hb)
    go_returns
    exact ⟨ret_int (by omega), ((Below.refl _ w).alloc (Nat.le_refl _) _).trans (hb.mono (by simp))⟩
end Go.Proofs.YtibmhabipghjlaaGreat
end
