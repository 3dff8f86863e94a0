/- Several texts in one: Walks of layer 32 (level) and its reference: pyramids' levels. Rows of runs in memory; a row that is sorted. Where slices.SortFunc at runs lies (printed by wip/tools/genfts.sh at this seat). foot: the small ones; what is sorted. Runs that are sorted in memory. foot.Join, walked. What is joined, plain: the fewest runs there are; how many things they have. foot.Join, Has, Count: what they answer. The reference's runs; whether two are the same. Whether two are the same; which columns are asked for, by modes. Plain mathematics of digits of base 32768: values, normal forms, sums, rests, products, trial digits. No program in sight. -/
import Derived.Test.YtibmhabipghjlaaGreatPlanHoldsZz1
import Derived.Test.YtibmhabipghjlaaGreatPlanHoldsZz2
import Derived.Shelf.SlSortCmp.InsertionK
import Derived.Lib.OwnBridge
import Derived.Shelf.SlLaysF0
import Derived.Shelf.SlSortCmp.WholeK
import Derived.Shelf.SlSortCmp.NoneTotal
import Derived.Laws.OwnMore
import Derived.Test.YtibmhabipghjlaaGreatPlanHoldsZz3
section
set_option linter.unusedVariables false
namespace Go.Proofs.YtibmhabipghjlaaGreat
open Go.RowKit
set_option maxHeartbeats 400000 in
theorem In_any (a b : Int) (w : World) (hb0 : 0 ≤ b) (hb : b ≤ 9223372036854775807) :
    Calls Tryz.prog 16 #[.int .i64 a, .int .i64 b] w fun e w' => e = .returned (.bool (decide (-b ≤ a) && decide (a ≤ b))) ∧ w = w' := by
  by_cases h1 : -b ≤ a
  all_goals
    go_enter Tryz.func16, Tryz.ntmps16
    go_wp2
    go_ret
    exact ⟨ret_bool (by simp [h1] <;> omega), rfl⟩

theorem p2_15 (n : Nat) (h : n ≤ 15) : (1:Int) ≤ 2 ^ n ∧ (2:Int) ^ n ≤ 32768 := by
  have h1 : (2:Nat) ^ n ≤ 2 ^ 15 := Nat.pow_le_pow_right (by decide) h
  have h2 : 1 ≤ (2:Nat) ^ n := Nat.one_le_two_pow
  have e : ((2:Int) ^ n) = ((2 ^ n : Nat) : Int) := by simp
  rw [e]; omega
theorem p2_40 (n : Nat) (h : n ≤ 40) : (1:Int) ≤ 2 ^ n ∧ (2:Int) ^ n ≤ 1099511627776 := by
  have h1 : (2:Nat) ^ n ≤ 2 ^ 40 := Nat.pow_le_pow_right (by decide) h
  have h2 : 1 ≤ (2:Nat) ^ n := Nat.one_le_two_pow
  have e : ((2:Int) ^ n) = ((2 ^ n : Nat) : Int) := by simp
  rw [e]; omega
def lvTop (m : Int) : Nat := (min m 15).toNat
def lv (d : Int) : Nat → Nat
  | 0 => 0
  | n + 1 => if 65536 * 2 ^ (n + 1) ≤ d then n + 1 else lv d n
theorem p2_le (i j : Nat) (h : i ≤ j) : (2:Int) ^ i ≤ 2 ^ j := by
  have h1 : (2:Nat) ^ i ≤ 2 ^ j := Nat.pow_le_pow_right (by decide) h
  have e : ∀ n : Nat, ((2:Int) ^ n) = ((2 ^ n : Nat) : Int) := fun n => by simp
  rw [e, e]; omega
theorem lv_eq (d : Int) (M n : Nat) (h1 : n ≤ M) (h2 : n = 0 ∨ 65536 * 2 ^ n ≤ d) (h3 : n = M ∨ d < 65536 * 2 ^ (n + 1)) : lv d M = n := by
  induction M with
  | zero => simp [lv]; omega
  | succ M ih =>
    rw [lv]
    by_cases e : n = M + 1
    · subst e; rw [if_pos (by rcases h2 with h | h <;> first | omega | exact h)]
    · have := p2_le (n + 1) (M + 1) (by omega)
      rw [if_neg (by omega)]; exact ih (by omega) (by omega)
set_option maxHeartbeats 400000 in
theorem pow_any (k : Nat) (hk : k ≤ 40) (w : World) :
    Calls Tryz.prog 74 #[.int .i64 k] w fun e w' => e = .returned (.int .i64 (2 ^ k)) ∧ w = w' := by
  go_enter Tryz.func74, Tryz.ntmps74
  go_wp2
  go_loop [3, 4] (fun o k' => ∃ n : Nat, n ≤ k ∧ k' = .int .i64 n ∧ o = .int .i64 (2 ^ n)) (fun _ k' => k - (intOf k').toNat)
  case atStart => exact ⟨0, by omega, rfl, rfl⟩
  case round =>
    obtain ⟨n, hn, rfl, rfl⟩ := hrel
    by_cases hlt : n < k
    · have hp := p2_40 (n + 1) (by omega)
      have he : (2:Int) ^ (n + 1) = 2 ^ n * 2 := Int.pow_succ 2 n
      have HE := Lib.hid he; rw [he] at hp; clear he
      go_wp2
      go_round
      case rel => exact ⟨n + 1, by omega, by go_num, by rw [HE.out]⟩
      case measure => simp [intOf]; omega
    · go_wp2
      go_ret
      exact ⟨ret_int (by rw [show n = k by omega]), rfl⟩
theorem fdiv_eq (a b : Int) (hb : 1 ≤ b) (h : a.tmod b ≠ 0) (ha : a < 0) : a / b = a.tdiv b - 1 := by
  have h1 := Int.tdiv_eq_ediv (a := a) (b := b)
  have h2 := Int.tmod_eq_emod (a := a) (b := b)
  have h3 := Int.emod_nonneg a (show b ≠ 0 by omega)
  have h4 := Int.emod_lt_of_pos a (show 0 < b by omega)
  have h5 : b.sign = 1 := Int.sign_eq_one_of_pos (by omega)
  rw [h5] at h1
  by_cases hd : b ∣ a
  · exact absurd (Int.tmod_eq_zero_of_dvd hd) h
  · rw [if_neg (by omega)] at h1; omega
theorem fdiv_eq0 (a b : Int) (hb : 1 ≤ b) (h : a.tmod b = 0) : a / b = a.tdiv b := by
  have h1 := Int.tdiv_eq_ediv (a := a) (b := b)
  rw [if_pos (.inr (Int.dvd_of_tmod_eq_zero h))] at h1; omega
theorem ediv_neg_bd (a b : Int) (hb : 1 ≤ b) (h : a < 0) : a ≤ a / b ∧ a / b ≤ 0 := by
  have h1 := Int.mul_ediv_add_emod a b
  have h2 := Int.emod_nonneg a (show b ≠ 0 by omega)
  have h3 := Int.emod_lt_of_pos a (show 0 < b by omega)
  constructor
  · rcases Int.lt_or_le (a / b) a with h4 | h4
    · exfalso
      have h5 : b * (a / b + 1) ≤ 1 * (a / b + 1) := Int.mul_le_mul_of_nonpos_right hb (by omega)
      rw [Int.mul_add] at h5
      omega
    · exact h4
  · rcases Int.lt_or_le 0 (a / b) with h4 | h4
    · exfalso
      have : 0 ≤ b * (a / b) := Int.mul_nonneg (by omega) (by omega)
      omega
    · exact h4
set_option maxHeartbeats 400000 in
theorem down_any (a b : Int) (w : World) (hb : 1 ≤ b) (ha : -9223372036854775808 ≤ a ∧ a ≤ 9223372036854775807) (hb2 : b ≤ 9223372036854775807) :
    Calls Tryz.prog 76 #[.int .i64 a, .int .i64 b] w fun e w' => e = .returned (.int .i64 (a / b)) ∧ w = w' := by
  have hbn : decide (b < 0) = false := by simp; omega
  by_cases h1 : a < 0
  · have hq := ediv_neg_bd a b hb h1
    have hq2 : -9223372036854775808 ≤ a / b := by omega
    by_cases h0 : a.tmod b = 0
    · have e := fdiv_eq0 a b hb h0
      have HE := Lib.hid e; clear e
      go_enter Tryz.func76, Tryz.ntmps76
      go_wp2
      go_ret
      exact ⟨ret_int HE.out.symm, rfl⟩
    · have e := fdiv_eq a b hb h0 h1
      have HE := Lib.hid e; rw [e] at hq hq2; clear e
      have h0' : (a.tmod b != 0) = true := by simpa using h0
      go_enter Tryz.func76, Tryz.ntmps76
      go_wp2
      go_ret
      exact ⟨ret_int HE.out.symm, rfl⟩
  · go_enter Tryz.func76, Tryz.ntmps76
    go_wp2
    all_goals
      go_ret
      exact ⟨rfl, rfl⟩
set_option maxHeartbeats 400000 in
theorem cut_any (k : Int) (w : World) :
    Calls Tryz.prog 60 #[.int .i64 k] w fun e w' => e = .returned (.int .u64 (lvTop k)) ∧ w = w' := by
  go_enter Tryz.func60, Tryz.ntmps60
  go_wp2
  all_goals
    go_ret
    exact ⟨ret_int (by unfold lvTop; omega), rfl⟩
set_option maxHeartbeats 400000 in
theorem lw_rest_any (k : Nat) (hk : k ≤ 15) (w : World) :
    Calls Tryz.prog 61 #[.int .u64 k] w fun e w' => e = .returned (.int .i64 (32768 * (2 ^ k - 1))) ∧ w = w' := by
  have hp := p2_15 k hk
  go_enter Tryz.func61, Tryz.ntmps61
  go_wp2
  go_ret
  exact ⟨rfl, rfl⟩
theorem lvTop_le (k : Int) : lvTop k ≤ 15 := by unfold lvTop; omega
def lvTo (u k : Int) : Int := (u - 32768 * (2 ^ lvTop k - 1)) / 2 ^ lvTop k
def lvFrom (u k : Int) : Int := u * 2 ^ lvTop k + 32768 * (2 ^ lvTop k - 1)
theorem mul_p2_bd (u : Int) (n : Nat) (hn : n ≤ 15) (h0 : -70368744177664 ≤ u) (h1 : u ≤ 70368744177664) : -2305843009213693952 ≤ u * 2 ^ n ∧ u * 2 ^ n ≤ 2305843009213693952 := by
  have hp := p2_15 n hn
  generalize (2:Int) ^ n = p at *
  constructor
  · have : (-70368744177664) * p ≤ u * p := Int.mul_le_mul_of_nonneg_right h0 (by omega)
    omega
  · have : u * p ≤ 70368744177664 * p := Int.mul_le_mul_of_nonneg_right h1 (by omega)
    omega
set_option maxHeartbeats 400000 in
theorem to_any (u k : Int) (w : World) (h0 : -70368744177664 ≤ u) (h1 : u ≤ 70368744177664) :
    Calls Tryz.prog 38 #[.int .i64 u, .int .i64 k] w fun e w' => e = .returned (.int .i64 (lvTo u k)) ∧ w = w' := by
  have ht := lvTop_le k
  have hp := p2_15 _ ht
  go_enter Tryz.func38, Tryz.ntmps38
  go_wp2_with (first
    | (go_at_call 60; refine (cut_any _ _).mono ?_; rintro e w' ⟨rfl, rfl⟩)
    | (go_at_call 61; refine (lw_rest_any _ ht _).mono ?_; rintro e w' ⟨rfl, rfl⟩))
  go_ret
  exact ⟨ret_int (by unfold lvTo; rfl), rfl⟩
set_option maxHeartbeats 400000 in
theorem rcut_any (k : Int) (w : World) :
    Calls Tryz.prog 75 #[.int .i64 k] w fun e w' => e = .returned (.int .i64 (lvTop k)) ∧ w = w' := by
  go_enter Tryz.func75, Tryz.ntmps75
  go_wp2
  all_goals
    go_ret
    exact ⟨ret_int (by unfold lvTop; omega), rfl⟩
set_option maxHeartbeats 400000 in
theorem rto_any (u k : Int) (w : World) (h0 : -70368744177664 ≤ u) (h1 : u ≤ 70368744177664) :
    Calls Tryz.prog 50 #[.int .i64 u, .int .i64 k] w fun e w' => e = .returned (.int .i64 (lvTo u k)) ∧ w = w' := by
  have ht := lvTop_le k
  have hp := p2_15 _ ht
  go_enter Tryz.func50, Tryz.ntmps50
  go_wp2_with (first
    | (go_at_call 75; refine (rcut_any _ _).mono ?_; rintro e w' ⟨rfl, rfl⟩)
    | (go_at_call 74; refine (pow_any _ (by omega) _).mono ?_; rintro e w' ⟨rfl, rfl⟩)
    | (go_at_call 76; refine (down_any _ _ _ (by omega) (by omega) (by omega)).mono ?_; rintro e w' ⟨rfl, rfl⟩))
  go_ret
  exact ⟨rfl, rfl⟩
theorem lv_mono (d d' : Int) (h : d ≤ d') (M : Nat) : lv d M ≤ lv d' M := by
  induction M with
  | zero => simp [lv]
  | succ M ih =>
    have hb : ∀ x, lv x (M + 1) ≤ M + 1 := fun x => by
      have : ∀ n, lv x n ≤ n := fun n => by induction n with | zero => simp [lv] | succ n ih => rw [lv]; split <;> omega
      exact this _
    rw [lv, lv]
    have hbd : lv d M ≤ M := by
      have : ∀ n, lv d n ≤ n := fun n => by induction n with | zero => simp [lv] | succ n ih => rw [lv]; split <;> omega
      exact this _
    split <;> split <;> omega
theorem toFrom (u k : Int) : lvTo (lvFrom u k) k = u := by
  unfold lvTo lvFrom
  have hp := p2_15 _ (lvTop_le k)
  generalize (2:Int) ^ lvTop k = p at *
  rw [Int.add_sub_cancel, Int.mul_ediv_cancel _ (by omega)]
theorem In_yes (a b : Int) (w : World) (hb0 : 0 ≤ b) (hb : b ≤ 9223372036854775807) (h : -b ≤ a ∧ a ≤ b) :
    Calls Tryz.prog 16 #[.int .i64 a, .int .i64 b] w fun e w' => e = .returned (.bool true) ∧ w = w' :=
  (In_any a b w hb0 hb).mono fun e w' ⟨h1, h2⟩ => ⟨by rw [h1]; simp [h], h2⟩
theorem In_no (a b : Int) (w : World) (hb0 : 0 ≤ b) (hb : b ≤ 9223372036854775807) (h : ¬ (-b ≤ a ∧ a ≤ b)) :
    Calls Tryz.prog 16 #[.int .i64 a, .int .i64 b] w fun e w' => e = .returned (.bool false) ∧ w = w' :=
  (In_any a b w hb0 hb).mono fun e w' ⟨h1, h2⟩ => ⟨by rw [h1]; simp; omega, h2⟩
end Go.Proofs.YtibmhabipghjlaaGreat
end
section
set_option linter.unusedVariables false
namespace Go.Proofs.YtibmhabipghjlaaGreat
open Go.RowKit Go.Sort Go.Lib
def encRn (r : Rn) : List Value := [.int .i64 r.1, .int .i64 r.2]
def encR (rs : List Rn) : List Value := rs.flatMap encRn
theorem encR_len (rs : List Rn) : (encR rs).length = rs.length * 2 := by
  induction rs with
  | nil => rfl
  | cons r rs ih => show (encRn r ++ encR rs).length = _; rw [List.length_append, ih]; simp [encRn]; omega
theorem encR_append (a b : List Rn) : encR (a ++ b) = encR a ++ encR b := by simp [encR]
theorem encR_get : ∀ (rs : List Rn) (k : Nat) (hk : k < rs.length), (encR rs)[k * 2]? = some (.int .i64 rs[k].1) ∧ (encR rs)[k * 2 + 1]? = some (.int .i64 rs[k].2)
  | [], k, hk => absurd hk (by simp)
  | r :: rs, 0, _ => by simp [encR, encRn]
  | r :: rs, k + 1, hk => by
    have ih := encR_get rs k (by simpa using hk)
    have e : encR (r :: rs) = [.int .i64 r.1, .int .i64 r.2] ++ encR rs := rfl
    rw [e, show (k + 1) * 2 = k * 2 + 2 by omega, show k * 2 + 2 + 1 = (k * 2 + 1) + 2 by omega]
    simpa using ih
theorem encR_one : ∀ (rs : List Rn), ∀ u ∈ encR rs, u.oneCell' = true := by
  intro rs u hu
  obtain ⟨r, _, hr⟩ := List.mem_flatMap.1 hu
  simp [encRn] at hr
  rcases hr with rfl | rfl <;> rfl
theorem flat_encR (rs : List Rn) : flatK encRn 2 rs.toArray = (encR rs).toArray := by
  apply Array.ext
  · simp [encR_len]
  · intro t h1 h2
    have ht : t < rs.length * 2 := by simpa using h1
    have hk : t / 2 < rs.length := by omega
    obtain ⟨g0, g1⟩ := encR_get rs (t / 2) hk
    have e1 := get_flatK encRn 2 rs.toArray t (by simpa using ht)
    rw [getElem!_pos _ t h1] at e1
    rw [e1]
    have e2 : rs.toArray[t / 2]! = rs[t / 2] := by simp [hk]
    rw [e2]
    have hm : t % 2 = 0 ∨ t % 2 = 1 := by omega
    rcases hm with hm | hm
    · have : t / 2 * 2 = t := by omega
      rw [this] at g0
      rw [hm]
      have : (encR rs)[t]'(by rw [encR_len]; exact ht) = .int .i64 rs[t / 2].1 := by
        have := List.getElem?_eq_getElem (l := encR rs) (i := t) (by rw [encR_len]; exact ht)
        rw [this] at g0; exact Option.some.inj g0
      simp only [List.getElem_toArray]
      rw [this]; rfl
    · have : t / 2 * 2 + 1 = t := by omega
      rw [this] at g1
      rw [hm]
      have : (encR rs)[t]'(by rw [encR_len]; exact ht) = .int .i64 rs[t / 2].2 := by
        have := List.getElem?_eq_getElem (l := encR rs) (i := t) (by rw [encR_len]; exact ht)
        rw [this] at g1; exact Option.some.inj g1
      simp only [List.getElem_toArray]
      rw [this]; rfl
theorem rd_run {w : World} {B : Nat} {A : Option Addr} {rs : List Rn} (h : Rd w B A (encR rs)) (k : Nat) (hk : k < rs.length) :
    ∃ b o, A = some ⟨b, o, none⟩ ∧ b < B ∧ w.cell? ⟨b, o + k * 2, none⟩ = some (.int .i64 rs[k].1) ∧ w.cell? ⟨b, o + k * 2 + 1, none⟩ = some (.int .i64 rs[k].2) := by
  have hl := encR_len rs
  obtain ⟨g0, g1⟩ := encR_get rs k hk
  obtain ⟨b, o, e, hb, hc⟩ := h.get (k * 2) (by omega)
  obtain ⟨b', o', e', hb', hc'⟩ := h.get (k * 2 + 1) (by omega)
  rw [e] at e'
  injection e' with e'
  injection e' with e1 e2
  subst e1; subst e2
  refine ⟨b, o, e, hb, ?_, ?_⟩
  · rw [hc, ← List.getElem?_eq_getElem, g0]
  · rw [show o + k * 2 + 1 = o + (k * 2 + 1) by omega, hc', ← List.getElem?_eq_getElem, g1]
section
variable {w : World} {base n : Nat} {e : TypeId} {v : Value} {rs ys : List Rn}
theorem holdsK_own (h : w.ownsRow base e 2 v n (encR rs)) (hv : rs ≠ []) :
    ∃ g cap, v = .slice (some ⟨g, 0, none⟩) n cap ∧ base ≤ g ∧ g < w.heap.size ∧ rs.length = n ∧ HoldsK encRn 2 w g 0 rs.toArray := by
  have hl := h.1
  rw [encR_len] at hl
  rcases h.2 with ⟨e0, e1⟩ | ⟨g, cap, cur, rfl, hb, hg, hn, hm, hs, ht⟩
  · exact absurd (List.eq_nil_of_length_eq_zero (by omega)) hv
  · have hlt : g < w.heap.size := by
      rcases Nat.lt_or_ge g w.heap.size with h' | h'
      · exact h'
      · rw [Array.getElem?_eq_none h'] at hg; cases hg
    refine ⟨g, cap, rfl, hb, hlt, by omega, ?_⟩
    unfold HoldsK
    rw [flat_encR]
    intro j hj
    have hj' : j < (encR rs).length := by simpa using hj
    have hl2 := encR_len rs
    refine ⟨?_, by simp [World.frozen?, hg]⟩
    have e1 : (cur.toList.take (n * 2))[j]? = (encR rs)[j]? := by rw [ht]
    rw [List.getElem?_take, if_pos (by omega), Array.getElem?_toList, List.getElem?_eq_getElem (by omega)] at e1
    simp only [World.cell?, hg, Nat.zero_add]
    simp only [Option.isSome_none, Bool.false_eq_true, if_false]
    rw [e1]
    simp [getElem!_pos, hj']
theorem own_sorted {g cap : Nat} (h : w.ownsRow base e 2 (.slice (some ⟨g, 0, none⟩) n cap) n (encR rs)) (hy : ys.length = rs.length) (hg : g < w.heap.size) (q : Nat) (os : Array Obj) :
    (sortWorldK encRn 2 w g 0 q ys.toArray os).ownsRow base e 2 (.slice (some ⟨g, 0, none⟩) n cap) n (encR ys) := by
  have hl := h.1
  rw [encR_len] at hl
  rcases h.2 with ⟨e0, _⟩ | ⟨g', cap', cur, e0, hb, hg', hn, hm, hs, ht⟩
  · cases e0
  · injection e0 with e1 _ e3
    injection e1 with e1
    injection e1 with e1
    subst e1; subst e3
    have hl2 := encR_len ys
    refine ⟨by rw [hl2]; omega, .inr ⟨g, cap, putCells id 0 (encR ys).toArray cur, rfl, hb, ?_, hn, hm, by simpa [putCells] using hs, ?_⟩⟩
    · unfold sortWorldK
      rw [heap_grow_old _ _ (by simpa [putRowK, putRow, mapBlock, Sort.ahead] using hg)]
      unfold putRowK
      rw [flat_encR]
      simp [putRow, mapBlock, Sort.ahead, Array.getElem?_modify, hg', onCells]
    · apply List.ext_getElem?
      intro j
      rw [List.getElem?_take, Array.getElem?_toList]
      by_cases hj : j < n * 2
      · have hjc : j < cur.size := by omega
        simp only [if_pos hj, putCells, Array.getElem?_mapIdx, Array.getElem?_eq_getElem hjc, Option.map_some]
        rw [if_pos (by simp; omega), List.getElem?_eq_getElem (by omega)]
        have : j < (encR ys).length := by omega
        simp [getElem!_pos, this]
      · rw [if_neg hj, List.getElem?_eq_none (by omega)]
end
theorem below_sorted {w : World} {base g : Nat} (hg : base ≤ g) (hB : base ≤ w.heap.size) (q : Nat) (d : Array Rn) (os : Array Obj) : Below base w (sortWorldK encRn 2 w g 0 q d os) := by
  unfold sortWorldK putRowK
  have h1 := below_putRow (enc := id) (q := q) (d := flatK encRn 2 d) (Below.refl base w) hg
  refine h1.trans ⟨rfl, rfl, rfl, by simp, fun k hk => heap_grow_old _ _ ?_⟩
  have := h1.size
  omega
end Go.Proofs.YtibmhabipghjlaaGreat
end
section
set_option linter.unusedVariables false
namespace Go.Proofs.YtibmhabipghjlaaGreat
open Go.Shelf
def sortRun_ren : Go.Shelf.Ren := ⟨fun | 6 => 126 | 15 => 71 | 14 => 150 | 28 => 108 | 29 => 109 | 20 => 162 | 21 => 163 | 22 => 164 | 23 => 165 | 24 => 166 | 25 => 167 | 26 => 168 | 27 => 169 | 46 => 173 | 47 => 134 | 48 => 135 | 49 => 174 | 50 => 175 | 57 => 180 | n => n, fun | 22 => 108 | 24 => 111 | 25 => 194 | 3 => 3 | 39 => 123 | 0 => 0 | 53 => 178 | 55 => 180 | 4 => 4 | 46 => 171 | 45 => 170 | 50 => 120 | 5 => 5 | 9 => 9 | 66 => 197 | 70 => 200 | 76 => 213 | 77 => 77 | n => n, fun | n => n⟩
theorem sortRun : Go.Proofs.SlLaysF0.n6 Tryz.prog sortRun_ren := {
  mixed := by kernel_rfl
  f6 := ⟨Tryz.f126.name, by decide, Tryz.func126.trans (congrArg some (by kernel_rfl))⟩
  f14 := ⟨Tryz.f150.name, by decide, Tryz.func150.trans (congrArg some (by kernel_rfl))⟩
  f15 := Tryz.func71.trans (congrArg some (by kernel_rfl))
  f20 := ⟨Tryz.f162.name, by decide, Tryz.func162.trans (congrArg some (by kernel_rfl))⟩
  f21 := ⟨Tryz.f163.name, by decide, Tryz.func163.trans (congrArg some (by kernel_rfl))⟩
  f22 := ⟨Tryz.f164.name, by decide, Tryz.func164.trans (congrArg some (by kernel_rfl))⟩
  f23 := ⟨Tryz.f165.name, by decide, Tryz.func165.trans (congrArg some (by kernel_rfl))⟩
  f24 := ⟨Tryz.f166.name, by decide, Tryz.func166.trans (congrArg some (by kernel_rfl))⟩
  f25 := ⟨Tryz.f167.name, by decide, Tryz.func167.trans (congrArg some (by kernel_rfl))⟩
  f26 := ⟨Tryz.f168.name, by decide, Tryz.func168.trans (congrArg some (by kernel_rfl))⟩
  f27 := ⟨Tryz.f169.name, by decide, Tryz.func169.trans (congrArg some (by kernel_rfl))⟩
  f28 := Tryz.func108.trans (congrArg some (by kernel_rfl))
  f29 := Tryz.func109.trans (congrArg some (by kernel_rfl))
  f46 := ⟨Tryz.f173.name, by decide, Tryz.func173.trans (congrArg some (by kernel_rfl))⟩
  f47 := Tryz.func134.trans (congrArg some (by kernel_rfl))
  f48 := Tryz.func135.trans (congrArg some (by kernel_rfl))
  f49 := ⟨Tryz.f174.name, by decide, Tryz.func174.trans (congrArg some (by kernel_rfl))⟩
  f50 := ⟨Tryz.f175.name, by decide, Tryz.func175.trans (congrArg some (by kernel_rfl))⟩
  f57 := ⟨Tryz.f180.name, by decide, Tryz.func180.trans (congrArg some (by kernel_rfl))⟩
  t0 := Tryz.underlying0
  a0 := Tryz.isAgg0
  z0 := Tryz.sizeOf0
  v0 := Tryz.zeroValue0
  t3 := Tryz.underlying3
  a3 := Tryz.isAgg3
  z3 := Tryz.sizeOf3
  v3 := Tryz.zeroValue3
  t4 := Tryz.underlying4
  a4 := Tryz.isAgg4
  z4 := Tryz.sizeOf4
  v4 := Tryz.zeroValue4
  t5 := Tryz.underlying5
  a5 := Tryz.isAgg5
  z5 := Tryz.sizeOf5
  v5 := Tryz.zeroValue5
  t9 := Tryz.underlying9
  a9 := Tryz.isAgg9
  z9 := Tryz.sizeOf9
  v9 := Tryz.zeroValue9
  t22 := Tryz.underlying108
  a22 := Tryz.isAgg108
  z22 := Tryz.sizeOf108
  v22 := Tryz.zeroValue108
  t25 := Tryz.underlying194
  a25 := Tryz.isAgg194
  z25 := Tryz.sizeOf194
  v25 := Tryz.zeroValue194
  t39 := Tryz.underlying123
  a39 := Tryz.isAgg123
  z39 := Tryz.sizeOf123
  v39 := Tryz.zeroValue123
  t45 := Tryz.underlying170
  a45 := Tryz.isAgg170
  z45 := Tryz.sizeOf170
  v45 := Tryz.zeroValue170
  t46 := Tryz.underlying171
  a46 := Tryz.isAgg171
  z46 := Tryz.sizeOf171
  v46 := Tryz.zeroValue171
  t50 := Tryz.underlying120
  a50 := Tryz.isAgg120
  z50 := Tryz.sizeOf120
  v50 := Tryz.zeroValue120
  t53 := Tryz.underlying178
  a53 := Tryz.isAgg178
  z53 := Tryz.sizeOf178
  v53 := Tryz.zeroValue178
  t55 := Tryz.underlying180
  a55 := Tryz.isAgg180
  z55 := Tryz.sizeOf180
  v55 := Tryz.zeroValue180
  t66 := Tryz.underlying197
  a66 := Tryz.isAgg197
  z66 := Tryz.sizeOf197
  v66 := Tryz.zeroValue197
  t70 := Tryz.underlying200
  a70 := Tryz.isAgg200
  z70 := Tryz.sizeOf200
  v70 := Tryz.zeroValue200
  t76 := Tryz.underlying213
  a76 := Tryz.isAgg213
  z76 := Tryz.sizeOf213
  v76 := Tryz.zeroValue213
  t77 := Tryz.underlying77
  a77 := Tryz.isAgg77
  z77 := Tryz.sizeOf77
  v77 := Tryz.zeroValue77 }

end Go.Proofs.YtibmhabipghjlaaGreat
end
section
set_option linter.unusedVariables false
namespace Go.Proofs.YtibmhabipghjlaaGreat
open Go.RowKit Go.Sort Go.Lib Go.Shelf
def aggR (r : Rn) : Value := .agg #[.int .i64 r.1, .int .i64 r.2]
theorem run_info : (Tryz.prog.info? 111).map (fun i => (i.zero, i.size, i.bytes)) = some (some (.agg #[.int .i64 0, .int .i64 0]), 2, 16) := by kernel_rfl
set_option maxHeartbeats 1000000 in
theorem some_any (x y : Int) (w : World) : Calls Tryz.prog 125 #[.agg #[.int .i64 x, .int .i64 y]] w fun e w' => e = .returned (.bool (decide (x < y))) ∧ Below w.heap.size w w' := by
  go_enter Tryz.func125, Tryz.ntmps125
  go_wp2
  go_returns
  exact ⟨rfl, by go_grown⟩
def cmpR (x y : Int) : Int := if x < y then -1 else if y < x then 1 else 0
theorem nan_any (x : Int) (w : World) : Calls Tryz.prog 138 #[.int .i64 x] w fun e w' => e = .returned (.bool false) ∧ w' = w := by
  go_enter Tryz.func138, Tryz.ntmps138
  go_wp2
  go_ret
  exact ⟨by simp, rfl⟩
set_option maxHeartbeats 1000000 in
theorem cmpr_any (x y : Int) (w : World) : Calls Tryz.prog 151 #[.int .i64 x, .int .i64 y] w fun e w' => e = .returned (.int .i64 (cmpR x y)) ∧ w' = w := by
  go_enter Tryz.func151, Tryz.ntmps151
  go_wp2_with (go_at_call 138; refine (nan_any _ _).mono ?_; rintro e w' ⟨rfl, hw⟩; rw [hw])
  all_goals (go_ret; refine ⟨?_, rfl⟩; unfold cmpR; (repeat' split) <;> first | rfl | (exfalso; omega))
set_option maxHeartbeats 1000000 in
theorem order_any (x y : Rn) (W : World) : Calls Tryz.prog 127 #[.agg #[.int .i64 x.1, .int .i64 x.2], .agg #[.int .i64 y.1, .int .i64 y.2]] W fun e w' => e = .returned (.int .i64 (cmpR x.1 y.1)) ∧ ∃ q os', w' = grow (W.drewN q) os' := by
  have hcon := fun W' => cmpr_any x.1 y.1 W'
  generalize cmpR x.1 y.1 = r at hcon ⊢
  go_enter Tryz.func127, Tryz.ntmps127
  go_wp2_with (go_at_call 151; refine (hcon _).mono ?_; rintro e w' ⟨rfl, rfl⟩)
  go_ret
  exact ⟨rfl, 0, _, by rw [alloc_eq_grow, alloc_eq_grow, grow_grow]; rfl⟩
theorem cmpLaysR (blk off size : Nat) (w : World) : CmpLays Tryz.prog 127 #[] encRn 2 (fun x y : Rn => cmpR x.1 y.1) blk off size w :=
  fun _ _ _ _ x y => order_any x y _
theorem ltLo (x y : Rn) : ltOf (fun x y : Rn => cmpR x.1 y.1) x y = decide (x.1 < y.1) := by
  unfold ltOf cmpR
  by_cases h1 : x.1 < y.1
  · simp [h1]
  · by_cases h2 : y.1 < x.1 <;> simp [h1, h2]
theorem swoLo : SWO (ltOf fun x y : Rn => cmpR x.1 y.1) where
  irrefl x := by rw [ltLo]; simp
  trans x y z h1 h2 := by rw [ltLo] at *; simp at *; omega
  ntrans x y z h1 h2 := by rw [ltLo] at *; simp at *; omega
end Go.Proofs.YtibmhabipghjlaaGreat
end
section
set_option linter.unusedVariables false
namespace Go.Proofs.YtibmhabipghjlaaGreat
open Go.RowKit Go.Sort Go.Lib Go.Shelf
theorem sort_none (v : Value) (hv : v = .slice none 0 0) (w : World) : Calls Tryz.prog 126 #[v, .func (.func 127) #[] #[]] w fun e w' => e = .returned (.tuple #[]) ∧ w' = w := by
  subst hv
  have h := AnyF.slices_SortFunc_none sortRun none 0 (.func (.func 127) #[] #[]) w
  exact h
theorem sort_some (rs : List Rn) (g c : Nat) (w : World) (hH : HoldsK encRn 2 w g 0 rs.toArray) (hg : g < w.heap.size) (hn : rs.length < 4611686018427387904) :
    Calls Tryz.prog 126 #[.slice (some ⟨g, 0, none⟩) rs.length c, .func (.func 127) #[] #[]] w fun e w' =>
      e = .returned (.tuple #[]) ∧ ∃ (d' : Array Rn) (q : Nat) (os : Array Obj), PermIn 0 rs.length rs.toArray d' ∧ SortedIn (ltOf fun x y : Rn => cmpR x.1 y.1) 0 rs.length d' ∧ w' = sortWorldK encRn 2 w g 0 q d' os := by
  have eg : ∀ args w, (callFunc 127 args).run Tryz.prog w = .ok (.enter 127 args) w := enters_of Tryz.func127 (by kernel_rfl) rfl
  have hcon := AnyQ.slices_SortFunc sortRun 2 Tryz.isAgg111 Tryz.sizeOf111 encRn (fun _ => rfl) (fun x v hv => by simp [encRn] at hv; rcases hv with rfl | rfl <;> rfl) (fun x y : Rn => cmpR x.1 y.1) swoLo 127 #[] g 0 c rs.toArray w eg (cmpLaysR g 0 _ w) hH hg (by simpa using hn)
  change Calls Tryz.prog 126 _ _ _ at hcon
  simpa using hcon
theorem sort_any (rs : List Rn) (v : Value) (base n : Nat) (w : World) (hown : w.ownsRow base 111 2 v n (encR rs)) (hB : base ≤ w.heap.size) (hn : n < 4611686018427387904) :
    Calls Tryz.prog 126 #[v, .func (.func 127) #[] #[]] w fun e w' =>
      e = .returned (.tuple #[]) ∧ ∃ rs' : List Rn, rs'.Perm rs ∧ rs'.Pairwise (fun a b => a.1 ≤ b.1) ∧ w'.ownsRow base 111 2 v n (encR rs') ∧ Go.RowKit.Below base w w' := by
  by_cases hne : rs = []
  · subst hne
    have hl := hown.1
    have h0 : n = 0 := by simp [encR] at hl; omega
    subst h0
    rcases hown.2 with ⟨e0, e1⟩ | ⟨g, cap, cur, rfl, hb, hg, hn, hm, hs, ht⟩
    · refine (sort_none v e0 w).mono ?_
      rintro e w' ⟨rfl, rfl⟩
      exact ⟨rfl, [], .refl _, .nil, hown, Below.refl _ _⟩
    · have hlt : g < w.heap.size := by
        rcases Nat.lt_or_ge g w.heap.size with h' | h'
        · exact h'
        · rw [Array.getElem?_eq_none h'] at hg; cases hg
      have hH : HoldsK encRn 2 w g 0 ([] : List Rn).toArray := by
        intro j hj
        simp at hj
      refine (sort_some [] g cap w hH hlt (by simp)).mono ?_
      rintro e w' ⟨rfl, d', q, os, hp, hs', rfl⟩
      have hd : d' = ([] : List Rn).toArray := by
        have := hp.1
        simpa using this
      subst hd
      exact ⟨rfl, [], .refl _, .nil, own_sorted hown rfl hlt q os, below_sorted hb hB q _ os⟩
  · obtain ⟨g, cap, rfl, hb, hg, hl, hH⟩ := holdsK_own hown hne
    subst hl
    refine (sort_some rs g cap w hH hg hn).mono ?_
    rintro e w' ⟨rfl, d', q, os, hp, hs', rfl⟩
    have hsz : d'.size = rs.length := by simpa using hp.1
    have hperm : d'.toList.Perm rs := by
      have := hp.2.2
      rw [← hsz, Array.extract_size, hsz] at this
      simpa using this
    refine ⟨rfl, d'.toList, hperm, ?_, ?_, below_sorted hb hB q _ os⟩
    · rw [List.pairwise_iff_getElem]
      intro i j hi hj hij
      have := hs' i j (by omega) hij (by simpa [hsz] using hj)
      rw [ltLo] at this
      have hi' : i < d'.size := by simpa using hi
      have hj' : j < d'.size := by simpa using hj
      simp only [getElem!_pos d' i hi', getElem!_pos d' j hj'] at this
      simp at this ⊢
      omega
    · have := own_sorted (ys := d'.toList) hown (by simpa using hsz) hg q os
      simpa using this
end Go.Proofs.YtibmhabipghjlaaGreat
end
section
set_option linter.unusedVariables false
namespace Go.Proofs.YtibmhabipghjlaaGreat
open Go.RowKit
def flt (rs : List Rn) : List Rn := rs.filter fun r => decide (r.1 < r.2)
theorem flt_snoc (rs : List Rn) (k : Nat) (hk : k < rs.length) : flt (rs.take (k + 1)) = if rs[k].1 < rs[k].2 then flt (rs.take k) ++ [rs[k]] else flt (rs.take k) := by
  rw [List.take_succ_eq_append_getElem hk]
  unfold flt
  rw [List.filter_append]
  by_cases h : rs[k].1 < rs[k].2 <;> simp [h]
theorem flt_le (rs : List Rn) : (flt rs).length ≤ rs.length := List.length_filter_le _ _
def joinL (l : List Rn) : List Rn := l.foldl stepR []
theorem stepR_len (out : List Rn) (r : Rn) : (stepR out r).length ≤ out.length + 1 := by
  unfold stepR
  split
  · simp
  · split
    · have : out.dropLast.length ≤ out.length := by simp
      rw [List.length_append]
      simp only [List.length_cons, List.length_nil]
      omega
    · simp
theorem joinL_len (l : List Rn) (k : Nat) : (joinL (l.take k)).length ≤ k := by
  induction k with
  | zero => simp [joinL]
  | succ k ih =>
    by_cases hk : k < l.length
    · rw [List.take_succ_eq_append_getElem hk]
      unfold joinL at ih ⊢
      rw [List.foldl_append]
      have := stepR_len ((l.take k).foldl stepR []) l[k]
      simp only [List.foldl_cons, List.foldl_nil]
      omega
    · rw [List.take_of_length_le (by omega)]
      rw [List.take_of_length_le (by omega)] at ih
      omega
theorem joinL_snoc (l : List Rn) (k : Nat) (hk : k < l.length) : joinL (l.take (k + 1)) = stepR (joinL (l.take k)) l[k] := by
  rw [List.take_succ_eq_append_getElem hk]
  unfold joinL
  rw [List.foldl_append]
  rfl
theorem stepR_last (o : List Rn) (q r : Rn) : stepR (o ++ [q]) r = if r.1 ≤ q.2 then o ++ [(q.1, max q.2 r.2)] else o ++ [q] ++ [r] := by
  unfold stepR
  simp
theorem encR_set (l : List Rn) (x y z : Int) : (encR (l ++ [(x, y)])).set (l.length * 2 + 1) (.int .i64 z) = encR (l ++ [(x, z)]) := by
  rw [encR_append, encR_append]
  have h := encR_len l
  rw [List.set_append, if_neg (by omega), show l.length * 2 + 1 - (encR l).length = 1 by omega]
  rfl
set_option maxHeartbeats 4000000 in
theorem join_any (rs : List Rn) (A : Option Addr) (n c : Nat) (w : World) (hn : rs.length = n) (hr : Rd w w.heap.size A (encR rs)) (hb : n ≤ 4000000000) :
    Calls Tryz.prog 94 #[.slice A n c] w fun e w' => ∃ v rs1, e = .returned v ∧ rs1.Perm (flt rs) ∧ rs1.Pairwise (fun a b => a.1 ≤ b.1) ∧ w'.ownsRow w.heap.size 111 2 v (joinL rs1).length (encR (joinL rs1)) ∧ Below w.heap.size w w' := by
  go_enter Tryz.func94, Tryz.ntmps94
  go_wp2_with fail
  go_loopw [3, 12] (fun v i wr => ∃ k : Nat, k ≤ n ∧ i = .int .i64 k ∧ wr.ownsRow w.heap.size 111 2 v (flt (rs.take k)).length (encR (flt (rs.take k))) ∧ Below w.heap.size w wr) (fun _ i _ => n - (intOf i).toNat)
  case atStart => exact ⟨0, by omega, rfl, by simpa [flt, encR] using World.ownsRow_nil _ _ _ _, Below.refl _ _⟩
  case round =>
    obtain ⟨k, hk, rfl, hown, hbel⟩ := hrel
    by_cases hlt : k < n
    · have hk2 : k < rs.length := by omega
      have hsn := Lib.hid (flt_snoc rs k hk2)
      have hfl := flt_le (rs.take k)
      have hfl2 : (flt (rs.take k)).length ≤ k := by simp at hfl; omega
      clear hfl
      obtain ⟨b, o, rfl, hbb, hc0, hc1⟩ := rd_run (hr.below hbel) k hk2
      generalize rs[k] = r at *
      obtain ⟨x, y⟩ := r
      simp only at hc0 hc1
      have hbw := hbel.size
      generalize hL : flt (rs.take k) = L at *
      clear hL
      by_cases hxy : x < y
      · have hd : decide (x < y) = true := by simpa using hxy
        go_wp2_with (first
          | (go_at_call 125; (with_reducible refine (some_any _ _ _).mono ?_); rintro e w1 ⟨rfl, hb1⟩; rw [hd]; have hown1 := own_below (hown.alloc _) hb1 (Nat.le_refl _); have hbel1 := (hbel.alloc hbw _).trans (hb1.mono (by simp; omega)); have hbw1 := hbel1.size; obtain ⟨d0, d1⟩ := ((Bk.new wr 111 #[.int .i64 x, .int .i64 y]).nx hb1).cell2; clear hown)
          | (at_builtin; refine app1 rfl _ _ _ rfl Tryz.underlying108 run_info rfl (by omega) rfl rfl hown1 hbel1 (Nat.le_refl _) hbw1 rfl (by simp [Value.oneCell']) (by omega) (by omega) ?_; intro v' w' hown' hbel' _ _ _; clear hown1))
        refine ⟨⟨k + 1, by omega, by go_num, ?_, hbel'⟩, by simp [intOf]; omega⟩
        rw [hsn.out, if_pos hxy, List.length_append, encR_append]
        exact hown'
      · have hd : decide (x < y) = false := by simpa using hxy
        go_wp2_with (go_at_call 125; (with_reducible refine (some_any _ _ _).mono ?_); rintro e w1 ⟨rfl, hb1⟩; rw [hd]; have hown1 := own_below (hown.alloc _) hb1 (Nat.le_refl _); have hbel1 := (hbel.alloc hbw _).trans (hb1.mono (by simp; omega)); clear hown)
        refine ⟨⟨k + 1, by omega, by go_num, ?_, hbel1⟩, by simp [intOf]; omega⟩
        rw [hsn.out, if_neg (by omega)]
        exact hown1
    · obtain rfl : k = n := by omega
      rw [List.take_of_length_le (by omega)] at hown
      have hfl := flt_le rs
      have hbw := hbel.size
      obtain ⟨A3, c3, rfl, h31, h32, hA3, _, _⟩ := own_form2 hown
      have hss := fun W h => sort_any (flt rs) (.slice A3 (flt rs).length c3) w.heap.size (flt rs).length W h
      have hlt2 := Lib.hid (show (flt rs).length < 4611686018427387904 by omega)
      go_wp2_with (go_at_call 126; (with_reducible refine (hss _ hown hbw hlt2.out).mono ?_); rintro e w1 ⟨rfl, rs1, hperm, hpw, hown1, hb1⟩)
      have hl1 : rs1.length = (flt rs).length := hperm.length_eq
      have hrd1 := Rd.of_own hown1
      have hbw1 := hb1.size
      have hbel1 := hbel.trans hb1
      clear hown hss hown1
      go_loopw [6, 27] (fun v i wr => ∃ k : Nat, k ≤ rs1.length ∧ i = .int .i64 k ∧ wr.ownsRow w1.heap.size 111 2 v (joinL (rs1.take k)).length (encR (joinL (rs1.take k))) ∧ Below w1.heap.size w1 wr) (fun _ i _ => rs1.length - (intOf i).toNat)
      case atStart => exact ⟨0, by omega, rfl, by simpa [joinL, encR] using World.ownsRow_nil _ _ _ _, by go_grown⟩
      case round =>
        obtain ⟨k, hk, rfl, hown, hbr⟩ := hrel
        by_cases hlt : k < rs1.length
        · have hsn := Lib.hid (joinL_snoc rs1 k hlt)
          have hjl := joinL_len rs1 k
          obtain ⟨b, o, rfl, hbb, hc0, hc1⟩ := rd_run (hrd1.below hbr) k hlt
          generalize rs1[k] = r at *
          obtain ⟨x, y⟩ := r
          simp only at hc0 hc1
          have hbw := hbr.size
          generalize hL : joinL (rs1.take k) = L at *
          clear hL
          rcases List.eq_nil_or_concat L with e | ⟨L', q, e⟩
          · subst e
            have hsn' := Lib.hid (show joinL (rs1.take (k + 1)) = [(x, y)] from hsn.out)
            obtain ⟨A6, c6, rfl, h61, h62, hA6, h63, h64⟩ := own_form2 hown
            simp only [List.length_nil] at *
            clear hsn
            have hK0 := (Bk.new wr 111 #[.int .i64 x, .int .i64 y])
            go_wp2_with fail
            go_quiet (fail)
            have hown3 : ((wr.alloc (.cells #[.int .i64 x, .int .i64 y] 111)).drewN nq).ownsRow w1.heap.size 111 2 (.slice A6 0 c6) 0 (encR []) := hown.alloc _
            have hbr3 := below_drewN (hbr.alloc hbw (.cells #[.int .i64 x, .int .i64 y] 111)) nq
            obtain ⟨f0, f1⟩ := (hK0.drewN nq).cell2
            generalize (wr.alloc (.cells #[.int .i64 x, .int .i64 y] 111)).drewN nq = w3 at *
            clear hown hK0
            have hbw3 := hbr3.size
            go_wp2_with (at_builtin; go_loud (refine app1 rfl _ _ _ rfl Tryz.underlying108 run_info rfl (by omega) rfl rfl hown3 hbr3 (Nat.le_refl _) hbw3 rfl (by simp [Value.oneCell']) (by omega) (by omega) ?_); intro v' w' hown' hbel' _ _ _; clear hown3)
            refine ⟨⟨k + 1, by omega, by go_num, ?_, hbel'⟩, by simp [intOf]; omega⟩
            rw [hsn'.out]
            exact hown'
          · have e' : L = L' ++ [q] := by rw [e]; simp
            clear e
            subst e'
            obtain ⟨x0, y0⟩ := q
            rw [stepR_last] at hsn
            obtain ⟨A6, c6, rfl, h61, h62, hA6, h63, h64⟩ := own_form2 hown
            rw [show (L' ++ [(x0, y0)]).length = L'.length + 1 by simp] at *
            obtain ⟨g6, rfl, hg61, hg62⟩ := own_some hown (by omega)
            obtain ⟨b6, o6, e6, _, hd0, hd1⟩ := rd_run h63 L'.length (by simp)
            injection e6 with e6
            injection e6 with e61 e62
            subst e61; subst e62
            simp at hd0 hd1
            by_cases hle : x ≤ y0
            · rw [if_pos hle] at hsn
              go_wp2_with fail
              go_quiet (fail)
              have hK0 := (Bk.new wr 111 #[.int .i64 x, .int .i64 y]).drewN nq
              have hown3 := ((hown.alloc (.cells #[.int .i64 x, .int .i64 y] 111)).drew.drew)
              have hbr3 := below_drewN (hbr.alloc hbw (.cells #[.int .i64 x, .int .i64 y] 111)) nq
              have hd1' : ((wr.alloc (.cells #[.int .i64 x, .int .i64 y] 111)).drewN nq).cell? ⟨g6, L'.length * 2 + 1, none⟩ = some (.int .i64 y0) := (World.cell?_alloc_lt wr _ _ hg62).trans hd1
              have hsz3 : wr.heap.size < ((wr.alloc (.cells #[.int .i64 x, .int .i64 y] 111)).drewN nq).heap.size := by simp
              replace hown3 : ((wr.alloc (.cells #[.int .i64 x, .int .i64 y] 111)).drewN nq).ownsRow w1.heap.size 111 2 (.slice (some ⟨g6, 0, none⟩) (L'.length + 1) c6) (L'.length + 1) (encR (L' ++ [(x0, y0)])) := hown.alloc _
              go_upto_region 15 with fail
              generalize (wr.alloc (.cells #[.int .i64 x, .int .i64 y] 111)).drewN nq = w3 at *
              clear hown hd0 hd1
              obtain ⟨f0, f1⟩ := hK0.cell2
              have q1 := fun (d : Nat) (os : Array Obj) => cell_regrown hd1' d os
              have q2 := fun (d : Nat) (os : Array Obj) => cell_regrown f1 d os
              refine wp_region_quiet_tail 14 (by kernel_rfl) (by kernel_rfl) ?_
              simp only [List.take_succ_cons, List.take_zero, List.drop_succ_cons, List.drop_zero]
              repeat (first | go_big_quiet_step (fail) | quiet_step (fail))
              refine wpQuiet_nil ?_
              intro _ hw'
              obtain ⟨⟨d, os⟩, hw''⟩ := hw'
              subst hw''
              have hby := below_regrown w3 d os
              have hbx := hbr3.trans (hby.mono hbr3.size)
              have hown4 := own_below hown3 hby (Nat.le_refl _)
              have qq := q1 d os
              clear q1 q2 hown3 hK0
              generalize Go.Sort.grow (redrawn w3 d) os = wx at *
              have hst := hown4.stored (L'.length * 2 + 1) (.int .i64 (max y0 y))
              have hfz := hown4.frozenAt (L'.length * 2 + 1)
              rw [encR_set] at hst
              have hbx2 := hbx.grown hst.2 hbx.size (fun k e => by injection e with e; omega)
              go_wp2_with fail
              refine ⟨⟨k + 1, by omega, by go_num, ?_, hbx2⟩, by simp [intOf]; omega⟩
              rw [hsn.out, show (L' ++ [(x0, max y0 y)]).length = L'.length + 1 by simp]
              exact hst.1
            · rw [if_neg hle] at hsn
              have hle' : y0 < x := by omega
              go_wp2_with fail
              go_quiet (fail)
              have hK0 := (Bk.new wr 111 #[.int .i64 x, .int .i64 y]).drewN nq
              have hown3 := ((hown.alloc (.cells #[.int .i64 x, .int .i64 y] 111)).drew.drew)
              have hbr3 := below_drewN (hbr.alloc hbw (.cells #[.int .i64 x, .int .i64 y] 111)) nq
              have hd1' : ((wr.alloc (.cells #[.int .i64 x, .int .i64 y] 111)).drewN nq).cell? ⟨g6, L'.length * 2 + 1, none⟩ = some (.int .i64 y0) := (World.cell?_alloc_lt wr _ _ hg62).trans hd1
              have hsz3 : wr.heap.size < ((wr.alloc (.cells #[.int .i64 x, .int .i64 y] 111)).drewN nq).heap.size := by simp
              replace hown3 : ((wr.alloc (.cells #[.int .i64 x, .int .i64 y] 111)).drewN nq).ownsRow w1.heap.size 111 2 (.slice (some ⟨g6, 0, none⟩) (L'.length + 1) c6) (L'.length + 1) (encR (L' ++ [(x0, y0)])) := hown.alloc _
              generalize (wr.alloc (.cells #[.int .i64 x, .int .i64 y] 111)).drewN nq = w3 at *
              clear hown hd0 hd1
              obtain ⟨f0, f1⟩ := hK0.cell2
              have hbw3 := hbr3.size
              go_wp2_with (at_builtin; go_loud (refine app1 rfl _ _ _ rfl Tryz.underlying108 run_info rfl (by omega) rfl rfl hown3 hbr3 (Nat.le_refl _) hbw3 rfl (by simp [Value.oneCell']) (by omega) (by omega) ?_); intro v' w' hown' hbel' _ _ _; clear hown3)
              refine ⟨⟨k + 1, by omega, by go_num, ?_, hbel'⟩, by simp [intOf]; omega⟩
              rw [hsn.out, encR_append, List.length_append, show (L' ++ [(x0, y0)]).length = L'.length + 1 by simp]
              exact hown'
        · obtain rfl : k = rs1.length := by omega
          rw [List.take_of_length_le (by omega)] at hown
          have hbw := hbr.size
          go_wp2_with fail
          go_returns
          exact ⟨_, rs1, rfl, hperm, hpw, own_base hown (by omega), hbel1.trans (hbr.mono (by omega))⟩
end Go.Proofs.YtibmhabipghjlaaGreat
end
section
set_option linter.unusedVariables false
namespace Go.Proofs.YtibmhabipghjlaaGreat
theorem jinv_take (l : List Rn) (hp : l.Pairwise (fun a b => a.1 ≤ b.1)) (hs : ∀ r ∈ l, r.1 < r.2) : ∀ k, k ≤ l.length → JInv (joinL (l.take k)) (l.take k)
  | 0, _ => by simpa [joinL] using jinv_nil
  | k + 1, hk => by
    have ih := jinv_take l hp hs k (by omega)
    have hlt : k < l.length := by omega
    rw [joinL_snoc l k hlt, List.take_succ_eq_append_getElem hlt]
    refine jinv_step ih ?_ (hs _ (List.getElem_mem hlt))
    intro p hpm
    obtain ⟨i, hi, rfl⟩ := List.mem_iff_getElem.1 hpm
    have hik : i < k := by simp at hi; omega
    rw [List.getElem_take]
    exact List.pairwise_iff_getElem.1 hp i k (by omega) hlt hik
theorem memR_flt (rs : List Rn) (i : Int) : MemR (flt rs) i ↔ MemR rs i := by
  constructor
  · rintro ⟨r, hr, h⟩
    exact ⟨r, (List.mem_filter.1 hr).1, h⟩
  · rintro ⟨r, hr, h⟩
    exact ⟨r, List.mem_filter.2 ⟨hr, by simp; omega⟩, h⟩
theorem join_law {rs rs1 : List Rn} (hperm : rs1.Perm (flt rs)) (hp : rs1.Pairwise (fun a b => a.1 ≤ b.1)) : Canon (joinL rs1) ∧ ∀ i, MemR (joinL rs1) i ↔ MemR rs i := by
  have hs : ∀ r ∈ rs1, r.1 < r.2 := fun r hr => by
    have := (List.mem_filter.1 (hperm.mem_iff.1 hr)).2
    simpa using this
  have h := jinv_take rs1 hp hs rs1.length (Nat.le_refl _)
  rw [List.take_length] at h
  exact ⟨h.canon, fun i => (h.mem i).trans ((memR_perm hperm i).trans (memR_flt rs i))⟩
/-- The runs as the fewest there are. -/
def joinF (rs : List Rn) : List Rn := joinL ((flt rs).mergeSort fun a b => decide (a.1 ≤ b.1))
theorem joinF_law (rs : List Rn) : Canon (joinF rs) ∧ ∀ i, MemR (joinF rs) i ↔ MemR rs i := by
  refine join_law (List.mergeSort_perm _ _) ?_
  have := List.pairwise_mergeSort (le := fun a b : Rn => decide (a.1 ≤ b.1)) (by intro a b c h1 h2; simp at *; omega) (by intro a b; simp; omega) (flt rs)
  exact this.imp (by intro a b h; simpa using h)
theorem joinF_eq {rs rs1 : List Rn} (hperm : rs1.Perm (flt rs)) (hp : rs1.Pairwise (fun a b => a.1 ≤ b.1)) : joinL rs1 = joinF rs := by
  have h1 := join_law hperm hp
  have h2 := joinF_law rs
  exact canon_ext h1.1 h2.1 fun i => (h1.2 i).trans (h2.2 i).symm
theorem joinF_of_canon {rs out : List Rn} (h : Canon out) (hm : ∀ i, MemR out i ↔ MemR rs i) : joinF rs = out := by
  have h2 := joinF_law rs
  exact canon_ext h2.1 h fun i => (h2.2 i).trans (hm i).symm
theorem joinF_len (rs : List Rn) : (joinF rs).length ≤ rs.length := by
  have h := joinL_len ((flt rs).mergeSort fun a b => decide (a.1 ≤ b.1)) (flt rs).length
  rw [List.take_of_length_le (by simp [List.length_mergeSort])] at h
  exact Nat.le_trans h (flt_le rs)
theorem mem_lo {l : List Rn} (h : Canon l) {r : Rn} (hr : r ∈ l) : MemR l r.1 ∧ MemR l (r.2 - 1) := by
  have := h.1 r hr
  exact ⟨⟨r, hr, by omega, by omega⟩, ⟨r, hr, by omega, by omega⟩⟩
theorem canon_range {l : List Rn} (h : Canon l) {lo hi : Int} (hm : ∀ i, MemR l i → lo ≤ i ∧ i < hi) : ∀ r ∈ l, lo ≤ r.1 ∧ r.2 ≤ hi := fun r hr => by
  have h1 := mem_lo h hr
  have := hm _ h1.1
  have := hm _ h1.2
  omega
def hasB (rs : List Rn) (i : Int) : Bool := rs.any fun r => decide (r.1 ≤ i) && decide (i < r.2)
theorem hasB_iff (rs : List Rn) (i : Int) : hasB rs i = true ↔ MemR rs i := by
  unfold hasB MemR
  simp
theorem hasB_congr {a b : List Rn} {i : Int} (h : MemR a i ↔ MemR b i) : hasB a i = hasB b i := by
  rw [Bool.eq_iff_iff, hasB_iff, hasB_iff]; exact h
theorem hasB_joinF (rs : List Rn) (i : Int) : hasB (joinF rs) i = hasB rs i := hasB_congr ((joinF_law rs).2 i)
def cntR (l : List Rn) : Int := (l.map fun r => r.2 - r.1).sum
theorem cntR_nil : cntR [] = 0 := rfl
theorem cntR_cons (r : Rn) (l : List Rn) : cntR (r :: l) = r.2 - r.1 + cntR l := by simp [cntR]
theorem cntR_snoc (l : List Rn) (k : Nat) (hk : k < l.length) : cntR (l.take (k + 1)) = cntR (l.take k) + (l[k].2 - l[k].1) := by
  rw [List.take_succ_eq_append_getElem hk]
  unfold cntR
  rw [List.map_append, List.sum_append]
  simp
theorem cnt_one (lo x y : Int) (h1 : lo ≤ x) (h2 : x ≤ y) : ∀ N : Nat, ((List.range N).countP fun j : Nat => decide (x ≤ lo + (j : Int)) && decide (lo + (j : Int) < y) : Nat) = (min y (lo + N) - min x (lo + N)).toNat
  | 0 => by simp; omega
  | N + 1 => by
    rw [List.range_succ, List.countP_append, cnt_one lo x y h1 h2 N]
    by_cases a : x ≤ lo + (N : Int) <;> by_cases b : lo + (N : Int) < y <;> simp [a, b] <;> omega
theorem countP_or {α : Type} (p q : α → Bool) (hd : ∀ a, p a = true → q a = false) : ∀ l : List α, (l.countP fun a => p a || q a) = l.countP p + l.countP q
  | [] => rfl
  | a :: l => by
    rw [List.countP_cons, List.countP_cons, List.countP_cons, countP_or p q hd l]
    have := hd a
    cases hp : p a <;> cases hq : q a <;> simp_all <;> omega
/-- How many things the runs have. -/
theorem cnt_all (lo : Int) (N : Nat) : ∀ {l : List Rn}, Canon l → (∀ r ∈ l, lo ≤ r.1 ∧ r.2 ≤ lo + N) → cntR l = ((List.range N).countP fun j : Nat => hasB l (lo + (j : Int)) : Nat)
  | [], _, _ => by
    rw [cntR_nil]
    have : (fun j : Nat => hasB [] (lo + (j : Int))) = fun _ => false := rfl
    rw [this]
    simp
  | r :: l, h, hb => by
    obtain ⟨h1, h2, h3⟩ := canon_cons h
    have ih := cnt_all lo N h3 (fun s hs => hb s (by simp [hs]))
    have e : (fun j : Nat => hasB (r :: l) (lo + (j : Int))) = fun j : Nat => (decide (r.1 ≤ lo + (j : Int)) && decide (lo + (j : Int) < r.2)) || hasB l (lo + (j : Int)) := rfl
    have hr := hb r (by simp)
    rw [e, countP_or, cnt_one lo r.1 r.2 hr.1 (by omega), cntR_cons, ih]
    · omega
    · intro j hj
      simp at hj
      rw [Bool.eq_false_iff]
      intro hc
      have := canon_far h ((hasB_iff l _).1 hc)
      omega
theorem cnt_mono {a b : List Rn} (ha : Canon a) (hb : Canon b) {lo : Int} {N : Nat} (h1 : ∀ r ∈ a, lo ≤ r.1 ∧ r.2 ≤ lo + N) (h2 : ∀ r ∈ b, lo ≤ r.1 ∧ r.2 ≤ lo + N) (hm : ∀ i, MemR a i → MemR b i) : cntR a ≤ cntR b := by
  rw [cnt_all lo N ha h1, cnt_all lo N hb h2]
  have := List.countP_mono_left (l := List.range N) (p := fun j : Nat => hasB a (lo + (j : Int))) (q := fun j : Nat => hasB b (lo + (j : Int))) (fun j _ hj => (hasB_iff _ _).2 (hm _ ((hasB_iff _ _).1 hj)))
  omega
theorem cnt_bound {a : List Rn} (ha : Canon a) {lo : Int} {N : Nat} (h1 : ∀ r ∈ a, lo ≤ r.1 ∧ r.2 ≤ lo + N) : 0 ≤ cntR a ∧ cntR a ≤ N := by
  rw [cnt_all lo N ha h1]
  have := List.countP_le_length (l := List.range N) (p := fun j : Nat => hasB a (lo + (j : Int)))
  simp at this
  omega
theorem canon_take {l : List Rn} (h : Canon l) (k : Nat) : Canon (l.take k) := ⟨fun r hr => h.1 r (List.mem_of_mem_take hr), h.2.take⟩
end Go.Proofs.YtibmhabipghjlaaGreat
end
section
set_option linter.unusedVariables false
namespace Go.Proofs.YtibmhabipghjlaaGreat
open Go.RowKit
theorem joinf_any (rs : List Rn) (A : Option Addr) (n c : Nat) (w : World) (hn : rs.length = n) (hr : Rd w w.heap.size A (encR rs)) (hb : n ≤ 4000000000) :
    Calls Tryz.prog 94 #[.slice A n c] w fun e w' => ∃ v, e = .returned v ∧ w'.ownsRow w.heap.size 111 2 v (joinF rs).length (encR (joinF rs)) ∧ Below w.heap.size w w' :=
  (join_any rs A n c w hn hr hb).mono fun e w' ⟨v, rs1, h1, h2, h3, h4, h5⟩ => ⟨v, h1, by rw [← joinF_eq h2 h3]; exact h4, h5⟩
theorem hasB_snoc (rs : List Rn) (k : Nat) (hk : k < rs.length) (i : Int) : hasB (rs.take (k + 1)) i = (hasB (rs.take k) i || (decide (rs[k].1 ≤ i) && decide (i < rs[k].2))) := by
  rw [List.take_succ_eq_append_getElem hk]
  unfold hasB
  rw [List.any_append]
  simp
/-- What Count answers. -/
def cntF (rs : List Rn) : Int := min (cntR (joinF rs)) 9223372036854775807
theorem cnt_step {l : List Rn} (h : Canon l) (hr : ∀ r ∈ l, -9223372036854775808 ≤ r.1 ∧ r.2 ≤ 9223372036854775807) (k : Nat) (hk : k < l.length) :
    0 ≤ cntR (l.take k) ∧ cntR (l.take (k + 1)) = cntR (l.take k) + (l[k].2 - l[k].1) ∧ cntR (l.take (k + 1)) ≤ 18446744073709551615 ∧ l[k].1 < l[k].2 ∧ -9223372036854775808 ≤ l[k].1 ∧ l[k].2 ≤ 9223372036854775807 := by
  have h1 := cnt_bound (canon_take h k) (lo := -9223372036854775808) (N := 18446744073709551615) (fun r hr' => by have := hr r (List.mem_of_mem_take hr'); omega)
  have h2 := cnt_bound (canon_take h (k + 1)) (lo := -9223372036854775808) (N := 18446744073709551615) (fun r hr' => by have := hr r (List.mem_of_mem_take hr'); omega)
  have h3 := hr _ (List.getElem_mem hk)
  exact ⟨h1.1, cntR_snoc l k hk, by omega, h.1 _ (List.getElem_mem hk), h3.1, h3.2⟩
theorem joinF_range {rs : List Rn} (hw : ∀ r ∈ rs, -9223372036854775808 ≤ r.1 ∧ r.2 ≤ 9223372036854775807) : ∀ r ∈ joinF rs, -9223372036854775808 ≤ r.1 ∧ r.2 ≤ 9223372036854775807 := by
  refine canon_range (joinF_law rs).1 ?_
  intro i hi
  obtain ⟨r, hr, h1, h2⟩ := ((joinF_law rs).2 i).1 hi
  have := hw r hr
  omega
theorem wrap_step {S x y : Int} (h1 : 0 ≤ S) (h2 : S + (y - x) ≤ 18446744073709551615) (h3 : x < y) (h4 : -9223372036854775808 ≤ x) (h5 : y ≤ 9223372036854775807) :
    IntKind.u64.wrap (S + IntKind.u64.wrap (IntKind.u64.wrap y - IntKind.u64.wrap x)) = S + (y - x) := by
  simp [IntKind.wrap, IntKind.bits, IntKind.signed]
  omega
end Go.Proofs.YtibmhabipghjlaaGreat
end
section
set_option linter.unusedVariables false
namespace Go.Proofs.YtibmhabipghjlaaGreat
open Go.RowKit
theorem rd_bool {w : World} {B : Nat} {A : Option Addr} {bs : List Bool} (h : Rd w B A (bs.map Value.bool)) (k : Nat) (hk : k < bs.length) : ∃ b o, A = some ⟨b, o, none⟩ ∧ b < B ∧ w.cell? ⟨b, o + k, none⟩ = some (.bool bs[k]) := by
  obtain ⟨b, o, e, hb, hc⟩ := h.get k (by simpa using hk)
  exact ⟨b, o, e, hb, by simpa using hc⟩
/-- The runs of those that are, before a place. -/
structure RInv (bs : List Bool) (i : Nat) (L : List Rn) : Prop where
  canon : Canon L
  mem : ∀ j, MemR L j ↔ 0 ≤ j ∧ j < i ∧ bs[j.toNat]? = some true
  end_ : ∀ r ∈ L, r.2 < i
theorem rinv_nil (bs : List Bool) : RInv bs 0 [] := ⟨canon_nil, fun j => ⟨fun h => absurd h (memR_nil j), fun h => by omega⟩, by simp⟩
theorem rinv_skip {bs : List Bool} {i : Nat} {L : List Rn} (h : RInv bs i L) (hi : bs[i]? ≠ some true) : RInv bs (i + 1) L := by
  refine ⟨h.canon, fun j => ?_, fun r hr => by have := h.end_ r hr; omega⟩
  rw [h.mem j]
  constructor
  · rintro ⟨h1, h2, h3⟩; exact ⟨h1, by omega, h3⟩
  · rintro ⟨h1, h2, h3⟩
    refine ⟨h1, ?_, h3⟩
    rcases Int.lt_or_le j i with g | g
    · exact g
    · have : j.toNat = i := by omega
      rw [this] at h3
      exact absurd h3 hi
theorem rinv_run {bs : List Bool} {i p : Nat} {L : List Rn} (h : RInv bs i L) (hip : i < p) (hall : ∀ q, i ≤ q → q < p → bs[q]? = some true) (hp : bs[p]? ≠ some true) : RInv bs (p + 1) (L ++ [((i : Int), (p : Int))]) := by
  refine ⟨canon_snoc.2 ⟨h.canon, by simpa using hip, fun x hx => h.end_ x hx⟩, fun j => ?_, ?_⟩
  · rw [memR_append, h.mem j, memR_cons]
    constructor
    · rintro (⟨h1, h2, h3⟩ | ⟨h1, h2⟩ | h1)
      · exact ⟨h1, by omega, h3⟩
      · simp only at h1 h2
        exact ⟨by omega, by omega, hall _ (by omega) (by omega)⟩
      · exact absurd h1 (memR_nil j)
    · rintro ⟨h1, h2, h3⟩
      rcases Int.lt_or_le j i with g | g
      · exact .inl ⟨h1, g, h3⟩
      · rcases Int.lt_or_le j p with g2 | g2
        · exact .inr (.inl ⟨g, g2⟩)
        · have : j.toNat = p := by omega
          rw [this] at h3
          exact absurd h3 hp
  · intro r hr
    rcases List.mem_append.1 hr with hr | hr
    · have := h.end_ r hr; omega
    · rw [List.mem_singleton] at hr; subst hr; show (p : Int) < _; omega
theorem canon_len {l : List Rn} {lo : Int} {N : Nat} (h : Canon l) (hb : ∀ r ∈ l, lo ≤ r.1 ∧ r.2 ≤ lo + N) : l.length ≤ N := by
  have h1 := (cnt_bound h hb).2
  have : ∀ {l : List Rn}, Canon l → (l.length : Int) ≤ cntR l := by
    intro l
    induction l with
    | nil => intro _; simp [cntR]
    | cons r l ih =>
      intro h
      obtain ⟨g1, _, g3⟩ := canon_cons h
      rw [cntR_cons]
      have := ih g3
      simp only [List.length_cons]
      omega
  have := this h
  omega
end Go.Proofs.YtibmhabipghjlaaGreat
end
section
set_option linter.unusedVariables false
namespace Go.Proofs.YtibmhabipghjlaaGreat
open Go.RowKit
/-- Columns of so many things. -/
abbrev askV (lo hi n : Int) : Value := .agg #[.int .i64 lo, .int .i64 hi, .int .i64 n]
theorem run_any (x y : Int) (w : World) (hx : -9223372036854775808 ≤ y + 1 ∧ y + 1 ≤ 9223372036854775807) :
    Calls Tryz.prog 152 #[.int .i64 x, .int .i64 y] w fun e w' => e = .returned (.agg #[.int .i64 x, .int .i64 (y + 1)]) ∧ Below w.heap.size w w' := by
  obtain ⟨h1, h2⟩ := hx
  go_enter Tryz.func152, Tryz.ntmps152
  go_wp2
  go_returns
  exact ⟨rfl, by go_grown⟩
end Go.Proofs.YtibmhabipghjlaaGreat
end
section
set_option linter.unusedVariables false
namespace Go.Proofs.YtibmhabipghjlaaGreat
/-- The value of digits, the lowest one first. -/
def vd : List Int → Int
  | [] => 0
  | d :: l => d + 32768 * vd l
def okd (l : List Int) : Prop := ∀ d ∈ l, 0 ≤ d ∧ d ≤ 32767
/-- Digits without noughts at the end. -/
def Norm (l : List Int) : Prop := okd l ∧ ∀ d, l.getLast? = some d → d ≠ 0
/-- 32768 to the power of n. -/
def Bp : Nat → Int
  | 0 => 1
  | n + 1 => 32768 * Bp n
theorem Bp_pos (n : Nat) : 1 ≤ Bp n := by
  induction n with
  | zero => simp [Bp]
  | succ n ih => rw [Bp]; omega
theorem Bp_add (m n : Nat) : Bp (m + n) = Bp m * Bp n := by
  induction m with
  | zero => simp [Bp]
  | succ m ih => rw [Nat.succ_add, Bp, Bp, ih, Int.mul_assoc]
theorem Bp_mono {m n : Nat} (h : m ≤ n) : Bp m ≤ Bp n := by
  obtain ⟨k, rfl⟩ := Nat.exists_eq_add_of_le h
  rw [Bp_add]
  have h1 := Bp_pos m
  have h2 := Bp_pos k
  have := Int.mul_le_mul_of_nonneg_left h2 (by omega : 0 ≤ Bp m)
  omega
theorem okd_nil : okd [] := fun d h => by cases h
theorem okd_cons {d : Int} {l : List Int} : okd (d :: l) ↔ (0 ≤ d ∧ d ≤ 32767) ∧ okd l := by simp [okd]
theorem okd_append {l m : List Int} : okd (l ++ m) ↔ okd l ∧ okd m := by
  simp only [okd, List.mem_append]
  exact ⟨fun h => ⟨fun d hd => h d (.inl hd), fun d hd => h d (.inr hd)⟩, fun h d hd => hd.elim (h.1 d) (h.2 d)⟩
theorem okd_take {l : List Int} (h : okd l) (n : Nat) : okd (l.take n) := fun d hd => h d (List.mem_of_mem_take hd)
theorem okd_drop {l : List Int} (h : okd l) (n : Nat) : okd (l.drop n) := fun d hd => h d (List.mem_of_mem_drop hd)
theorem vd_nonneg {l : List Int} (h : okd l) : 0 ≤ vd l := by
  induction l with
  | nil => simp [vd]
  | cons d l ih => rw [okd_cons] at h; rw [vd]; have := ih h.2; omega
theorem vd_lt {l : List Int} (h : okd l) : vd l < Bp l.length := by
  induction l with
  | nil => simp [vd, Bp]
  | cons d l ih => rw [okd_cons] at h; rw [vd, List.length_cons, Bp]; have := ih h.2; omega
theorem vd_append (l m : List Int) : vd (l ++ m) = vd l + Bp l.length * vd m := by
  induction l with
  | nil => simp [vd, Bp]
  | cons d l ih => rw [List.cons_append, vd, vd, ih, List.length_cons, Bp, Int.mul_add, Int.mul_assoc]; omega
theorem vd_snoc (l : List Int) (d : Int) : vd (l ++ [d]) = vd l + Bp l.length * d := by rw [vd_append]; simp [vd]
theorem vd_zeros (n : Nat) : vd (List.replicate n 0) = 0 := by
  induction n with
  | zero => rfl
  | succ n ih => rw [List.replicate_succ, vd, ih]; rfl
/-- The digits without the noughts at the end. -/
def tr (l : List Int) : List Int := (l.reverse.dropWhile (· == 0)).reverse
theorem tr_snoc (l : List Int) (d : Int) : tr (l ++ [d]) = if d = 0 then tr l else l ++ [d] := by
  unfold tr
  rw [List.reverse_append]
  simp only [List.reverse_cons, List.reverse_nil, List.nil_append, List.cons_append, List.dropWhile_cons]
  by_cases h : d = 0
  · simp [h]
  · simp [h]
theorem list_snoc {α : Type} (l : List α) (h : l ≠ []) : ∃ m d, l = m ++ [d] := ⟨l.dropLast, l.getLast h, (List.dropLast_concat_getLast h).symm⟩
theorem snoc_ind {α : Type} {P : List α → Prop} (h0 : P []) (h1 : ∀ l d, P l → P (l ++ [d])) : ∀ (n : Nat) (l : List α), l.length = n → P l := by
  intro n
  induction n with
  | zero => intro l hl; rw [List.eq_nil_of_length_eq_zero hl]; exact h0
  | succ n ih =>
    intro l hl
    obtain ⟨m, d, rfl⟩ := list_snoc l (by rintro rfl; simp at hl)
    exact h1 m d (ih m (by simpa using hl))
theorem tr_vd (l : List Int) : vd (tr l) = vd l := by
  refine snoc_ind (P := fun l => vd (tr l) = vd l) rfl (fun l d ih => ?_) _ l rfl
  rw [tr_snoc]
  split
  · rename_i h; subst h; rw [vd_snoc, ih]; omega
  · rfl
theorem tr_le (l : List Int) : (tr l).length ≤ l.length := by
  refine snoc_ind (P := fun l => (tr l).length ≤ l.length) (by simp [tr]) (fun l d ih => ?_) _ l rfl
  rw [tr_snoc]
  split
  · simp; omega
  · simp
theorem tr_take (l : List Int) : tr l = l.take (tr l).length := by
  refine snoc_ind (P := fun l => tr l = l.take (tr l).length) (by simp [tr]) (fun l d ih => ?_) _ l rfl
  rw [tr_snoc]
  split
  · rw [List.take_append_of_le_length (tr_le l)]; exact ih
  · rw [List.take_length]
theorem tr_norm {l : List Int} (h : okd l) : Norm (tr l) := by
  refine ⟨by rw [tr_take]; exact okd_take h _, ?_⟩
  refine snoc_ind (P := fun l => ∀ d, (tr l).getLast? = some d → d ≠ 0) (by simp [tr]) (fun l d ih => ?_) _ l rfl
  rw [tr_snoc]
  split
  · exact ih
  · rename_i hd; intro e he; simp at he; subst he; exact hd
/-- Trimming by one: what the loop does. -/
theorem tr_step (l : List Int) (k : Nat) (hk : k < l.length) : tr (l.take (k + 1)) = if l[k] = 0 then tr (l.take k) else l.take (k + 1) := by
  rw [List.take_succ_eq_append_getElem hk, tr_snoc]
theorem norm_nil : Norm [] := ⟨okd_nil, by simp⟩
theorem norm_pos {l : List Int} (h : Norm l) (hl : l ≠ []) : Bp (l.length - 1) ≤ vd l := by
  obtain ⟨m, d, rfl⟩ := list_snoc l hl
  have hd := h.2 d (by simp)
  have hok := okd_append.1 h.1
  have h1 := vd_nonneg hok.1
  have h2 := hok.2 d (by simp)
  rw [vd_snoc]
  simp only [List.length_append, List.length_cons, List.length_nil, Nat.zero_add, Nat.add_sub_cancel]
  have h3 := Bp_pos m.length
  have := Int.mul_le_mul_of_nonneg_left (show 1 ≤ d by omega) (by omega : 0 ≤ Bp m.length)
  omega
theorem norm_len {l : List Int} (h : Norm l) {n : Nat} (hv : vd l < Bp n) : l.length ≤ n := by
  by_cases hl : l = []
  · subst hl; simp
  · have h1 := norm_pos h hl
    rcases Nat.lt_or_ge n l.length with h2 | h2
    · exfalso
      have := Bp_mono (show n ≤ l.length - 1 by omega)
      omega
    · exact h2
theorem norm_zero {l : List Int} (h : Norm l) : l = [] ↔ vd l = 0 := by
  constructor
  · rintro rfl; rfl
  · intro hv
    by_cases hl : l = []
    · exact hl
    · have := norm_pos h hl; have := Bp_pos (l.length - 1); omega
theorem tr_self {l : List Int} (h : Norm l) : tr l = l := by
  by_cases hl : l = []
  · subst hl; rfl
  · obtain ⟨m, d, rfl⟩ := list_snoc l hl
    rw [tr_snoc, if_neg (h.2 d (by simp))]
/-- The i-th digit. -/
def dgt (l : List Int) (i : Nat) : Int := l[i]?.getD 0
theorem dgt_ok {l : List Int} (h : okd l) (i : Nat) : 0 ≤ dgt l i ∧ dgt l i ≤ 32767 := by
  unfold dgt
  by_cases hi : i < l.length
  · rw [List.getElem?_eq_getElem hi]; exact h _ (List.getElem_mem _)
  · rw [List.getElem?_eq_none (by omega)]; simp
theorem vd_take_succ (l : List Int) (k : Nat) : vd (l.take (k + 1)) = vd (l.take k) + Bp k * dgt l k := by
  by_cases hk : k < l.length
  · rw [List.take_succ_eq_append_getElem hk, vd_snoc]
    simp only [List.length_take, dgt, List.getElem?_eq_getElem hk, Option.getD_some]
    rw [Nat.min_eq_left (by omega)]
  · rw [List.take_of_length_le (by omega), List.take_of_length_le (by omega)]
    simp [dgt, List.getElem?_eq_none (by omega : l.length ≤ k)]
theorem vd_drop (l : List Int) (k : Nat) : vd (l.drop k) = dgt l k + 32768 * vd (l.drop (k + 1)) := by
  by_cases hk : k < l.length
  · rw [List.drop_eq_getElem_cons hk, vd]; simp [dgt, List.getElem?_eq_getElem hk]
  · rw [List.drop_eq_nil_of_le (by omega), List.drop_eq_nil_of_le (by omega)]
    simp [dgt, List.getElem?_eq_none (by omega : l.length ≤ k), vd]
theorem vd_split (l : List Int) (k : Nat) (hk : k ≤ l.length) : vd l = vd (l.take k) + Bp k * vd (l.drop k) := by
  conv => lhs; rw [← List.take_append_drop k l]
  rw [vd_append]; simp [Nat.min_eq_left hk]
theorem vd_set (l : List Int) (k : Nat) (x : Int) (hk : k < l.length) : vd (l.set k x) = vd l + Bp k * (x - dgt l k) := by
  induction l generalizing k with
  | nil => simp at hk
  | cons d l ih =>
    cases k with
    | zero => simp [vd, Bp, dgt]; omega
    | succ k =>
      simp only [List.set_cons_succ, vd, Bp]
      rw [ih k (by simpa using hk)]
      have : dgt (d :: l) (k + 1) = dgt l k := by simp [dgt]
      rw [this, Int.mul_add, Int.mul_assoc]; omega
theorem okd_set {l : List Int} (h : okd l) (k : Nat) (x : Int) (hx : 0 ≤ x ∧ x ≤ 32767) : okd (l.set k x) := by
  intro d hd
  rcases List.mem_or_eq_of_mem_set hd with h1 | h1
  · exact h d h1
  · subst h1; exact hx
theorem dgt_set (l : List Int) (k j : Nat) (x : Int) (hk : k < l.length) : dgt (l.set k x) j = if j = k then x else dgt l j := by
  unfold dgt
  rw [List.getElem?_set]
  by_cases h : k = j
  · subst h; simp [hk]
  · rw [if_neg h, if_neg (fun e => h e.symm)]
theorem Bp4 : Bp 4 = 1152921504606846976 := by decide
theorem Bp5 : Bp 5 = 37778931862957161709568 := by decide
theorem Bp20 : Bp 20 = 2037035976334486086268445688409378161051468393665936250636140449354381299763336706183397376 := by decide
theorem Bp40 : Bp 40 = 4149515568880992958512407863691161151012446232242436899995657329690652811412908146399707048947103794288197886611300789182395151075411775307886874834113963687061181803401509523685376 := by decide
theorem Bp39s : Bp 40 = 32768 * Bp 39 := rfl
theorem Bp38s : Bp 39 = 32768 * Bp 38 := rfl
theorem Bp1s (n : Nat) : Bp (n + 1) = 32768 * Bp n := rfl
theorem Bp0s : Bp 0 = 1 := rfl
attribute [irreducible] Bp
end Go.Proofs.YtibmhabipghjlaaGreat
end
