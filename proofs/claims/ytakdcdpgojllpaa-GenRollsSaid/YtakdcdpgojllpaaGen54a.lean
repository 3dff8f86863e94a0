/- Walks of layer 54 (gen), the numbers that are rolled, and of its reference. -/
import Derived.Test.YtakdcdpgojllpaaImg07
import Derived.Test.YtakdcdpgojllpaaRow
import Derived.Deep.RegionWith
import Derived.StillTailTactics
import Derived.Deep.RegionHeld3
set_option linter.unusedVariables false
namespace Go.Proofs.Ytakdcdpgojllpaa
open Go.RowKit
theorem xor_bd (a b : Int) : 0 ≤ bits BinOp.xor IntKind.u64 a b ∧ bits BinOp.xor IntKind.u64 a b ≤ 18446744073709551615 := by
  have h : bits BinOp.xor IntKind.u64 a b = IntKind.u64.wrap ((BitVec.ofInt 64 a ^^^ BitVec.ofInt 64 b).toNat : Int) := rfl
  rw [h, IntKind.wrap_u64]
  omega
def nx1 (x : Int) : Int := bits BinOp.xor IntKind.u64 (max x 1) (max x 1 / 4096)
def nx2 (x : Int) : Int := bits BinOp.xor IntKind.u64 (nx1 x) (IntKind.u64.wrap (nx1 x * 33554432))
def nx (x : Int) : Int := bits BinOp.xor IntKind.u64 (nx2 x) (nx2 x / 134217728)
theorem nx_bd (x : Int) : 0 ≤ nx x ∧ nx x ≤ 18446744073709551615 := xor_bd _ _
def rl (x n : Int) : Int := nx x / 8589934592 % max n 1
theorem rl_bd (x n : Int) : 0 ≤ rl x n ∧ rl x n < max n 1 := by
  unfold rl
  exact ⟨Int.emod_nonneg _ (by omega), Int.emod_lt_of_pos _ (by omega)⟩
theorem wtd (y d : Int) (h : 0 ≤ y ∧ y ≤ 18446744073709551615) (hd : d = 134217728) : IntKind.u64.wrap (y.tdiv d) = y / 134217728 := by
  subst hd
  rw [Int.tdiv_eq_ediv_of_nonneg h.1, IntKind.wrap_u64]; omega
set_option maxHeartbeats 1000000 in
theorem next_any (x : Int) (w : World) (h0 : 0 ≤ x) (h1 : x ≤ 18446744073709551615) :
    Calls Try.prog 15 #[.int .u64 x] w fun e w' => e = .returned (.int .u64 (nx x)) ∧ w = w' := by
  go_enter Try.func15, Try.ntmps15
  go_wp2
  · have e : max x 1 = 1 := by omega
    have hm : nx x = bits BinOp.xor IntKind.u64 (nx2 x) (nx2 x / 134217728) := rfl
    unfold nx2 nx1 at hm
    rw [e, show (1:Int) / 4096 = 0 from rfl] at hm
    go_ret
    exact ⟨ret_int (by rw [hm]; try rw [wtd _ _ (xor_bd _ _) rfl]), rfl⟩
  · have e : max x 1 = x := by omega
    have hm : nx x = bits BinOp.xor IntKind.u64 (nx2 x) (nx2 x / 134217728) := rfl
    unfold nx2 nx1 at hm
    rw [e] at hm
    go_ret
    exact ⟨ret_int (by rw [hm]; try rw [wtd _ _ (xor_bd _ _) rfl]), rfl⟩
set_option maxHeartbeats 1000000 in
theorem rnext_any (x : Int) (w : World) (h0 : 0 ≤ x) (h1 : x ≤ 18446744073709551615) :
    Calls Try.prog 27 #[.int .u64 x] w fun e w' => e = .returned (.int .u64 (nx x)) ∧ w = w' := by
  go_enter Try.func27, Try.ntmps27
  go_wp2
  · have e : max x 1 = 1 := by omega
    have hm : nx x = bits BinOp.xor IntKind.u64 (nx2 x) (nx2 x / 134217728) := rfl
    unfold nx2 nx1 at hm
    rw [e, show (1:Int) / 4096 = 0 from rfl] at hm
    go_ret
    exact ⟨ret_int (by rw [hm]; try rw [wtd _ _ (xor_bd _ _) rfl]), rfl⟩
  · have e : max x 1 = x := by omega
    have hm : nx x = bits BinOp.xor IntKind.u64 (nx2 x) (nx2 x / 134217728) := rfl
    unfold nx2 nx1 at hm
    rw [e] at hm
    go_ret
    exact ⟨ret_int (by rw [hm]; try rw [wtd _ _ (xor_bd _ _) rfl]), rfl⟩
set_option maxHeartbeats 1000000 in
theorem rroll_any (x n : Int) (w : World) (h0 : 0 ≤ x) (h1 : x ≤ 18446744073709551615) (hn : n ≤ 9223372036854775807) :
    Calls Try.prog 13 #[.int .u64 x, .int .i64 n] w fun e w' => e = .returned (.tuple #[.int .i64 (rl x n), .int .u64 (nx x)]) ∧ w = w' := by
  have hb := nx_bd x
  go_enter Try.func13, Try.ntmps13
  go_wp2_with (go_at_call 27; refine (rnext_any _ _ h0 h1).mono ?_; rintro e w' ⟨rfl, rfl⟩)
  all_goals go_returns
  · exact ⟨ret_t2 (by unfold rl; rw [show max n 1 = 1 by omega]; omega) rfl, rfl⟩
  · exact ⟨ret_t2 (by unfold rl; rw [show max n 1 = n by omega]) rfl, rfl⟩
set_option maxHeartbeats 1000000 in
theorem roll_nil (n : Int) (w : World) :
    Calls Try.prog 14 #[.pointer none, .int .i64 n] w fun e w' => e = .returned (.int .i64 0) ∧ w = w' := by
  go_enter Try.func14, Try.ntmps14
  go_wp2
  go_returns
  exact ⟨rfl, rfl⟩
set_option maxHeartbeats 1000000 in
theorem roll_at (g : Nat) (x n : Int) (w : World) (h0 : 0 ≤ x) (h1 : x ≤ 18446744073709551615) (hn : n ≤ 9223372036854775807) (hc : w.cell? ⟨g, 0, none⟩ = some (.int .u64 x)) (hf : w.frozen? ⟨g, 0, none⟩ = false) :
    Calls Try.prog 14 #[.pointer (some ⟨g, 0, none⟩), .int .i64 n] w fun e w' => e = .returned (.int .i64 (rl x n)) ∧ w.setCell ⟨g, 0, none⟩ (.int .u64 (nx x)) = w' := by
  have hb := nx_bd x
  go_enter Try.func14, Try.ntmps14
  go_wp2_with (go_at_call 15; refine (next_any _ _ h0 h1).mono ?_; rintro e w' ⟨rfl, rfl⟩)
  all_goals go_returns
  · exact ⟨ret_int (by unfold rl; rw [show max n 1 = 1 by omega]; omega), rfl⟩
  · exact ⟨ret_int (by unfold rl; rw [show max n 1 = n by omega]), rfl⟩
/-- The states of the dice, and the numbers rolled. -/
def rlS (x : Int) : List Int → Int
  | [] => x
  | n :: l => rlS (nx x) l
def rlL (x : Int) : List Int → List Int
  | [] => []
  | n :: l => rl x n :: rlL (nx x) l
theorem rlS_bd (x : Int) (h0 : 0 ≤ x ∧ x ≤ 18446744073709551615) (l : List Int) : 0 ≤ rlS x l ∧ rlS x l ≤ 18446744073709551615 := by
  induction l generalizing x with
  | nil => exact h0
  | cons n l ih => exact ih _ (nx_bd x)
theorem rlS_snoc (x : Int) (l : List Int) (n : Int) : rlS x (l ++ [n]) = nx (rlS x l) := by
  induction l generalizing x with
  | nil => rfl
  | cons m l ih => exact ih _
theorem rlL_snoc (x : Int) (l : List Int) (n : Int) : rlL x (l ++ [n]) = rlL x l ++ [rl (rlS x l) n] := by
  induction l generalizing x with
  | nil => rfl
  | cons m l ih => simp [rlL, rlS, ih]
theorem rlL_len (x : Int) (l : List Int) : (rlL x l).length = l.length := by
  induction l generalizing x with
  | nil => rfl
  | cons m l ih => simp [rlL, ih]
theorem int_info : (Try.prog.info? 3).map (fun i => (i.zero, i.size, i.bytes)) = some (some (.int .i64 0), 1, 8) := by kernel_rfl
theorem int64_info : (Try.prog.info? 2).map (fun i => (i.zero, i.size, i.bytes)) = some (some (.int .i64 0), 1, 8) := by kernel_rfl
set_option maxHeartbeats 1000000 in
theorem times_any (n : Nat) (of : Int) (w : World) (hn : n ≤ 1000000) :
    Calls Try.prog 30 #[.int .i64 n, .int .i64 of] w fun e w' => ∃ v, e = .returned v ∧ w'.ownsRow w.heap.size 3 1 v n (List.replicate n (.int .i64 of)) ∧ Below w.heap.size w w' := by
  obtain ⟨i0, hi, hz0, hz1, hz2⟩ := info_parts int_info
  go_enter Try.func30, Try.ntmps30
  go_wp2
  go_loopw [5, 6] (fun v i wr => ∃ k : Nat, k ≤ n ∧ i = .int .i64 k ∧ wr.ownsRow w.heap.size 3 1 v k (List.replicate k (.int .i64 of)) ∧ Below w.heap.size w wr) (fun _ i _ => n - (intOf i).toNat)
  case atStart => exact ⟨0, by omega, rfl, World.ownsRow_nil _ _ _ _, Below.refl _ _⟩
  case round =>
    obtain ⟨k, hk, rfl, hown, hbel⟩ := hrel
    by_cases hlt : k < n
    · go_wp2_with (at_builtin; refine app1 rfl _ _ _ rfl Try.underlying28 int_info rfl (by omega) rfl rfl hown hbel (Nat.le_refl _) hbel.size rfl ints1 (by omega) (by omega) ?_; intro v' w' hown' hbel' _ _ _; clear hown hbel)
      exact ⟨⟨k + 1, by omega, by go_num, by simpa [List.replicate_succ'] using hown', hbel'⟩, by simp [intOf]; omega⟩
    · obtain rfl : k = n := by omega
      go_wp2
      go_returns
      exact ⟨_, rfl, hown, hbel⟩
set_option maxHeartbeats 1000000 in
theorem rolls_any (x : Int) (l : List Int) (A : Option Addr) (c n : Nat) (w : World) (hn : l.length = n) (h : Rd w w.heap.size A (l.map (Value.int .i64))) (hl : ∀ z ∈ l, z ≤ 9223372036854775807) (hn2 : n ≤ 100000000) (h0 : 0 ≤ x ∧ x ≤ 18446744073709551615) :
    Calls Try.prog 29 #[.int .u64 x, .slice A n c] w fun e w' => ∃ v, e = .returned (.tuple #[v, .int .u64 (rlS x l)]) ∧ w'.ownsRow w.heap.size 2 1 v n ((rlL x l).map (Value.int .i64)) ∧ Below w.heap.size w w' := by
  go_enter Try.func29, Try.ntmps29
  go_wp2
  go_loopw [6, 7, 15] (fun v y i wr => ∃ k : Nat, k ≤ n ∧ i = .int .i64 k ∧ y = .int .u64 (rlS x (l.take k)) ∧ wr.ownsRow w.heap.size 2 1 v k ((rlL x (l.take k)).map (Value.int .i64)) ∧ Below w.heap.size w wr) (fun _ _ i _ => n - (intOf i).toNat)
  case atStart => exact ⟨0, by omega, rfl, rfl, World.ownsRow_nil _ _ _ _, Below.refl _ _⟩
  case round =>
    obtain ⟨k, hk, rfl, rfl, hown, hbel⟩ := hrel
    by_cases hlt : k < n
    · obtain ⟨b, o, rfl, hb, hcl⟩ := (h.below hbel).get k (by simp; omega)
      have hkl : k < l.length := by omega
      simp only [List.getElem_map] at hcl
      have hs := rlS_bd x h0 (l.take k)
      have hz := hl l[k] (List.getElem_mem _)
      have ht : l.take (k + 1) = l.take k ++ [l[k]] := by rw [List.take_succ_eq_append_getElem hkl]
      have HT := Lib.hid ht
      clear ht
      go_wp2_with (first
        | (go_at_call 13; refine (rroll_any _ _ _ hs.1 hs.2 hz).mono ?_; rintro e w' ⟨rfl, rfl⟩)
        | (at_builtin; refine app1 rfl _ _ _ rfl Try.underlying54 int64_info rfl (by omega) rfl rfl hown hbel (Nat.le_refl _) hbel.size rfl ints1 (by omega) (by omega) ?_; intro v' w' hown' hbel' _ _ _; clear hown hbel hcl))
      exact ⟨⟨k + 1, by omega, by go_num, by rw [HT.out, rlS_snoc], by rw [HT.out, rlL_snoc]; simpa using hown', hbel'⟩, by simp [intOf]; omega⟩
    · obtain rfl : k = n := by omega
      have e : l.take k = l := List.take_of_length_le (by omega)
      have HE := Lib.hid e
      clear e
      go_wp2
      go_returns
      rw [HE.out] at hown
      exact ⟨_, ret_v2 rfl (val_int (by rw [HE.out])), hown, hbel⟩
/-- The bytes of an image that is rolled. -/
def rlB (x : Int) (n : Nat) : List Int := rlL x (List.replicate n 256)
theorem rl256 (x : Int) : 0 ≤ rl x 256 ∧ rl x 256 ≤ 255 := by have := rl_bd x 256; omega
theorem rlL_mem (x : Int) (l : List Int) (hl : ∀ z ∈ l, z = 256) : ∀ z ∈ rlL x l, 0 ≤ z ∧ z ≤ 255 := by
  induction l generalizing x with
  | nil => intro z hz; cases hz
  | cons n l ih =>
    intro z hz
    rcases List.mem_cons.1 hz with rfl | hz
    · rw [hl n (by simp)]; exact rl256 x
    · exact ih _ (fun z hz => hl z (by simp [hz])) z hz
theorem rlB_mem (x : Int) (n : Nat) : ∀ z ∈ rlB x n, 0 ≤ z ∧ z ≤ 255 := rlL_mem x _ (fun z hz => List.eq_of_mem_replicate hz)
theorem rlB_len (x : Int) (n : Nat) : (rlB x n).length = n := by unfold rlB; rw [rlL_len]; simp
set_option maxHeartbeats 1000000 in
theorem rimage_any (x : Int) (a b c n : Nat) (w : World) (hn : a * b * c = n) (hn2 : n ≤ 1000000) (h1 : a * b ≤ 1000000000) (h0 : 0 ≤ x ∧ x ≤ 18446744073709551615) :
    Calls Try.prog 20 #[.int .u64 x, .int .i64 a, .int .i64 b, .int .i64 c] w fun e w' => ∃ A k, e = .returned (.tuple #[.agg #[.int .i64 a, .int .i64 b, .int .i64 c, .slice A n k], .int .u64 (rlS x (List.replicate n 256))]) ∧ Rd w' w'.heap.size A ((rlB x n).map (Value.int .u8)) ∧ Below w.heap.size w w' := by
  have e1 : ((a * b : Nat) : Int) = (a : Int) * b := by simp
  have e2 : ((a * b * c : Nat) : Int) = (a : Int) * b * c := by simp
  have b1 : 0 ≤ (a : Int) * b ∧ (a : Int) * b ≤ 1000000000 := by omega
  have b2 : 0 ≤ (a : Int) * b * c ∧ (a : Int) * b * c ≤ 1000000 := by omega
  have e3 : (a : Int) * b * c = (n : Int) := by omega
  have E3 := Lib.hid e3
  clear e1 e2 e3
  go_enter Try.func20, Try.ntmps20
  go_wp2_with fail
  rw [E3.out]
  refine (times_any n 256 _ (by omega)).mono ?_
  rintro e w1 ⟨v, rfl, hown, hbel⟩
  obtain ⟨A, k, rfl, hk1, hk2, hrd, hlen⟩ := own_form hown
  go_wp2_with fail
  refine (rolls_any x (List.replicate n 256) A k n w1 (by simp) (by simpa using hrd) (fun z hz => by rw [List.eq_of_mem_replicate hz]; omega) (by omega) h0).mono ?_
  rintro e w2 ⟨v, rfl, hown2, hbel2⟩
  have hbw : Below (w.heap.size + 1) (w.alloc (.cells #[.int .i64 0, .int .i64 0, .int .i64 0, .slice none 0 0] 41)) w2 := (hbel.mono (by simp)).trans (hbel2.mono (by have := hbel.size; simpa using this))
  obtain ⟨A2, k2, rfl, hk1, hk2, hrd2, hlen2⟩ := own_form hown2
  have hz2 : w.heap.size + 1 ≤ w2.heap.size := by have := hbw.size; simpa using this
  have hmem := rlB_mem x n
  have hbl := rlB_len x n
  have hrd3 : Rd w2 w2.heap.size A2 ((rlB x n).map (Value.int .i64)) := hrd2
  clear hrd hrd2 hown hown2 hbel hbel2 hlen hlen2
  go_wp2
  go_loopw [12, 13] (fun v i wr => ∃ k : Nat, k ≤ n ∧ i = .int .i64 k ∧ wr.ownsRow w2.heap.size 5 1 v k (((rlB x n).take k).map (Value.int .u8)) ∧ Below w2.heap.size w2 wr) (fun _ i _ => n - (intOf i).toNat)
  case atStart => exact ⟨0, by omega, rfl, World.ownsRow_nil _ _ _ _, Below.refl _ _⟩
  case round =>
    obtain ⟨k, hk, rfl, hown, hbel⟩ := hrel
    by_cases hlt : k < n
    · have hkl : k < (rlB x n).length := by omega
      obtain ⟨b, o, rfl, hb, hcl⟩ := (hrd3.below hbel).get k (by simp; omega)
      have hm := hmem _ (List.getElem_mem hkl)
      have ht : (rlB x n).take (k + 1) = (rlB x n).take k ++ [(rlB x n)[k]] := by rw [List.take_succ_eq_append_getElem hkl]
      have HT := Lib.hid ht
      clear ht hbl hmem
      simp only [List.getElem_map] at hcl
      generalize (rlB x n)[k] = z at *
      go_wp2_with (at_builtin; refine app1 rfl _ _ _ rfl Try.underlying39 u8_info rfl (by omega) rfl rfl hown hbel (Nat.le_refl _) hbel.size rfl ints1 (by omega) (by omega) ?_; intro v' w' hown' hbel' _ _ _; clear hown hbel hcl)
      exact ⟨⟨k + 1, by omega, by go_num, by rw [HT.out]; simpa using hown', hbel'⟩, by simp [intOf]; omega⟩
    · obtain rfl : k = n := by omega
      have HE := Lib.hid (show (rlB x k).take k = rlB x k from List.take_of_length_le (by omega))
      obtain ⟨A3, k3, rfl, _, _, hrd4, _⟩ := own_form hown
      have hK : Bk wr w.heap.size 41 #[.int .i64 0, .int .i64 0, .int .i64 0, .slice none 0 0] := ((Bk.new w _ _).below hbw (by omega)).below hbel (by omega)
      clear hrd3
      go_wp2_with (first
        | (go_at_call 31; refine (made_any _ _ _ _ _ _ _).mono ?_; rintro e w' ⟨rfl, hb5⟩; have hK5 := hK.nx hb5)
        | (refine stImg rfl _ _ rfl hK5 rfl rfl rfl ?_; intro w6 hK6 hg6 hs6))
      refine bodyPost_ret (res_cell_tmp rfl hK6 rfl Try.underlying41 rfl img_size) rfl ?_
      have h6 := (own_below hown hb5 (Nat.le_refl _)).kept hg6 (.inr (fun e => by have := own_ge hown _ e; omega))
      rw [HE.out] at h6
      have hs5 := hbel.size
      have hs6 := hb5.size
      have hbz : Below w.heap.size w w' := ((((Below.refl _ w).alloc (Nat.le_refl _) _).trans (hbw.mono (by omega))).trans (hbel.mono (by omega))).trans (hb5.mono (by omega))
      exact ⟨A3, k3, rfl, Rd.of_own h6, below_grown hbz hg6 (Nat.le_refl _) (by omega)⟩
set_option maxHeartbeats 1000000 in
theorem dimage_bad (D : Option Addr) (a b c : Int) (w : World) (hC : fitsC a b c ≠ 0) :
    Calls Try.prog 17 #[.pointer D, .int .i64 a, .int .i64 b, .int .i64 c] w fun e w' => e = .returned (.tuple #[.agg #[.int .i64 0, .int .i64 0, .int .i64 0, .slice none 0 0], .int .i64 (fitsC a b c)]) ∧ Below w.heap.size w w' := by
  have hmf : ∀ (fn : Fn) (first cap : Array Value) (w : World), (Instr.makeFunc fn first cap).run Try.prog w = .ok (.func fn first cap) w := fun _ _ _ _ => rfl
  go_enter Try.func17, Try.ntmps17
  go_wp2_with fail
  refine (new_bad a b c _ hC).mono ?_
  rintro e w' ⟨rfl, hb⟩
  have hK := (Bk.new w 41 img0).nx hb
  have hKm := Bk.new w' 41 img0
  have hK' := hK.alloc (.cells img0 41)
  go_wp2_with fail
  refine wp_loop_rounds 1 ?_
  rw [rounds_succ]
  go_wp2_with (first
    | (refine ldImg rfl _ rfl hKm rfl ?_)
    | (refine stImg rfl _ _ rfl hK' rfl rfl rfl ?_; intro w6 hK6 hg6 hs6))
  refine bodyPost_ret (res_img_tmp rfl hK6 rfl) rfl ?_
  exact ⟨rfl, below_grown (((((Below.refl _ w).alloc (Nat.le_refl _) _).trans (hb.mono (by simp)))).alloc (by have := hb.size; simp at this; omega) _) hg6 (Nat.le_refl _) (by have := hb.size; simp at this ⊢; omega)⟩
set_option maxHeartbeats 1000000 in
theorem dimage_nil (a b c n : Nat) (w : World) (hC : fitsC a b c = 0) (hn : a * b * c = n) (hn2 : n ≤ 100000000) :
    Calls Try.prog 17 #[.pointer none, .int .i64 a, .int .i64 b, .int .i64 c] w fun e w' => ∃ A k, e = .returned (.tuple #[.agg #[.int .i64 a, .int .i64 b, .int .i64 c, .slice A n k], .int .i64 0]) ∧ Rd w' w'.heap.size A (List.replicate n (.int .u8 0)) ∧ Below w.heap.size w w' := by
  have hmf : ∀ (fn : Fn) (first cap : Array Value) (w : World), (Instr.makeFunc fn first cap).run Try.prog w = .ok (.func fn first cap) w := fun _ _ _ _ => rfl
  go_enter Try.func17, Try.ntmps17
  go_wp2_with fail
  refine (new_ok a b c _ hC).mono ?_
  rintro e w' ⟨v, rfl, hown, hb⟩
  rw [hn] at hown
  obtain ⟨A, k, rfl, hk1, hk2, hrd, hlen⟩ := own_form hown
  have hK := (Bk.new w 41 img0).nx hb
  have hKm := Bk.new w' 41 (imgA a b c A n k)
  have hK' := hK.alloc (.cells (imgA a b c A n k) 41)
  clear hK hrd hlen
  have hsz : w.heap.size + 1 ≤ w'.heap.size := by have := hb.size; simpa using this
  have hbz : Below w.heap.size w (w'.alloc (.cells (imgA a b c A n k) 41)) := (((Below.refl _ w).alloc (Nat.le_refl _) _).trans (hb.mono (by simp))).alloc (by omega) _
  have hown2 : (w'.alloc (.cells (imgA a b c A n k) 41)).ownsRow (w.heap.size + 1) 5 1 (.slice A n k) n (List.replicate n (.int .u8 0)) := by simpa using hown.alloc (.cells (imgA a b c A n k) 41)
  clear hown hb
  go_wp2_with fail
  go_loopw [26] (fun i wr => ∃ j : Nat, j ≤ n ∧ i = .int .i64 j ∧ wr.ownsRow (w.heap.size + 1) 5 1 (.slice A n k) n (List.replicate n (.int .u8 0)) ∧ Bk wr w.heap.size 41 img0 ∧ Bk wr w'.heap.size 41 (imgA a b c A n k) ∧ Below w.heap.size w wr) (fun i _ => n - (intOf i).toNat)
  case atStart => exact ⟨0, by omega, rfl, hown2, hK', hKm, hbz⟩
  case round =>
    clear hK' hKm hbz hown2
    obtain ⟨j, hj, rfl, hown, hK', hKm, hbz⟩ := hrel
    by_cases hlt : j < n
    · obtain ⟨b0, rfl, hb0, hb1⟩ := own_some hown (by omega)
      have hcl := hown.cellAt j (by omega)
      have hfr := hown.frozenAt j
      have hc2 := hKm.cell 3
      have hst := (hown.stored j (.int .u8 0)).1
      have hlt2 := hKm.lt
      have hlt3 := hK'.lt
      have hne : w'.heap.size ≠ b0 := hKm.ne_own hown (by decide) _ rfl
      simp at hc2 hcl
      rw [List.getElem?_replicate, if_pos hlt] at hcl
      rw [List.set_replicate_self] at hst
      go_wp2_with fail
      go_region_with (go_at_call 14; refine (roll_nil _ _).mono ?_; rintro e w' ⟨rfl, rfl⟩)
      all_goals
        go_wp2
        exact ⟨⟨j + 1, by omega, by go_num, hst.drew, (hK'.far (p := ⟨b0, j, none⟩) (by simp; omega) _).drew, (hKm.far (p := ⟨b0, j, none⟩) hne _).drew, (hbz.setCell (by simp; omega) _).drew⟩, by simp [intOf]; omega⟩
    · go_wp2_with (first
        | (refine ldImg rfl _ rfl hKm rfl ?_)
        | (refine stImg rfl _ _ rfl hK' rfl rfl rfl ?_; intro w6 hK6 hg6 hs6))
      refine bodyPost_ret (res_img_tmp rfl hK6 rfl) rfl ?_
      have h6 := hown.kept hg6 (.inr (fun e => by have := own_ge hown _ e; omega))
      have := hK'.lt
      exact ⟨A, k, rfl, Rd.of_own h6, below_grown hbz hg6 (Nat.le_refl _) (by omega)⟩
theorem rlB_succ (x : Int) (j : Nat) : rlB x (j + 1) = rlB x j ++ [rl (rlS x (List.replicate j 256)) 256] := by
  unfold rlB; rw [List.replicate_succ', rlL_snoc]
theorem rlS_succ (x : Int) (j : Nat) : rlS x (List.replicate (j + 1) 256) = nx (rlS x (List.replicate j 256)) := by
  rw [List.replicate_succ', rlS_snoc]
set_option maxHeartbeats 1000000 in
theorem dimage_at (gd a b c n : Nat) (x : Int) (w : World) (hx : 0 ≤ x ∧ x ≤ 18446744073709551615) (hD : Bk w gd 32 #[.int .u64 x]) (hC : fitsC a b c = 0) (hn : a * b * c = n) (hn2 : n ≤ 100000000) :
    Calls Try.prog 17 #[.pointer (some ⟨gd, 0, none⟩), .int .i64 a, .int .i64 b, .int .i64 c] w fun e w' => ∃ A k, e = .returned (.tuple #[.agg #[.int .i64 a, .int .i64 b, .int .i64 c, .slice A n k], .int .i64 0]) ∧ Rd w' w'.heap.size A ((rlB x n).map (Value.int .u8)) ∧ Bk w' gd 32 #[.int .u64 (rlS x (List.replicate n 256))] ∧ w.grownBy w' (some gd) := by
  have hmf : ∀ (fn : Fn) (first cap : Array Value) (w : World), (Instr.makeFunc fn first cap).run Try.prog w = .ok (.func fn first cap) w := fun _ _ _ _ => rfl
  go_enter Try.func17, Try.ntmps17
  go_wp2_with fail
  refine (new_ok a b c _ hC).mono ?_
  rintro e w' ⟨v, rfl, hown, hb⟩
  rw [hn] at hown
  obtain ⟨A, k, rfl, hk1, hk2, hrd, hlen⟩ := own_form hown
  have hDlt := hD.lt
  have hK := (Bk.new w 41 img0).nx hb
  have hKm := Bk.new w' 41 (imgA a b c A n k)
  have hK' := hK.alloc (.cells (imgA a b c A n k) 41)
  clear hK hrd hlen
  have hsz : w.heap.size + 1 ≤ w'.heap.size := by have := hb.size; simpa using this
  have hbz : w.grownBy (w'.alloc (.cells (imgA a b c A n k) 41)) (some gd) := gb_alloc (gb_of_below ((((Below.refl _ w).alloc (Nat.le_refl _) _).trans (hb.mono (by simp))))) _
  have hD2 : Bk (w'.alloc (.cells (imgA a b c A n k) 41)) gd 32 #[.int .u64 x] := ((hD.alloc _).below hb (by simp; omega)).alloc _
  have hown2 : (w'.alloc (.cells (imgA a b c A n k) 41)).ownsRow (w.heap.size + 1) 5 1 (.slice A n k) n (List.replicate n (.int .u8 0)) := by simpa using hown.alloc (.cells (imgA a b c A n k) 41)
  clear hown hb hD
  go_wp2_with fail
  go_loopw [26] (fun i wr => ∃ j : Nat, j ≤ n ∧ i = .int .i64 j ∧ wr.ownsRow (w.heap.size + 1) 5 1 (.slice A n k) n ((rlB x j).map (Value.int .u8) ++ List.replicate (n - j) (.int .u8 0)) ∧ Bk wr gd 32 #[.int .u64 (rlS x (List.replicate j 256))] ∧ Bk wr w.heap.size 41 img0 ∧ Bk wr w'.heap.size 41 (imgA a b c A n k) ∧ w.grownBy wr (some gd)) (fun i _ => n - (intOf i).toNat)
  case atStart => exact ⟨0, by omega, rfl, by simpa [rlB, rlL] using hown2, hD2, hK', hKm, hbz⟩
  case round =>
    clear hK' hKm hbz hown2 hD2
    obtain ⟨j, hj, rfl, hown, hD, hK', hKm, hbz⟩ := hrel
    by_cases hlt : j < n
    · obtain ⟨b0, rfl, hb0, hb1⟩ := own_some hown (by omega)
      have hX := rlS_bd x hx (List.replicate j 256)
      have hr256 := rl256 (rlS x (List.replicate j 256))
      have hlen := rlB_len x j
      have hcl := hown.cellAt j (by omega)
      have hfr := hown.frozenAt j
      have hc2 := hKm.cell 3
      have hst := ((own_far hown ⟨gd, 0, none⟩ (.int .u64 (nx (rlS x (List.replicate j 256)))) (fun g hg => by simp [Value.ownBlock] at hg; subst hg; exact fun e => hD.ne_own hown (by decide) _ rfl e.symm)).stored j (.int .u8 (rl (rlS x (List.replicate j 256)) 256))).1
      rw [set_fill _ _ _ _ _ (by simpa using hlen) hlt] at hst
      have hst2 : ((wr.setCell ⟨gd, 0, none⟩ (.int .u64 (nx (rlS x (List.replicate j 256))))).setCell ⟨b0, j, none⟩ (.int .u8 (rl (rlS x (List.replicate j 256)) 256))).ownsRow (w.heap.size + 1) 5 1 (.slice (some ⟨b0, 0, none⟩) n k) n ((rlB x (j + 1)).map (Value.int .u8) ++ List.replicate (n - (j + 1)) (.int .u8 0)) := by
        rw [rlB_succ]; simpa using hst
      have HST := Lib.hid hst2
      clear hst hst2
      have hlt2 := hKm.lt
      have hlt3 := hK'.lt
      have hne : w'.heap.size ≠ b0 := hKm.ne_own hown (by decide) _ rfl
      have hne2 : gd ≠ b0 := hD.ne_own hown (by decide) _ rfl
      have hne3 : gd ≠ w'.heap.size := hD.ne_Bk hKm (by decide)
      have hne4 : gd ≠ w.heap.size := hD.ne_Bk hK' (by decide)
      have hcD := hD.cell 0
      have hfD := hD.frozen 0
      rw [List.getElem?_append_right (by simp; omega)] at hcl
      simp [hlen] at hc2 hcl hcD
      rw [List.getElem?_replicate, if_pos (by omega)] at hcl
      have HL := Lib.hid hlen
      clear hlen
      go_wp2_with fail
      go_region_with (go_at_call 14; refine (roll_at gd _ _ _ hX.1 hX.2 (by omega) (by go_simp) (by go_simp)).mono ?_; rintro e w' ⟨rfl, rfl⟩)
      all_goals
        go_wp2
        exact ⟨⟨j + 1, by omega, by go_num, HST.out.drew, by simpa [rlS_succ] using ((hD.set 0 (.int .u64 (nx (rlS x (List.replicate j 256))))).far (p := ⟨b0, j, none⟩) hne2 (.int .u8 (rl (rlS x (List.replicate j 256)) 256))).drew,
          ((hK'.far (p := ⟨gd, 0, none⟩) (Ne.symm hne4) _).far (p := ⟨b0, j, none⟩) (by simp; omega) _).drew, ((hKm.far (p := ⟨gd, 0, none⟩) (Ne.symm hne3) _).far (p := ⟨b0, j, none⟩) hne _).drew,
          gb_drew (gb_setCell (gb_setCell hbz (.inl rfl) _) (.inr (by simp; omega)) _)⟩, by simp [intOf]; omega⟩
    · go_wp2_with (first
        | (refine ldImg rfl _ rfl hKm rfl ?_)
        | (refine stImg rfl _ _ rfl hK' rfl rfl rfl ?_; intro w6 hK6 hg6 hs6))
      refine bodyPost_ret (res_img_tmp rfl hK6 rfl) rfl ?_
      have h6 := hown.kept hg6 (.inr (fun e => by have := own_ge hown _ e; omega))
      have := hK'.lt
      have hjn : j = n := by omega
      subst hjn
      rw [Nat.sub_self, List.replicate_zero, List.append_nil] at h6
      exact ⟨A, k, rfl, Rd.of_own h6, hD.grown hg6 (fun e => hD.ne_Bk hK' (by decide) (by injection e)), gb_trans hbz hg6 (fun g hg => .inr (by injection hg; omega))⟩
set_option maxHeartbeats 1000000 in
theorem alive54_any (w : World) :
    Calls Try.prog 19 #[] w fun e w' => e = .returned (.bool true) ∧ w = w' := by
  have e1 : nx 1 = 33554433 := by decide
  go_enter Try.func19, Try.ntmps19
  go_wp2_with (go_at_call 15; refine (next_any _ _ (by omega) (by omega)).mono ?_; rintro e w' ⟨rfl, rfl⟩)
  go_ret
  exact ⟨rfl, rfl⟩
end Go.Proofs.Ytakdcdpgojllpaa
