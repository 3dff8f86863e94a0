/- ages: the reference's lists: Without, Touch, Has, Ints. -/
import Derived.Test.YtiefhmbffmphdaaAG0
set_option linter.unusedVariables false
namespace Go.Proofs.Ytiefhmbffmphdaa
open Go.RowKit
theorem int_info : (Try.prog.info? 3).map (fun i => (i.zero, i.size, i.bytes)) = some (some (.int .i64 0), 1, 8) := by kernel_rfl
/-- What answers a list of its own. -/
def OwnI (L : List Int) (w : World) (e : Ending) (w' : World) : Prop := ∃ v, e = .returned v ∧ w'.ownsRow w.heap.size 3 1 v L.length (L.map (Value.int .i64)) ∧ Below w.heap.size w w'
theorem fil_snoc (l : List Int) (z : Int) (k : Nat) (hk : k < l.length) : (l.take (k + 1)).filter (· ≠ z) = if l[k] = z then (l.take k).filter (· ≠ z) else (l.take k).filter (· ≠ z) ++ [l[k]] := by
  rw [List.take_succ_eq_append_getElem hk, List.filter_append]
  by_cases h : l[k] = z <;> simp [h]
set_option maxRecDepth 100000 in
set_option maxHeartbeats 4000000 in
theorem without_any (l : List Int) (A : Option Addr) (n c : Nat) (z : Int) (w : World) {B : Nat} (hn : l.length = n) (hr : Rd w B A (l.map (Value.int .i64))) (hB : B ≤ w.heap.size) (hb : n ≤ 1000000) :
    Calls Try.prog 10 #[.slice A n c, .int .i64 z] w (OwnI (l.filter (· ≠ z)) w) := by
  go_enter Try.func10, Try.ntmps10
  go_wp2_with fail
  go_loopw [5, 6] (fun v i wr => ∃ k : Nat, k ≤ n ∧ i = .int .i64 k ∧ wr.ownsRow w.heap.size 3 1 v ((l.take k).filter (· ≠ z)).length (((l.take k).filter (· ≠ z)).map (Value.int .i64)) ∧ Below w.heap.size w wr) (fun _ i _ => n - (intOf i).toNat)
  case atStart => exact ⟨0, by omega, rfl, by simpa using World.ownsRow_nil _ _ _ _, Below.refl _ _⟩
  case round =>
    obtain ⟨k, hk, rfl, hown, hbel⟩ := hrel
    by_cases hlt : k < n
    · have hk2 : k < l.length := by omega
      have hsn := Lib.hid (fil_snoc l z k hk2)
      have hfl2 : ((l.take k).filter (· ≠ z)).length ≤ k := Nat.le_trans (List.length_filter_le _ _) (by simp; omega)
      obtain ⟨b, o, rfl, hbb, hc0⟩ := (hr.below' hbel hB).get k (by simp [hk2])
      rw [List.getElem_map] at hc0
      generalize l[k] = x at *
      have hbw := hbel.size
      generalize hL : (l.take k).filter (· ≠ z) = L at *
      clear hL
      by_cases hxy : x = z
      · have hd : (x != z) = false := by simpa using hxy
        have HX := Lib.hid hxy
        clear hxy
        go_wp2_with fail
        refine ⟨⟨k + 1, by omega, by go_num, ?_, hbel⟩, by simp [intOf]; omega⟩
        rw [hsn.out, if_pos HX.out]
        exact hown
      · have hd : (x != z) = true := by simpa using hxy
        have HX := Lib.hid hxy
        clear hxy
        go_wp2_with (at_builtin; refine app1 rfl _ _ _ rfl Try.underlying30 int_info rfl (by omega) rfl rfl hown hbel (Nat.le_refl _) hbw rfl (by simp [Value.oneCell']) (by omega) (by omega) ?_; intro v' w' hown' hbel' _ _ _; clear hown)
        refine ⟨⟨k + 1, by omega, by go_num, ?_, hbel'⟩, by simp [intOf]; omega⟩
        rw [hsn.out, if_neg HX.out, List.length_append, List.map_append]
        exact hown'
    · obtain rfl : k = n := by omega
      rw [List.take_of_length_le (by omega)] at hown
      go_wp2_with fail
      go_returns
      exact ⟨_, rfl, by simpa using hown, hbel⟩
set_option maxRecDepth 100000 in
set_option maxHeartbeats 4000000 in
theorem rtouch_any (l : List Int) (A : Option Addr) (n c : Nat) (z : Int) (w : World) {B : Nat} (hn : l.length = n) (hr : Rd w B A (l.map (Value.int .i64))) (hB : B ≤ w.heap.size) (hb : n ≤ 100000) :
    Calls Try.prog 7 #[.slice A n c, .int .i64 z] w (OwnI (l.filter (· ≠ z) ++ [z]) w) := by
  have hfl : (l.filter (· ≠ z)).length ≤ n := by rw [← hn]; exact List.length_filter_le _ _
  have hW := without_any l A n c z w hn hr hB (by omega)
  clear hn hr
  generalize l.filter (· ≠ z) = L at *
  go_enter Try.func7, Try.ntmps7
  go_wp2_with (first
    | (go_at_call 10; (with_reducible refine hW.mono ?_); rintro e w1 ⟨v, rfl, hown, hbel⟩; have hbw := hbel.size)
    | (at_builtin; refine app1 rfl _ _ _ rfl Try.underlying30 int_info rfl (by omega) rfl rfl hown hbel (Nat.le_refl _) hbw rfl (by simp [Value.oneCell']) (by omega) (by omega) ?_; intro v' w' hown' hbel' _ _ _; clear hown))
  go_returns
  refine ⟨_, rfl, ?_, hbel'⟩
  rw [List.length_append, List.map_append]
  exact hown'
theorem fil_has (l : List Int) (z : Int) : decide ((l.filter (· ≠ z)).length < l.length) = decide (z ∈ l) := by
  have : (l.filter (· ≠ z)).length < l.length ↔ z ∈ l := by
    induction l with
    | nil => simp
    | cons x xs ih =>
      have h1 : (xs.filter (· ≠ z)).length ≤ xs.length := List.length_filter_le _ _
      by_cases e : x = z
      · rw [List.filter_cons_of_neg (by simp [e]), List.length_cons]
        simp only [List.mem_cons, e, true_or, iff_true]; omega
      · rw [List.filter_cons_of_pos (by simp [e]), List.length_cons, List.length_cons, List.mem_cons]
        constructor
        · intro h; exact .inr (ih.1 (by omega))
        · rintro (h | h)
          · exact absurd h.symm e
          · have := ih.2 h; omega
  by_cases h : z ∈ l
  · rw [decide_eq_true h, decide_eq_true (this.2 h)]
  · rw [decide_eq_false h, decide_eq_false (fun e => h (this.1 e))]
set_option maxRecDepth 100000 in
set_option maxHeartbeats 4000000 in
theorem rhas_any' (l : List Int) (A : Option Addr) (n c : Nat) (z : Int) (w : World) {B : Nat} (hn : l.length = n) (hr : Rd w B A (l.map (Value.int .i64))) (hB : B ≤ w.heap.size) (hb : n ≤ 100000) :
    Calls Try.prog 9 #[.slice A n c, .int .i64 z] w fun e w' => e = .returned (.bool (decide (z ∈ l))) ∧ Below w.heap.size w w' := by
  have hfl : (l.filter (· ≠ z)).length ≤ n := by rw [← hn]; exact List.length_filter_le _ _
  have hW := without_any l A n c z w hn hr hB (by omega)
  have hd := fil_has l z
  rw [hn] at hd
  clear hn hr
  generalize decide (z ∈ l) = q at *
  generalize l.filter (· ≠ z) = L at *
  have hd' : decide ((L.length : Int) < (n : Int)) = q := by rw [← hd]; simp
  clear hd
  have HD := Lib.hid hd'
  clear hd'
  go_enter Try.func9, Try.ntmps9
  go_wp2_with (go_at_call 10; (with_reducible refine hW.mono ?_); rintro e w1 ⟨v, rfl, hown, hbel⟩; obtain ⟨A1, c1, rfl, _⟩ := own_form hown)
  go_returns
  exact ⟨by rw [← HD.out]; simp, hbel⟩
end Go.Proofs.Ytiefhmbffmphdaa
