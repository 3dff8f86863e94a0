/- The reference's columns. -/
import Derived.Test.YtjdboclibinjoaaFt15
set_option linter.unusedVariables false
namespace Go.Proofs.Ytjdboclibinjoaa
open Go.RowKit
theorem idx_col {m n i j : Int} (hm : 0 ≤ m ∧ m ≤ 3) (hn : 1 ≤ n) : colAt m n i = some j ↔ idx m i n = (j, true) := by
  have h1 := split_col (n := n) (i := i) hn
  have ha := again_eq (i := i) hn
  have hbad : ¬ (m < 0 ∨ 3 < m ∨ n < 1) := by omega
  unfold idx colAt
  rw [if_neg hbad]
  clear hbad
  by_cases hi : 0 ≤ i ∧ i < n
  · simp only [if_pos hi]
    have e1 : i % n = i := Int.emod_eq_of_lt hi.1 hi.2
    have e2 : i / n = 0 := Int.ediv_eq_zero_of_lt hi.1 hi.2
    have hcase : m = 0 ∨ m = 1 ∨ m = 2 ∨ m = 3 := by omega
    rcases hcase with rfl | rfl | rfl | rfl
    · simp
    · simp; constructor <;> intro h <;> omega
    · simp [e1]
    · simp [e1, e2]
  · simp only [if_neg hi]
    have hcase : m = 0 ∨ m = 1 ∨ m = 2 ∨ m = 3 := by omega
    rcases hcase with rfl | rfl | rfl | rfl
    · simp
    · simp only [if_neg (show ¬ (1 : Int) = 0 by omega), if_pos]
      split <;> simp <;> constructor <;> intro h <;> omega
    · simp
    · simp only [if_neg (show ¬ (3 : Int) = 0 by omega), if_neg (show ¬ (3 : Int) = 1 by omega), if_neg (show ¬ (3 : Int) = 2 by omega)]
      rw [ha]
      split <;> simp
structure HvI (m lo : Int) (n : Nat) (i : Int) (bs : List Bool) : Prop where
  len : bs.length = n
  mem : ∀ j : Nat, bs[j]? = some true ↔ j < n ∧ ∃ i', lo ≤ i' ∧ i' < i ∧ colAt m n i' = some (j : Int)
theorem hv_start (m lo : Int) (n : Nat) : HvI m lo n lo (List.replicate n false) :=
  ⟨by simp, fun j => ⟨fun h => by rw [List.getElem?_replicate] at h; split at h <;> simp at h, fun ⟨_, i', h1, h2, _⟩ => by omega⟩⟩
theorem hv_skip {m lo i : Int} {n : Nat} {bs : List Bool} (h : HvI m lo n i bs) (hc : ∀ j : Int, colAt m n i ≠ some j) : HvI m lo n (i + 1) bs := by
  refine ⟨h.len, fun j => ?_⟩
  rw [h.mem j]
  constructor
  · rintro ⟨a, i', h1, h2, h3⟩; exact ⟨a, i', h1, by omega, h3⟩
  · rintro ⟨a, i', h1, h2, h3⟩
    refine ⟨a, i', h1, ?_, h3⟩
    rcases Int.lt_or_le i' i with g | g
    · exact g
    · have : i' = i := by omega
      subst this
      exact absurd h3 (hc _)
theorem hv_set {m lo i : Int} {n q : Nat} {bs : List Bool} (h : HvI m lo n i bs) (hlo : lo ≤ i) (hq : q < n) (hc : colAt m n i = some (q : Int)) : HvI m lo n (i + 1) (bs.set q true) := by
  refine ⟨by simpa using h.len, fun j => ?_⟩
  rw [List.getElem?_set]
  by_cases hj : q = j
  · subst hj
    rw [if_pos rfl, if_pos (by have := h.len; omega)]
    exact ⟨fun _ => ⟨hq, i, hlo, by omega, hc⟩, fun _ => rfl⟩
  · rw [if_neg hj, h.mem j]
    constructor
    · rintro ⟨a, i', h1, h2, h3⟩; exact ⟨a, i', h1, by omega, h3⟩
    · rintro ⟨a, i', h1, h2, h3⟩
      refine ⟨a, i', h1, ?_, h3⟩
      rcases Int.lt_or_le i' i with g | g
      · exact g
      · have : i' = i := by omega
        subst this
        rw [hc] at h3
        injection h3 with h3
        omega
theorem bool_info : (Try.prog.info? 4).map (fun i => (i.zero, i.size, i.bytes)) = some (some (.bool false), 1, 1) := by kernel_rfl
set_option maxHeartbeats 4000000 in
theorem rcols_any (m lo hi : Int) (n : Nat) (w : World) (hok : okC m lo hi n) (hn4 : n ≤ 400) :
    Calls Try.prog 12 #[.int .i64 m, .int .i64 lo, .int .i64 hi, .int .i64 n] w fun e w' => ∃ v, e = .returned v ∧ w'.ownsRow w.heap.size 93 2 v (colsR m lo hi n).length (encR (colsR m lo hi n)) ∧ Below w.heap.size w w' := by
  have hmem := colsR_mem hok
  have hcan := colsR_canon m lo hi n
  obtain ⟨hlh, hm, ⟨hn, hn2⟩, ho1, ho2⟩ := hok
  have h1 := off_no ho1
  have h2 := off_no ho2
  clear ho1 ho2
  generalize colsR m lo hi n = L at *
  have hmk := fun W => run_make1 (P := Try.prog) Try.underlying40 bool_info rfl (n : Int) n rfl (by omega) (by omega) W
  have hix := fun i j => @idx_col m n i j hm hn
  go_enter Try.func12, Try.ntmps12
  go_wp2_with fail
  clear hmk
  go_loopw [10] (fun v wr => ∃ (i : Int) (bs : List Bool), v = .int .i64 i ∧ lo ≤ i ∧ i ≤ hi + 1 ∧ wr.ownsRow w.heap.size 4 1 (.slice (some ⟨w.heap.size, 0, none⟩) n n) n (bs.map Value.bool) ∧ Below w.heap.size w wr ∧ HvI m lo n i bs) (fun v _ => (hi + 1 - intOf v).toNat)
  case atStart =>
    refine ⟨lo, List.replicate n false, rfl, by omega, by omega, ?_, by go_grown, hv_start m lo n⟩
    have := own_of_Bk (base := w.heap.size) (Bk.new w 4 (Array.replicate n (.bool false))) n (by simp) (by omega) (Nat.le_refl _)
    simpa using this
  case round =>
    obtain ⟨i, bs, rfl, hl1, hl2, hown, hbr, hinv⟩ := hrel
    have hbw := hbr.size
    by_cases hlt : i ≤ hi
    · have hri := fun W => rindex_any m i n W (by omega) (by omega) hn2
      have hixi := fun j => hix i j
      have hbd := @idx_bd m i n
      generalize idx m i n = p at *
      obtain ⟨j, b⟩ := p
      cases b
      · have hsk := hv_skip hinv (fun j' hc => by have := (hixi j').1 hc; simp at this)
        clear hinv hixi hbd
        go_wp2_with (go_at_call 44; (with_reducible refine (hri _).mono ?_); rintro e w1 ⟨rfl, hb1⟩)
        refine ⟨⟨i + 1, bs, by go_num, by omega, by omega, own_below hown hb1 (Nat.le_refl _), hbr.trans (hb1.mono hbw), hsk⟩, by simp [intOf]; omega⟩
      · obtain ⟨hj0, hj1⟩ := hbd rfl
        simp only at hj0 hj1
        obtain ⟨q, rfl⟩ : ∃ q : Nat, j = q := ⟨j.toNat, by omega⟩
        have hq : q < n := by omega
        have hst := hv_set hinv hl1 hq ((hixi q).2 rfl)
        have hlen := hinv.len
        clear hinv hixi hbd
        go_wp2_with (go_at_call 44; (with_reducible refine (hri _).mono ?_); rintro e w1 ⟨rfl, hb1⟩; have hown1 := own_below hown hb1 (Nat.le_refl _); have hfz := hown1.frozenAt q; obtain ⟨g', o', e', _, hcq⟩ := rd_bool (Rd.of_own hown1) q (by omega); injection e' with e'; injection e' with e1 e2; subst e1; subst e2; rw [Nat.zero_add] at hcq; have hst2 := hown1.stored q (.bool true); have hbr1 := hbr.trans (hb1.mono hbw))
        have hbx := hbr1.grown hst2.2 hbr1.size (fun k e => by injection e with e; omega)
        refine ⟨⟨i + 1, _, by go_num, by omega, by omega, ?_, hbx, hst⟩, by simp [intOf]; omega⟩
        rw [List.map_set]
        exact hst2.1
    · obtain rfl : i = hi + 1 := by omega
      have hrd := Rd.of_own hown
      have hlen := hinv.len
      go_wp2_with (go_at_call 18; (with_reducible refine (runs_any bs _ n n _ hlen (by omega) hrd).mono ?_); rintro e w1 ⟨v, out, rfl, hown1, hb1, hco, hmo⟩)
      go_returns
      have hE : out = L := by
        refine canon_ext hco hcan fun j => ?_
        rw [hmo j, hmem j, hinv.mem]
        constructor
        · rintro ⟨a, b, i', g1, g2, g3⟩
          exact ⟨i', g1, by omega, by rw [g3]; congr 1; omega⟩
        · rintro ⟨i', g1, g2, g3⟩
          have hb := idx_bd (m := m) (i := i') (n := n) (by rw [(hix i' j).1 g3])
          rw [(hix i' j).1 g3] at hb
          simp only at hb
          exact ⟨hb.1, by omega, i', g1, by omega, by rw [g3]; congr 1; omega⟩
      subst hE
      exact ⟨_, rfl, own_base hown1 hbw, hbr.trans (hb1.mono hbw)⟩
end Go.Proofs.Ytjdboclibinjoaa
