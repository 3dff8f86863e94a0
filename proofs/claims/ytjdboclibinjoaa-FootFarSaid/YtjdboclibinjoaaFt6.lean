/- foot.Join, Has, Count: what they answer. -/
import Derived.Test.YtjdboclibinjoaaFt5
set_option linter.unusedVariables false
namespace Go.Proofs.Ytjdboclibinjoaa
open Go.RowKit
theorem joinf_any (rs : List Rn) (A : Option Addr) (n c : Nat) (w : World) (hn : rs.length = n) (hr : Rd w w.heap.size A (encR rs)) (hb : n ≤ 4000000000) :
    Calls Try.prog 17 #[.slice A n c] w fun e w' => ∃ v, e = .returned v ∧ w'.ownsRow w.heap.size 35 2 v (joinF rs).length (encR (joinF rs)) ∧ Below w.heap.size w w' :=
  (join_any rs A n c w hn hr hb).mono fun e w' ⟨v, rs1, h1, h2, h3, h4, h5⟩ => ⟨v, h1, by rw [← joinF_eq h2 h3]; exact h4, h5⟩
theorem has1_any (x y i : Int) (b : Nat) (w : World) (hb : b < w.heap.size) (hc : w.cell? ⟨b, 0, none⟩ = some (.int .i64 i)) :
    Calls Try.prog 47 #[.agg #[.int .i64 x, .int .i64 y], .pointer (some ⟨b, 0, none⟩)] w fun e w' => e = .returned (.bool (decide (x ≤ i) && decide (i < y))) ∧ Below w.heap.size w w' := by
  go_enter Try.func47, Try.ntmps47
  by_cases h1 : x ≤ i
  · have hd : decide (x ≤ i) = true := by simpa using h1
    rw [hd, Bool.true_and]
    go_wp2
    go_returns
    exact ⟨rfl, by go_grown⟩
  · have hd : decide (x ≤ i) = false := by simpa using h1
    rw [hd, Bool.false_and]
    have h2 : i < x := by omega
    go_wp2
    go_returns
    exact ⟨rfl, by go_grown⟩
theorem hasB_snoc (rs : List Rn) (k : Nat) (hk : k < rs.length) (i : Int) : hasB (rs.take (k + 1)) i = (hasB (rs.take k) i || (decide (rs[k].1 ≤ i) && decide (i < rs[k].2))) := by
  rw [List.take_succ_eq_append_getElem hk]
  unfold hasB
  rw [List.any_append]
  simp
set_option maxHeartbeats 2000000 in
theorem idxf_any (rs : List Rn) (A : Option Addr) (n c : Nat) (i : Int) (b : Nat) (w : World) (hn : rs.length = n) (hn2 : n ≤ 9223372036854775807) (hr : Rd w w.heap.size A (encR rs)) (hb : b < w.heap.size) (hc : w.cell? ⟨b, 0, none⟩ = some (.int .i64 i)) :
    Calls Try.prog 85 #[.slice A n c, .func (.func 47) #[] #[.pointer (some ⟨b, 0, none⟩)]] w fun e w' => ∃ z : Int, e = .returned (.int .i64 z) ∧ decide (0 ≤ z) = hasB rs i ∧ Below w.heap.size w w' := by
  go_enter Try.func85, Try.ntmps85
  go_wp2_with fail
  go_loopw [8] (fun v wr => ∃ k : Nat, k ≤ n ∧ v = .int .i64 k ∧ Below w.heap.size w wr ∧ Hid (hasB (rs.take k) i = false)) (fun v _ => n - (intOf v).toNat)
  case atStart => exact ⟨0, by omega, rfl, Below.refl _ _, rfl⟩
  case round =>
    obtain ⟨k, hk, rfl, hbr, hall⟩ := hrel
    by_cases hlt : k < n
    · have hk2 : k < rs.length := by omega
      have hsn := Lib.hid (hasB_snoc rs k hk2 i)
      have HG : Hid ((decide (rs[k].1 ≤ i) && decide (i < rs[k].2)) = true → hasB rs i = true) := by
        intro h
        unfold hasB
        exact List.any_eq_true.2 ⟨rs[k], List.getElem_mem hk2, h⟩
      obtain ⟨b', o, rfl, hbb, hc0, hc1⟩ := rd_run (hr.below hbr) k hk2
      have hcr := (hbr.cell (p := ⟨b, 0, none⟩) hb).trans hc
      have hbr2 : b < wr.heap.size := Nat.lt_of_lt_of_le hb hbr.size
      generalize rs[k] = r at *
      obtain ⟨x, y⟩ := r
      simp only at hc0 hc1 hsn HG
      cases he : (decide (x ≤ i) && decide (i < y))
      · go_wp2_with (refine (has1_any x y i b _ (by exact hbr2) (by exact hcr)).mono ?_; rintro e w1 ⟨rfl, hb1⟩; rw [he])
        refine ⟨⟨k + 1, by omega, by go_num, hbr.trans (hb1.mono hbr.size), ?_⟩, by simp [intOf]; omega⟩
        show _ = _
        rw [hsn.out, hall.out, he]
        rfl
      · go_wp2_with (refine (has1_any x y i b _ (by exact hbr2) (by exact hcr)).mono ?_; rintro e w1 ⟨rfl, hb1⟩; rw [he])
        go_returns
        refine ⟨_, rfl, ?_, hbr.trans (hb1.mono hbr.size)⟩
        rw [HG.out he]
        simp
    · obtain rfl : k = n := by omega
      have h := hall.out
      rw [List.take_of_length_le (by omega)] at h
      have h' := Lib.hid h
      clear h hall
      go_wp2
      go_returns
      refine ⟨_, rfl, ?_, hbr⟩
      rw [h'.out]
      simp
set_option maxHeartbeats 2000000 in
theorem contains_any (rs : List Rn) (A : Option Addr) (n c : Nat) (i : Int) (b : Nat) (w : World) (hn : rs.length = n) (hn2 : n ≤ 9223372036854775807) (hr : Rd w w.heap.size A (encR rs)) (hb : b < w.heap.size) (hc : w.cell? ⟨b, 0, none⟩ = some (.int .i64 i)) :
    Calls Try.prog 46 #[.slice A n c, .func (.func 47) #[] #[.pointer (some ⟨b, 0, none⟩)]] w fun e w' => e = .returned (.bool (hasB rs i)) ∧ Below w.heap.size w w' := by
  go_enter Try.func46, Try.ntmps46
  go_wp2_with (go_at_call 85; refine (idxf_any rs A n c i b _ hn hn2 (by exact hr) hb (by exact hc)).mono ?_; rintro e w1 ⟨z, rfl, hz, hb1⟩; have hz' := Lib.hid hz; clear hz)
  go_returns
  exact ⟨ret_bool hz'.out, hb1⟩
set_option maxHeartbeats 2000000 in
theorem has_any (rs : List Rn) (A : Option Addr) (n c : Nat) (i : Int) (w : World) (hn : rs.length = n) (hn2 : n ≤ 9223372036854775807) (hr : Rd w w.heap.size A (encR rs)) :
    Calls Try.prog 14 #[.slice A n c, .int .i64 i] w fun e w' => e = .returned (.bool (hasB rs i)) ∧ Below w.heap.size w w' := by
  go_enter Try.func14, Try.ntmps14
  have hr2 : ∀ o, Rd (w.alloc o) (w.alloc o).heap.size A (encR rs) := fun o => (hr.alloc (Nat.le_refl _) o).more (by simp)
  have hK := (Bk.new w 3 #[.int .i64 i])
  have hc := hK.cell1
  have hlt := hK.lt
  go_wp2_with (go_at_call 46; refine (contains_any rs A n c i w.heap.size _ hn hn2 (hr2 _) hlt hc).mono ?_; rintro e w1 ⟨rfl, hb1⟩)
  go_returns
  exact ⟨rfl, ((Below.refl _ w).alloc (Nat.le_refl _) _).trans (hb1.mono (by simp))⟩
/-- What Count answers. -/
def cntF (rs : List Rn) : Int := min (cntR (joinF rs)) 9223372036854775807
theorem cnt_step {l : List Rn} (h : Canon l) (hr : ∀ r ∈ l, -9223372036854775808 ≤ r.1 ∧ r.2 ≤ 9223372036854775807) (k : Nat) (hk : k < l.length) :
    0 ≤ cntR (l.take k) ∧ cntR (l.take (k + 1)) = cntR (l.take k) + (l[k].2 - l[k].1) ∧ cntR (l.take (k + 1)) ≤ 18446744073709551615 ∧ l[k].1 < l[k].2 ∧ -9223372036854775808 ≤ l[k].1 ∧ l[k].2 ≤ 9223372036854775807 := by
  have h1 := cnt_bound (canon_take h k) (lo := -9223372036854775808) (N := 18446744073709551615) (fun r hr' => by have := hr r (List.mem_of_mem_take hr'); omega)
  have h2 := cnt_bound (canon_take h (k + 1)) (lo := -9223372036854775808) (N := 18446744073709551615) (fun r hr' => by have := hr r (List.mem_of_mem_take hr'); omega)
  have h3 := hr _ (List.getElem_mem hk)
  exact ⟨h1.1, cntR_snoc l k hk, by omega, h.1 _ (List.getElem_mem hk), h3.1, h3.2⟩
theorem joinF_range {rs : List Rn} (hw : ∀ r ∈ rs, -9223372036854775808 ≤ r.1 ∧ r.2 ≤ 9223372036854775807) : ∀ r ∈ joinF rs, -9223372036854775808 ≤ r.1 ∧ r.2 ≤ 9223372036854775807 := by
  refine canon_range (joinF_law rs).1 ?_
  intro i hi
  obtain ⟨r, hr, h1, h2⟩ := ((joinF_law rs).2 i).1 hi
  have := hw r hr
  omega
theorem wrap_step {S x y : Int} (h1 : 0 ≤ S) (h2 : S + (y - x) ≤ 18446744073709551615) (h3 : x < y) (h4 : -9223372036854775808 ≤ x) (h5 : y ≤ 9223372036854775807) :
    IntKind.u64.wrap (S + IntKind.u64.wrap (IntKind.u64.wrap y - IntKind.u64.wrap x)) = S + (y - x) := by
  simp [IntKind.wrap, IntKind.bits, IntKind.signed]
  omega
set_option maxHeartbeats 4000000 in
theorem count_any (rs : List Rn) (A : Option Addr) (n c : Nat) (w : World) (hn : rs.length = n) (hr : Rd w w.heap.size A (encR rs)) (hb : n ≤ 4000000000) (hw : ∀ r ∈ rs, -9223372036854775808 ≤ r.1 ∧ r.2 ≤ 9223372036854775807) :
    Calls Try.prog 16 #[.slice A n c] w fun e w' => e = .returned (.int .i64 (cntF rs)) ∧ Below w.heap.size w w' := by
  have hJ := (joinF_law rs).1
  have hJr := joinF_range hw
  have hJl := joinF_len rs
  have hjoin := fun W h => joinf_any rs A n c W hn h hb
  unfold cntF
  generalize joinF rs = J at *
  go_enter Try.func16, Try.ntmps16
  go_wp2_with fail
  refine (hjoin _ (by exact hr)).mono ?_
  rintro e w1 ⟨v, rfl, hown, hb1⟩
  obtain ⟨A1, c1, rfl, h31, h32, hA1, hrd, _⟩ := own_form2 hown
  clear hjoin hown
  go_wp2_with fail
  have hst := fun k hk => Lib.hid (cnt_step hJ hJr k hk)
  clear hJr hw
  go_loopw [3, 9] (fun v i wr => ∃ k : Nat, k ≤ J.length ∧ i = .int .i64 k ∧ v = .int .u64 (cntR (J.take k)) ∧ Below w1.heap.size w1 wr) (fun _ i _ => J.length - (intOf i).toNat)
  case atStart => exact ⟨0, by omega, rfl, rfl, by go_grown⟩
  case round =>
    obtain ⟨k, hk, rfl, rfl, hbr⟩ := hrel
    by_cases hlt : k < J.length
    · obtain ⟨t1, t2, t3, t4, t5, t6⟩ := (hst k hlt).out
      obtain ⟨b', o, rfl, hbb, hc0, hc1⟩ := rd_run (hrd.below hbr) k hlt
      generalize J[k] = r at *
      obtain ⟨x, y⟩ := r
      simp only at hc0 hc1 t2 t4 t5 t6
      have ht2 := Lib.hid t2
      rw [t2] at t3
      have HW := Lib.hid (wrap_step t1 t3 t4 t5 t6)
      generalize hT : cntR (J.take (k + 1)) = T at *
      have hT' := Lib.hid hT
      clear hT
      generalize cntR (J.take k) = S at *
      have hbw := hbr.size
      clear t2
      go_wp2_with fail
      refine ⟨⟨k + 1, by omega, by go_num, ?_, hbr.alloc hbw _⟩, by simp [intOf]; omega⟩
      rw [hT'.out, ht2.out, HW.out]
    · obtain rfl : k = J.length := by omega
      rw [List.take_of_length_le (Nat.le_refl _)]
      have hb0 := cnt_bound hJ (lo := -9223372036854775808) (N := 18446744073709551615) (fun r hr' => by
        obtain ⟨i, hi, rfl⟩ := List.mem_iff_getElem.1 hr'
        have := (hst i hi).out
        omega)
      generalize hT : cntR J = T at *
      have hT' := Lib.hid hT
      clear hT
      go_wp2_with fail
      go_returns
      refine ⟨ret_int ?_, hb1.trans (hbr.mono hb1.size)⟩
      rw [hT'.out]
end Go.Proofs.Ytjdboclibinjoaa
