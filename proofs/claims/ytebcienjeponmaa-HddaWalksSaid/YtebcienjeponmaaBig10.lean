/- The reference's three by three: minors, adjugates, determinants. -/
import Derived.Test.YtebcienjeponmaaBig9
set_option linter.unusedVariables false
namespace Go.Proofs.Ytebcienjeponmaa
open Go.RowKit
/-- What the row and the column leave over, of the first k. -/
def picks (zs : List Int) (r c : Int) (k : Nat) : List Int := ((List.range k).filter (fun i : Nat => decide ((i : Int) / 3 ≠ r) && decide ((i : Int) % 3 ≠ c))).map (fun i : Nat => zs.getD i 0)
theorem picks_zero (zs : List Int) (r c : Int) : picks zs r c 0 = [] := rfl
theorem picks_in {zs : List Int} {r c : Int} {k : Nat} (h1 : ((k : Int) / 3) ≠ r) (h2 : (k : Int) % 3 ≠ c) : picks zs r c (k + 1) = picks zs r c k ++ [zs.getD k 0] := by
  unfold picks
  rw [List.range_succ, List.filter_append, List.map_append]
  simp [h1, h2]
theorem picks_out {zs : List Int} {r c : Int} {k : Nat} (h : ((k : Int) / 3) = r ∨ (k : Int) % 3 = c) : picks zs r c (k + 1) = picks zs r c k := by
  unfold picks
  rw [List.range_succ, List.filter_append, List.map_append]
  rcases h with h | h <;> simp [h]
theorem picks_len (zs : List Int) (r c : Int) (k : Nat) : (picks zs r c k).length ≤ k := by
  unfold picks
  rw [List.length_map]
  exact Nat.le_trans (List.length_filter_le _ _) (by simp)
theorem picks_nine (zs : List Int) {r c : Int} (h1 : 0 ≤ r ∧ r < 3) (h2 : 0 ≤ c ∧ c < 3) : (picks zs r c 9).length = 4 := by
  unfold picks
  rw [List.length_map]
  have hr : r = 0 ∨ r = 1 ∨ r = 2 := by omega
  have hc : c = 0 ∨ c = 1 ∨ c = 2 := by omega
  rcases hr with rfl | rfl | rfl <;> rcases hc with rfl | rfl | rfl <;> decide
theorem picks_all {P : Int → Prop} {zs : List Int} (h : ∀ k, P (zs.getD k 0)) (r c : Int) (k : Nat) : ∀ z ∈ picks zs r c k, P z := by
  intro z hz
  unfold picks at hz
  obtain ⟨i, _, rfl⟩ := List.mem_map.1 hz
  exact h i
theorem getD_all {P : Int → Prop} {l : List Int} (h : ∀ z ∈ l, P z) (h0 : P 0) (k : Nat) : P (l.getD k 0) := by
  rcases Nat.lt_or_ge k l.length with hk | hk
  · rw [List.getD_eq_getElem?_getD, List.getElem?_eq_getElem hk]; exact h _ (List.getElem_mem hk)
  · rw [List.getD_eq_getElem?_getD, List.getElem?_eq_none hk]; exact h0
def det2 (l : List Int) : Int := l.getD 0 0 * l.getD 3 0 - l.getD 1 0 * l.getD 2 0
def minorZ (zs : List Int) (r c : Int) : Int := det2 (picks zs r c 9)
/-- Small entries: fewer than 135 bits. -/
def En (z : Int) : Prop := (z.natAbs : Int) < Bp 9
theorem Bigs.get4 {lo : Nat} {w : World} {A : Option Addr} {n c : Nat} {zs : List Int} (h : Bigs lo w (.slice A n c) zs) (hl : zs.length = 4) :
    ∃ b o s0 s1 s2 s3 A0 A1 A2 A3 n0 n1 n2 n3 c0 c1 c2 c3, A = some ⟨b, o, none⟩ ∧ b < w.heap.size ∧
      (w.cell? ⟨b, o, none⟩ = some (.bool s0) ∧ w.cell? ⟨b, o + 1, none⟩ = some (.slice A0 n0 c0) ∧ w.cell? ⟨b, o + 2, none⟩ = some (.bool s1) ∧ w.cell? ⟨b, o + 3, none⟩ = some (.slice A1 n1 c1) ∧
      w.cell? ⟨b, o + 4, none⟩ = some (.bool s2) ∧ w.cell? ⟨b, o + 5, none⟩ = some (.slice A2 n2 c2) ∧ w.cell? ⟨b, o + 6, none⟩ = some (.bool s3) ∧ w.cell? ⟨b, o + 7, none⟩ = some (.slice A3 n3 c3)) ∧
      BigN lo w (.agg #[.bool s0, .slice A0 n0 c0]) (zs.getD 0 0) ∧ BigN lo w (.agg #[.bool s1, .slice A1 n1 c1]) (zs.getD 1 0) ∧ BigN lo w (.agg #[.bool s2, .slice A2 n2 c2]) (zs.getD 2 0) ∧ BigN lo w (.agg #[.bool s3, .slice A3 n3 c3]) (zs.getD 3 0) := by
  obtain ⟨b, o, s0, A0, n0, c0, e, b1, b2, p0, p1, hN0⟩ := h.get 0 (by omega)
  subst e
  obtain ⟨b', o', s1, A1, n1, c1, e, _, _, p2, p3, hN1⟩ := h.get 1 (by omega)
  injection e with e
  injection e with e1 e2
  subst e1 e2
  obtain ⟨b', o', s2, A2, n2, c2, e, _, _, p4, p5, hN2⟩ := h.get 2 (by omega)
  injection e with e
  injection e with e1 e2
  subst e1 e2
  obtain ⟨b', o', s3, A3, n3, c3, e, _, _, p6, p7, hN3⟩ := h.get 3 (by omega)
  injection e with e
  injection e with e1 e2
  subst e1 e2
  exact ⟨b, o, s0, s1, s2, s3, A0, A1, A2, A3, n0, n1, n2, n3, c0, c1, c2, c3, rfl, b2, ⟨p0, p1, p2, p3, p4, p5, p6, p7⟩, hN0, hN1, hN2, hN3⟩
theorem c8_nx {w w' : World} {B b o : Nat} {u0 u1 u2 u3 u4 u5 u6 u7 : Value} (h : w.cell? ⟨b, o, none⟩ = some u0 ∧ w.cell? ⟨b, o + 1, none⟩ = some u1 ∧ w.cell? ⟨b, o + 2, none⟩ = some u2 ∧ w.cell? ⟨b, o + 3, none⟩ = some u3 ∧
      w.cell? ⟨b, o + 4, none⟩ = some u4 ∧ w.cell? ⟨b, o + 5, none⟩ = some u5 ∧ w.cell? ⟨b, o + 6, none⟩ = some u6 ∧ w.cell? ⟨b, o + 7, none⟩ = some u7) (hb : Below B w w') (hB : b < B) :
    w'.cell? ⟨b, o, none⟩ = some u0 ∧ w'.cell? ⟨b, o + 1, none⟩ = some u1 ∧ w'.cell? ⟨b, o + 2, none⟩ = some u2 ∧ w'.cell? ⟨b, o + 3, none⟩ = some u3 ∧
      w'.cell? ⟨b, o + 4, none⟩ = some u4 ∧ w'.cell? ⟨b, o + 5, none⟩ = some u5 ∧ w'.cell? ⟨b, o + 6, none⟩ = some u6 ∧ w'.cell? ⟨b, o + 7, none⟩ = some u7 := by
  obtain ⟨h0, h1, h2, h3, h4, h5, h6, h7⟩ := h
  exact ⟨(hb.cell hB).trans h0, (hb.cell hB).trans h1, (hb.cell hB).trans h2, (hb.cell hB).trans h3, (hb.cell hB).trans h4, (hb.cell hB).trans h5, (hb.cell hB).trans h6, (hb.cell hB).trans h7⟩
theorem en_zero : En 0 := Bp_pos 9
theorem en_sm {z : Int} (h : En z) : Sm z := by
  have := Bp_mono (show 9 ≤ 40 by omega)
  show (z.natAbs : Int) < Bp 40
  have h2 : (z.natAbs : Int) < Bp 9 := h
  omega
theorem natAbs_mul_lt {x y : Int} {m n : Nat} (hx : (x.natAbs : Int) < Bp m) (hy : (y.natAbs : Int) < Bp n) : ((x * y).natAbs : Int) < Bp (m + n) := by
  rw [Int.natAbs_mul, Int.natCast_mul, Bp_add]
  have h1 : (0:Int) ≤ x.natAbs := by omega
  have h2 : (0:Int) ≤ y.natAbs := by omega
  calc (x.natAbs : Int) * y.natAbs ≤ Bp m * y.natAbs := Int.mul_le_mul_of_nonneg_right (by omega) h2
    _ < Bp m * Bp n := Int.mul_lt_mul_of_pos_left hy (Bp_pos m)
theorem en_mul {x y : Int} (hx : En x) (hy : En y) : ((x * y).natAbs : Int) < Bp 18 := natAbs_mul_lt hx hy
set_option maxRecDepth 100000 in
set_option maxHeartbeats 2000000 in
theorem minor_any (v : Value) (zs : List Int) (r c : Int) (w : World) {lo : Nat} (hv : Bigs lo w v zs) (hl : zs.length = 9) (hr : 0 ≤ r ∧ r < 3) (hc : 0 ≤ c ∧ c < 3) (hz : ∀ k, En (zs.getD k 0)) :
    Calls Try.prog 37 #[v, .int .i64 r, .int .i64 c] w fun e w' => ∃ u, e = .returned u ∧ BigN w.heap.size w' u (minorZ zs r c) ∧ Below w.heap.size w w' := by
  obtain ⟨A, cp, rfl, hcp1, hcp2⟩ := hv.form
  have HL := Lib.hid hl
  have HZ := Lib.hid hz
  have hl9 : 9 ≤ zs.length := by omega
  have hv' : Bigs lo w (.slice A 9 cp) zs := hl ▸ hv
  rw [hl]
  clear hl hz hv hcp1
  have hK0 := Bk.new w 42 #[.bool false, .slice none 0 0]
  have hb00 : Below w.heap.size w (w.alloc (.cells #[.bool false, .slice none 0 0] 42)) := by go_grown
  have hz0 : w.heap.size + 1 = (w.alloc (.cells #[.bool false, .slice none 0 0] 42)).heap.size := by simp
  go_enter Try.func37, Try.ntmps37
  go_wp2_with fail
  go_loopw [7, 8] (fun v iv wr => ∃ k : Nat, k ≤ 9 ∧ iv = .int .i64 k ∧ BigsO 0 (w.heap.size + 1) wr v (picks zs r c k) ∧ Bk wr w.heap.size 42 #[.bool false, .slice none 0 0] ∧ Below w.heap.size w wr ∧ w.heap.size + 1 ≤ wr.heap.size) (fun _ iv _ => 9 - (intOf iv).toNat)
  case atStart => exact ⟨0, by omega, rfl, BigsO.nil _ _ _, hK0, hb00, by simp⟩
  case round =>
    obtain ⟨k, hk, rfl, hO, hK, hb, hsz⟩ := hrel
    have hlen := picks_len zs r c k
    rcases Nat.lt_or_ge k 9 with hlt | hge
    · have hk1 : (k : Int) < 9 := by omega
      obtain ⟨b, o, s, A', n', c', rfl, b1, b2, c1, c2, hNw, hN⟩ := hv'.get2 hb k (by omega)
      have hlt2 := hO.lt
      have HL2 := Lib.hid hlt2
      clear hlt2
      have hoff1 := hNw.off (fun kk hk => .inr (Nat.le_of_succ_le (HL2.out kk hk).1))
      by_cases h1 : (k : Int) / 3 = r
      · have hp := picks_out (zs := zs) (r := r) (c := c) (k := k) (.inl h1)
        rw [← hp] at hO
        clear hp
        go_wp2_with fail
        exact ⟨⟨k + 1, by omega, by go_num, hO, hK, hb, hsz⟩, by simp only [intOf]; omega⟩
      · by_cases h2 : (k : Int) % 3 = c
        · have hp := picks_out (zs := zs) (r := r) (c := c) (k := k) (.inr h2)
          rw [← hp] at hO
          clear hp
          go_wp2_with fail
          exact ⟨⟨k + 1, by omega, by go_num, hO, hK, hb, hsz⟩, by simp only [intOf]; omega⟩
        · have hp := picks_in (zs := zs) (r := r) (c := c) (k := k) h1 h2
          have HP := Lib.hid hp
          clear hp
          have hx1 : ((k : Int) / 3 != r) = true := by simp [h1]
          have hx2 : ((k : Int) % 3 != c) = true := by simp [h2]
          have hKr := hK.alloc (.cells #[.bool s, .slice A' n' c'] 42)
          have hOr := hO.nx ((Below.refl _ wr).alloc (Nat.le_refl _) (.cells #[.bool s, .slice A' n' c'] 42))
          have hNr := (hN.alloc (.cells #[.bool s, .slice A' n' c'] 42)).any
          go_wp2_with (at_builtin; go_loud (refine appBig rfl _ _ rfl (Bk.new wr _ _) hOr hNr hoff1 rfl rfl (hb.alloc (by omega) _) (by omega) (by simp; omega) (by omega) ?_); intro v' w' k1 k2 k3 k4 k5)
          rw [← HP.out] at k1
          have k6 := k3
          simp only [World.size_alloc] at k6
          exact ⟨⟨k + 1, by omega, by go_num, k1, hKr.grown k4 (fun e => by have := HL2.out _ e.symm; omega), k2, by omega⟩, by simp only [intOf]; omega⟩
    · obtain rfl : k = 9 := by omega
      have hlen4 := picks_nine zs hr hc
      have hB := hO.bigs (Nat.zero_le _)
      have hpz := picks_all (P := En) HZ.out r c 9
      generalize hps : picks zs r c 9 = ps at *
      have HPS := Lib.hid hps
      have HL2 := Lib.hid hO.lt
      clear hv' hO hps
      obtain ⟨Ap, cpp, e7, hp1, hp2⟩ := hB.form
      rw [hlen4] at e7
      subst e7
      obtain ⟨b, o, s0, s1, s2, s3, A0, A1, A2, A3, n0, n1, n2, n3, q0, q1, q2, q3, rfl, hbb, C0, hN0, hN1, hN2, hN3⟩ := hB.get4 hlen4
      have hbne : w.heap.size + 1 ≤ b := (HL2.out b rfl).1
      have hbne2 : b ≠ w.heap.size := by omega
      have e0 : En (ps.getD 0 0) := getD_all hpz en_zero 0
      have e1 : En (ps.getD 1 0) := getD_all hpz en_zero 1
      have e2 : En (ps.getD 2 0) := getD_all hpz en_zero 2
      have e3 : En (ps.getD 3 0) := getD_all hpz en_zero 3
      have HD := Lib.hid (show det2 ps = ps.getD 0 0 * ps.getD 3 0 - ps.getD 1 0 * ps.getD 2 0 from rfl)
      generalize ps.getD 0 0 = z0 at *
      generalize ps.getD 1 0 = z1 at *
      generalize ps.getD 2 0 = z2 at *
      generalize ps.getD 3 0 = z3 at *
      have m1 := en_mul e0 e3
      have m2 := en_mul e1 e2
      have m3 : Sm (z0 * z3) := sm_38 (by have := Bp_mono (show 18 ≤ 38 by omega); omega)
      have m4 : Sm (z1 * z2) := sm_38 (by have := Bp_mono (show 18 ≤ 38 by omega); omega)
      have M1 := Lib.hid m1
      have M2 := Lib.hid m2
      have s0' := en_sm e0
      have s1' := en_sm e1
      have s2' := en_sm e2
      have s3' := en_sm e3
      clear hK0 hpz m1 m2 e0 e1 e2 e3
      have C1 := c8_nx C0 (Below.refl wr.heap.size wr).drew hbb
      have hKd := hK.drew
      have hd0 := hN0.drew
      have hd1 := hN1.drew
      have hd2 := hN2.drew
      have hd3 := hN3.drew
      have hbd := hb.drew
      have hsd : wr.drew.heap.size = wr.heap.size := rfl
      have HSD := Lib.hid hsd
      have hlt3 : b < wr.drew.heap.size := hbb
      have hlt4 : w.heap.size < wr.drew.heap.size := hKd.lt
      clear hsd
      go_wp2_with fail
      go_region_held3 (fun w' => w'.cell? ⟨b, o, none⟩ = some (.bool s0) ∧ w'.cell? ⟨b, o + 1, none⟩ = some (.slice A0 n0 q0) ∧ w'.cell? ⟨b, o + 2, none⟩ = some (.bool s1) ∧ w'.cell? ⟨b, o + 3, none⟩ = some (.slice A1 n1 q1) ∧
          w'.cell? ⟨b, o + 4, none⟩ = some (.bool s2) ∧ w'.cell? ⟨b, o + 5, none⟩ = some (.slice A2 n2 q2) ∧ w'.cell? ⟨b, o + 6, none⟩ = some (.bool s3) ∧ w'.cell? ⟨b, o + 7, none⟩ = some (.slice A3 n3 q3))
        (first | exact C0 | exact C1 | exact C2 | exact C3 | exact C4 | (refine ⟨?_, ?_, ?_, ?_, ?_, ?_, ?_, ?_⟩ <;> go_simp))
        (first
        | (go_at_call 41; (with_reducible refine (mul_any _ _ _ _ _ hd0 hd3 s0' s3').mono ?_); rintro e wa ⟨va, rfl, hNa, hba⟩; obtain ⟨sa, Aa, na, ca, rfl⟩ := hNa.shape; have C2 := c8_nx C1 hba hlt3; have hza := hba.size; have hK2 := hKd.nx hba; have hf1 := hd1.nx hba; have hf2 := hd2.nx hba)
        | (go_at_call 41; (with_reducible refine (mul_any _ _ _ _ _ hf1 hf2 s1' s2').mono ?_); rintro e wb ⟨vb, rfl, hNb, hbb2⟩; obtain ⟨sb, Ab, nb, cb, rfl⟩ := hNb.shape; have C3 := c8_nx C2 hbb2 (by omega); have hzb := hbb2.size; have hK3 := hK2.nx hbb2; have hNa3 := hNa.nx hbb2)
        | (go_at_call 64; (with_reducible refine (sub_any _ _ _ _ _ hNa3 hNb m3 m4).mono ?_); rintro e wc ⟨vc, rfl, hNc, hbc⟩; obtain ⟨sc, Ac, nc, cc, rfl⟩ := hNc.shape; have C4 := c8_nx C3 hbc (by omega); have hzc := hbc.size; have hK4 := hK3.nx hbc; have f20 := hK4.frozen 0; have f21 := hK4.frozen 1; obtain ⟨c20, c21⟩ := hK4.cell2))
      go_wp2_with fail
      refine bodyPost_ret (res_big rfl (hK4.set2 _ _) rfl) rfl ?_
      have hbz := ((hbd.trans (hba.mono (by omega))).trans (hbb2.mono (by omega))).trans (hbc.mono (by omega))
      have hmz : minorZ zs r c = z0 * z3 - z1 * z2 := by unfold minorZ; rw [HPS.out]; exact HD.out
      rw [hmz]
      exact ⟨_, rfl, (hNc.grown (gb2 wc _ _ _) (.inl (by omega))).less (by omega), below_of_gb hbz (gb2 wc _ _ _) (by omega) (by omega)⟩
theorem minor_lt {zs : List Int} (h : ∀ k, En (zs.getD k 0)) (r c : Int) : ((minorZ zs r c).natAbs : Int) < 2 * Bp 18 := by
  have hpz := picks_all (P := En) h r c 9
  have h1 := en_mul (getD_all hpz en_zero 0) (getD_all hpz en_zero 3)
  have h2 := en_mul (getD_all hpz en_zero 1) (getD_all hpz en_zero 2)
  unfold minorZ det2
  omega
end Go.Proofs.Ytebcienjeponmaa
