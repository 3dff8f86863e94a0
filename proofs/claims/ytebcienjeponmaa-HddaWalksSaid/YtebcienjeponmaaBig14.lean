/- The reference's homographies: where a place comes from. -/
import Derived.Test.YtebcienjeponmaaBig13
set_option linter.unusedVariables false
namespace Go.Proofs.Ytebcienjeponmaa
open Go.RowKit
theorem undZ_lt {es : List Int} (h : ∀ k, Ea (es.getD k 0)) (r : Nat) {X Y D : Int} (hX : I64 X) (hY : I64 Y) (hD : I64 D) : ((undZ es r X Y D).natAbs : Int) < Bp 25 := by
  have h1 := ea_mul (h (3 * r)) hX
  have h2 := ea_mul (h (3 * r + 1)) hY
  have h3 := ea_mul (h (3 * r + 2)) hD
  have h4 := Bp1s 24
  have h5 := Bp_pos 24
  simp only [Nat.reduceAdd] at h4
  unfold undZ
  omega
theorem adj_ea {zs : List Int} (h : ∀ k, En (zs.getD k 0)) (k : Nat) : Ea ((adjZ zs).getD k 0) := by
  unfold adjZ adjP
  rcases Nat.lt_or_ge k 9 with hk | hk
  · rw [List.getD_eq_getElem?_getD, List.getElem?_map, List.getElem?_range hk]
    exact adjE_lt h _ _
  · rw [List.getD_eq_getElem?_getD, List.getElem?_eq_none (by simp; omega)]
    exact Bp_pos 19
/-- Where the place X/D, Y/D comes from, in 65536ths. -/
def atZ (ms : List Int) (X Y D : Int) : Option (Int × Int) :=
  if undZ (adjZ ms) 2 X Y D = 0 then none
  else some (cutZ (flo (undZ (adjZ ms) 0 X Y D * 65536) (undZ (adjZ ms) 2 X Y D)), cutZ (flo (undZ (adjZ ms) 1 X Y D * 65536) (undZ (adjZ ms) 2 X Y D)))
def atV : Option (Int × Int) → Value
  | none => .tuple #[.int .i64 0, .int .i64 0, .bool false]
  | some (x, y) => .tuple #[.int .i64 x, .int .i64 y, .bool true]
set_option maxRecDepth 100000 in
set_option maxHeartbeats 2000000 in
theorem at_any (A : Option Addr) (c : Nat) (ms : List Int) (X Y D : Int) (w : World) {B : Nat} (hl : ms.length = 9) (hr : Rd w B A (ms.map (Value.int .i64))) (hB : B ≤ w.heap.size) (hok : ∀ z ∈ ms, -4611686018427387904 ≤ z ∧ z ≤ 4611686018427387904) (hX : I64 X) (hY : I64 Y) (hD : I64 D) :
    Calls Try.prog 21 #[.slice A 9 c, .int .i64 X, .int .i64 Y, .int .i64 D] w fun e w' => e = .returned (atV (atZ ms X Y D)) ∧ Below w.heap.size w w' := by
  have hen : ∀ k, En (ms.getD k 0) := fun k => by
    have h9 := Bp_mono (show 5 ≤ 9 by omega)
    have h5 := Bp5
    refine getD_all (P := En) (fun z hz => ?_) en_zero k
    have := hok z hz
    show (z.natAbs : Int) < Bp 9
    omega
  have hea := adj_ea hen
  have hu0 := undZ_lt hea 0 hX hY hD
  have hu1 := undZ_lt hea 1 hX hY hD
  have hu2 := undZ_lt hea 2 hX hY hD
  have HAT := Lib.hid (show atZ ms X Y D = (if undZ (adjZ ms) 2 X Y D = 0 then none else some (cutZ (flo (undZ (adjZ ms) 0 X Y D * 65536) (undZ (adjZ ms) 2 X Y D)), cutZ (flo (undZ (adjZ ms) 1 X Y D * 65536) (undZ (adjZ ms) 2 X Y D)))) from rfl)
  have h25 := Bp_mono (show 25 ≤ 38 by omega)
  have hs2 := sm_38 (show ((undZ (adjZ ms) 2 X Y D).natAbs : Int) < Bp 38 by omega)
  have hok2 : ∀ z ∈ ms, -9223372036854775808 ≤ z ∧ z ≤ 9223372036854775807 := fun z hz => by have := hok z hz; omega
  have HOK := Lib.hid hok2
  have HEN := Lib.hid hen
  have HEA := Lib.hid hea
  have HL := Lib.hid hl
  have hal : (adjZ ms).length = 9 := adjP_len ms 9
  have HAL := Lib.hid hal
  have b0 := Lib.hid (show ((undZ (adjZ ms) 0 X Y D).natAbs : Int) < Bp 38 by omega)
  have b1 := Lib.hid (show ((undZ (adjZ ms) 1 X Y D).natAbs : Int) < Bp 38 by omega)
  have b2 := Lib.hid (show ((undZ (adjZ ms) 2 X Y D).natAbs : Int) < Bp 38 by omega)
  clear hok hok2 hen hea hl hal h25 hu0 hu1 hu2
  go_enter Try.func21, Try.ntmps21
  go_wp2_with fail
  refine (bigs_of A 9 c ms _ HL.out (by omega) hr hB HOK.out).mono ?_
  rintro e w1 ⟨v1, rfl, hB1, hb1⟩
  go_wp2_with fail
  refine (adj_any v1 ms _ hB1 HL.out HEN.out).mono ?_
  rintro e w2 ⟨v2, rfl, hB2, hb2⟩
  have hz1 := hb1.size
  have hz2 := hb2.size
  have hbz2 := hb1.trans (hb2.mono hz1)
  obtain ⟨A2, c2, rfl, _, _⟩ := hB2.form
  rw [HAL.out]
  have hB2' := hB2
  rw [HAL.out] at hB2'
  go_wp2_with fail
  refine (under2_any _ (adjZ ms) X Y D _ hB2' HAL.out HEA.out hX hY hD).mono ?_
  rintro e w3 ⟨v3, rfl, hN3, hb3⟩
  obtain ⟨s3, A3, n3, c3, rfl⟩ := hN3.shape
  have hz3 := hb3.size
  have hbz3 := hbz2.trans (hb3.mono (by omega))
  have hK3 := Bk.new w3 42 #[.bool s3, .slice A3 n3 c3]
  have hN3a := hN3.alloc (.cells #[.bool s3, .slice A3 n3 c3] 42)
  have hbz4 := hbz3.alloc (by omega) (.cells #[.bool s3, .slice A3 n3 c3] 42)
  have hb3a := hb3.alloc hz3 (.cells #[.bool s3, .slice A3 n3 c3] 42)
  have hlk := hK3.lt
  go_wp2_with (first
    | (refine ldBig rfl _ rfl hK3 rfl ?_)
    | (go_at_call 34; (with_reducible refine (sign_any _ _ _ hN3a hs2).mono ?_); rintro e w4 ⟨rfl, hb4⟩; have hz4 := hb4.size))
  · rename_i hz0
    have hz9 := (cmp_zero _ _).1 (by simpa using hz0)
    have hat : atZ ms X Y D = none := by rw [HAT.out, if_pos hz9]
    go_returns
    exact ⟨by rw [hat]; rfl, hbz4.trans (hb4.mono (by omega))⟩
  · have hz0 : (cmpI (undZ (adjZ ms) 2 X Y D) 0 == 0) = false := by first | assumption | (simp; assumption)
    have hz9 : undZ (adjZ ms) 2 X Y D ≠ 0 := fun h => by rw [(cmp_zero _ _).2 h] at hz0; simp at hz0
    have HZ9 := Lib.hid hz9
    have hat := HAT.out
    rw [if_neg hz9] at hat
    have HAT2 := Lib.hid hat
    clear hat hz9 hz0 HAT
    have hb34 := hb3a.trans (hb4.mono (by omega))
    have hBd : Bigs w1.heap.size w4.drew (.slice A2 9 c2) (adjZ ms) := (hB2'.nx hb34).drew
    have hKd : Bk w4.drew w3.heap.size 42 #[.bool s3, .slice A3 n3 c3] := (hK3.nx hb4).drew
    have hNd := (hN3a.nx hb4).drew
    have hbz5 : Below w.heap.size w w4.drew := (hbz4.trans (hb4.mono (by omega))).drew
    have hld := hKd.lt
    obtain ⟨d0, d1⟩ := hKd.cell2
    generalize undZ (adjZ ms) 2 X Y D = U2 at *
    have HU0 := Lib.hid (under0_any (.slice A2 9 c2) (adjZ ms) X Y D w4.drew hBd HAL.out HEA.out hX hY hD)
    have hu1 : ∀ W, Below w4.drew.heap.size w4.drew W → Calls Try.prog 19 #[.slice A2 9 c2, .int .i64 1, .int .i64 X, .int .i64 Y, .int .i64 D] W fun e w' => ∃ u, e = .returned u ∧ BigN W.heap.size w' u (undZ (adjZ ms) 1 X Y D) ∧ Below W.heap.size W w' :=
      fun W hW => under1_any (.slice A2 9 c2) (adjZ ms) X Y D W (hBd.nx hW) HAL.out HEA.out hX hY hD
    have HU1 := Lib.hid hu1
    clear hu1 hB2' hB2 hBd
    generalize undZ (adjZ ms) 0 X Y D = U0 at *
    generalize undZ (adjZ ms) 1 X Y D = U1 at *
    go_region_held3 (fun w' => w'.cell? ⟨w3.heap.size, 0, none⟩ = some (.bool s3) ∧ w'.cell? ⟨w3.heap.size, 1, none⟩ = some (.slice A3 n3 c3))
      (first | exact ⟨d0, d1⟩ | exact ⟨p0, p1⟩ | exact ⟨q0, q1⟩ | exact ⟨r0, r1⟩ | exact ⟨t0, t1⟩ | (refine ⟨?_, ?_⟩ <;> go_simp))
      (first
      | (go_at_call 19; (with_reducible refine (HU0.out).mono ?_); rintro e wa ⟨va, rfl, hNa, hba⟩; obtain ⟨sa, Aa, na, ca, rfl⟩ := hNa.shape; have hKa := hKd.nx hba; obtain ⟨p0, p1⟩ := hKa.cell2; have hza := hba.size)
      | (go_at_call 45; (with_reducible refine (place_any _ _ U0 U2 _ hNa (hNd.nx hba) HZ9.out b0.out b2.out).mono ?_); rintro e wb ⟨rfl, hbb⟩; have hKb := hKa.nx hbb; obtain ⟨q0, q1⟩ := hKb.cell2; have hzb := hbb.size)
      | (go_at_call 19; (with_reducible refine (HU1.out _ (hba.trans (hbb.mono hza))).mono ?_); rintro e wc ⟨vc, rfl, hNc, hbc⟩; obtain ⟨sc, Ac, nc, cc, rfl⟩ := hNc.shape; have hKc := hKb.nx hbc; obtain ⟨r0, r1⟩ := hKc.cell2; have hzc := hbc.size)
      | (go_at_call 45; (with_reducible refine (place_any _ _ U1 U2 _ hNc (((hNd.nx hba).nx hbb).nx hbc) HZ9.out b1.out b2.out).mono ?_); rintro e wd ⟨rfl, hbd⟩; have hKd' := hKc.nx hbd; obtain ⟨t0, t1⟩ := hKd'.cell2))
    go_wp2_with fail
    go_returns
    exact ⟨by rw [HAT2.out]; rfl, (((hbz5.trans (hba.mono (by omega))).trans (hbb.mono (by omega))).trans (hbc.mono (by omega))).trans (hbd.mono (by omega))⟩
end Go.Proofs.Ytebcienjeponmaa
