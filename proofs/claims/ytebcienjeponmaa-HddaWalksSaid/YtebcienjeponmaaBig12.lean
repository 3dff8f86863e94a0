/- The reference's adjugates. -/
import Derived.Test.YtebcienjeponmaaBig11
set_option linter.unusedVariables false
namespace Go.Proofs.Ytebcienjeponmaa
open Go.RowKit
def adjE (zs : List Int) (i j : Int) : Int := (if (i + j) % 2 = 1 then -1 else 1) * minorZ zs j i
def adjP (zs : List Int) (m : Nat) : List Int := (List.range m).map (fun q : Nat => adjE zs ((q / 3 : Nat) : Int) ((q % 3 : Nat) : Int))
def adjZ (zs : List Int) : List Int := adjP zs 9
theorem adjP_len (zs : List Int) (m : Nat) : (adjP zs m).length = m := by simp [adjP]
theorem adjP_succ (zs : List Int) (i j : Nat) (hj : j < 3) : adjP zs (3 * i + j + 1) = adjP zs (3 * i + j) ++ [adjE zs i j] := by
  unfold adjP
  rw [List.range_succ, List.map_append]
  have h1 : (3 * i + j) / 3 = i := by omega
  have h2 : (3 * i + j) % 3 = j := by omega
  simp only [List.map_cons, List.map_nil, h1, h2]
theorem adjE_lt {zs : List Int} (h : ∀ k, En (zs.getD k 0)) (i j : Int) : ((adjE zs i j).natAbs : Int) < Bp 19 := by
  have h2 := minor_lt h j i
  have h3 := Bp1s 18
  have h4 := Bp_pos 18
  simp only [Nat.reduceAdd] at h3
  unfold adjE
  split <;> omega
set_option maxRecDepth 100000 in
set_option maxHeartbeats 2000000 in
theorem adj_any (v : Value) (zs : List Int) (w : World) {lo : Nat} (hv : Bigs lo w v zs) (hl : zs.length = 9) (hz : ∀ k, En (zs.getD k 0)) :
    Calls Try.prog 15 #[v] w fun e w' => ∃ u, e = .returned u ∧ Bigs w.heap.size w' u (adjZ zs) ∧ Below w.heap.size w w' := by
  have HZ := Lib.hid hz
  have HL := Lib.hid hl
  clear hz hl
  go_enter Try.func15, Try.ntmps15
  go_wp2_with fail
  go_loopw [3, 4] (fun v iv wr => ∃ i : Nat, i ≤ 3 ∧ iv = .int .i64 i ∧ BigsO w.heap.size w.heap.size wr v (adjP zs (3 * i)) ∧ Below w.heap.size w wr) (fun _ iv _ => 3 - (intOf iv).toNat)
  case atStart => exact ⟨0, by omega, rfl, BigsO.nil _ _ _, Below.refl _ _⟩
  case round =>
    obtain ⟨i, hi, rfl, hO, hb⟩ := hrel
    obtain ⟨wo, rfl⟩ : ∃ wo : World, wo = wr := ⟨_, rfl⟩
    rcases Nat.lt_or_ge i 3 with hlt | hge
    · have hi3 : (i : Int) < 3 := by omega
      go_wp2_with fail
      go_loopw [3, 5] (fun v jv wr => ∃ j : Nat, j ≤ 3 ∧ jv = .int .i64 j ∧ BigsO w.heap.size w.heap.size wr v (adjP zs (3 * i + j)) ∧ Below w.heap.size w wr) (fun _ jv _ => 3 - (intOf jv).toNat)
      case atStart => exact ⟨0, by omega, rfl, hO, hb⟩
      case round =>
        clear hO hb
        obtain ⟨j, hj, rfl, hO, hb⟩ := hrel
        rcases Nat.lt_or_ge j 3 with hjlt | hjge
        · have hj3 : (j : Int) < 3 := by omega
          have hbs := hb.size
          have hvr := hv.nx hb
          have hlen := adjP_len zs (3 * i + j)
          have hle : (adjP zs (3 * i + j)).length ≤ 100000 := by omega
          have HP := Lib.hid (adjP_succ zs i j hjlt)
          have HL2 := Lib.hid hO.lt
          have hml := minor_lt HZ.out j i
          have hsm : Sm (minorZ zs j i) := by
            have h1 := Bp1s 18
            have h2 := Bp_mono (show 19 ≤ 40 by omega)
            have h3 := Bp_pos 18
            simp only [Nat.reduceAdd] at h1
            show ((minorZ zs j i).natAbs : Int) < Bp 40
            omega
          have HE := Lib.hid (show adjE zs i j = (if ((i : Int) + j) % 2 = 1 then -1 else 1) * minorZ zs j i from rfl)
          clear hlen hml
          by_cases hpar : ((i : Int) + j) % 2 = 1
          · have hp1 : (((i : Int) + j) % 2 == 1) = true := by simp [hpar]
            have hE2 : adjE zs i j = - minorZ zs j i := by rw [HE.out, if_pos hpar]; omega
            have HE2 := Lib.hid hE2
            clear hE2
            go_wp2_with (first
              | (go_at_call 37; (with_reducible refine (minor_any _ zs j i _ hvr HL.out (by omega) (by omega) HZ.out).mono ?_); rintro e wa ⟨va, rfl, hNa, hba⟩; obtain ⟨sa, Aa, na, ca, rfl⟩ := hNa.shape; have hza := hba.size; have hKa := Bk.new wa 42 #[.bool sa, .slice Aa na ca]; have hNaa := hNa.alloc (.cells #[.bool sa, .slice Aa na ca] 42); have hBa := hba.alloc hza (.cells #[.bool sa, .slice Aa na ca] 42); have hoffa := hNa.off (g := some wa.heap.size) (fun k hk => .inr (by injection hk; omega)); have hoffr := hNa.off (fun k hk => .inl (HL2.out k hk).2); have hla := hKa.lt)
              | (refine ldBig rfl _ rfl hKa rfl ?_)
              | (go_at_call 38; (with_reducible refine (neg_same _ _ _ _ _ _ hNaa hsm).mono ?_); rintro e wn ⟨sn, rfl, hNn, hbn⟩; have hzn := hbn.size; have hKn := hKa.nx hbn)
              | (refine stBig rfl _ _ rfl hKn rfl rfl rfl ?_; intro wk hKk hgk hsk; have hsk1 := Nat.le_of_eq hsk; have hsk2 := Nat.le_of_eq hsk.symm; clear hsk; have hNk := hNn.kept hoffa.same hgk; have hBk := below_of_gb (hBa.trans (hbn.mono (by omega))) hgk hza (by omega))
              | (refine ldBig rfl _ rfl hKk rfl ?_)
              | (at_builtin; go_loud (refine appBig rfl _ _ rfl (Bk.new wk _ _) ((hO.nx hBk).nx ((Below.refl _ wk).alloc (Nat.le_refl _) _)) ((hNk.alloc _).less hbs) hoffr.same rfl rfl ((hb.trans (hBk.mono hbs)).alloc (by omega) _) (Nat.le_refl _) (by simp; omega) hle ?_); intro v' w' k1 k2 k3 k4 k5))
            rw [← HE2.out, ← HP.out] at k1
            exact ⟨⟨j + 1, by omega, by go_num, k1, k2⟩, by simp only [intOf]; omega⟩
          · have hp1 : (((i : Int) + j) % 2 == 1) = false := by simp [hpar]
            have hE2 : adjE zs i j = minorZ zs j i := by rw [HE.out, if_neg hpar]; omega
            have HE2 := Lib.hid hE2
            clear hE2
            go_wp2_with (first
              | (go_at_call 37; (with_reducible refine (minor_any _ zs j i _ hvr HL.out (by omega) (by omega) HZ.out).mono ?_); rintro e wa ⟨va, rfl, hNa, hba⟩; obtain ⟨sa, Aa, na, ca, rfl⟩ := hNa.shape; have hza := hba.size; have hKa := Bk.new wa 42 #[.bool sa, .slice Aa na ca]; have hNaa := hNa.alloc (.cells #[.bool sa, .slice Aa na ca] 42); have hBa := hba.alloc hza (.cells #[.bool sa, .slice Aa na ca] 42); have hoffr := hNa.off (fun k hk => .inl (HL2.out k hk).2); have hla := hKa.lt; have hKb : Bk ((wa.alloc (.cells #[.bool sa, .slice Aa na ca] 42)).alloc (.cells #[.bool sa, .slice Aa na ca] 42)) (wa.heap.size + 1) 42 #[.bool sa, .slice Aa na ca] := by { have := Bk.new (wa.alloc (.cells #[.bool sa, .slice Aa na ca] 42)) 42 #[.bool sa, .slice Aa na ca]; simpa using this })
              | (refine ldBig rfl _ rfl hKa rfl ?_)
              | (at_builtin; go_loud (refine appBig rfl _ _ rfl hKb ((hO.nx hBa).nx ((Below.refl _ _).alloc (Nat.le_refl _) _)) ((hNaa.alloc _).less hbs) hoffr rfl rfl ((hb.trans (hBa.mono hbs)).alloc (by omega) _) (Nat.le_refl _) (by simp; omega) hle ?_); intro v' w' k1 k2 k3 k4 k5))
            rw [← HE2.out, ← HP.out] at k1
            exact ⟨⟨j + 1, by omega, by go_num, k1, k2⟩, by simp only [intOf]; omega⟩
        · obtain rfl : j = 3 := by omega
          go_wp2_with fail
          exact ⟨⟨i + 1, by omega, by go_num, hO, hb⟩, by simp only [intOf]; omega⟩
    · obtain rfl : i = 3 := by omega
      have hO2 := hO.bigs (Nat.le_refl _)
      go_wp2_with fail
      go_returns
      exact ⟨_, rfl, hO2, hb⟩
end Go.Proofs.Ytebcienjeponmaa
