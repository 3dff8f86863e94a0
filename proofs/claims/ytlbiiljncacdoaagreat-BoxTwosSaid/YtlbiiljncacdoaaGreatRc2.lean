/- Rectangles: the places that two have. -/
import Derived.Test.YtlbiiljncacdoaaGreatRc
set_option linter.unusedVariables false
namespace Go.Proofs.YtlbiiljncacdoaaGreat
open Go.RowKit
theorem run_maxM {P : Program} {w : World} (ts : Array TypeId) (t : TypeId) (k k' : IntKind) (x y : Int) : (Builtin.max_ ts t #[.int k x, .int k' y]).run P w = .ok (.int k (max x y)) w := by
  rw [run_max_int2]
  congr 2
  split <;> omega
theorem run_minM {P : Program} {w : World} (ts : Array TypeId) (t : TypeId) (k k' : IntKind) (x y : Int) : (Builtin.min_ ts t #[.int k x, .int k' y]).run P w = .ok (.int k (min x y)) w := by
  rw [run_min_int2]
  congr 2
  split <;> omega
attribute [local go_sem high] run_maxM run_minM
/-- The places that a rectangle and a whole image have. -/
def bothR (a b c d e f g h : Int) : Int × Int × Int × Int :=
  if rc_emptyR a b c d ∨ rc_emptyR e f g h ∨ rc_emptyR (max a e) (max b f) (min c g) (min d h) then (0, 0, 0, 0) else (max a e, max b f, min c g, min d h)
abbrev rcv (p : Int × Int × Int × Int) : Value := rc_rect4 p.1 p.2.1 p.2.2.1 p.2.2.2
set_option maxRecDepth 100000 in
set_option maxHeartbeats 4000000 in
theorem both_any (a b c d e f g h : Int) (w : World) : Calls Tryz.prog 168 #[rc_rect4 a b c d, rc_rect4 e f g h] w fun e' w' => e' = .returned (rcv (bothR a b c d e f g h)) ∧ Below w.heap.size w w' := by
  have hL := (((Lie.start w).alloc (rc_rectA a b c d) 78).alloc (rc_rectA e f g h) 78).alloc (rc_rectA 0 0 0 0) 78
  simp only [World.size_alloc] at hL
  have k2 := hL.k 2 (by simp)
  have k3 := hL.k 1 (by simp)
  have k4 := hL.k 0 (by simp)
  simp only [List.getElem_cons_zero, List.getElem_cons_succ] at k2 k3 k4
  have hE1 := fun w' => rc_empty_any a b c d w'
  have hE2 := fun w' => rc_empty_any e f g h w'
  by_cases h1 : rc_emptyR a b c d
  · have HE : Hid (bothR a b c d e f g h = (0, 0, 0, 0)) := by unfold bothR Hid; rw [if_pos (.inl h1)]
    rw [show decide (rc_emptyR a b c d) = true from decide_eq_true h1] at hE1
    clear h1 hE2
    go_enter Tryz.func168, Tryz.ntmps168
    go_wp2_with (first
      | (refine rc_ldRect rfl _ rfl k2 rfl ?_)
      | (go_at_call 109; (with_reducible refine (hE1 _).mono ?_); rintro e' w1 ⟨rfl, hb1⟩; have hL1 := hL.nx hb1; have k41 := k4.nx hb1)
      | (refine rc_stRect rfl _ _ rfl k41 rfl rfl rfl ?_; intro w2 k42 hg2 hs2))
    refine bodyPost_ret (rc_res_rect rfl k42 rfl) rfl ?_
    exact ⟨by rw [HE.out], below_of_gb hL1.bel hg2 (by omega) hL1.sz⟩
  · rw [show decide (rc_emptyR a b c d) = false from decide_eq_false h1] at hE1
    by_cases h2 : rc_emptyR e f g h
    · have HE : Hid (bothR a b c d e f g h = (0, 0, 0, 0)) := by unfold bothR Hid; rw [if_pos (.inr (.inl h2))]
      rw [show decide (rc_emptyR e f g h) = true from decide_eq_true h2] at hE2
      clear h1 h2
      go_enter Tryz.func168, Tryz.ntmps168
      go_wp2_with (first
        | (refine rc_ldRect rfl _ rfl k2 rfl ?_)
        | (refine rc_ldRect rfl _ rfl k31 rfl ?_)
        | (go_at_call 109; (with_reducible refine (hE1 _).mono ?_); rintro e' w1 ⟨rfl, hb1⟩; have hL1 := hL.nx hb1; have k31 := k3.nx hb1; have q31 := k31.cell4; obtain ⟨g30, g31, g32, g33⟩ := q31)
        | (go_at_call 109; (with_reducible refine (hE2 _).mono ?_); rintro e' w2 ⟨rfl, hb2⟩; have hL2 := hL1.nx hb2; have k42 := (k4.nx hb1).nx hb2)
        | (refine rc_stRect rfl _ _ rfl k42 rfl rfl rfl ?_; intro w3 k43 hg3 hs3))
      refine bodyPost_ret (rc_res_rect rfl k43 rfl) rfl ?_
      exact ⟨by rw [HE.out], below_of_gb hL2.bel hg3 (by omega) hL2.sz⟩
    · rw [show decide (rc_emptyR e f g h) = false from decide_eq_false h2] at hE2
      have HE : Hid (bothR a b c d e f g h = if rc_emptyR (max a e) (max b f) (min c g) (min d h) then (0, 0, 0, 0) else (max a e, max b f, min c g, min d h)) := by
        unfold bothR Hid
        by_cases h3 : rc_emptyR (max a e) (max b f) (min c g) (min d h)
        · rw [if_pos (.inr (.inr h3)), if_pos h3]
        · rw [if_neg (by rintro (h | h | h) <;> contradiction), if_neg h3]
      have hN1 := fun h3 w' => rc_norm_e (max a e) (max b f) (min c g) (min d h) w' h3
      have hN2 := fun h3 w' => rc_norm_ok (max a e) (max b f) (min c g) (min d h) w' h3
      clear h1 h2
      by_cases h3 : rc_emptyR (max a e) (max b f) (min c g) (min d h)
      · replace hN1 := hN1 h3
        replace HE : Hid (bothR a b c d e f g h = (0, 0, 0, 0)) := by have := HE.out; rw [if_pos h3] at this; exact this
        clear h3 hN2
        obtain ⟨c20, c21, c22, c23⟩ := k2.cell4
        obtain ⟨c30, c31, c32, c33⟩ := k3.cell4
        go_enter Tryz.func168, Tryz.ntmps168
        go_wp2_with (first
          | (refine rc_ldRect rfl _ rfl k2 rfl ?_)
          | (refine rc_ldRect rfl _ rfl k31 rfl ?_)
          | (go_at_call 109; (with_reducible refine (hE1 _).mono ?_); rintro e' w1 ⟨rfl, hb1⟩; have hL1 := hL.nx hb1; have k31 := k3.nx hb1; have q31 := k31.cell4; obtain ⟨g30, g31, g32, g33⟩ := q31)
          | (go_at_call 109; (with_reducible refine (hE2 _).mono ?_); rintro e' w2 ⟨rfl, hb2⟩; have hL2 := hL1.nx hb2; have k22 := (k2.nx hb1).nx hb2; have k32 := (k3.nx hb1).nx hb2; have k42 := (k4.nx hb1).nx hb2; have q2 := k22.cell4; have q3 := k32.cell4; obtain ⟨e20, e21, e22, e23⟩ := q2; obtain ⟨e30, e31, e32, e33⟩ := q3)
          | (go_at_call 206; (with_reducible refine (hN1 _).mono ?_); rintro e' w3 ⟨rfl, hb3⟩; have hL3 := hL2.nx hb3; have k43 := k42.nx hb3)
          | (refine rc_stRect rfl _ _ rfl k43 rfl rfl rfl ?_; intro w5 k45 hg5 hs5))
        refine bodyPost_ret (rc_res_rect rfl k45 rfl) rfl ?_
        exact ⟨by rw [HE.out], below_of_gb hL3.bel hg5 (by omega) hL3.sz⟩
      · replace hN2 := hN2 h3
        replace HE : Hid (bothR a b c d e f g h = (max a e, max b f, min c g, min d h)) := by have := HE.out; rw [if_neg h3] at this; exact this
        clear h3 hN1
        obtain ⟨c20, c21, c22, c23⟩ := k2.cell4
        obtain ⟨c30, c31, c32, c33⟩ := k3.cell4
        go_enter Tryz.func168, Tryz.ntmps168
        go_wp2_with (first
          | (refine rc_ldRect rfl _ rfl k2 rfl ?_)
          | (refine rc_ldRect rfl _ rfl k31 rfl ?_)
          | (go_at_call 109; (with_reducible refine (hE1 _).mono ?_); rintro e' w1 ⟨rfl, hb1⟩; have hL1 := hL.nx hb1; have k31 := k3.nx hb1; have q31 := k31.cell4; obtain ⟨g30, g31, g32, g33⟩ := q31)
          | (go_at_call 109; (with_reducible refine (hE2 _).mono ?_); rintro e' w2 ⟨rfl, hb2⟩; have hL2 := hL1.nx hb2; have k22 := (k2.nx hb1).nx hb2; have k32 := (k3.nx hb1).nx hb2; have k42 := (k4.nx hb1).nx hb2; have q2 := k22.cell4; have q3 := k32.cell4; obtain ⟨e20, e21, e22, e23⟩ := q2; obtain ⟨e30, e31, e32, e33⟩ := q3)
          | (go_at_call 206; (with_reducible refine (hN2 _).mono ?_); rintro e' w3 ⟨rfl, hb3⟩; have hL3 := hL2.nx hb3; have k43 := k42.nx hb3)
          | (refine rc_stRect rfl _ _ rfl k43 rfl rfl rfl ?_; intro w5 k45 hg5 hs5))
        refine bodyPost_ret (rc_res_rect rfl k45 rfl) rfl ?_
        exact ⟨by rw [HE.out], below_of_gb hL3.bel hg5 (by omega) hL3.sz⟩
end Go.Proofs.YtlbiiljncacdoaaGreat
