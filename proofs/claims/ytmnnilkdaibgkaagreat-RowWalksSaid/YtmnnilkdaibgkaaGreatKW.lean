/- Several texts in one: The law RowWalks: the walk, over its callees' contracts. (Printed by wip/tools/genrw8.py.) The law RowWalks: the walk of a row that is made. (Printed by wip/tools/genrw8.py.) The law RowWalks. -/
import Derived.Test.YtmnnilkdaibgkaaGreatKU
import Derived.Test.YtmnnilkdaibgkaaGreatKV
import Derived.Test.YtmnnilkdaibgkaaGreatOX
import Derived.Test.YtmnnilkdaibgkaaGreatKH
import Derived.Test.YtmnnilkdaibgkaaGreatKI
section
set_option linter.unusedVariables false
namespace Go.Proofs.YtmnnilkdaibgkaaGreat
open Go.RowKit
set_option maxRecDepth 100000 in
set_option maxHeartbeats 16000000 in
theorem walkBig (k : Int) (A : Option Addr) (sn cp : Nat) (W H y : Int) (S : Option Addr) (m mc : Nat) (w : World) (hbig : 9000 < sn ∨ 60 < m) :
    Calls Tryz.prog 3 #[.agg #[.int .i64 k, .slice A sn cp], .agg #[.int .i64 W, .int .i64 H, .int .i64 y], .slice S m mc] w fun e w' => e = .returned (.bool true) ∧ Below w.heap.size w w' := by
  have hL := ((Lie.start w).alloc #[.int .i64 k, .slice A sn cp] 24).alloc #[.int .i64 W, .int .i64 H, .int .i64 y] 25
  by_cases h9 : 9000 < sn
  · clear hbig
    go_enter Tryz.func3, Tryz.ntmps3
    go_wp2_with fail
    go_returns
    exact ⟨rfl, hL.bel⟩
  · have h60 : 60 < m := by omega
    clear hbig
    go_enter Tryz.func3, Tryz.ntmps3
    go_wp2_with fail
    go_returns
    exact ⟨rfl, hL.bel⟩
/-- The row is refused. -/
def Refused (k : Int) (A : Option Addr) (sn cp : Nat) (W H y C : Int) (w : World) : Prop := ∀ w', Below w.heap.size w w' → Calls Tryz.prog 4 #[.agg #[.int .i64 k, .slice A sn cp], .int .i64 W, .int .i64 H, .int .i64 y] w' fun e w'' => e = .returned (.tuple #[.pointer none, .int .i64 C]) ∧ Below w'.heap.size w' w''
def Checked (k : Int) (A : Option Addr) (sn cp : Nat) (W H xc : Int) (w : World) : Prop := ∀ w', Below w.heap.size w w' → Calls Tryz.prog 5 #[.agg #[.int .i64 k, .slice A sn cp], .int .i64 W, .int .i64 H] w' fun e w'' => e = .returned (.int .i64 xc) ∧ Below w'.heap.size w' w''
set_option maxRecDepth 100000 in
set_option maxHeartbeats 16000000 in
theorem walkNone (k : Int) (A : Option Addr) (sn cp : Nat) (W H y C xc : Int) (S : Option Addr) (m mc : Nat) (w : World) (h9 : sn ≤ 9000) (h60 : m ≤ 60)
    (hNew : Refused k A sn cp W H y C w) (hR : Checked k A sn cp W H xc w) (hC : (xc ≠ 0 ∧ C = xc) ∨ (xc = 0 ∧ C = 11 ∧ (y < 0 ∨ H ≤ y)))
    (hAl : ∀ w : World, Calls Tryz.prog 10 #[] w fun e w' => e = .returned (.bool true) ∧ Below w.heap.size w w') :
    Calls Tryz.prog 3 #[.agg #[.int .i64 k, .slice A sn cp], .agg #[.int .i64 W, .int .i64 H, .int .i64 y], .slice S m mc] w fun e w' => e = .returned (.bool true) ∧ Below w.heap.size w w' := by
  have hL := ((Lie.start w).alloc #[.int .i64 k, .slice A sn cp] 24).alloc #[.int .i64 W, .int .i64 H, .int .i64 y] 25
  simp only [World.size_alloc] at hL
  have k3 : Bk ((w.alloc (.cells #[.int .i64 k, .slice A sn cp] 24)).alloc (.cells #[.int .i64 W, .int .i64 H, .int .i64 y] 25)) w.heap.size 24 #[.int .i64 k, .slice A sn cp] := hL.k 1 (by simp)
  have hN1 := fun (w' : World) (hb : Below w.heap.size w w') => hNew w' hb
  have hR1 := fun (w' : World) (hb : Below w.heap.size w w') => hR w' hb
  clear hNew hR
  rcases hC with ⟨hx, rfl⟩ | ⟨rfl, rfl, hy⟩
  · have hxb : (C == 0) = false := by simpa using hx
    have hxn : (C != 0) = true := by simpa using hx
    clear hx
    go_enter Tryz.func3, Tryz.ntmps3
    go_upto_region 5 with (first
      | (refine ldB rfl _ _ rfl k3 rfl Tryz.underlying24 rfl (by kernel_rfl) ?_)
      | (go_at_call 4; (with_reducible refine (hN1 _ hL.bel).mono ?_); rintro e w1 ⟨rfl, hb1⟩; have hL1 := hL.nx hb1; have k31 := k3.nx hb1; have k41 : Bk w1 (w.heap.size + 1) 25 #[.int .i64 W, .int .i64 H, .int .i64 y] := hL1.k 0 (by simp); obtain ⟨c0, c1, c2⟩ := k41.cell3)
      | (refine ldB rfl _ _ rfl k31 rfl Tryz.underlying24 rfl (by kernel_rfl) ?_)
      | (go_at_call 5; (with_reducible refine (hR1 _ hL1.bel).mono ?_); rintro e w2 ⟨rfl, hb2⟩; have hL2 := hL1.nx hb2; have k42 : Bk w2 (w.heap.size + 1) 25 #[.int .i64 W, .int .i64 H, .int .i64 y] := hL2.k 0 (by simp); obtain ⟨d0, d1, d2⟩ := k42.cell3))
    go_wp2_with (first
      | (go_at_call 6; (with_reducible refine (rwnext_nil _).mono ?_); rintro e w3 ⟨rfl, hb3⟩; have hL3 := hL2.nx hb3)
      | (go_at_call 7; (with_reducible refine (rwrest_nil _).mono ?_); rintro e w4 ⟨rfl, hb4⟩; have hL4 := hL3.nx hb4)
      | (go_at_call 8; (with_reducible refine (rwskip_nil _ _).mono ?_); rintro e w5 ⟨rfl, hb5⟩; have hL5 := hL4.nx hb5)
      | (go_at_call 9; (with_reducible refine (rwx_nil _).mono ?_); rintro e w6 ⟨rfl, rfl⟩)
      | (go_at_call 10; (with_reducible refine (hAl _).mono ?_); rintro e w7 ⟨rfl, hb7⟩; have hL7 := hL5.nx hb7))
    go_returns
    exact ⟨rfl, hL7.bel⟩
  · by_cases hy0 : y < 0
    all_goals
      first | have hyg : decide (y < 0) = true := decide_eq_true hy0 | have hyg : decide (y < 0) = false := decide_eq_false hy0
      have hyh : ¬ (y < 0) → H ≤ y := fun h => by omega
      first | (have hyk : H ≤ y := hyh hy0; clear hyh hy) | clear hyh hy
      go_enter Tryz.func3, Tryz.ntmps3
      go_upto_region 5 with (first
        | (refine ldB rfl _ _ rfl k3 rfl Tryz.underlying24 rfl (by kernel_rfl) ?_)
        | (go_at_call 4; (with_reducible refine (hN1 _ hL.bel).mono ?_); rintro e w1 ⟨rfl, hb1⟩; have hL1 := hL.nx hb1; have k31 := k3.nx hb1; have k41 : Bk w1 (w.heap.size + 1) 25 #[.int .i64 W, .int .i64 H, .int .i64 y] := hL1.k 0 (by simp); obtain ⟨c0, c1, c2⟩ := k41.cell3)
        | (refine ldB rfl _ _ rfl k31 rfl Tryz.underlying24 rfl (by kernel_rfl) ?_)
        | (go_at_call 5; (with_reducible refine (hR1 _ hL1.bel).mono ?_); rintro e w2 ⟨rfl, hb2⟩; have hL2 := hL1.nx hb2; have k42 : Bk w2 (w.heap.size + 1) 25 #[.int .i64 W, .int .i64 H, .int .i64 y] := hL2.k 0 (by simp); obtain ⟨d0, d1, d2⟩ := k42.cell3))
      go_wp2_with (first
        | (go_at_call 6; (with_reducible refine (rwnext_nil _).mono ?_); rintro e w3 ⟨rfl, hb3⟩; have hL3 := hL2.nx hb3)
        | (go_at_call 7; (with_reducible refine (rwrest_nil _).mono ?_); rintro e w4 ⟨rfl, hb4⟩; have hL4 := hL3.nx hb4)
        | (go_at_call 8; (with_reducible refine (rwskip_nil _ _).mono ?_); rintro e w5 ⟨rfl, hb5⟩; have hL5 := hL4.nx hb5)
        | (go_at_call 9; (with_reducible refine (rwx_nil _).mono ?_); rintro e w6 ⟨rfl, rfl⟩)
        | (go_at_call 10; (with_reducible refine (hAl _).mono ?_); rintro e w7 ⟨rfl, hb7⟩; have hL7 := hL5.nx hb7))
      go_returns
      exact ⟨rfl, hL7.bel⟩
end Go.Proofs.YtmnnilkdaibgkaaGreat
end
section
set_option linter.unusedVariables false
namespace Go.Proofs.YtmnnilkdaibgkaaGreat
open Go.RowKit
set_option maxRecDepth 100000 in
set_option maxHeartbeats 16000000 in
theorem walkSome (k : Int) (A : Option Addr) (sn cp : Nat) (W H y : Int) (S : Option Addr) (m mc : Nat) (zs : List Int) (F G E : Int → Int) (w : World) (h9 : sn ≤ 9000) (h60 : m ≤ 60)
    (hzl : zs.length = m) (hzi : ∀ z ∈ zs, -9223372036854775808 ≤ z ∧ z ≤ 9223372036854775807) (hzr : Rd w w.heap.size S (zs.map (Value.int .i64)))
    (hy : 0 ≤ y ∧ y < H) (hW : 1 ≤ W ∧ W ≤ 32768)
    (hNew : ∀ w', Below w.heap.size w w' → Calls Tryz.prog 4 #[.agg #[.int .i64 k, .slice A sn cp], .int .i64 W, .int .i64 H, .int .i64 y] w' fun e w'' => ∃ C g RS, e = .returned (.tuple #[.pointer (some ⟨g, 0, none⟩), .int .i64 0]) ∧ w'.heap.size ≤ C ∧ RwFn w'.heap.size C g W RS F G ∧ RS 0 w'' ∧ Below w'.heap.size w' w'')
    (hR : Checked k A sn cp W H 0 w)
    (hAt : ∀ (x : Int) (w' : World), Below w.heap.size w w' → Calls Tryz.prog 11 #[.agg #[.int .i64 k, .slice A sn cp], .int .i64 x, .int .i64 y, .int .i64 1] w' fun e w'' => e = .returned (.tuple #[.int .i64 (F x), .int .i64 (G x), .int .i64 (E x)]) ∧ Below w'.heap.size w' w'')
    (hAl : ∀ w : World, Calls Tryz.prog 10 #[] w fun e w' => e = .returned (.bool true) ∧ Below w.heap.size w w') :
    Calls Tryz.prog 3 #[.agg #[.int .i64 k, .slice A sn cp], .agg #[.int .i64 W, .int .i64 H, .int .i64 y], .slice S m mc] w fun e w' => e = .returned (.bool true) ∧ Below w.heap.size w w' := by
  have HZ := Lib.hid hzi
  have HR := Lib.hid hzl
  have hL := ((Lie.start w).alloc #[.int .i64 k, .slice A sn cp] 24).alloc #[.int .i64 W, .int .i64 H, .int .i64 y] 25
  simp only [World.size_alloc] at hL
  obtain ⟨y0, y1⟩ := hy
  have hR1 := fun (w' : World) (hb : Below w.heap.size w w') => hR w' hb
  clear hR hzi hzl
  go_enter Tryz.func3, Tryz.ntmps3
  go_upto_region 3 with fail
  generalize (w.alloc (.cells #[.int .i64 k, .slice A sn cp] 24)).alloc (.cells #[.int .i64 W, .int .i64 H, .int .i64 y] 25) = w2 at *
  have hw2 := hL.bel
  have k3 : Bk w2 w.heap.size 24 #[.int .i64 k, .slice A sn cp] := hL.k 1 (by simp)
  have k4 : Bk w2 (w.heap.size + 1) 25 #[.int .i64 W, .int .i64 H, .int .i64 y] := hL.k 0 (by simp)
  obtain ⟨c0, c1, c2⟩ := k4.cell3
  go_upto_region 4 with (first
    | (refine ldB rfl _ _ rfl k3 rfl Tryz.underlying24 rfl (by kernel_rfl) ?_)
    | (go_at_call 4; (with_reducible refine (hNew _ hw2).mono ?_); rintro e w3 ⟨C, g, RS, rfl, hBC, ⟨hF1, hF2, hF3, hF4⟩, h0, hb3⟩))
  have k33 := k3.nx hb3
  have k43 := k4.nx hb3
  clear c0 c1 c2 hNew
  obtain ⟨c0, c1, c2⟩ := k43.cell3
  have hA3 := hw2.trans (hb3.mono hw2.size)
  have hC3 := (hF1 _ _ h0).1
  go_upto_region 13 with (first
    | (refine ldB rfl _ _ rfl k33 rfl Tryz.underlying24 rfl (by kernel_rfl) ?_)
    | (go_at_call 5; (with_reducible refine (hR1 _ hA3).mono ?_); rintro e w4 ⟨rfl, hb4⟩; have k44 := k43.nx hb4; obtain ⟨d0, d1, d2⟩ := k44.cell3))
  have h04 := hF2 _ _ _ h0 (hb4.mono hC3)
  have hb24 := hb3.trans (hb4.mono hb3.size)
  clear c0 c1 c2 d0 d1 d2 k33 k43 k44 h0 hb3 hb4 hA3 hC3 hR1 hL
  go_wp2_with fail
  go_loopw [15, 17, 18, 19, 20, 21, 22, 23, 122] (fun xv _ _ _ _ _ _ _ kv wr => ∃ (j : Nat) (x : Int), j ≤ m ∧ kv = .int .i64 j ∧ xv = .int .i64 x ∧ 0 ≤ x ∧ x ≤ W ∧ RS x wr ∧ Below w2.heap.size w2 wr) (fun _ _ _ _ _ _ _ _ kv _ => m - (intOf kv).toNat)
  case atStart => exact ⟨0, 0, by omega, rfl, rfl, by omega, by omega, h04, hb24⟩
  case round =>
    clear h04 hb24
    obtain ⟨j, x, hj, rfl, rfl, hx0, hx1, hS, hB⟩ := hrel
    by_cases hjm : j < m
    · have hjz : j < zs.length := by rw [HR.out]; exact hjm
      obtain ⟨bz, oz, rfl, hbz, hcz⟩ := hzr.get j (by simpa using hjz)
      rw [List.getElem_map] at hcz
      have hni := HZ.out _ (List.getElem_mem hjz)
      generalize zs[j] = n at *
      obtain ⟨hn0, hn1⟩ := hni
      have hbz2 : bz < w2.heap.size := Nat.lt_of_lt_of_le hbz hw2.size
      have hczr : wr.cell? ⟨bz, oz + j, none⟩ = some (.int .i64 n) := (hB.cell (p := ⟨bz, oz + j, none⟩) hbz2).trans ((hw2.cell (p := ⟨bz, oz + j, none⟩) hbz).trans hcz)
      clear hcz
      obtain ⟨_, fnr, fsr, hkr⟩ := hF1 _ _ hS
      have k4r := k4.below hB k4.lt
      obtain ⟨c0, c1, c2⟩ := k4r.cell3
      by_cases hm : 0 ≤ n ∧ n ≤ W ∧ x + n ≤ W
      · obtain ⟨m0, m1, m2⟩ := hm
        obtain ⟨xn, exn⟩ : ∃ z, x + n = z := ⟨_, rfl⟩
        have hSk := hF4 x n _ hS hx0 m0 m2
        have hwxn : wrap64 (x + n) = xn := (IntWalk.wrap64_in _ ⟨by omega, by omega⟩).trans exn
        rw [exn] at hSk m2
        go_upto_region 22 with (go_at_call 8; (with_reducible refine hSk.mono ?_); rintro e w6 ⟨rfl, hS', hb6, _⟩)
        have hB' := hB.trans hb6
        have hxn : 0 ≤ xn := by omega
        clear hSk hkr hS hB c0 c1 c2 k4r hczr hwxn exn
        -- the second half of a round
        have hxa : 0 ≤ xn := by omega
        have k36 := k3.below hB' k3.lt
        have k46 := k4.below hB' k4.lt
        obtain ⟨d0, d1, d2⟩ := k46.cell3
        by_cases hl : xn < W
        · have hNx := hF3 xn _ hS' hxa hl
          have hAtx := fun (w' : World) (hb : Below w.heap.size w w') => hAt xn w' hb
          have hwx' : wrap64 (xn + 1) = xn + 1 := IntWalk.wrap64_in _ ⟨by omega, by omega⟩
          go_upto_region 23 with (go_at_call 6; (with_reducible refine hNx.mono ?_); rintro e w7 ⟨rfl, hr7, hb7, ho7⟩)
          have hb7' := hB'.trans hb7
          have k37 := k3.below hb7' k3.lt
          have k47 := k4.below hb7' k4.lt
          have hA7 := hw2.trans (hb7'.mono hw2.size)
          clear d0 d1 d2
          obtain ⟨d0, d1, d2⟩ := k47.cell3
          go_upto_region 27 with fail
          go_upto_region 28 with (first
            | (refine ldB rfl _ _ rfl k37 rfl Tryz.underlying24 rfl (by kernel_rfl) ?_)
            | (go_at_call 11; (with_reducible refine (hAtx _ hA7).mono ?_); rintro e w8 ⟨rfl, hb8⟩))
          have hr8 := hF2 _ _ _ hr7 (hb8.mono (hF1 _ _ hr7).1)
          have hb8' := hb7'.trans (hb8.mono hb7'.size)
          obtain ⟨_, fn8, fs8, hk8⟩ := hF1 _ _ hr8
          have hXa := rwx_any g (xn + 1) W fn8 fs8 _ hk8
          go_wp2_with (go_at_call 9; (with_reducible refine hXa.mono ?_); rintro e w9 ⟨rfl, rfl⟩)
          exact ⟨⟨j + 1, xn + 1, by omega, by go_num, rfl, by omega, by omega, hr8, hb8'⟩, by simp [intOf]; omega⟩
        · obtain ⟨_, fn7, fs7, hk7⟩ := hF1 _ _ hS'
          have hNx := rwnext_end g xn W fn7 fs7 _ hk7 (by omega)
          go_upto_region 23 with (go_at_call 6; (with_reducible refine hNx.mono ?_); rintro e w8 ⟨rfl, nn, rfl⟩)
          have hr8 := hF2 _ _ _ hS' (below_drewN (Below.refl C _) nn)
          have hb8' := below_drewN hB' nn
          obtain ⟨_, fn8, fs8, hk8⟩ := hF1 _ _ hr8
          have hXa := rwx_any g xn W fn8 fs8 _ hk8
          go_wp2_with (go_at_call 9; (with_reducible refine hXa.mono ?_); rintro e w9 ⟨rfl, rfl⟩)
          exact ⟨⟨j + 1, xn, by omega, by go_num, rfl, by omega, by omega, hr8, hb8'⟩, by simp [intOf]; omega⟩
      · by_cases hn0' : n < 0
        · clear hm
          have hSk := rwskip_no g x W n fnr fsr _ hkr hW ⟨hx0, hx1⟩ (by omega)
          go_upto_region 22 with (go_at_call 8; (with_reducible refine hSk.mono ?_); rintro e w6 ⟨rfl, n6, rfl⟩)
          have hS' := hF2 _ _ _ hS (below_drewN (Below.refl C _) n6)
          have hB' := below_drewN hB n6
          clear hSk hkr hS hB c0 c1 c2 k4r hczr
          generalize wr.drewN n6 = w6 at *
          -- the second half of a round
          have hxa : 0 ≤ x := by omega
          have k36 := k3.below hB' k3.lt
          have k46 := k4.below hB' k4.lt
          obtain ⟨d0, d1, d2⟩ := k46.cell3
          by_cases hl : x < W
          · have hNx := hF3 x _ hS' hxa hl
            have hAtx := fun (w' : World) (hb : Below w.heap.size w w') => hAt x w' hb
            have hwx' : wrap64 (x + 1) = x + 1 := IntWalk.wrap64_in _ ⟨by omega, by omega⟩
            go_upto_region 23 with (go_at_call 6; (with_reducible refine hNx.mono ?_); rintro e w7 ⟨rfl, hr7, hb7, ho7⟩)
            have hb7' := hB'.trans hb7
            have k37 := k3.below hb7' k3.lt
            have k47 := k4.below hb7' k4.lt
            have hA7 := hw2.trans (hb7'.mono hw2.size)
            clear d0 d1 d2
            obtain ⟨d0, d1, d2⟩ := k47.cell3
            go_upto_region 27 with fail
            go_upto_region 28 with (first
              | (refine ldB rfl _ _ rfl k37 rfl Tryz.underlying24 rfl (by kernel_rfl) ?_)
              | (go_at_call 11; (with_reducible refine (hAtx _ hA7).mono ?_); rintro e w8 ⟨rfl, hb8⟩))
            have hr8 := hF2 _ _ _ hr7 (hb8.mono (hF1 _ _ hr7).1)
            have hb8' := hb7'.trans (hb8.mono hb7'.size)
            obtain ⟨_, fn8, fs8, hk8⟩ := hF1 _ _ hr8
            have hXa := rwx_any g (x + 1) W fn8 fs8 _ hk8
            go_wp2_with (go_at_call 9; (with_reducible refine hXa.mono ?_); rintro e w9 ⟨rfl, rfl⟩)
            exact ⟨⟨j + 1, x + 1, by omega, by go_num, rfl, by omega, by omega, hr8, hb8'⟩, by simp [intOf]; omega⟩
          · obtain ⟨_, fn7, fs7, hk7⟩ := hF1 _ _ hS'
            have hNx := rwnext_end g x W fn7 fs7 _ hk7 (by omega)
            go_upto_region 23 with (go_at_call 6; (with_reducible refine hNx.mono ?_); rintro e w8 ⟨rfl, nn, rfl⟩)
            have hr8 := hF2 _ _ _ hS' (below_drewN (Below.refl C _) nn)
            have hb8' := below_drewN hB' nn
            obtain ⟨_, fn8, fs8, hk8⟩ := hF1 _ _ hr8
            have hXa := rwx_any g x W fn8 fs8 _ hk8
            go_wp2_with (go_at_call 9; (with_reducible refine hXa.mono ?_); rintro e w9 ⟨rfl, rfl⟩)
            exact ⟨⟨j + 1, x, by omega, by go_num, rfl, by omega, by omega, hr8, hb8'⟩, by simp [intOf]; omega⟩
        · by_cases hnW : W < n
          · clear hm
            have hSk := rwskip_no g x W n fnr fsr _ hkr hW ⟨hx0, hx1⟩ (by omega)
            go_upto_region 22 with (go_at_call 8; (with_reducible refine hSk.mono ?_); rintro e w6 ⟨rfl, n6, rfl⟩)
            have hS' := hF2 _ _ _ hS (below_drewN (Below.refl C _) n6)
            have hB' := below_drewN hB n6
            clear hSk hkr hS hB c0 c1 c2 k4r hczr
            generalize wr.drewN n6 = w6 at *
            -- the second half of a round
            have hxa : 0 ≤ x := by omega
            have k36 := k3.below hB' k3.lt
            have k46 := k4.below hB' k4.lt
            obtain ⟨d0, d1, d2⟩ := k46.cell3
            by_cases hl : x < W
            · have hNx := hF3 x _ hS' hxa hl
              have hAtx := fun (w' : World) (hb : Below w.heap.size w w') => hAt x w' hb
              have hwx' : wrap64 (x + 1) = x + 1 := IntWalk.wrap64_in _ ⟨by omega, by omega⟩
              go_upto_region 23 with (go_at_call 6; (with_reducible refine hNx.mono ?_); rintro e w7 ⟨rfl, hr7, hb7, ho7⟩)
              have hb7' := hB'.trans hb7
              have k37 := k3.below hb7' k3.lt
              have k47 := k4.below hb7' k4.lt
              have hA7 := hw2.trans (hb7'.mono hw2.size)
              clear d0 d1 d2
              obtain ⟨d0, d1, d2⟩ := k47.cell3
              go_upto_region 27 with fail
              go_upto_region 28 with (first
                | (refine ldB rfl _ _ rfl k37 rfl Tryz.underlying24 rfl (by kernel_rfl) ?_)
                | (go_at_call 11; (with_reducible refine (hAtx _ hA7).mono ?_); rintro e w8 ⟨rfl, hb8⟩))
              have hr8 := hF2 _ _ _ hr7 (hb8.mono (hF1 _ _ hr7).1)
              have hb8' := hb7'.trans (hb8.mono hb7'.size)
              obtain ⟨_, fn8, fs8, hk8⟩ := hF1 _ _ hr8
              have hXa := rwx_any g (x + 1) W fn8 fs8 _ hk8
              go_wp2_with (go_at_call 9; (with_reducible refine hXa.mono ?_); rintro e w9 ⟨rfl, rfl⟩)
              exact ⟨⟨j + 1, x + 1, by omega, by go_num, rfl, by omega, by omega, hr8, hb8'⟩, by simp [intOf]; omega⟩
            · obtain ⟨_, fn7, fs7, hk7⟩ := hF1 _ _ hS'
              have hNx := rwnext_end g x W fn7 fs7 _ hk7 (by omega)
              go_upto_region 23 with (go_at_call 6; (with_reducible refine hNx.mono ?_); rintro e w8 ⟨rfl, nn, rfl⟩)
              have hr8 := hF2 _ _ _ hS' (below_drewN (Below.refl C _) nn)
              have hb8' := below_drewN hB' nn
              obtain ⟨_, fn8, fs8, hk8⟩ := hF1 _ _ hr8
              have hXa := rwx_any g x W fn8 fs8 _ hk8
              go_wp2_with (go_at_call 9; (with_reducible refine hXa.mono ?_); rintro e w9 ⟨rfl, rfl⟩)
              exact ⟨⟨j + 1, x, by omega, by go_num, rfl, by omega, by omega, hr8, hb8'⟩, by simp [intOf]; omega⟩
          · have m0 : 0 ≤ n := by omega
            have m1 : n ≤ W := by omega
            obtain ⟨xn, exn⟩ : ∃ z, x + n = z := ⟨_, rfl⟩
            have hwxn : wrap64 (x + n) = xn := (IntWalk.wrap64_in _ ⟨by omega, by omega⟩).trans exn
            have hxn3 : W < xn := by omega
            clear hm
            have hSk := rwskip_no g x W n fnr fsr _ hkr hW ⟨hx0, hx1⟩ (by omega)
            go_upto_region 22 with (go_at_call 8; (with_reducible refine hSk.mono ?_); rintro e w6 ⟨rfl, n6, rfl⟩)
            have hS' := hF2 _ _ _ hS (below_drewN (Below.refl C _) n6)
            have hB' := below_drewN hB n6
            clear hSk hkr hS hB c0 c1 c2 k4r hczr
            generalize wr.drewN n6 = w6 at *
            -- the second half of a round
            have hxa : 0 ≤ x := by omega
            have k36 := k3.below hB' k3.lt
            have k46 := k4.below hB' k4.lt
            obtain ⟨d0, d1, d2⟩ := k46.cell3
            by_cases hl : x < W
            · have hNx := hF3 x _ hS' hxa hl
              have hAtx := fun (w' : World) (hb : Below w.heap.size w w') => hAt x w' hb
              have hwx' : wrap64 (x + 1) = x + 1 := IntWalk.wrap64_in _ ⟨by omega, by omega⟩
              go_upto_region 23 with (go_at_call 6; (with_reducible refine hNx.mono ?_); rintro e w7 ⟨rfl, hr7, hb7, ho7⟩)
              have hb7' := hB'.trans hb7
              have k37 := k3.below hb7' k3.lt
              have k47 := k4.below hb7' k4.lt
              have hA7 := hw2.trans (hb7'.mono hw2.size)
              clear d0 d1 d2
              obtain ⟨d0, d1, d2⟩ := k47.cell3
              go_upto_region 27 with fail
              go_upto_region 28 with (first
                | (refine ldB rfl _ _ rfl k37 rfl Tryz.underlying24 rfl (by kernel_rfl) ?_)
                | (go_at_call 11; (with_reducible refine (hAtx _ hA7).mono ?_); rintro e w8 ⟨rfl, hb8⟩))
              have hr8 := hF2 _ _ _ hr7 (hb8.mono (hF1 _ _ hr7).1)
              have hb8' := hb7'.trans (hb8.mono hb7'.size)
              obtain ⟨_, fn8, fs8, hk8⟩ := hF1 _ _ hr8
              have hXa := rwx_any g (x + 1) W fn8 fs8 _ hk8
              go_wp2_with (go_at_call 9; (with_reducible refine hXa.mono ?_); rintro e w9 ⟨rfl, rfl⟩)
              exact ⟨⟨j + 1, x + 1, by omega, by go_num, rfl, by omega, by omega, hr8, hb8'⟩, by simp [intOf]; omega⟩
            · obtain ⟨_, fn7, fs7, hk7⟩ := hF1 _ _ hS'
              have hNx := rwnext_end g x W fn7 fs7 _ hk7 (by omega)
              go_upto_region 23 with (go_at_call 6; (with_reducible refine hNx.mono ?_); rintro e w8 ⟨rfl, nn, rfl⟩)
              have hr8 := hF2 _ _ _ hS' (below_drewN (Below.refl C _) nn)
              have hb8' := below_drewN hB' nn
              obtain ⟨_, fn8, fs8, hk8⟩ := hF1 _ _ hr8
              have hXa := rwx_any g x W fn8 fs8 _ hk8
              go_wp2_with (go_at_call 9; (with_reducible refine hXa.mono ?_); rintro e w9 ⟨rfl, rfl⟩)
              exact ⟨⟨j + 1, x, by omega, by go_num, rfl, by omega, by omega, hr8, hb8'⟩, by simp [intOf]; omega⟩
    · obtain rfl : j = m := by omega
      go_wp2_with (go_at_call 10; (with_reducible refine (hAl _).mono ?_); rintro e wz ⟨rfl, hbz⟩)
      go_returns
      exact ⟨rfl, (hw2.trans (hB.mono hw2.size)).trans (hbz.mono (Nat.le_trans hw2.size hB.size))⟩
end Go.Proofs.YtmnnilkdaibgkaaGreat
end
section
set_option linter.unusedVariables false
namespace Go.Proofs.YtmnnilkdaibgkaaGreat
open Go.RowKit
theorem ca_3 : Tryz.prog.cellsOf 25 = 3 := by kernel_rfl
theorem open_3 {w : World} {cs : Array Value} (h : Rv Tryz.prog w 25 cs.toList) : ∃ a b c : Int, cs = #[.int .i64 a, .int .i64 b, .int .i64 c] := by
  obtain ⟨hl, hel⟩ := rv_array Tryz.underlying25 h
  rw [ca_int] at hel
  rw [ca_3] at hl
  obtain ⟨l2⟩ := cs
  match l2, hl with
  | [v0, v1, v2], _ =>
    obtain ⟨a, e4, i4⟩ := rv_int Tryz.underlying3 (hel 0 (by omega))
    obtain ⟨b, e5, i5⟩ := rv_int Tryz.underlying3 (hel 1 (by omega))
    obtain ⟨c, e6, i6⟩ := rv_int Tryz.underlying3 (hel 2 (by omega))
    simp at e4 e5 e6
    subst e4 e5 e6
    exact ⟨a, b, c, rfl⟩
theorem open_ns {w : World} {A : Option Addr} {n c : Nat} (h : Rv Tryz.prog w 26 [.slice A n c]) : ∃ l : List Int, l.length = n ∧ (∀ z ∈ l, -9223372036854775808 ≤ z ∧ z ≤ 9223372036854775807) ∧ Rd w w.heap.size A (l.map (Value.int .i64)) := by
  obtain ⟨A', n', c', l, e, h1, h2, h3, h4, h5⟩ := rv_ints Tryz.underlying26 Tryz.underlying3 ca_int h
  simp at e
  obtain ⟨rfl, rfl, rfl⟩ := e
  exact ⟨l, h3, fun z hz => wf_i64 (h4 z hz), h5⟩
theorem lawRowWalks (cs0 cs1 : Array Value) (S : Option Addr) (m mc : Nat) (w : World) (h0 : Rv Tryz.prog w 24 cs0.toList) (h1 : Rv Tryz.prog w 25 cs1.toList) (h2 : Rv Tryz.prog w 26 [.slice S m mc]) :
    Calls Tryz.prog 3 #[.agg cs0, .agg cs1, .slice S m mc] w fun e w' => e = .returned (.bool true) ∧ Below w.heap.size w w' := by
  obtain ⟨k, A, sn, cp, l, e0, _, hl, hn, hcm, hok, hr⟩ := open_xform h0
  obtain rfl : cs0 = #[.int .i64 k, .slice A sn cp] := by cases cs0; simp at e0; simp [e0]
  obtain ⟨W, H, y, rfl⟩ := open_3 h1
  obtain ⟨zs, hzl, hzi, hzr⟩ := open_ns h2
  have hn63 : sn ≤ 9223372036854775807 := by simp [maxLen] at hcm; omega
  by_cases hbig : 9000 < sn ∨ 60 < m
  · exact walkBig k A sn cp W H y S m mc w hbig
  · have hC := fun (w' : World) (hb : Below w.heap.size w w') => rcheck24 k l A sn cp W H w' hl hn63 (hr.below hb) hb.size hok
    have hN := fun (w' : World) (hb : Below w.heap.size w w') => rwnew_any k l A sn cp W H y w' hl hn hcm ((hr.below hb).more hb.size)
    by_cases hx : xC k l W H = 0
    · by_cases hy : 0 ≤ y ∧ y < H
      · have hz : rwC k l W H y = 0 := by unfold rwC; rw [if_neg (by simpa using hx), if_pos hy]
        obtain ⟨_, hs, _⟩ := xC_zero hx
        rw [hx] at hC
        refine walkSome k A sn cp W H y S m mc zs (fun x => xF k l x y 1) (fun x => xG k l x y 1) (fun x => xE k l x y 1) w (by omega) (by omega) hzl hzi hzr hy (szH_iff.1 hs).1 (fun w' hb => (hN w' hb).mono ?_) hC (fun x w' hb => rat24 k l A sn cp W H x y 1 w' hl (hr.below hb) hb.size hx) alive36
        rintro e w2 ⟨p, rfl, hR, hb2⟩
        obtain ⟨C, g, RS, rfl, hBC, _, hF, h0⟩ := hR.2 hz
        rw [hz]
        exact ⟨C, g, RS, rfl, hBC, hF, h0, hb2⟩
      · have hz : rwC k l W H y = 11 := by unfold rwC; rw [if_neg (by simpa using hx), if_neg hy]
        refine walkNone k A sn cp W H y 11 (xC k l W H) S m mc w (by omega) (by omega) (fun w' hb => (hN w' hb).mono ?_) hC (.inr ⟨hx, rfl, by omega⟩) alive36
        rintro e w2 ⟨p, rfl, hR, hb2⟩
        obtain rfl := hR.1 (by rw [hz]; decide)
        rw [hz]
        exact ⟨rfl, hb2⟩
    · have hz : rwC k l W H y = xC k l W H := by unfold rwC; rw [if_pos hx]
      refine walkNone k A sn cp W H y (xC k l W H) (xC k l W H) S m mc w (by omega) (by omega) (fun w' hb => (hN w' hb).mono ?_) hC (.inl ⟨hx, rfl⟩) alive36
      rintro e w2 ⟨p, rfl, hR, hb2⟩
      obtain rfl := hR.1 (by rw [hz]; exact hx)
      rw [hz]
      exact ⟨rfl, hb2⟩
end Go.Proofs.YtmnnilkdaibgkaaGreat
end
