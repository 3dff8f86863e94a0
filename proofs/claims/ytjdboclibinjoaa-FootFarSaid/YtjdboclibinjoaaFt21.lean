/- The law: columns far away. -/
import Derived.Test.YtjdboclibinjoaaFt20
set_option linter.unusedVariables false
namespace Go.Proofs.Ytjdboclibinjoaa
open Go.RowKit
theorem and_bd (x : Int) : 0 ≤ bits .and .i64 x 2305843009213693952 ∧ bits .and .i64 x 2305843009213693952 ≤ 2305843009213693952 := by
  have e : bits .and .i64 x 2305843009213693952 = IntKind.i64.wrap (((BitVec.ofInt 64 x &&& BitVec.ofInt 64 2305843009213693952).toNat : Nat) : Int) := rfl
  have h1 : (BitVec.ofInt 64 2305843009213693952).toNat = 2305843009213693952 := by decide
  have h2 : (BitVec.ofInt 64 x &&& BitVec.ofInt 64 2305843009213693952).toNat ≤ 2305843009213693952 := by
    rw [BitVec.toNat_and, h1]
    exact Nat.and_le_right
  rw [e]
  generalize (BitVec.ofInt 64 x &&& BitVec.ofInt 64 2305843009213693952).toNat = v at *
  rw [IntKind.wrap_i64] <;> omega
theorem perF_le (m n : Int) : perF m n ≤ 4294967296 := by
  unfold perF
  split
  · omega
  · split
    · omega
    · split <;> omega
set_option maxRecDepth 100000 in
set_option maxHeartbeats 8000000 in
theorem lawFootFar (m : Int) (cs1 : Array Value) (n : Int) (W : World) (w0 : (Lit.int .i64 m).wf = true) (q1h : Rv Try.prog W 30 cs1.toList) (w2 : (Lit.int .i64 n).wf = true) :
    Calls Try.prog 4 #[.int .i64 m, .agg cs1, .int .i64 n] W fun e w' => e = .returned (.bool true) ∧ Below W.heap.size W w' := by
  obtain ⟨lo, hi, x, rfl, hx1, hx2⟩ := open_3 q1h
  clear q1h w0 w2
  have hK := Bk.new W 30 #[.int .i64 lo, .int .i64 hi, .int .i64 x]
  have hcol := fun w => columns_any m lo hi n w
  have hcol2 := fun w => columns_any m lo (hi + 1) n w
  have hbA : Below W.heap.size W (W.alloc (.cells #[.int .i64 lo, .int .i64 hi, .int .i64 x] 30)) := (Below.refl _ W).alloc (Nat.le_refl _) _
  have hlen := colsR_len m lo hi n
  by_cases hokF : lo ≤ hi ∧ -4611686018427387904 ≤ lo ∧ hi < 4611686018427387904 ∧ 0 ≤ m ∧ m ≤ 3 ∧ 1 ≤ n ∧ n ≤ 2147483648
  · obtain ⟨o1, o2, o3, o4, o5, o6, o7⟩ := hokF
    have hok : okC m lo hi n := (okC_iff _ _ _ _).2 (by omega)
    have hok2 : okC m lo (hi + 1) n := (okC_iff _ _ _ _).2 (by omega)
    have hin := fun i => @far_in m lo hi n i hok
    have hall := far_all hok
    have hmore := Lib.hid (far_more hok hok2)
    have hrg := far_range hok
    have hrg2 := far_range hok2
    have hcan := colsR_canon m lo hi n
    have hlen2 := colsR_len m lo (hi + 1) n
    have hper := fun w => period_any m n w ⟨o4, o5⟩ o6 o7
    have hPF := perF_le m n
    clear hok hok2
    generalize perF m n = PF at *
    generalize colsR m lo hi n = L at *
    generalize colsR m lo (hi + 1) n = L2 at *
    have hcnt := fun A' c' w h => count_any L A' L.length c' w rfl h (by omega) (fun r hr => by have := hrg r hr; omega)
    have hcnt2 := fun A' c' w h => count_any L2 A' L2.length c' w rfl h (by omega) (fun r hr => by have := hrg2 r hr; omega)
    clear hrg2
    generalize cntF L = C1 at *
    generalize cntF L2 = C2 at *
    have hbits := and_bd x
    go_enter Try.func4, Try.ntmps4
    go_wp2_with fail
    go_quiet (fail)
    have hK1 := hK.drewN nq
    generalize hW1 : (W.alloc (.cells #[.int .i64 lo, .int .i64 hi, .int .i64 x] 30)).drewN nq = W1 at *
    have hbB : Below W.heap.size W W1 := by rw [← hW1]; exact below_drewN hbA nq
    clear hW1 hK hbA
    go_wp2_with fail
    refine (hcol _).mono ?_
    rintro e w1 ⟨v, rfl, hown, hb1⟩
    obtain ⟨A1, c1, rfl, h31, h32, hA1, hr1, _⟩ := own_form2 hown
    have hb2 := hbB.trans (hb1.mono hbB.size)
    have hK2 := hK1.nx hb1
    obtain ⟨k0, k1, k2⟩ := hK2.cell3
    clear hown hcol hb1 hbB hK1 hK2
    obtain ⟨hb0, hb1⟩ := hbits
    have hinh := Lib.hid hin
    have hcol2h := Lib.hid hcol2
    have hcnth := Lib.hid hcnt
    have hcnt2h := Lib.hid hcnt2
    have hperh := Lib.hid hper
    have hallh := Lib.hid hall
    have hrgh := Lib.hid hrg
    have hcanh := Lib.hid hcan
    clear hin hcol2 hcnt hcnt2 hper hall hrg hcan
    go_upto_region 6 with fail
    go_cut [67] (fun v wx => (∃ b : Bool, v = .bool b ∧ (b = true → 0 ≤ x ∧ x ≤ hi - lo)) ∧ w1 = wx)
    case first =>
      rcases (show (0 ≤ x ∧ x ≤ hi - lo) ∨ x < 0 ∨ (0 ≤ x ∧ hi - lo < x) by omega) with ⟨x1, x2⟩ | x1 | ⟨x1, x2⟩
      all_goals
        go_wp2_with fail
        go_meet
        case rel => exact ⟨⟨_, rfl, fun h => by first | omega | (simp at h; omega) | cases h⟩, rfl⟩
    case rest =>
      obtain ⟨⟨b, rfl, hbx⟩, rfl⟩ := hcut
      have hbh := Lib.hid hbx
      clear hbx
      go_upto_if 67 with fail
      go_cut [10] (fun v wx => (∃ z : Int, v = .int .i64 z ∧ lo ≤ z ∧ z ≤ 9223372036854775807) ∧ w1 = wx)
      case first =>
        cases b
        · go_wp2_with fail
          go_meet
          case rel => exact ⟨⟨_, rfl, by omega, by omega⟩, rfl⟩
        · obtain ⟨x1, x2⟩ := hbh.out rfl
          go_wp2_with fail
          go_meet
          case rel => exact ⟨⟨_, rfl, by omega, by omega⟩, rfl⟩
      case rest =>
        obtain ⟨⟨z, rfl, hz1, hz2⟩, rfl⟩ := hcut
        clear hb0 hb1 k0 k1 k2 hx1 hx2
        go_wp2_with fail
        refine (index_any m _ n _ (by omega) (by omega) (by omega)).mono ?_
        rintro e w2 ⟨rfl, hb3⟩
        have hid := hinh.out (min z hi) (by omega) (by omega)
        generalize idx m (min z hi) n = p at *
        obtain ⟨j, b2⟩ := p
        have hb4 := hb2.trans (hb3.mono hb2.size)
        have hr2 := (hr1.below' hb3 (Nat.le_refl _)).more hb3.size
        have hhas := Lib.hid (fun w h => has_any L A1 L.length c1 j w rfl (by omega) h)
        have hasv := Lib.hid (show b2 = true → hasB L j = true from hid)
        clear hid hb3 hr1 hinh
        go_upto_region 9 with fail
        go_cut [87] (fun v wx => v = .bool false ∧ Below w2.heap.size w2 wx)
        case first =>
          cases b2
          · go_wp2_with fail
            go_meet
            case rel => exact ⟨rfl, Below.refl _ _⟩
          · have hh := hhas.out
            rw [hasv.out rfl] at hh
            go_wp2_with fail
            refine (hh _ hr2).mono ?_
            rintro e w3 ⟨rfl, hb5⟩
            go_wp2_with fail
            go_meet
            case rel => exact ⟨rfl, hb5⟩
        case rest =>
          obtain ⟨rfl, hb5⟩ := hcut
          have hb6 := hb4.trans (hb5.mono hb4.size)
          have hr3 := (hr2.below' hb5 (Nat.le_refl _)).more hb5.size
          clear hb5 hb4 hr2 hhas hasv hbh
          go_wp2_with fail
          go_loopw [13] (fun v wr => ∃ k : Nat, k ≤ L.length ∧ v = .int .i64 k ∧ Below wc.heap.size wc wr) (fun v _ => L.length - (intOf v).toNat)
          case atStart => exact ⟨0, by omega, rfl, by go_grown⟩
          case round =>
            obtain ⟨k, hk, rfl, hbr⟩ := hrel
            by_cases hlt : k < L.length
            · obtain ⟨b, o, rfl, hbb, c0, c1'⟩ := rd_run (hr3.below hbr) k hlt
              have hk1 := hcanh.out.1 _ (List.getElem_mem hlt)
              have hk2 := hrgh.out _ (List.getElem_mem hlt)
              rcases Nat.eq_zero_or_pos k with hk0 | hk0
              · subst hk0
                generalize L[0] = r at *
                obtain ⟨rx, ry⟩ := r
                simp only at c0 c1' hk1 hk2
                obtain ⟨hk3, hk4⟩ := hk2
                simp only [Nat.zero_mul, Nat.add_zero] at c0 c1'
                clear o1 o2 o3 o4 o5 hbb hb6 hmore hz1 hz2 hlen2
                have g1 : decide (rx < 0) = false := by simp; omega
                have g2 : decide (n < ry) = false := by simp; omega
                have g3 : decide (ry ≤ rx) = false := by simp; omega
                rw [show ((0 : Nat) : Int) = 0 from rfl]
                go_wp2_with fail
                go_quiet (fail)
                go_wp2_with fail
                exact ⟨⟨1, by omega, by go_num, below_drewN hbr _⟩, by simp [intOf]; omega⟩
              · obtain ⟨q, rfl⟩ : ∃ q, k = q + 1 := ⟨k - 1, by omega⟩
                have hq : q < L.length := by omega
                have hpw := List.pairwise_iff_getElem.1 hcanh.out.2 q (q + 1) hq hlt (by omega)
                obtain ⟨b', o', e', _, d0, d1⟩ := rd_run (hr3.below hbr) q hq
                injection e' with e'
                injection e' with e1 e2
                subst e1; subst e2
                generalize L[q + 1] = r at *
                generalize L[q] = r' at *
                obtain ⟨rx, ry⟩ := r
                obtain ⟨sx, sy⟩ := r'
                simp only at c0 c1' hk1 hk2 d0 d1 hpw
                obtain ⟨hk3, hk4⟩ := hk2
                clear o1 o2 o3 o4 o5 hbb hb6 hmore hz1 hz2 hlen2
                have g1 : decide (rx < 0) = false := by simp; omega
                have g2 : decide (n < ry) = false := by simp; omega
                have g3 : decide (ry ≤ rx) = false := by simp; omega
                have g4 : decide (0 < (q : Int) + 1) = true := decide_eq_true (by omega)
                have g5 : decide (rx ≤ sy) = false := by simp; omega
                rw [show ((q + 1 : Nat) : Int) = (q : Int) + 1 from by omega]
                go_wp2_with fail
                go_quiet (fail)
                go_wp2_with fail
                exact ⟨⟨q + 1 + 1, by omega, by go_num, below_drewN hbr _⟩, by simp [intOf]; omega⟩
            · obtain rfl : k = L.length := by omega
              have hb7 := hb6.trans (hbr.mono hb6.size)
              have hr4 := (hr3.below hbr).more hbr.size
              clear hlt hk hb6 hr3 hbr
              have hper := hperh.out
              go_wp2_with fail
              refine (hper _).mono ?_
              rintro e w5 ⟨rfl, rfl⟩
              clear hper
              go_upto_region 17 with fail
              go_cut [158] (fun v wx => v = .bool false ∧ Below w5.heap.size w5 wx)
              case first =>
                by_cases p1 : 0 < PF
                · by_cases p2 : PF - 1 ≤ hi - lo
                  · have hc1 := hallh.out p1 p2
                    subst hc1
                    go_wp2_with fail
                    refine (hcnth.out _ _ _ hr4).mono ?_
                    rintro e w6 ⟨rfl, hb8⟩
                    go_wp2_with fail
                    go_meet
                    case rel => exact ⟨rfl, hb8⟩
                  · have p3 : hi - lo < PF - 1 := by omega
                    clear p2
                    go_wp2_with fail
                    go_meet
                    case rel => exact ⟨rfl, Below.refl _ _⟩
                · have p3 : PF ≤ 0 := by omega
                  clear p1
                  go_wp2_with fail
                  go_meet
                  case rel => exact ⟨rfl, Below.refl _ _⟩
              case rest =>
                obtain ⟨rfl, hb8⟩ := hcut
                have hb9 := hb7.trans (hb8.mono hb7.size)
                have hr5 := (hr4.below hb8).more hb8.size
                clear hb8 hb7 hr4
                have hcol2 := hcol2h.out
                have hmo := hmore.out
                go_wp2_with fail
                refine (hcol2 _).mono ?_
                rintro e w6 ⟨v2, rfl, hown2, hb10⟩
                obtain ⟨A2, c2, rfl, h61, h62, hA2, hr6, _⟩ := own_form2 hown2
                have hb11 := hb9.trans (hb10.mono hb9.size)
                have hr7 := (hr5.below' hb10 (Nat.le_refl _)).more hb10.size
                clear hcol2 hown2 hb10 hr5
                go_wp2_with fail
                refine (hcnt2h.out _ _ _ hr6).mono ?_
                rintro e w7 ⟨rfl, hb12⟩
                have hb13 := hb11.trans (hb12.mono hb11.size)
                have hr8 := (hr7.below' hb12 (Nat.le_refl _)).more hb12.size
                clear hb12 hr7
                go_wp2_with fail
                refine (hcnth.out _ _ _ hr8).mono ?_
                rintro e w8 ⟨rfl, hb14⟩
                have hb15 := hb13.trans (hb14.mono hb13.size)
                clear hb14 hr8
                go_wp2_with fail
                refine (alive_any _).mono ?_
                rintro e w9 ⟨rfl, hb16⟩
                go_wp2_with fail
                go_returns
                exact ⟨rfl, hb15.trans (hb16.mono hb15.size)⟩
  · have hbad := Lib.hid hokF
    clear hokF hx1 hx2 hlen
    go_enter Try.func4, Try.ntmps4
    go_wp2_with fail
    go_quiet (fail)
    generalize hW1 : (W.alloc (.cells #[.int .i64 lo, .int .i64 hi, .int .i64 x] 30)).drewN nq = W1 at *
    have hbB : Below W.heap.size W W1 := by rw [← hW1]; exact below_drewN hbA nq
    clear hW1 hK hbA
    go_wp2_with fail
    refine (hcol _).mono ?_
    rintro e w1 ⟨v, rfl, hown, hb1⟩
    obtain ⟨A1, c1, rfl, h31, h32, hA1, hr1, _⟩ := own_form2 hown
    have hb2 := hbB.trans (hb1.mono hbB.size)
    clear hown hr1 h31 hA1 hcol hcol2 hb1 hbB
    rcases (show hi < lo ∨ lo ≤ hi by omega) with d0 | d0
    ·
      go_wp2_with (go_at_call 10; (with_reducible refine (alive_any _).mono ?_); rintro e w3 ⟨rfl, hb3⟩)
      go_returns
      exact ⟨rfl, hb2.trans (hb3.mono hb2.size)⟩
    rcases (show lo < -4611686018427387904 ∨ -4611686018427387904 ≤ lo by omega) with e1 | e1
    ·
      go_wp2_with (go_at_call 10; (with_reducible refine (alive_any _).mono ?_); rintro e w3 ⟨rfl, hb3⟩)
      go_returns
      exact ⟨rfl, hb2.trans (hb3.mono hb2.size)⟩
    rcases (show 4611686018427387904 ≤ hi ∨ hi < 4611686018427387904 by omega) with e2 | e2
    ·
      go_wp2_with (go_at_call 10; (with_reducible refine (alive_any _).mono ?_); rintro e w3 ⟨rfl, hb3⟩)
      go_returns
      exact ⟨rfl, hb2.trans (hb3.mono hb2.size)⟩
    rcases (show m < 0 ∨ 0 ≤ m by omega) with d1 | d1
    ·
      go_wp2_with (go_at_call 10; (with_reducible refine (alive_any _).mono ?_); rintro e w3 ⟨rfl, hb3⟩)
      go_returns
      exact ⟨rfl, hb2.trans (hb3.mono hb2.size)⟩
    rcases (show 3 < m ∨ m ≤ 3 by omega) with d2 | d2
    ·
      go_wp2_with (go_at_call 10; (with_reducible refine (alive_any _).mono ?_); rintro e w3 ⟨rfl, hb3⟩)
      go_returns
      exact ⟨rfl, hb2.trans (hb3.mono hb2.size)⟩
    rcases (show n < 1 ∨ 1 ≤ n by omega) with d3 | d3
    ·
      go_wp2_with (go_at_call 10; (with_reducible refine (alive_any _).mono ?_); rintro e w3 ⟨rfl, hb3⟩)
      go_returns
      exact ⟨rfl, hb2.trans (hb3.mono hb2.size)⟩
    have d4 : 2147483648 < n := by have := hbad.out; omega
    go_wp2_with (go_at_call 10; (with_reducible refine (alive_any _).mono ?_); rintro e w3 ⟨rfl, hb3⟩)
    go_returns
    exact ⟨rfl, hb2.trans (hb3.mono hb2.size)⟩
end Go.Proofs.Ytjdboclibinjoaa
