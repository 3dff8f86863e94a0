/- The reference's windows. -/
import Derived.Test.YtpcjoalbhicccaaTh7
import Derived.Deep.DeepCutAuto
import Derived.Deep.RegionHeld3
import Derived.RegionTactic
import Derived.IntWalk
set_option linter.unusedVariables false
namespace Go.Proofs.Ytpcjoalbhicccaa
open Go.RowKit
theorem quiet_eq {P : Program} {f : FuncId} {args : Array Value} {w : World} {n : Nat} {v : Value} (h : Calls P f args (w.drewN n) fun e w' => e = .returned v ∧ w.drewN n = w') : Calls P f args (w.drewN n) fun e w'' => e = .returned v ∧ ∃ m, w'' = w.drewN m :=
  Calls.quiet_of_same (h.mono fun e w' ⟨a, b⟩ => ⟨a, b.symm⟩)
def minU (f : Nat → Int) : Nat → Int
  | 0 => 1099511627776
  | k + 1 => min (minU f k) (f k)
def maxU (f : Nat → Int) (W : Int) : Nat → Int
  | 0 => -1099511627776
  | k + 1 => max (maxU f W k) (f k + W)
theorem mvm {b c x y : Int} (hb : bdI 262144 b) (hc : bdI 32768 c) (hx : bdI 32768 x) : bdI 262145 (mv b c x) := by
  have h1 := mulb hb.1 hb.2 (show -(65536:Int) ≤ x - c by omega) (show x - c ≤ 65536 by omega)
  unfold mv rnd
  omega
theorem mv_mono {b c x y : Int} (h : x ≤ y) : (0 ≤ b → mv b c x ≤ mv b c y) ∧ (b ≤ 0 → mv b c y ≤ mv b c x) := by
  constructor
  · intro hb
    have h1 : b * (x - c) ≤ b * (y - c) := Int.mul_le_mul_of_nonneg_left (by omega) hb
    unfold mv rnd
    omega
  · intro hb
    have h1 : b * (y - c) ≤ b * (x - c) := Int.mul_le_mul_of_nonpos_left hb (by omega)
    unfold mv rnd
    omega
theorem mv_btw {b c x y z : Int} (h : x ≤ y) (h' : y ≤ z) : loW b c x z ≤ mv b c y ∧ mv b c y ≤ hiW b c x z := by
  have h1 := mv_mono (b := b) (c := c) h
  have h2 := mv_mono (b := b) (c := c) h'
  unfold loW hiW
  rcases Int.le_total 0 b with hb | hb
  · have := h1.1 hb; have := h2.1 hb; omega
  · have := h1.2 hb; have := h2.2 hb; omega
theorem minU_eq {b c W : Int} (hb : bdI 262144 b) (hc : bdI 32768 c) (hW : 1 ≤ W ∧ W ≤ 32768) (k : Nat) (hk : k + 1 ≤ 32768) :
    minU (fun j => mv b c j) (k + 1) = loW b c 0 k ∧ maxU (fun j => mv b c j) W (k + 1) = hiW b c 0 k + W := by
  induction k with
  | zero =>
    have := mvm (y := 0) hb hc (x := 0) ⟨by omega, by omega⟩
    simp only [minU, maxU, loW, hiW, Int.ofNat_zero]
    show min 1099511627776 (mv b c 0) = min (mv b c 0) (mv b c 0) ∧ max (-1099511627776) (mv b c 0 + W) = max (mv b c 0) (mv b c 0) + W
    omega
  | succ k ih =>
    obtain ⟨i1, i2⟩ := ih (by omega)
    have h1 := mv_btw (b := b) (c := c) (x := 0) (y := (k : Int)) (z := ((k + 1 : Nat) : Int)) (by omega) (by omega)
    rw [minU, maxU, i1, i2]
    unfold loW hiW at *
    show min (min (mv b c 0) (mv b c (k:Int))) (mv b c ((k + 1 : Nat) : Int)) = _ ∧ max (max (mv b c 0) (mv b c (k:Int)) + W) (mv b c ((k + 1 : Nat) : Int) + W) = _
    omega
theorem Bk.set02 {w : World} {g : Nat} {t : TypeId} {x y z u : Value} (h : Bk w g t #[x, y, z, u]) (a b : Value) : Bk ((w.setCell ⟨g, 0, none⟩ a).setCell ⟨g, 2, none⟩ b) g t #[a, y, b, u] := by simpa using (h.set 0 a).set 2 b
theorem Bk.set13 {w : World} {g : Nat} {t : TypeId} {x y z u : Value} (h : Bk w g t #[x, y, z, u]) (a b : Value) : Bk ((w.setCell ⟨g, 1, none⟩ a).setCell ⟨g, 3, none⟩ b) g t #[x, a, z, b] := by simpa using (h.set 1 a).set 3 b
set_option maxRecDepth 100000 in
set_option maxHeartbeats 2000000 in
theorem first_any (A : Option Addr) (c : Nat) (p q r s W : Int) (H : Nat) (w : World) {B : Nat} (h : C4 w B A p q r s) (hB : B ≤ w.heap.size) (kp : bdI 262144 p) (ks : bdI 32768 s) (hW : 1 ≤ W ∧ W ≤ 32768) (hH : H ≤ 32768) :
    Calls Try.prog 16 #[.slice A 4 c, .int .i64 W, .int .i64 H] w fun e w' => e = .returned (rect4 (minU (fun j => mv p s j) H) 0 (maxU (fun j => mv p s j) W H) H) ∧ Below w.heap.size w w' := by
  obtain ⟨hW1, hW2⟩ := hW
  go_enter Try.func16, Try.ntmps16
  go_wp2_with fail
  go_loopw [8] (fun y wr => ∃ k : Nat, k ≤ H ∧ y = .int .i64 k ∧ Bk wr (w.heap.size + 1) 26 (rectA (minU (fun j => mv p s j) k) 0 (maxU (fun j => mv p s j) W k) H) ∧ bdI 1099511627776 (minU (fun j => mv p s j) k) ∧ bdI 1099511627776 (maxU (fun j => mv p s j) W k) ∧ Bk wr w.heap.size 26 (rectA 0 0 0 0) ∧ Below w.heap.size w wr) (fun y _ => H - (intOf y).toNat)
  case atStart => exact ⟨0, by omega, rfl, by simpa [minU, maxU] using Bk.new (w.alloc _) _ _, by simp only [minU]; omega, by simp only [maxU]; omega, (Bk.new w _ _).alloc _, by go_grown⟩
  case round =>
    obtain ⟨k, hk, rfl, hK7, hm1, hm2, hK6, hbr⟩ := hrel
    obtain ⟨b, o, rfl, hlt, g0, g1, g2, g3⟩ := h.below hbr hB
    clear h
    by_cases hlt2 : k < H
    · have hbk : bdI 4294967296 (k : Int) := by omega
      have h00 : bdI 4294967296 0 := by omega
      have hm := mvm (x := (k : Int)) (y := 0) (c := s) kp ks ⟨by omega, by omega⟩
      have ww : wrap64 (mv p s k + W) = mv p s k + W := IntWalk.wrap64_in _ ⟨by omega, by omega⟩
      obtain ⟨c0, _, c2, _⟩ := hK7.cell4
      have f0 := hK7.frozen 0
      have f2 := hK7.frozen 2
      have hl7 := hK7.lt
      have HM1 := Lib.hid (show minU (fun j => mv p s j) (k + 1) = min (minU (fun j => mv p s j) k) (mv p s k) from rfl)
      have HM2 := Lib.hid (show maxU (fun j => mv p s j) W (k + 1) = max (maxU (fun j => mv p s j) W k) (mv p s k + W) from rfl)
      generalize minU (fun j => mv p s j) k = m at *
      generalize maxU (fun j => mv p s j) W k = M at *
      go_wp2_with fail
      go_quiet ((go_at_call 30; exact quiet_eq (rfrom_f _ _ _ _ _ _ kp ks hbk h00)))
      all_goals go_wp2_with fail
      have e1 : (if mv p s k < m then mv p s k else m) = minU (fun j => mv p s j) (k + 1) := by rw [HM1.out]; split <;> omega
      have e2 : (if M < mv p s k + W then mv p s k + W else M) = maxU (fun j => mv p s j) W (k + 1) := by rw [HM2.out]; split <;> omega
      rw [e1, e2]
      have hbd1 : bdI 1099511627776 (minU (fun j => mv p s j) (k + 1)) := by rw [HM1.out]; omega
      have hbd2 : bdI 1099511627776 (maxU (fun j => mv p s j) W (k + 1)) := by rw [HM2.out]; omega
      refine ⟨⟨k + 1, by omega, by go_num, (hK7.drewN nq).set02 _ _, hbd1, hbd2, ((hK6.drewN nq).far (by simp) _).far (by simp) _, ((below_drewN hbr nq).setCell (by simp) _).setCell (by simp) _⟩, by simp [intOf]; omega⟩
    · obtain rfl : k = H := by omega
      have hl6 := hK6.lt
      go_wp2_with (first
        | (refine ldRect rfl _ rfl hK7 rfl ?_)
        | (refine stRect rfl _ _ rfl hK6 rfl rfl rfl ?_; intro w6 hK6' hg6 _))
      refine bodyPost_ret (res_rect rfl hK6' rfl) rfl ?_
      exact ⟨rfl, below_of_gb hbr hg6 (Nat.le_refl _) hbr.size⟩
/-- the second window's rows, when k ends have been looked at. -/
def sec0 (q r H X0 X1 : Int) : Nat → Int
  | 0 => 1099511627776
  | 1 => min 1099511627776 (mv q r X0)
  | _ => min (min 1099511627776 (mv q r X0)) (mv q r (X1 - 1))
def sec1 (q r H X0 X1 : Int) : Nat → Int
  | 0 => -1099511627776
  | 1 => max (-1099511627776) (mv q r X0 + H)
  | _ => max (max (-1099511627776) (mv q r X0 + H)) (mv q r (X1 - 1) + H)
set_option maxRecDepth 100000 in
set_option maxHeartbeats 2000000 in
theorem second_any (A : Option Addr) (c : Nat) (p q r s H X0 X1 : Int) (w : World) {B : Nat} (h : C4 w B A p q r s) (hB : B ≤ w.heap.size) (kq : bdI 262144 q) (kr : bdI 32768 r) (ks : bdI 32768 s) (h0 : bdI 4294967296 X0) (h1 : bdI 4294967296 X1) (h1' : bdI 4294967296 (X1 - 1)) (hH : bdI 32768 H) :
    Calls Try.prog 17 #[.slice A 4 c, rect4 X0 0 X1 H] w fun e w' => e = .returned (rect4 X0 (sec0 q r H X0 X1 2) X1 (sec1 q r H X0 X1 2)) ∧ Below w.heap.size w w' := by
  have wx : wrap64 (X1 - 1) = X1 - 1 := IntWalk.wrap64_in _ ⟨by omega, by omega⟩
  go_enter Try.func17, Try.ntmps17
  go_wp2_with fail
  go_loopw [22] (fun y wr => ∃ k : Nat, k ≤ 2 ∧ y = .int .i64 k ∧ Bk wr (w.heap.size + 2) 26 (rectA X0 (sec0 q r H X0 X1 k) X1 (sec1 q r H X0 X1 k)) ∧ Bk wr (w.heap.size + 1) 26 (rectA 0 0 0 0) ∧ Bk wr w.heap.size 26 (rectA X0 0 X1 H) ∧ Bk wr (w.heap.size + 3) 3 #[.int .i64 X0, .int .i64 (X1 - 1)] ∧ Below w.heap.size w wr) (fun y _ => 2 - (intOf y).toNat)
  case atStart => exact ⟨0, by omega, rfl, by simpa [sec0, sec1] using (Bk.new ((w.alloc (.cells (rectA X0 0 X1 H) 26)).alloc (.cells (rectA 0 0 0 0) 26)) 26 (rectA X0 1099511627776 X1 (-1099511627776))).alloc (.cells #[.int .i64 X0, .int .i64 (X1 - 1)] 3), by simpa using ((Bk.new (w.alloc (.cells (rectA X0 0 X1 H) 26)) 26 (rectA 0 0 0 0)).alloc (.cells (rectA X0 1099511627776 X1 (-1099511627776)) 26)).alloc (.cells #[.int .i64 X0, .int .i64 (X1 - 1)] 3), (((Bk.new w _ _).alloc _).alloc _).alloc _, by simpa using Bk.new (((w.alloc (.cells (rectA X0 0 X1 H) 26)).alloc (.cells (rectA 0 0 0 0) 26)).alloc (.cells (rectA X0 1099511627776 X1 (-1099511627776)) 26)) 3 #[.int .i64 X0, .int .i64 (X1 - 1)], by go_grown⟩
  case round =>
    obtain ⟨k, hk, rfl, hK5, hK4, hK3, hKs, hbr⟩ := hrel
    obtain ⟨b, o, rfl, hlt, g0, g1, g2, g3⟩ := h.below hbr hB
    have hcases : k = 0 ∨ k = 1 ∨ k = 2 := by omega
    rcases hcases with rfl | rfl | rfl
    · have hm := (mv_bd kq kr (y := X0) h0).2
      have w0 : wrap64 (mv q r X0) = mv q r X0 := IntWalk.wrap64_in _ ⟨by omega, by omega⟩
      have wH : wrap64 (mv q r X0 + H) = mv q r X0 + H := IntWalk.wrap64_in _ ⟨by omega, by omega⟩
      have h00 : bdI 4294967296 0 := by omega
      have HM1 := Lib.hid (show sec0 q r H X0 X1 1 = min (sec0 q r H X0 X1 0) (mv q r X0) from rfl)
      have HM2 := Lib.hid (show sec1 q r H X0 X1 1 = max (sec1 q r H X0 X1 0) (mv q r X0 + H) from rfl)
      have hbm : bdI 1099511627776 (sec0 q r H X0 X1 0) ∧ bdI 1099511627776 (sec1 q r H X0 X1 0) := by
        have hm0 := (mv_bd kq kr (y := X0) h0).2
        constructor <;> simp only [sec0, sec1] <;> omega
      generalize sec0 q r H X0 X1 0 = m at *
      generalize sec1 q r H X0 X1 0 = M at *
      obtain ⟨_, c1, _, c3⟩ := hK5.cell4
      obtain ⟨_, d1, _, d3⟩ := hK3.cell4
      obtain ⟨e0, e1⟩ := hKs.cell2
      have f1 := hK5.frozen 1
      have f3 := hK5.frozen 3
      have hl5 := hK5.lt
      have hls := hKs.lt
      go_wp2_with fail
      go_quiet ((go_at_call 30; exact quiet_eq (rfrom_t _ _ _ _ _ _ kq kr h00 h0)))
      all_goals go_wp2_with fail
      have e1 : (if mv q r X0 < m then mv q r X0 else m) = sec0 q r H X0 X1 1 := by rw [HM1.out]; split <;> omega
      have e2 : (if M < mv q r X0 + H then mv q r X0 + H else M) = sec1 q r H X0 X1 1 := by rw [HM2.out]; split <;> omega
      rw [e1, e2]
      refine ⟨⟨1, by omega, rfl, (hK5.drewN nq).set13 _ _, ((hK4.drewN nq).far (by simp <;> omega) _).far (by simp <;> omega) _, ((hK3.drewN nq).far (by simp <;> omega) _).far (by simp <;> omega) _, ((hKs.drewN nq).far (by simp <;> omega) _).far (by simp <;> omega) _, ((below_drewN hbr nq).setCell (by simp <;> omega) _).setCell (by simp <;> omega) _⟩, by simp [intOf]⟩
    · have hm := (mv_bd kq kr (y := (X1 - 1)) h1').2
      have w0 : wrap64 (mv q r (X1 - 1)) = mv q r (X1 - 1) := IntWalk.wrap64_in _ ⟨by omega, by omega⟩
      have wH : wrap64 (mv q r (X1 - 1) + H) = mv q r (X1 - 1) + H := IntWalk.wrap64_in _ ⟨by omega, by omega⟩
      have h00 : bdI 4294967296 0 := by omega
      have HM1 := Lib.hid (show sec0 q r H X0 X1 2 = min (sec0 q r H X0 X1 1) (mv q r (X1 - 1)) from rfl)
      have HM2 := Lib.hid (show sec1 q r H X0 X1 2 = max (sec1 q r H X0 X1 1) (mv q r (X1 - 1) + H) from rfl)
      have hbm : bdI 1099511627776 (sec0 q r H X0 X1 1) ∧ bdI 1099511627776 (sec1 q r H X0 X1 1) := by
        have hm0 := (mv_bd kq kr (y := X0) h0).2
        constructor <;> simp only [sec0, sec1] <;> omega
      generalize sec0 q r H X0 X1 1 = m at *
      generalize sec1 q r H X0 X1 1 = M at *
      obtain ⟨_, c1, _, c3⟩ := hK5.cell4
      obtain ⟨_, d1, _, d3⟩ := hK3.cell4
      obtain ⟨e0, e1⟩ := hKs.cell2
      have f1 := hK5.frozen 1
      have f3 := hK5.frozen 3
      have hl5 := hK5.lt
      have hls := hKs.lt
      go_wp2_with fail
      go_quiet ((go_at_call 30; exact quiet_eq (rfrom_t _ _ _ _ _ _ kq kr h00 h1')))
      all_goals go_wp2_with fail
      have e1 : (if mv q r (X1 - 1) < m then mv q r (X1 - 1) else m) = sec0 q r H X0 X1 2 := by rw [HM1.out]; split <;> omega
      have e2 : (if M < mv q r (X1 - 1) + H then mv q r (X1 - 1) + H else M) = sec1 q r H X0 X1 2 := by rw [HM2.out]; split <;> omega
      rw [e1, e2]
      refine ⟨⟨2, by omega, rfl, (hK5.drewN nq).set13 _ _, ((hK4.drewN nq).far (by simp <;> omega) _).far (by simp <;> omega) _, ((hK3.drewN nq).far (by simp <;> omega) _).far (by simp <;> omega) _, ((hKs.drewN nq).far (by simp <;> omega) _).far (by simp <;> omega) _, ((below_drewN hbr nq).setCell (by simp <;> omega) _).setCell (by simp <;> omega) _⟩, by simp [intOf]⟩
    · have hl4 := hK4.lt
      go_wp2_with (first
        | (refine ldRect rfl _ rfl hK5 rfl ?_)
        | (refine stRect rfl _ _ rfl hK4 rfl rfl rfl ?_; intro w6 hK4' hg6 _))
      refine bodyPost_ret (res_rect rfl hK4' rfl) rfl ?_
      exact ⟨rfl, below_of_gb hbr hg6 (by omega) hbr.size⟩
end Go.Proofs.Ytpcjoalbhicccaa
