/- The reference: what is wrong with an image and slants; where a pixel comes from. -/
import Derived.Test.YtpcjoalbhicccaaTw1
import Derived.Test.YtpcjoalbhicccaaTh25
import Derived.Test.YtpcjoalbhicccaaTh9
import Derived.Test.YtpcjoalbhicccaaTh14
import Derived.Test.YtpcjoalbhicccaaLie
set_option linter.unusedVariables false
namespace Go.Proofs.Ytpcjoalbhicccaa
open Go.RowKit
theorem mvs3 {b c x y : Int} (hb : bdI 262144 b) (hc : bdI 32768 c) (hx : bdI 32768 x) (hy : bdI 32768 y) : bdI 262145 (loW b c x y) ∧ bdI 262145 (hiW b c x y) := mvs hb hc hx hy
theorem slC_zero {n : Nat} {p q r s : Int} (h : slC n p q r s = 0) : n = 4 ∧ bdI 262144 p ∧ bdI 262144 q ∧ bdI 32768 r ∧ bdI 32768 s := by
  unfold slC at h
  split at h
  · omega
  · split at h
    · exact ⟨by omega, sl4B_iff.1 (by assumption)⟩
    · omega
/-- The windows that the reference tells. -/
theorem rfirst_any (A : Option Addr) (cp : Nat) (p q r s W : Int) (Hn : Nat) (w : World) {B : Nat} (hC : C4 w B A p q r s) (hB : B ≤ w.heap.size) (kp : bdI 262144 p) (ks : bdI 32768 s) (hW : 1 ≤ W ∧ W ≤ 32768) (hH : 1 ≤ Hn ∧ Hn ≤ 32768) :
    Calls Try.prog 16 #[.slice A 4 cp, .int .i64 W, .int .i64 Hn] w fun e w' => e = .returned (rect4 (winX0 p s Hn) 0 (winX1 p s W Hn) Hn) ∧ Below w.heap.size w w' :=
  (first_any A cp p q r s W Hn w hC hB kp ks hW hH.2).mono fun e w'' ⟨h1, h2⟩ => ⟨by
    obtain ⟨k, hk⟩ : ∃ k, Hn = k + 1 := ⟨Hn - 1, by omega⟩
    have := minU_eq kp ks hW k (by omega)
    rw [h1]
    unfold winX0 winX1
    rw [show ((Hn : Int) - 1) = (k : Int) by omega, ← this.1, ← this.2, ← hk], h2⟩
theorem win_bd {p q r s wd ht : Int} (kp : bdI 262144 p) (kq : bdI 262144 q) (kr : bdI 32768 r) (ks : bdI 32768 s) (hw : 1 ≤ wd ∧ wd ≤ 32768) (hh : 1 ≤ ht ∧ ht ≤ 32768) : bdI 262145 (winX0 p s ht) ∧ bdI 294913 (winX1 p s wd ht) ∧ bdI 17180033069 (winY0 p q r s wd ht) ∧ bdI 17180033069 (winY1 p q r s wd ht) ∧ bdI 17180000300 (mv q r (winX0 p s ht)) ∧ bdI 17180000300 (mv q r (winX1 p s wd ht - 1)) := by
  have hbx := mvs3 kp ks (x := 0) (y := ht - 1) ⟨by omega, by omega⟩ ⟨by omega, by omega⟩
  have hbX0 : bdI 262145 (winX0 p s ht) := hbx.1
  have hbX1 : bdI 294913 (winX1 p s wd ht) := by unfold winX1; omega
  have hby0 := (mv_bd kq kr (y := winX0 p s ht) ⟨by omega, by omega⟩).2
  have hby1 := (mv_bd kq kr (y := winX1 p s wd ht - 1) ⟨by omega, by omega⟩).2
  refine ⟨hbX0, hbX1, ?_, ?_, hby0, hby1⟩
  · unfold winY0 loW; omega
  · unfold winY1 hiW; omega
theorem rsecond_any (A : Option Addr) (cp : Nat) (p q r s W : Int) (Hn : Nat) (w : World) {B : Nat} (hC : C4 w B A p q r s) (hB : B ≤ w.heap.size) (kp : bdI 262144 p) (kq : bdI 262144 q) (kr : bdI 32768 r) (ks : bdI 32768 s) (hW : 1 ≤ W ∧ W ≤ 32768) (hH : 1 ≤ Hn ∧ Hn ≤ 32768) :
    Calls Try.prog 17 #[.slice A 4 cp, rect4 (winX0 p s Hn) 0 (winX1 p s W Hn) Hn] w fun e w' => e = .returned (rect4 (winX0 p s Hn) (winY0 p q r s W Hn) (winX1 p s W Hn) (winY1 p q r s W Hn)) ∧ Below w.heap.size w w' := by
  obtain ⟨b0, b1, _, _, b2, b3⟩ := win_bd kp kq kr ks hW (ht := (Hn : Int)) ⟨by omega, by omega⟩
  refine (second_any A cp p q r s Hn (winX0 p s Hn) (winX1 p s W Hn) w hC hB kq kr ks ⟨by omega, by omega⟩ ⟨by omega, by omega⟩ ⟨by omega, by omega⟩ ⟨by omega, by omega⟩).mono fun e w'' ⟨h1, h2⟩ => ⟨by
    have e1 : sec0 q r Hn (winX0 p s Hn) (winX1 p s W Hn) 2 = winY0 p q r s W Hn := by unfold winY0 loW; show min (min 1099511627776 (mv q r (winX0 p s Hn))) (mv q r (winX1 p s W Hn - 1)) = _; omega
    have e2 : sec1 q r Hn (winX0 p s Hn) (winX1 p s W Hn) 2 = winY1 p q r s W Hn := by unfold winY1 hiW; show max (max (-1099511627776) (mv q r (winX0 p s Hn) + Hn)) (mv q r (winX1 p s W Hn - 1) + Hn) = _; omega
    rw [h1, e1, e2], h2⟩
set_option maxRecDepth 100000 in
set_option maxHeartbeats 8000000 in
theorem rthr_any (W H C : Int) (A A2 : Option Addr) (n cp n2 c2 : Nat) (m a b c d p q r s wd ht : Int) (w : World) {B : Nat} (hC : n2 = 4 → C4 w B A2 p q r s) (hB : B ≤ w.heap.size) :
    Calls Try.prog 19 #[.agg #[.int .i64 W, .int .i64 H, .int .i64 C, .slice A n cp], .slice A2 n2 c2, .int .i64 wd, .int .i64 ht, bordV m a b c d] w fun e w' => e = .returned (.int .i64 (thrC W H C n n2 p q r s wd ht m)) ∧ Below w.heap.size w w' := by
  have hL := ((Lie.start w).alloc #[.int .i64 W, .int .i64 H, .int .i64 C, .slice A n cp] 24).alloc #[.int .i64 m, .int .u8 a, .int .u8 b, .int .u8 c, .int .u8 d] 42
  simp only [World.size_alloc] at hL
  obtain ⟨i0, i1, i2, i3⟩ := (hL.k 1 (by simp)).cell4
  have hI := fun w' : World => rcheck_any W H C A n cp w'
  have hS := fun (w' : World) (hC' : n2 = 4 → C4 w' B A2 p q r s) => rcheck22_any A2 n2 c2 p q r s w' hC'
  have hZ := fun w' : World => rfits_any wd ht 1 w'
  have HC := Lib.hid hC
  clear hC
  by_cases h0 : checkC W H C n = 0
  case neg =>
    have HR : Hid (thrC W H C n n2 p q r s wd ht m = checkC W H C n) := by show _ = _; unfold thrC pick4; rw [if_pos h0]
    have hne : (checkC W H C n != 0) = true := by simpa using h0
    rw [HR.out]
    clear h0
    generalize checkC W H C n = z at *
    go_enter Try.func19, Try.ntmps19
    go_wp2_with (go_at_call 27; (with_reducible refine (hI _).mono ?_); rintro e w1 ⟨rfl, hb1⟩)
    go_returns
    exact ⟨rfl, (hL.nx hb1).bel⟩
  rw [h0] at hI
  have hL1 := fun (w1 : World) (hb1 : Below ((w.alloc (.cells #[.int .i64 W, .int .i64 H, .int .i64 C, .slice A n cp] 24)).alloc (.cells #[.int .i64 m, .int .u8 a, .int .u8 b, .int .u8 c, .int .u8 d] 42)).heap.size _ w1) => hL.nx hb1
  by_cases h1 : slC n2 p q r s = 0
  case neg =>
    have HR : Hid (thrC W H C n n2 p q r s wd ht m = slC n2 p q r s) := by show _ = _; unfold thrC pick4; rw [if_neg (by simp [h0]), if_pos h1]
    have hne : (slC n2 p q r s != 0) = true := by simpa using h1
    rw [HR.out]
    clear h0 h1
    generalize slC n2 p q r s = z at *
    go_enter Try.func19, Try.ntmps19
    go_wp2_with (first
      | (go_at_call 27; (with_reducible refine (hI _).mono ?_); rintro e w1 ⟨rfl, hb1⟩; replace hL := hL.nx hb1; have hbl := hL.bel)
      | (go_at_call 15; (with_reducible refine (hS _ (fun h => (HC.out h).below hbl hB)).mono ?_); rintro e w2 ⟨rfl, rfl⟩))
    go_returns
    exact ⟨rfl, hL.bel⟩
  rw [h1] at hS
  obtain ⟨h4, kp, kq, kr, ks⟩ := slC_zero h1
  have H4 := Lib.hid h4
  clear h4
  by_cases h2 : fitsC wd ht 1 = 0
  case neg =>
    have HR : Hid (thrC W H C n n2 p q r s wd ht m = fitsC wd ht 1) := by show _ = _; unfold thrC pick4; rw [if_neg (by simp [h0]), if_neg (by simp [h1]), if_pos h2]
    have hne : (fitsC wd ht 1 != 0) = true := by simpa using h2
    rw [HR.out]
    clear h0 h1 h2
    generalize fitsC wd ht 1 = z at *
    go_enter Try.func19, Try.ntmps19
    go_wp2_with (first
      | (go_at_call 27; (with_reducible refine (hI _).mono ?_); rintro e w1 ⟨rfl, hb1⟩; replace hL := hL.nx hb1; have hbl := hL.bel)
      | (go_at_call 15; (with_reducible refine (hS _ (fun h => (HC.out h).below hbl hB)).mono ?_); rintro e w2 ⟨rfl, rfl⟩)
      | (go_at_call 39; (with_reducible refine (hZ _).mono ?_); rintro e w3 ⟨rfl, rfl⟩))
    go_returns
    exact ⟨rfl, hL.bel⟩
  rw [h2] at hZ
  obtain ⟨_, k2, k3, k4, k5, _⟩ := fitsC_ok h2
  by_cases h3 : modeC m = 0
  case neg =>
    have HR : Hid (thrC W H C n n2 p q r s wd ht m = 10) := by
      show _ = _
      unfold thrC pick4
      rw [if_neg (by simp [h0]), if_neg (by simp [h1]), if_neg (by simp [h2]), if_pos h3]
      unfold modeC at *
      split <;> simp_all
    have hm : m < 0 ∨ (0 ≤ m ∧ 3 < m) := by
      unfold modeC at h3
      split at h3
      · omega
      · exact absurd rfl h3
    rw [HR.out]
    clear h0 h1 h2 h3
    rcases hm with hm | ⟨hm, hm2⟩
    all_goals
      go_enter Try.func19, Try.ntmps19
      go_wp2_with (first
        | (go_at_call 27; (with_reducible refine (hI _).mono ?_); rintro e w1 ⟨rfl, hb1⟩; replace hL := hL.nx hb1; have hbl := hL.bel; have kb := hL.k 0 (by simp); have b0 := kb.cell 0; simp only [List.getElem_cons_zero] at b0)
        | (go_at_call 15; (with_reducible refine (hS _ (fun h => (HC.out h).below hbl hB)).mono ?_); rintro e w2 ⟨rfl, rfl⟩)
        | (go_at_call 39; (with_reducible refine (hZ _).mono ?_); rintro e w3 ⟨rfl, rfl⟩))
      go_returns
      exact ⟨rfl, hL.bel⟩
  obtain rfl : n2 = 4 := H4.out
  have HC2 := Lib.hid (HC.out rfl)
  clear HC H4
  obtain ⟨Hn, rfl⟩ : ∃ Hn : Nat, ht = Hn := ⟨ht.toNat, by omega⟩
  have HR : Hid (thrC W H C n 4 p q r s wd Hn m = if (largeB (winX0 p s Hn) 0 (winX1 p s wd Hn) Hn || largeB (winX0 p s Hn) (winY0 p q r s wd Hn) (winX1 p s wd Hn) (winY1 p q r s wd Hn)) = true then 30 else 0) := by
    show _ = _; unfold thrC pick4; rw [if_neg (by simp [h0]), if_neg (by simp [h1]), if_neg (by simp [h2]), if_neg (by simp [h3])]
  have hm : 0 ≤ m ∧ m ≤ 3 := by
    unfold modeC at h3
    split at h3
    · cases h3
    · omega
  obtain ⟨hm, hm2⟩ := hm
  have hF := fun (w' : World) (hC' : C4 w' B A2 p q r s) (hB' : B ≤ w'.heap.size) => rfirst_any A2 c2 p q r s wd Hn w' hC' hB' kp ks ⟨k2, k3⟩ (by omega)
  have hSn := fun (w' : World) (hC' : C4 w' B A2 p q r s) (hB' : B ≤ w'.heap.size) => rsecond_any A2 c2 p q r s wd Hn w' hC' hB' kp kq kr ks ⟨k2, k3⟩ (by omega)
  have hG1 := fun w' : World => rlarge_any (winX0 p s Hn) 0 (winX1 p s wd Hn) Hn w'
  have hG2 := fun w' : World => rlarge_any (winX0 p s Hn) (winY0 p q r s wd Hn) (winX1 p s wd Hn) (winY1 p q r s wd Hn) w'
  rw [HR.out]
  clear h0 h1 h2 h3 kp kq kr ks
  generalize largeB (winX0 p s Hn) 0 (winX1 p s wd Hn) Hn = g1 at *
  generalize largeB (winX0 p s Hn) (winY0 p q r s wd Hn) (winX1 p s wd Hn) (winY1 p q r s wd Hn) = g2 at *
  generalize winX0 p s Hn = X0 at *
  generalize winX1 p s wd Hn = X1 at *
  generalize winY0 p q r s wd Hn = Y0 at *
  generalize winY1 p q r s wd Hn = Y1 at *
  clear HR
  go_enter Try.func19, Try.ntmps19
  go_wp2_with (first
    | (go_at_call 27; (with_reducible refine (hI _).mono ?_); rintro e w1 ⟨rfl, hb1⟩; replace hL := hL.nx hb1; have hbl := hL.bel; have kb := hL.k 0 (by simp); have b0 := kb.cell 0; simp only [List.getElem_cons_zero] at b0)
    | (go_at_call 15; (with_reducible refine (hS _ (fun _ => HC2.out.below hbl hB)).mono ?_); rintro e w2 ⟨rfl, rfl⟩)
    | (go_at_call 39; (with_reducible refine (hZ _).mono ?_); rintro e w3 ⟨rfl, rfl⟩))
  refine (hF _ (HC2.out.below hbl hB) (Nat.le_trans hB hbl.size)).mono ?_
  rintro e w4 ⟨rfl, hb4⟩
  replace hL := (hL.nx hb4).alloc (rectA X0 0 X1 Hn) 26
  have kR := hL.k 0 (by simp)
  simp only [List.getElem_cons_zero] at kR
  clear hbl kb b0
  cases g1
  · cases g2
    all_goals
      go_wp2_with (first
        | (refine ldRect rfl _ rfl kR rfl ?_)
        | (refine ldRect rfl _ rfl kR5 rfl ?_)
        | (go_at_call 8; (with_reducible refine (hG1 _).mono ?_); rintro e w5 ⟨rfl, hb5⟩; have hL5 := hL.nx hb5; have hb5l := hL5.bel; have kR5 := kR.nx hb5; obtain ⟨z0, z1, z2, z3⟩ := kR5.cell4)
        | (go_at_call 17; (with_reducible refine (hSn _ (HC2.out.below hb5l hB) (Nat.le_trans hB hb5l.size)).mono ?_); rintro e w6 ⟨rfl, hb6⟩)
        | (go_at_call 8; (with_reducible refine (hG2 _).mono ?_); rintro e w7 ⟨rfl, hb7⟩))
      go_returns
      exact ⟨rfl, ((hL5.nx hb6).nx hb7).bel⟩
  · go_wp2_with (first
      | (refine ldRect rfl _ rfl kR rfl ?_)
      | (go_at_call 8; (with_reducible refine (hG1 _).mono ?_); rintro e w5 ⟨rfl, hb5⟩))
    go_returns
    exact ⟨rfl, (hL.nx hb5).bel⟩
/-- a slant moves no further than five times as far as one is away. -/
theorem mv_bd2 {b c y : Int} (hb : bdI 262144 b) (hc : bdI 32768 c) (hy : bdI 400000 y) : bdI 1731073 (mv b c y) := by
  have h := mulb hb.1 hb.2 (show -(432768:Int) ≤ y - c by omega) (show y - c ≤ 432768 by omega)
  unfold mv rnd
  omega
/-- Where a pixel comes from, by three slants at once. -/
def pX (p q r s x y : Int) : Int := x + mv p s y + mv p s (y + mv q r (x + mv p s y))
def pY (p q r s x y : Int) : Int := y + mv q r (x + mv p s y)
set_option maxRecDepth 100000 in
set_option maxHeartbeats 4000000 in
theorem pix22_any (A : Option Addr) (cp : Nat) (p q r s x y : Int) (w : World) {B : Nat} (hC : C4 w B A p q r s) (hB : B ≤ w.heap.size) (kp : bdI 262144 p) (kq : bdI 262144 q) (kr : bdI 32768 r) (ks : bdI 32768 s) (hx : bdI 32768 x) (hy : bdI 32768 y) :
    Calls Try.prog 44 #[.slice A 4 cp, .int .i64 x, .int .i64 y] w fun e w' => e = .returned (.tuple #[.int .i64 (pX p q r s x y), .int .i64 (pY p q r s x y)]) ∧ Below w.heap.size w w' := by
  obtain ⟨b, o, rfl, hb, c0, c1, c2, c3⟩ := hC
  obtain ⟨g1, _⟩ := mv_bd kp ks (y := y) ⟨by omega, by omega⟩
  have g2 := mv_bd2 kp ks (y := y) ⟨by omega, by omega⟩
  obtain ⟨a1, ha1⟩ : ∃ z, z = mv p s y := ⟨_, rfl⟩
  rw [← ha1] at g2
  obtain ⟨g3, g4⟩ := mv_bd kq kr (y := x + a1) ⟨by omega, by omega⟩
  obtain ⟨a2, ha2⟩ : ∃ z, z = mv q r (x + a1) := ⟨_, rfl⟩
  rw [← ha2] at g4
  have g5 := mulb kp.1 kp.2 (show -(34360131072 : Int) ≤ y + a2 - s by omega) (show y + a2 - s ≤ 34360131072 by omega)
  obtain ⟨a3, ha3⟩ : ∃ z, z = mv p s (y + a2) := ⟨_, rfl⟩
  have g6 : -9007199254740992 ≤ a3 ∧ a3 ≤ 9007199254740992 := by rw [ha3]; unfold mv rnd; omega
  have N1 := fun w' => near_any (p * (y - s)) w' (by omega) (by omega)
  have N2 := fun w' => near_any (q * (x + a1 - r)) w' (by omega) (by omega)
  have N3 := fun w' => near_any (p * (y + a2 - s)) w' (by omega) (by omega)
  rw [show rnd (p * (y - s)) = a1 from ha1.symm] at N1
  rw [show rnd (q * (x + a1 - r)) = a2 from ha2.symm] at N2
  rw [show rnd (p * (y + a2 - s)) = a3 from ha3.symm] at N3
  have hX : pX p q r s x y = x + a1 + a3 := by unfold pX; rw [← ha1, ← ha2, ← ha3]
  have hY : pY p q r s x y = y + a2 := by unfold pY; rw [← ha1, ← ha2]
  rw [hX, hY]
  obtain ⟨u0, hu0⟩ : ∃ z, z = x - r := ⟨_, rfl⟩
  obtain ⟨v0, hv0⟩ : ∃ z, z = y - s := ⟨_, rfl⟩
  obtain ⟨u1, hu1⟩ : ∃ z, z = u0 + a1 := ⟨_, rfl⟩
  obtain ⟨v1, hv1⟩ : ∃ z, z = v0 + a2 := ⟨_, rfl⟩
  obtain ⟨u2, hu2⟩ : ∃ z, z = u1 + a3 := ⟨_, rfl⟩
  rw [show y - s = v0 from hv0.symm] at N1 g1
  rw [show x + a1 - r = u1 by omega] at N2 g3
  rw [show y + a2 - s = v1 by omega] at N3 g5
  rw [show x + a1 + a3 = u2 + r by omega, show y + a2 = v1 + s by omega]
  have e0 : wrap64 (x - r) = u0 := by rw [hu0]; exact IntWalk.wrap64_in _ ⟨by omega, by omega⟩
  have e1 : wrap64 (y - s) = v0 := by rw [hv0]; exact IntWalk.wrap64_in _ ⟨by omega, by omega⟩
  obtain ⟨m1, hm1⟩ : ∃ z, z = p * v0 := ⟨_, rfl⟩
  obtain ⟨m2, hm2⟩ : ∃ z, z = q * u1 := ⟨_, rfl⟩
  obtain ⟨m3, hm3⟩ : ∃ z, z = p * v1 := ⟨_, rfl⟩
  rw [← hm1] at N1 g1
  rw [← hm2] at N2 g3
  rw [← hm3] at N3 g5
  have e2 : wrap64 (p * v0) = m1 := by rw [← hm1]; exact IntWalk.wrap64_in _ ⟨by omega, by omega⟩
  have e3 : wrap64 (u0 + a1) = u1 := by rw [hu1]; exact IntWalk.wrap64_in _ ⟨by omega, by omega⟩
  have e4 : wrap64 (q * u1) = m2 := by rw [← hm2]; exact IntWalk.wrap64_in _ ⟨by omega, by omega⟩
  have e5 : wrap64 (v0 + a2) = v1 := by rw [hv1]; exact IntWalk.wrap64_in _ ⟨by omega, by omega⟩
  have e6 : wrap64 (p * v1) = m3 := by rw [← hm3]; exact IntWalk.wrap64_in _ ⟨by omega, by omega⟩
  have e7 : wrap64 (u1 + a3) = u2 := by rw [hu2]; exact IntWalk.wrap64_in _ ⟨by omega, by omega⟩
  have e8 : IntKind.i64.wrap (u2 + r) = u2 + r := IntWalk.i64_in _ ⟨by omega, by omega⟩
  have e9 : IntKind.i64.wrap (v1 + s) = v1 + s := IntWalk.i64_in _ ⟨by omega, by omega⟩
  have hb0 := Below.refl w.heap.size w
  clear ha1 ha2 ha3 hX hY hu0 hv0 hu1 hv1 hu2 g1 g2 g3 g4 g5 g6 kp kq kr ks hx hy
  clear hm1 hm2 hm3
  go_enter Try.func44, Try.ntmps44
  go_upto_region 6 with (first
    | (go_at_call 58; (with_reducible refine (N1 _).mono ?_); rintro e w1 ⟨rfl, rfl⟩)
    | (go_at_call 58; (with_reducible refine (N2 _).mono ?_); rintro e w1 ⟨rfl, rfl⟩)
    | (go_at_call 58; (with_reducible refine (N3 _).mono ?_); rintro e w1 ⟨rfl, rfl⟩))
  go_quiet (fail)
  go_wp2_with fail
  go_returns
  exact ⟨rfl, below_drewN hb0 _⟩
end Go.Proofs.Ytpcjoalbhicccaa
