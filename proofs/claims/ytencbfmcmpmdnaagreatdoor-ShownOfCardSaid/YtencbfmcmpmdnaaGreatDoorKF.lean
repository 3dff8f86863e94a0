/- Several texts in one: The reference's affine map: what is wrong with its numbers. The reference's affine map: products and differences. The reference's affine map: where a place comes from. (Printed by wip/tools/genp3.py.) -/
import Derived.Test.YtencbfmcmpmdnaaGreatDoorK3
import Derived.Test.YtencbfmcmpmdnaaGreatDoorK6
import Derived.Deep.DeepCutAuto
section
set_option linter.unusedVariables false
namespace Go.Proofs.YtencbfmcmpmdnaaGreatDoor
open Go.RowKit
theorem rdet18 (l : List Int) (A : Option Addr) (cp : Nat) (w : World) {B : Nat} (h : AfOk l) (hr : Rd w B A (l.map (Value.int .i64))) :
    Calls Tryz.prog 33 #[.slice A 6 cp] w fun e w' => e = .returned (.int .i64 (dtA l)) ∧ Below w.heap.size w w' := by
  obtain ⟨b, o, rfl, hb, hc⟩ := aget h.len hr
  have c0 : w.cell? ⟨b, o, none⟩ = some (.int .i64 (cf l 0)) := hc 0 (by decide)
  have c1 := hc 1 (by decide)
  have c3 := hc 3 (by decide)
  have c4 := hc 4 (by decide)
  have p1 := h.prod 0 4 (by decide) (by decide) 281474976710656 (by decide)
  have p2 := h.prod 1 3 (by decide) (by decide) 281474976710656 (by decide)
  have HE := Lib.hid (show dtA l = cf l 0 * cf l 4 - cf l 1 * cf l 3 from rfl)
  have hb0 := Below.refl w.heap.size w
  clear hc hr h
  obtain ⟨p10, p11⟩ := p1
  obtain ⟨p20, p21⟩ := p2
  generalize dtA l = D at *
  generalize cf l 0 = x0 at *
  generalize cf l 1 = x1 at *
  generalize cf l 3 = x3 at *
  generalize cf l 4 = x4 at *
  have e1 : IntKind.i64.wrap (x0 * x4) = x0 * x4 := IntWalk.i64_in _ ⟨by omega, by omega⟩
  have e2 : IntKind.i64.wrap (x1 * x3) = x1 * x3 := IntWalk.i64_in _ ⟨by omega, by omega⟩
  have e3 : IntKind.i64.wrap (x0 * x4 - x1 * x3) = x0 * x4 - x1 * x3 := IntWalk.i64_in _ ⟨by omega, by omega⟩
  clear p10 p11 p20 p21
  go_enter Tryz.func33, Tryz.ntmps33
  go_wp2_with fail
  go_quiet (fail)
  go_wp2_with fail
  go_ret
  exact ⟨ret_int HE.out.symm, below_drewN hb0 _⟩
set_option maxHeartbeats 4000000 in
theorem rcheck18 (l : List Int) (A : Option Addr) (n cp : Nat) (w : World) {B : Nat} (hl : l.length = n) (hr : Rd w B A (l.map (Value.int .i64))) :
    Calls Tryz.prog 20 #[.slice A n cp] w fun e w' => e = .returned (.int .i64 (afC l)) ∧ Below w.heap.size w w' := by
  have hb0 := Below.refl w.heap.size w
  by_cases hn : n = 6
  · subst hn
    have HL := Lib.hid hl
    have hD := fun (h : AfOk l) => rdet18 l A cp w h hr
    clear hl
    go_enter Tryz.func20, Tryz.ntmps20
    go_wp2_with fail
    go_loop [3, 4] (fun kv _ => ∃ k : Nat, k ≤ 6 ∧ kv = .int .i64 k ∧ Hid (∀ i, i < k → inH (l.getD i 0) (most i) = true)) (fun kv _ => 6 - (intOf kv).toNat)
    case atStart => exact ⟨0, by omega, rfl, by intro i hi; omega⟩
    case round =>
      obtain ⟨k, hk, rfl, hall⟩ := hrel
      by_cases hlt : k < 6
      · obtain ⟨b, o, rfl, hb, hc⟩ := hr.get k (by rw [List.length_map, HL.out]; exact hlt)
        have hx : (l.map (Value.int .i64))[k]'(by rw [List.length_map, HL.out]; exact hlt) = .int .i64 (l.getD k 0) := by
          rw [List.getElem_map, List.getD_eq_getElem?_getD, List.getElem?_eq_getElem (by rw [HL.out]; exact hlt)]; rfl
        rw [hx] at hc
        clear hx hD
        have hmk : (((k : Int) % 3 == 2) = true ∧ most k = 2147483648) ∨ (((k : Int) % 3 == 2) = false ∧ most k = 16777216) := by
          rcases (show k = 0 ∨ k = 1 ∨ k = 2 ∨ k = 3 ∨ k = 4 ∨ k = 5 by omega) with rfl | rfl | rfl | rfl | rfl | rfl
          · exact .inr ⟨rfl, rfl⟩
          · exact .inr ⟨rfl, rfl⟩
          · exact .inl ⟨rfl, rfl⟩
          · exact .inr ⟨rfl, rfl⟩
          · exact .inr ⟨rfl, rfl⟩
          · exact .inl ⟨rfl, rfl⟩
        have hrg : inH (l.getD k 0) (most k) = false → Hid (afC l = 11) := fun hi => by
          show _ = _
          unfold afC
          rw [if_neg (by rw [HL.out]; simp), if_neg]
          intro h
          have := rg6_iff.1 h k hlt
          rw [hi] at this; cases this
        have hnx : inH (l.getD k 0) (most k) = true → Hid (∀ i, i < k + 1 → inH (l.getD i 0) (most i) = true) := fun hi => by
          intro i hi2
          by_cases e : i = k
          · rw [e]; exact hi
          · exact hall.out i (by omega)
        rcases hmk with ⟨qk, qm⟩ | ⟨qk, qm⟩
        · rw [qm] at hrg hnx
          cases hi : inH (l.getD k 0) 2147483648
          · have HR := hrg hi
            clear hrg hnx qm hall
            generalize l.getD k 0 = x at *
            go_wp2_with (go_at_call 32; (with_reducible refine (rin_any _ _ _ (by decide) (by decide)).mono ?_); rintro e w' ⟨rfl, rfl⟩; rw [hi])
            go_ret
            exact ⟨ret_int HR.out.symm, hb0⟩
          · have HN := hnx hi
            clear hrg hnx qm hall
            generalize l.getD k 0 = x at *
            go_wp2_with (go_at_call 32; (with_reducible refine (rin_any _ _ _ (by decide) (by decide)).mono ?_); rintro e w' ⟨rfl, rfl⟩; rw [hi])
            exact ⟨⟨k + 1, by omega, by go_num, HN⟩, by simp [intOf]; omega⟩
        · rw [qm] at hrg hnx
          cases hi : inH (l.getD k 0) 16777216
          · have HR := hrg hi
            clear hrg hnx qm hall
            generalize l.getD k 0 = x at *
            go_wp2_with (go_at_call 32; (with_reducible refine (rin_any _ _ _ (by decide) (by decide)).mono ?_); rintro e w' ⟨rfl, rfl⟩; rw [hi])
            go_ret
            exact ⟨ret_int HR.out.symm, hb0⟩
          · have HN := hnx hi
            clear hrg hnx qm hall
            generalize l.getD k 0 = x at *
            go_wp2_with (go_at_call 32; (with_reducible refine (rin_any _ _ _ (by decide) (by decide)).mono ?_); rintro e w' ⟨rfl, rfl⟩; rw [hi])
            exact ⟨⟨k + 1, by omega, by go_num, HN⟩, by simp [intOf]; omega⟩
      · obtain rfl : k = 6 := by omega
        have hok : AfOk l := ⟨HL.out, rg6_iff.2 hall.out⟩
        have hd := hD hok
        have HR : Hid (afC l = if dtA l = 0 then 40 else 0) := by
          show _ = _
          unfold afC
          rw [if_neg (by rw [HL.out]; simp), if_pos hok.rg]
        clear hD hok hall
        by_cases hz : dtA l = 0
        · rw [hz] at hd
          have HR' : Hid (afC l = 40) := by show _ = _; rw [HR.out, if_pos hz]
          clear hz HR
          go_wp2_with (go_at_call 33; (with_reducible refine hd.mono ?_); rintro e w' ⟨rfl, hb1⟩)
          go_ret
          exact ⟨ret_int HR'.out.symm, hb1⟩
        · have HR' : Hid (afC l = 0) := by show _ = _; rw [HR.out, if_neg hz]
          have hzb : (dtA l == 0) = false := by simpa using hz
          clear hz HR
          generalize dtA l = D at *
          go_wp2_with (go_at_call 33; (with_reducible refine hd.mono ?_); rintro e w' ⟨rfl, hb1⟩)
          go_ret
          exact ⟨ret_int HR'.out.symm, hb1⟩
  · have HR : Hid (afC l = 12) := by show _ = _; unfold afC; rw [if_pos (by omega)]
    have hnb : ((n : Int) != 6) = true := by rw [bne_iff_ne]; omega
    clear hl hn
    go_enter Tryz.func20, Tryz.ntmps20
    go_wp2_with fail
    all_goals first
      | (go_ret; exact ⟨ret_int HR.out.symm, hb0⟩)
      | (exfalso; omega)
end Go.Proofs.YtencbfmcmpmdnaaGreatDoor
end
section
set_option linter.unusedVariables false
namespace Go.Proofs.YtencbfmcmpmdnaaGreatDoor
open Go.RowKit
end Go.Proofs.YtencbfmcmpmdnaaGreatDoor
end
section
set_option linter.unusedVariables false
namespace Go.Proofs.YtencbfmcmpmdnaaGreatDoor
open Go.RowKit
theorem nab_mul {a b : Int} {A B : Nat} (ha : a.natAbs ≤ A) (hb : b.natAbs ≤ B) : (a * b).natAbs ≤ A * B := by
  rw [Int.natAbs_mul]; exact Nat.mul_le_mul ha hb
def rX18 (l : List Int) (px d : Int) : Int := px * 65536 - d * cf l 2
def rY18 (l : List Int) (py d : Int) : Int := py * 65536 - d * cf l 5
def rU18 (l : List Int) (px py d : Int) : Int := cf l 4 * rX18 l px d - cf l 1 * rY18 l py d
def rV18 (l : List Int) (px py d : Int) : Int := cf l 0 * rY18 l py d - cf l 3 * rX18 l px d
def rA18 (l : List Int) (px py d : Int) : Int := cutZ (flo (rU18 l px py d * 65536) (d * dtA l))
def rB18 (l : List Int) (px py d : Int) : Int := cutZ (flo (rV18 l px py d * 65536) (d * dtA l))
theorem keep7 {w w' : World} {B a1 a2 b o p q : Nat} {u1 u2 u3 u4 u5 u6 : Value} (h1 : w.cell? ⟨a1, 0, none⟩ = some u1) (h2 : w.cell? ⟨a1, 1, none⟩ = some u2) (h3 : w.cell? ⟨a2, 0, none⟩ = some u3) (h4 : w.cell? ⟨a2, 1, none⟩ = some u4) (h5 : w.cell? ⟨b, p, none⟩ = some u5) (h6 : w.cell? ⟨b, q, none⟩ = some u6)
    (k1 : a1 < B) (k2 : a2 < B) (k3 : b < B) (h : Below B w w') :
    w'.cell? ⟨a1, 0, none⟩ = some u1 ∧ w'.cell? ⟨a1, 1, none⟩ = some u2 ∧ w'.cell? ⟨a2, 0, none⟩ = some u3 ∧ w'.cell? ⟨a2, 1, none⟩ = some u4 ∧ w'.cell? ⟨b, p, none⟩ = some u5 ∧ w'.cell? ⟨b, q, none⟩ = some u6 ∧ Below B w w' :=
  ⟨(h.cell k1).trans h1, (h.cell k1).trans h2, (h.cell k2).trans h3, (h.cell k2).trans h4, (h.cell k3).trans h5, (h.cell k3).trans h6, h⟩
end Go.Proofs.YtencbfmcmpmdnaaGreatDoor
end
