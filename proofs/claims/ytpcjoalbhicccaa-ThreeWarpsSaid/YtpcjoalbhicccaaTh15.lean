/- A rectangle's places, one by one. -/
import Derived.RangeFuncNested
import Derived.RangeFuncBound
import Derived.RangeFuncCalls
import Derived.RangeFuncLeaves
import Derived.Shelf.Abstract
import Derived.Shelf.RegionOpen
import Derived.WalkKit
import Derived.OwnWalkIn
import Derived.TacticsInMore
import Derived.LoopNIn
import Derived.LoopIn
import Derived.Test.YtpcjoalbhicccaaTh3
set_option linter.unusedVariables false
namespace Go.Proofs.Ytpcjoalbhicccaa
open Go.RowKit Go.Shelf
attribute [local go_sem] Oper.semAt_some
/-- a place, not too far. -/
abbrev PT := { p : Int × Int // (-4294967296 ≤ p.1 ∧ p.1 ≤ 4294967296) ∧ (-4294967296 ≤ p.2 ∧ p.2 ≤ 4294967296) }
def mkP (x y : Int) : PT := if h : (-4294967296 ≤ x ∧ x ≤ 4294967296) ∧ (-4294967296 ≤ y ∧ y ≤ 4294967296) then ⟨(x, y), h⟩ else ⟨(0, 0), by decide⟩
theorem mkP_eq {x y : Int} (h : (-4294967296 ≤ x ∧ x ≤ 4294967296) ∧ (-4294967296 ≤ y ∧ y ≤ 4294967296)) : (mkP x y).1 = (x, y) := by unfold mkP; rw [dif_pos h]
def encP (x : PT) : Array Value := #[.int .i64 x.1.1, .int .i64 x.1.2]
theorem encP_mk {x y : Int} (h : (-4294967296 ≤ x ∧ x ≤ 4294967296) ∧ (-4294967296 ≤ y ∧ y ≤ 4294967296)) : encP (mkP x y) = #[.int .i64 x, .int .i64 y] := by unfold encP; rw [mkP_eq h]
def rowP (a y : Int) : Nat → List PT
  | 0 => []
  | i + 1 => rowP a y i ++ [mkP (a + i) y]
def plsP (a b : Int) (w : Nat) : Nat → List PT
  | 0 => []
  | j + 1 => plsP a b w j ++ rowP a (b + j) w
theorem rowP_len (a y : Int) (i : Nat) : (rowP a y i).length = i := by
  induction i with
  | zero => rfl
  | succ i ih => simp [rowP, ih]
theorem plsP_len (a b : Int) (w j : Nat) : (plsP a b w j).length = j * w := by
  induction j with
  | zero => simp [plsP]
  | succ j ih => simp [plsP, ih, rowP_len, Nat.add_mul]
theorem rowP_pre (a y : Int) {i j : Nat} (h : i ≤ j) : rowP a y i <+: rowP a y j := by
  induction j with
  | zero => obtain rfl : i = 0 := by omega
            exact List.prefix_rfl
  | succ j ih =>
    rcases Nat.lt_or_ge i (j + 1) with h' | h'
    · exact (ih (by omega)).trans (List.prefix_append _ _)
    · obtain rfl : i = j + 1 := by omega
      exact List.prefix_rfl
theorem plsP_pre (a b : Int) (w : Nat) {i j : Nat} (h : i ≤ j) : plsP a b w i <+: plsP a b w j := by
  induction j with
  | zero => obtain rfl : i = 0 := by omega
            exact List.prefix_rfl
  | succ j ih =>
    rcases Nat.lt_or_ge i (j + 1) with h' | h'
    · exact (ih (by omega)).trans (List.prefix_append _ _)
    · obtain rfl : i = j + 1 := by omega
      exact List.prefix_rfl
theorem at_pre (a b : Int) (w : Nat) {i j h : Nat} (hi : i ≤ w) (hj : j < h) : plsP a b w j ++ rowP a (b + j) i <+: plsP a b w h := by
  refine List.IsPrefix.trans ?_ (plsP_pre a b w (show j + 1 ≤ h by omega))
  rw [plsP]
  exact (List.prefix_append_right_inj _).2 (rowP_pre _ _ hi)
/-- block b lies as it lay. -/
def KpB (b : Nat) (W W' : World) : Prop := W'.heap[b]? = W.heap[b]?
theorem KpB.t {b : Nat} {A B C : World} (h : KpB b A B) (k : KpB b B C) : KpB b A C := Eq.trans k h
theorem KpB.b {b : Nat} {w : World} (hb : b < w.heap.size) (W : World) (l : Nat) (o o' : Obj) (hl : w.heap.size ≤ l) (h : W.heap[l]? = some o) (_ : o.isCells = false) (_ : o.isWalk = false) : KpB b W (W.putObj l o') :=
  World.putObj_heap_other (by omega)
theorem Bk.kpB {W W' : World} {g : Nat} {t : TypeId} {cs : Array Value} (h : Bk W g t cs) (k : KpB g W W') : Bk W' g t cs := Eq.trans k h
set_option maxRecDepth 100000 in
set_option maxHeartbeats 1000000 in
theorem places1_in (F : Fence) (n : Nat) (h6 : F.fn 63) (hro : F.round = none) (hn : 1 ≤ n) (l Bn : Nat) (a b c d : Int) (wd ht : Nat) (hwd : a + wd = c) (hht : b + ht = d) (hr : rightR a b c d) (J Jx : List PT → World → Prop)
    (hY : ∀ pre x W, J pre W → pre.length < ht * wd → YieldAt F (n - 1) Try.prog l (encP x) W fun e W' =>
      (e = .returned (.bool true) ∧ J (pre ++ [x]) W' ∧ KpB Bn W W') ∨ (e = .returned (.bool false) ∧ Jx (pre ++ [x]) W'))
    (W : World) (hL : Bk W Bn 26 (rectA a b c d)) (h0 : J [] W) :
    CallsIn F n Try.prog 63 #[.func (.yield l) #[] #[], .pointer (some ⟨Bn, 0, none⟩)] W fun e W' => (∃ v, e = .returned v) ∧
      ((∃ ys, ys = plsP a b wd ht ∧ J ys W') ∨ (∃ pre, pre <+: plsP a b wd ht ∧ Jx pre W')) := by
  obtain ⟨ra, rb, rc, rd⟩ := hr
  refine callsIn_of_wp Try.func63 rfl h6 ?_ hro
  simp only [Try.ntmps63, List.size_toArray, List.length_cons, List.length_nil, Nat.reduceAdd, Nat.reduceSub, Array.replicate_succ, Array.replicate_zero, List.push_toArray, List.append_toArray, List.nil_append, List.cons_append]
  obtain ⟨c0, c1, c2, c3⟩ := hL.cell4
  gi_wp2
  gi_loopw [3] (fun y wr => ∃ j : Nat, j ≤ ht ∧ y = .int .i64 (b + j) ∧ Bk wr Bn 26 (rectA a b c d) ∧ J (plsP a b wd j) wr) (fun y _ => (d - intOf y).toNat)
  case atStart =>
    exact ⟨0, by omega, by simp, hL, h0⟩
  case round =>
    clear c0 c1 c2 c3 hL h0
    obtain ⟨j, hj, rfl, hL, hJs⟩ := hrel
    obtain ⟨c0, c1, c2, c3⟩ := hL.cell4
    by_cases hlt : j < ht
    · have hlt' : b + j < d := by omega
      have wj : wrap64 (b + j + 1) = b + j + 1 := IntWalk.wrap64_in _ ⟨by omega, by omega⟩
      gi_wp2
      gi_loopw [4] (fun x wr => ∃ i : Nat, i ≤ wd ∧ x = .int .i64 (a + i) ∧ Bk wr Bn 26 (rectA a b c d) ∧ J (plsP a b wd j ++ rowP a (b + j) i) wr) (fun x _ => (c - intOf x).toNat)
      case atStart =>
        exact ⟨0, by omega, by simp, hL, by simpa [rowP] using hJs⟩
      case round =>
        clear c0 c1 c2 c3 hL hJs
        obtain ⟨i, hi, rfl, hL, hJs⟩ := hrel
        obtain ⟨c0, c1, c2, c3⟩ := hL.cell4
        by_cases hli : i < wd
        · have hli' : a + i < c := by omega
          have wi : wrap64 (a + i + 1) = a + i + 1 := IntWalk.wrap64_in _ ⟨by omega, by omega⟩
          obtain ⟨fn, tmps, assign, body, hy, hR⟩ := hY _ (mkP (a + i) (b + j)) _ hJs (by
            rw [List.length_append, plsP_len, rowP_len]
            have : (j + 1) * wd ≤ ht * wd := Nat.mul_le_mul_right _ (by omega)
            rw [Nat.add_mul] at this
            omega)
          rw [encP_mk ⟨⟨by omega, by omega⟩, ⟨by omega, by omega⟩⟩] at hy
          have hrow : plsP a b wd j ++ rowP a (b + j) i ++ [mkP (a + i) (b + j)] = plsP a b wd j ++ rowP a (b + j) (i + 1) := by rw [rowP, List.append_assoc]
          rw [hrow] at hR
          gi_wp2
          refine hR.mono ?_
          rintro e W3 (⟨rfl, hJ3, hk3⟩ | ⟨rfl, hJx3⟩)
          · have hL3 := hL.kpB hk3
            gi_wp2
            go_roundw
            case rel => exact ⟨i + 1, by omega, val_int (by omega), hL3, hJ3⟩
            case measure => simp [intOf]; omega
          · gi_wp2
            refine bodyPost_ret (results_none rfl _ _ _) rfl ?_
            exact ⟨⟨_, rfl⟩, .inr ⟨_, at_pre a b wd (by omega) hlt, hJx3⟩⟩
        · have hli' : ¬ a + i < c := by omega
          obtain rfl : i = wd := by omega
          gi_wp2
          go_roundw
          case rel => exact ⟨j + 1, by omega, val_int (by omega), hL, hJs⟩
          case measure => simp [intOf]; omega
    · have hlt' : ¬ b + j < d := by omega
      obtain rfl : j = ht := by omega
      gi_wp2
      go_end0
      first | exact ⟨⟨_, rfl⟩, .inl ⟨_, rfl, hJs⟩⟩ | exact ⟨⟨_, rfl⟩, .inl hJs⟩
theorem places_stops (F : Fence) (n : Nat) (h6 : F.fn 63) (hro : F.round = none) (hn : 1 ≤ n) (Bn : Nat) (a b c d : Int) (wd ht : Nat) (hwd : a + wd = c) (hht : b + ht = d) (hr : rightR a b c d) (w : World)
    (hL : Bk w Bn 26 (rectA a b c d)) :
    SeqStopsK F n Try.prog 63 #[.pointer (some ⟨Bn, 0, none⟩)] encP (KpB Bn) (fun ys => ys = plsP a b wd ht) (fun pre => pre <+: plsP a b wd ht) (ht * wd) w := fun l J Jx W hW _ _ hY h0 =>
  places1_in F n h6 hro hn l Bn a b c d wd ht hwd hht hr J Jx hY W (hL.below hW hL.lt) h0
set_option maxHeartbeats 1000000 in
theorem places_any (a b c d : Int) (w : World) (he : ¬ emptyR a b c d) : Calls Try.prog 49 #[rect4 a b c d] w fun e w' => e = .returned (.func (.func 63) #[] #[.pointer (some ⟨w.heap.size, 0, none⟩)]) ∧ Bk w' w.heap.size 26 (rectA a b c d) ∧ Below w.heap.size w w' := by
  go_enter Try.func49, Try.ntmps49
  go_wp2_with (go_at_call 62; (with_reducible refine (norm_ok _ _ _ _ _ he).mono ?_); rintro e w' ⟨rfl, hb⟩; have hcb := bcell hb; have hb1 := bl_alloc hb; have hK := (Bk.new w 26 (rectA a b c d)).nx hb)
  go_ret
  exact ⟨rfl, hK.set4 _ _ _ _, below_set4 hb1 (Nat.le_refl _) _ _ _ _⟩
end Go.Proofs.Ytpcjoalbhicccaa
