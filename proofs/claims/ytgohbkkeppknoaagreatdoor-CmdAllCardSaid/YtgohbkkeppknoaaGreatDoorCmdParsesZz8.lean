/- Several texts in one: fix: the number that digits are. Numbers as texts: the library's FormatUint; a text parted. fix: a number in parts as a text. (Printed by wip/tools/gennbt.py.) -/
import Derived.Test.YtgohbkkeppknoaaGreatDoorCmdParsesZz7
import Derived.Laws.RangeAny
import Derived.Lib.OthersKept
import Derived.Shelf.Strconv.Itoa4
import Derived.Shelf.Strings.Search2
import Derived.Lib.QuietBelow
import Derived.Test.YtgohbkkeppknoaaGreatDoorCmdParsesZz1
import Derived.Laws.IdiomStrings
section
set_option linter.unusedVariables false
namespace Go.Proofs.YtgohbkkeppknoaaGreatDoor
open Go.RowKit
open Go.Lib (decDigits itoa)
abbrev bl (s : ByteArray) : List UInt8 := s.data.toList
/-- Whether a text is digits, 18 at most. -/
def okN (l : List UInt8) : Bool := !l.isEmpty && decide (l.length ≤ 18) && l.all isD
/-- What fix.number answers. -/
def fnV (l : List UInt8) : Nat := if okN l then numV 0 l else 0
theorem fnV_ok {l : List UInt8} (h : okN l = true) : fnV l = numV 0 l := by unfold fnV; rw [if_pos h]
theorem fnV_no {l : List UInt8} (h : okN l = false) : fnV l = 0 := by unfold fnV; rw [if_neg (by simp [h])]
theorem bl_len (s : ByteArray) : (bl s).length = s.size := Array.length_toList
theorem bl_get (s : ByteArray) (k : Nat) (h : k < s.size) : (bl s)[k]'(by rw [bl_len]; exact h) = s[k]'h := rfl
theorem bl_ne {s : ByteArray} (h : bl s ≠ []) : s.toList.isEmpty = false := by
  rw [ByteArray.toList_eq]
  simpa using h
theorem bel_iter (w : World) (s : ByteArray) (k : Nat) : Below w.heap.size w (w.iter s k) := (Below.refl _ w).alloc (Nat.le_refl _) (.stringIter s k)
theorem all_take {l : List UInt8} {k : Nat} (h : ∀ b ∈ l.take k, isD b = true) (hk : k < l.length) (hb : isD l[k] = true) : ∀ b ∈ l.take (k + 1), isD b = true := by
  intro b hb'
  rw [List.take_succ_eq_append_getElem hk, List.mem_append] at hb'
  rcases hb' with h1 | h1
  · exact h b h1
  · rw [List.mem_singleton.1 h1]; exact hb
theorem numV_lt : ∀ (l : List UInt8), (∀ b ∈ l, isD b = true) → numV 0 l < 10 ^ l.length
  | [], _ => by rw [numV_nil]; decide
  | b :: r, h => by
    have hb := isD_iff.1 (h b (by simp))
    have ih := numV_lt r (fun c hc => h c (by simp [hc]))
    rw [numV_cons, numV_add, dv_eq, List.length_cons, Nat.pow_succ]
    generalize 10 ^ r.length = P at *
    have h1 : (0 * 10 + (b.toNat - 48)) * P ≤ 9 * P := Nat.mul_le_mul_right _ (by omega)
    omega
set_option maxRecDepth 100000 in
set_option maxHeartbeats 4000000 in
theorem fnum_any (s : ByteArray) (w : World) : Calls Tryz.prog 185 #[.string s] w fun e w' => e = .returned (.tuple #[.int .u64 (fnV (bl s) : Nat), .bool (okN (bl s))]) ∧ Below w.heap.size w w' := by
  by_cases h0 : s.size = 0
  · have HF : Hid (okN (bl s) = false) := by
      show _ = _
      have : bl s = [] := List.eq_nil_of_length_eq_zero (by rw [bl_len]; exact h0)
      rw [this]; rfl
    have hs : s = ⟨#[]⟩ := by
      cases s with
      | mk d => simp [ByteArray.size] at h0; rw [h0]
    rw [HF.out, fnV_no HF.out]
    subst hs
    clear h0 HF
    go_enter Tryz.func185, Tryz.ntmps185
    go_wp2_with fail
    go_returns
    exact ⟨rfl, Below.refl _ _⟩
  · have hne : bl s ≠ [] := fun e => h0 (by rw [← bl_len, e]; rfl)
    have hs : s.toList.isEmpty = false := bl_ne hne
    by_cases h18 : s.size > 18
    · have HF : Hid (okN (bl s) = false) := by
        show _ = _
        unfold okN
        rw [decide_eq_false (by rw [bl_len]; omega)]
        simp
      rw [HF.out, fnV_no HF.out]
      clear HF
      go_enter Tryz.func185, Tryz.ntmps185
      go_wp2_with fail
      go_returns
      exact ⟨rfl, Below.refl _ _⟩
    · have hN : s.size ≤ 18 := by omega
      have HK : Hid ((∀ b ∈ bl s, isD b = true) → okN (bl s) = true) := fun h => by
        unfold okN
        rw [decide_eq_true (by rw [bl_len]; omega), List.all_eq_true.2 h]
        simpa using hne
      have HB : Hid (∀ b ∈ bl s, isD b = false → okN (bl s) = false) := fun b hb h => by
        unfold okN
        have : (bl s).all isD = false := List.all_eq_false.2 ⟨b, hb, by simp [h]⟩
        rw [this]
        simp
      have HM : Hid (∀ k (h : k < s.size), s[k]'h ∈ bl s) := fun k h => by
        rw [← bl_get s k h]
        exact List.getElem_mem _
      have HT : Hid ((bl s).take s.size = bl s) := List.take_of_length_le (by rw [bl_len]; exact Nat.le_refl _)
      have HV : Hid (∀ k (h : k < s.size), numV 0 ((bl s).take (k + 1)) = 10 * numV 0 ((bl s).take k) + ((s[k]'h).toNat - 48)) := fun k h => by
        rw [List.take_succ_eq_append_getElem (by rw [bl_len]; exact h), numV_app, numV_one, dv_eq, bl_get s k h]
        omega
      have HL : Hid (∀ k, k ≤ s.size → (∀ b ∈ (bl s).take k, isD b = true) → numV 0 ((bl s).take k) < 1000000000000000000) := fun k hk h => by
        refine Nat.lt_of_lt_of_le (numV_lt _ h) (Nat.le_trans (Nat.pow_le_pow_right (by decide) (show _ ≤ 18 from ?_)) (by decide))
        rw [List.length_take, bl_len]
        omega
      have HA : Hid (∀ k (h : k < s.size), (∀ b ∈ (bl s).take k, isD b = true) → isD (s[k]'h) = true → ∀ b ∈ (bl s).take (k + 1), isD b = true) := fun k h h1 h2 => all_take h1 (by rw [bl_len]; exact h) h2
      clear h0 h18
      go_enter Tryz.func185, Tryz.ntmps185
      go_wp2_with fail
      go_loopw [4] (fun nv wr => ∃ k : Nat, k ≤ s.size ∧ nv = .int .u64 (numV 0 ((bl s).take k) : Nat) ∧ Hid (∀ b ∈ (bl s).take k, isD b = true) ∧ wr = w.iter s k) (fun _ wr => s.size - wr.iterPos w.heap.size)
      case atStart => exact ⟨0, by omega, rfl, fun b hb => absurd hb (by simp), rfl⟩
      case round =>
        obtain ⟨k, hk, rfl, hall, rfl⟩ := hrel
        by_cases hlt : k < s.size
        · have hm := HM.out k hlt
          by_cases ha : (s[k]'hlt).toNat < 128
          · have hnx := fun ty => run_next_ascii (P := Tryz.prog) w s k ty hlt ha
            by_cases hd : 48 ≤ (s[k]'hlt).toNat ∧ (s[k]'hlt).toNat ≤ 57
            · have hv := HV.out k hlt
              have hl := HL.out k hk hall.out
              have hall2 := HA.out k hlt hall.out (isD_iff.2 hd)
              have hl2 := HL.out (k + 1) (by omega) hall2
              have HALL2 := Lib.hid hall2
              rw [hv] at hl2
              have HV2 := Lib.hid hv
              clear hv hall2 hm ha HA HL HV HM HB HK
              generalize numV 0 ((bl s).take k) = n at *
              generalize (s[k]'hlt).toNat = c at *
              go_wp2_with fail
              refine ⟨⟨k + 1, by omega, val_int ?_, HALL2, rfl⟩, by simp only [World.iterPos_iter]; omega⟩
              rw [HV2.out]
              omega
            · have hB := HB.out _ hm (by cases h : isD (s[k]'hlt) with | false => rfl | true => exact absurd (isD_iff.1 h) hd)
              have HBB := Lib.hid hB
              clear hm ha HA HL HV HM HB HK hB
              generalize numV 0 ((bl s).take k) = n at *
              generalize (s[k]'hlt).toNat = c at *
              by_cases h48 : c < 48
              · go_wp2_with fail
                go_returns
                exact ⟨by rw [HBB.out, fnV_no HBB.out]; rfl, bel_iter _ _ _⟩
              · go_wp2_with fail
                go_returns
                exact ⟨by rw [HBB.out, fnV_no HBB.out]; rfl, bel_iter _ _ _⟩
          · have hnx := fun ty => run_next_any (P := Tryz.prog) w s k ty hlt
            have hB := HB.out _ hm (by cases h : isD (s[k]'hlt) with | false => rfl | true => exact absurd (isD_iff.1 h) (by omega))
            have hdh := decode_high s k hlt (by omega)
            have HBB := Lib.hid hB
            clear hm ha HA HL HV HM HB HK hB
            generalize numV 0 ((bl s).take k) = n at *
            generalize Utf8.decode s k = dc at *
            obtain ⟨c, m⟩ := dc
            simp only at hdh hnx
            go_wp2_with fail
            go_returns
            exact ⟨by rw [HBB.out, fnV_no HBB.out]; rfl, bel_iter _ _ _⟩
        · obtain rfl : k = s.size := by omega
          have hnx := fun ty => run_next_end (P := Tryz.prog) w s s.size ty (Nat.lt_irrefl _)
          have hB := HK.out (by have := hall.out; rw [HT.out] at this; exact this)
          have HBB := Lib.hid hB
          have hl := HL.out s.size (Nat.le_refl _) hall.out
          rw [HT.out] at hl
          rw [HT.out]
          clear HA HL HV HM HB HK hB
          have HN := Lib.hid (rfl : numV 0 (bl s) = numV 0 (bl s))
          generalize hnn : numV 0 (bl s) = n at *
          have HNN := Lib.hid hnn
          clear hnn HN
          go_wp2_with fail
          go_returns
          exact ⟨by rw [HBB.out, fnV_ok HBB.out, HNN.out]; rfl, bel_iter _ _ _⟩
end Go.Proofs.YtgohbkkeppknoaaGreatDoor
end
section
set_option linter.unusedVariables false
namespace Go.Proofs.YtgohbkkeppknoaaGreatDoor
open Go.RowKit Go.Sort
open Go.Lib (decDigits itoa)
/-- The library's table of powers of ten, as it is laid. -/
abbrev TenT (w : World) : Prop := Lib.TabIs Tryz.prog w "internal/strconv.uint64pow10" .u64 Lib.pow10Tab
theorem holds_zero0 (w : World) (T : TypeId) (nd : Nat) (hs : nd ≤ 24) : Holds (fun (b : UInt8) => Value.int .u8 (b.toNat : Int)) (w.alloc (.cells Lib.zeros24 T)) w.heap.size 0 (Array.replicate nd (0 : UInt8)) := fun j hj => by
  have hj' : j < nd := by simpa using hj
  refine ⟨?_, World.frozen?_alloc_new _ _ _ _⟩
  rw [World.cell?_alloc_new, Lib.zeros24_at _ (by omega), getElem!_pos _ j hj]
  simp
theorem fin_pos0 (w : World) (o : Obj) (dk : Array UInt8) (k : Nat) : ∃ os, (putRow (fun (b : UInt8) => Value.int .u8 (b.toNat : Int)) (w.alloc o) w.heap.size 0 dk).drewN k = grow (w.drewN k) os := by
  rw [alloc_eq_grow]
  obtain ⟨os', _, e⟩ := putRow_grow_new (fun (b : UInt8) => Value.int .u8 (b.toNat : Int)) w #[o] w.heap.size 0 dk (Nat.le_refl _)
  exact ⟨os', by rw [e]; rfl⟩
theorem bel_growN (w : World) (k : Nat) (os : Array Obj) : Below w.heap.size w (grow (w.drewN k) os) := below_regrown w (w.drewN k).drawn os
set_option maxHeartbeats 6400000 in
set_option maxRecDepth 100000 in
theorem ifmtU_any (u : Nat) (hu64 : u < 18446744073709551616) (w : World) (htab : TenT w) :
    Calls Tryz.prog 319 #[.int .u64 u, .int .i64 10] w fun e w' => e = .returned (.string ⟨(decDigits u).toArray⟩) ∧ Below w.heap.size w w' := by
  by_cases hs : u < 100
  · have hS := fun w' => Any.internal_strconv_small { fmtI with } u hs w'
    have hs' : (u : Int) < 100 := by omega
    have hv : wrap64 (u : Int) = u := IntWalk.wrap64_in _ ⟨by omega, by omega⟩
    obtain ⟨t, ht⟩ : ∃ t : ByteArray, ⟨(decDigits u).toArray⟩ = t := ⟨_, rfl⟩
    have hS' : ∀ w', Calls Tryz.prog 325 #[.int .i64 u] w' fun e w'' => e = .returned (.string t) ∧ w'' = w' := fun w' => by
      rw [← ht]
      exact hS w'
    rw [ht]
    clear hS ht
    go_enter Tryz.func319, Tryz.ntmps319
    go_wp2_with (go_at_call 325; (with_reducible refine (hS' _).mono ?_); rintro e w1 ⟨rfl, rfl⟩)
    go_returns
    exact ⟨rfl, Below.refl _ _⟩
  · have hu1 : 1 ≤ u := by omega
    have hnd20 : Lib.nDigits u ≤ 20 := by have := Lib.numDigits_eq u hu1 hu64; split at this <;> omega
    have hb3 : Lib.nDigits u ≤ 24 := by omega
    have hs' : ¬ ((u : Int) < 100) := by omega
    have hsl1 : ∀ W, (Instr.sliceAt 406 (.pointer (some ⟨w.heap.size, 0, none⟩)) none (some (.int .i64 (Lib.nDigits u : Int))) none).run Tryz.prog W = .ok (.slice (some ⟨w.heap.size, 0, none⟩) (Lib.nDigits u) 24) W := fun W => by
      rw [run_sliceAt_array_h W 406 ⟨w.heap.size, 0, none⟩ (by kernel_rfl) .i64 (Lib.nDigits u : Int) (by omega) (by rw [show Tryz.prog.arrayLen 406 = 24 by kernel_rfl]; omega)]
      go_simp
      first | done | omega | rfl
    have hH0 := holds_zero0 w 406 (Lib.nDigits u) (by omega)
    have hfmt : Calls Tryz.prog 327 #[.slice (some ⟨w.heap.size, 0, none⟩) (Array.replicate (Lib.nDigits u) (0 : UInt8)).size 24, .int .u64 u] (w.alloc (.cells Lib.zeros24 406)) _ := Any.internal_strconv_formatBase10 { fmtI with } w.heap.size 0 24 u (Array.replicate (Lib.nDigits u) 0) (w.alloc (.cells Lib.zeros24 406)) hH0 (by rw [Array.size_replicate]; exact Lib.lt_pow_nDigits u) hu64 (by rw [Array.size_replicate]; omega)
    rw [Array.size_replicate] at hfmt
    have hnd : Calls Tryz.prog 326 #[.int .u64 u] (w.alloc (.cells Lib.zeros24 406)) _ := Any.internal_strconv_numDigits { fmtI with } u hu1 hu64 _ (Lib.tabIs_alloc htab _)
    have HH0 := Lib.hid hH0
    clear hH0
    go_enter Tryz.func319, Tryz.ntmps319
    go_wp2_with (first
      | (go_at_call 326; (refine hnd.mono ?_); rintro e w' ⟨rfl, rfl⟩)
      | (go_at_call 327; (refine hfmt.mono ?_); rintro e w' ⟨rfl, k, v', dk, rfl, hF⟩; have hcv : (convert 59 9 (.slice (some ⟨w.heap.size, 0, none⟩) (Lib.nDigits u) 24)).run Tryz.prog ((putRow (fun (b : UInt8) => Value.int .u8 (b.toNat : Int)) (w.alloc (.cells Lib.zeros24 406)) w.heap.size 0 dk).drewN k) = .ok (.string ⟨(decDigits u).toArray⟩) ((putRow (fun (b : UInt8) => Value.int .u8 (b.toNat : Int)) (w.alloc (.cells Lib.zeros24 406)) w.heap.size 0 dk).drewN k) := by (
        have h := run_convert_bytes_back (P := Tryz.prog) ((putRow (fun (b : UInt8) => Value.int .u8 (b.toNat : Int)) (w.alloc (.cells Lib.zeros24 406)) w.heap.size 0 dk).drewN k) 59 9 5 ⟨w.heap.size, 0, none⟩ 24 (decDigits u) Tryz.underlying59 Tryz.underlying5 Tryz.underlying9 (fun j hj => by
          rw [Lib.row_is_numeral hF j hj, Lib.add_plain, World.cell?_drewN]
          exact cell?_putRow (fun (b : UInt8) => Value.int .u8 (b.toNat : Int)) _ w.heap.size 0 _ dk HH0.out (by rw [hF.size, Array.size_replicate]) j (by rw [hF.size]; rw [Lib.decDigits_length] at hj; exact hj))
        rw [Lib.decDigits_length] at h
        exact h)))
    obtain ⟨os, eo⟩ := fin_pos0 w (.cells Lib.zeros24 406) dk k
    go_returns
    exact ⟨rfl, by rw [eo]; exact bel_growN w k os⟩
set_option maxRecDepth 100000 in
theorem fmtU_any (u : Nat) (hu64 : u < 18446744073709551616) (w : World) (htab : TenT w) :
    Calls Tryz.prog 267 #[.int .u64 u, .int .i64 10] w fun e w' => e = .returned (.string ⟨(decDigits u).toArray⟩) ∧ Below w.heap.size w w' := by
  have hI := ifmtU_any u hu64 w htab
  generalize (⟨(decDigits u).toArray⟩ : ByteArray) = t at *
  go_enter Tryz.func267, Tryz.ntmps267
  go_wp2_with (go_at_call 319; (with_reducible refine hI.mono ?_); rintro e w1 ⟨rfl, hb1⟩)
  go_returns
  exact ⟨rfl, hb1⟩
end Go.Proofs.YtgohbkkeppknoaaGreatDoor
end
section
set_option linter.unusedVariables false
namespace Go.Proofs.YtgohbkkeppknoaaGreatDoor
open Go.RowKit
open Go.Lib (decDigits itoa)
abbrev u8s (l : List UInt8) : List Value := l.map fun b => Value.int .u8 (b.toNat : Int)
abbrev strV (l : List UInt8) : Value := .string ⟨l.toArray⟩
theorem str_app (l m : List UInt8) : (⟨l.toArray⟩ : ByteArray) ++ ⟨m.toArray⟩ = ⟨(l ++ m).toArray⟩ := by
  apply ByteArray.ext
  simp
theorem str_size (l : List UInt8) : (⟨l.toArray⟩ : ByteArray).size = l.length := by simp [ByteArray.size]
theorem run_convert_own {w : World} {B : Nat} (A : Option Addr) (c : Nat) (l : List UInt8) (hne : l ≠ []) (hr : Rd w B A (u8s l)) : (convert 59 9 (.slice A l.length c)).run Tryz.prog w = .ok (strV l) w := by
  have h0 : 0 < l.length := List.length_pos_iff.2 hne
  obtain ⟨b, o, rfl, _, _⟩ := hr.get 0 (by simpa using h0)
  refine run_convert_bytes_back (P := Tryz.prog) w 59 9 5 ⟨b, o, none⟩ c l Tryz.underlying59 Tryz.underlying5 Tryz.underlying9 (fun j hj => ?_)
  obtain ⟨b', o', e, _, hc⟩ := hr.get j (by simpa using hj)
  injection e with e
  injection e with e1 e2
  subst e1 e2
  rw [Lib.add_plain, hc, List.getElem_map]
def lenV : Value → Nat
  | .slice _ n _ => n
  | _ => 0
theorem own_lenV {w : World} {base size n : Nat} {e : TypeId} {v : Value} {xs : List Value} (h : w.ownsRow base e size v n xs) : lenV v = n := by
  obtain ⟨A, c, rfl, _⟩ := own_form h
  rfl
theorem u8_infoN : (Tryz.prog.info? 5).map (fun i => (i.zero, i.size, i.bytes)) = some (some (.int .u8 0), 1, 1) := by kernel_rfl
theorem nD20 (u : Nat) (h : u < 18446744073709551616) : (decDigits u).length ≤ 20 := by
  rw [Go.Lib.decDigits_length]
  exact Go.Lib.nDigits_le20 u h
/-- What has been told of the digits behind the point so far. -/
structure FrS (p : Nat) (pre : List UInt8) (m q : Nat) : Prop where
  eq : pre ++ fracF m q = fracF 16 p
  lt : q < 65536
  z : q * 10 ^ m % 65536 = 0
  len : pre.length + m = 16
theorem fracF_succ (n p : Nat) : fracF (n + 1) p = if p = 0 then [] else UInt8.ofNat (48 + p * 10 / 65536) :: fracF n (p * 10 % 65536) := rfl
theorem FrS.start {p : Nat} (h : p < 65536) : FrS p [] 16 p := ⟨rfl, h, ten16 p, rfl⟩
theorem FrS.up {p m q : Nat} {pre : List UInt8} (h : FrS p pre m q) (hq : 0 < q) : ∃ m', m = m' + 1 ∧ FrS p (pre ++ [UInt8.ofNat (48 + q * 10 / 65536)]) m' (q * 10 % 65536) := by
  cases m with
  | zero =>
    have := h.z
    rw [Nat.pow_zero, Nat.mul_one, Nat.mod_eq_of_lt h.lt] at this
    omega
  | succ m =>
    refine ⟨m, rfl, ?_, Nat.mod_lt _ (by decide), frac_step (by have := h.z; rw [Nat.pow_succ] at this; exact this), by have := h.len; simp; omega⟩
    rw [← h.eq, List.append_assoc]
    congr 1
    rw [fracF_succ, if_neg (by omega)]
    rfl
theorem FrS.done {p m : Nat} {pre : List UInt8} (h : FrS p pre m 0) : pre = fracF 16 p := by
  have := h.eq
  rw [fracF_zero, List.append_nil] at this
  exact this
set_option maxRecDepth 100000 in
set_option maxHeartbeats 8000000 in
theorem fshow_any (x : Int) (hx : in64 x) (w : World) (htab : TenT w) : Calls Tryz.prog 192 #[.int .i64 x] w fun e w' => e = .returned (strV (showL x)) ∧ Below w.heap.size w w' := by
  obtain ⟨h0, h1⟩ := hx
  obtain ⟨n, hn⟩ : ∃ n, x.natAbs = n := ⟨_, rfl⟩
  have hF := fmtU_any (n / 65536) (by omega) w htab
  have hp := nD20 (n / 65536) (by omega)
  obtain ⟨D, hD⟩ : ∃ D, decDigits (n / 65536) = D := ⟨_, rfl⟩
  rw [hD] at hF hp
  have hd : (n : Int).tdiv 65536 = ((n / 65536 : Nat) : Int) := by rw [Int.tdiv_eq_ediv_of_nonneg (by omega)]; omega
  have hm : (n : Int).tmod 65536 = ((n % 65536 : Nat) : Int) := by rw [Int.tmod_eq_emod_of_nonneg (by omega)]; omega
  have hm2 : (n : Int) % 65536 = ((n % 65536 : Nat) : Int) := by omega
  have hpt : (n % 65536) < 65536 := Nat.mod_lt _ (by decide)
  by_cases hneg : x < 0
  · have hxn : x = -(n : Int) := by omega
    have HS : Hid (showL x = [45] ++ (D ++ ptL (n % 65536))) := by show _ = _; unfold showL; rw [if_pos hneg, hn, hD]
    have hwr : IntKind.u64.wrap (-IntKind.u64.wrap (-(n : Int))) = (n : Int) := by rw [IntKind.wrap_u64, IntKind.wrap_u64]; omega
    have hn1 : 1 ≤ n := by omega
    have hlt : decide (-(n : Int) < 0) = true := decide_eq_true (by omega)
    subst hxn
    clear hn hneg hD htab
    have hsz : (⟨D.toArray⟩ : ByteArray).size ≤ 20 := by rw [str_size]; exact hp
    have hst : (⟨#[45]⟩ : ByteArray) ++ ⟨D.toArray⟩ = ⟨(45 :: D).toArray⟩ := str_app [45] D
    have hsz2 : (⟨(45 :: D).toArray⟩ : ByteArray).size ≤ 21 := by rw [str_size]; simpa using hp
    obtain ⟨p, hpp⟩ : ∃ p, n % 65536 = p := ⟨_, rfl⟩
    rw [hpp] at hm hm2 hpt
    have HS2 : Hid (showL (-(n : Int)) = (45 :: D) ++ ptL p) := by have := HS.out; rw [hpp] at this; show _ = _; rw [this] <;> simp
    have HST := Lib.hid hst
    have HSZ := Lib.hid hsz2
    clear HS hpp
    generalize hT : (⟨D.toArray⟩ : ByteArray) = T at *
    generalize hU : (⟨((45 :: D)).toArray⟩ : ByteArray) = U at *
    have HU := Lib.hid hU
    clear hT hU
    by_cases h0p : p = 0
    · subst h0p
      have hb0 : (((0 : Nat) : Int) == 0) = true := rfl
      have HE : Hid (showL (-(n : Int)) = (45 :: D)) := by have := HS2.out; show _ = _; rw [this]; simp [ptL]
      go_enter Tryz.func192, Tryz.ntmps192
      go_wp2_with (go_at_call 267; (refine hF.mono ?_); rintro e w1 ⟨rfl, hb1⟩)
      go_returns
      exact ⟨by rw [HE.out]; show Ending.returned (Value.string U) = .returned (.string ⟨((45 :: D)).toArray⟩); rw [HU.out], hb1⟩
    · have hb0 : ((p : Int) == 0) = false := by simp; omega
      have HE : Hid (showL (-(n : Int)) = (45 :: D) ++ 46 :: fracF 16 p) := by have := HS2.out; show _ = _; rw [this]; simp [ptL, h0p]
      have hS := FrS.start hpt
      have HNE : Hid (fracF 16 p ≠ []) := by show fracF 16 p ≠ []; unfold fracF; rw [if_neg h0p]; simp
      go_enter Tryz.func192, Tryz.ntmps192
      go_wp2_with (go_at_call 267; (refine hF.mono ?_); rintro e w1 ⟨rfl, hb1⟩)
      clear hF hsz hsz2 hd hm hm2 hb0 h0p hpt hp
      go_loopw [6, 7] (fun qv bv wr => ∃ (pre : List UInt8) (m q : Nat), Hid (FrS p pre m q) ∧ qv = .int .u64 (q : Nat) ∧ wr.ownsRow w1.heap.size 5 1 bv pre.length (u8s pre) ∧ Below w1.heap.size w1 wr) (fun _ bv _ => 16 - lenV bv)
      case atStart => exact ⟨[], 16, p, hS, rfl, World.ownsRow_nil _ _ _ _, Below.refl _ _⟩
      case round =>
        obtain ⟨pre, m, q, hf, rfl, hown, hbr⟩ := hrel
        have hql := hf.out.lt
        have hln := hf.out.len
        have hlv := own_lenV hown
        by_cases hq : 0 < q
        · obtain ⟨m', rfl, hup⟩ := hf.out.up hq
          have HUP := Lib.hid hup
          obtain ⟨d, hd⟩ : ∃ d, q * 10 / 65536 = d := ⟨_, rfl⟩
          have hd10 : d < 10 := by omega
          obtain ⟨q', hq'⟩ : ∃ q', q * 10 % 65536 = q' := ⟨_, rfl⟩
          have HD := Lib.hid hd
          have HQ := Lib.hid hq'
          have v1 : ((q : Int) * 10).tdiv 65536 = (d : Int) := by rw [Int.tdiv_eq_ediv_of_nonneg (by omega)]; omega
          have v2 : ((q : Int) * 10).tmod 65536 = (q' : Int) := by rw [Int.tmod_eq_emod_of_nonneg (by omega)]; omega
          have v3 : (q : Int) * 10 / 65536 = (d : Int) := by omega
          have v4 : (q : Int) * 10 % 65536 = (q' : Int) := by omega
          have v5 : IntKind.u8.wrap (48 + (d : Int)) = ((UInt8.ofNat (48 + d)).toNat : Int) := by rw [ofNat_dig hd10, IntKind.wrap_u8]; omega
          have hsz := hbr.size
          have o1 : (pre.length + 1) * 1 ≤ 140737488355328 := by omega
          have o2 : pre.length + 1 ≤ 9223372036854775807 := by omega
          have hlv3 : 16 - (pre.length + 1) < 16 - lenV u7 := by omega
          have HLV := Lib.hid hlv3
          clear hup hd hq' hln hlv hlv3
          go_wp2_with (at_builtin; refine app1 rfl _ _ _ rfl Tryz.underlying59 u8_infoN rfl Nat.one_pos rfl rfl hown hbr (Nat.le_refl _) hsz rfl ints1 o1 o2 ?_; intro v' w' hown' hbel' hlt' hgr _; have hlw := own_lenV hown')
          refine ⟨⟨pre ++ [UInt8.ofNat (48 + d)], m', q', ?_, rfl, ?_, hbel'⟩, ?_⟩
          · have := HUP.out
            rw [HD.out, HQ.out] at this
            exact this
          · simpa using hown'
          · rw [hlw]
            exact HLV.out
        · obtain rfl : q = 0 := by omega
          obtain rfl := hf.out.done
          obtain ⟨A, c, rfl, hc, _, hr, _⟩ := own_form hown
          have hcv := run_convert_own A c (fracF 16 p) HNE.out hr
          have hFL := fracF_len 16 p
          have HE2 := HE.out
          generalize fracF 16 p = FL at *
          have hs1 : U ++ (⟨#[46]⟩ : ByteArray) = ⟨((45 :: D) ++ [46]).toArray⟩ := by rw [← HU.out]; exact str_app _ _
          have hz1 : (⟨((45 :: D) ++ [46]).toArray⟩ : ByteArray).size ≤ 22 := by have := HSZ.out; rw [← HU.out, str_size] at this; rw [str_size]; simp at this ⊢ <;> omega
          have hz2 : (⟨FL.toArray⟩ : ByteArray).size ≤ 16 := by rw [str_size]; exact hFL
          have hz0 := HSZ.out
          have hst2 : (⟨((45 :: D) ++ [46]).toArray⟩ : ByteArray) ++ ⟨FL.toArray⟩ = ⟨((45 :: D) ++ [46] ++ FL).toArray⟩ := str_app _ _
          have HS3 : Hid ((⟨((45 :: D) ++ [46] ++ FL).toArray⟩ : ByteArray) = ⟨((45 :: D) ++ 46 :: FL).toArray⟩) := by show _ = _; simp
          have HS4 := Lib.hid hst2
          clear hst2
          generalize (⟨((45 :: D) ++ [46]).toArray⟩ : ByteArray) = V at *
          go_wp2_with fail
          go_returns
          exact ⟨by rw [HE2]; show Ending.returned (Value.string (V ++ ⟨FL.toArray⟩)) = .returned (.string ⟨((45 :: D) ++ 46 :: FL).toArray⟩); rw [HS4.out, HS3.out], hb1.trans (hbr.mono hb1.size)⟩
  · have hxn : x = (n : Int) := by omega
    have HS : Hid (showL x = D ++ ptL (n % 65536)) := by show _ = _; unfold showL; rw [if_neg hneg, hn, hD, List.nil_append]
    have hwr : IntKind.u64.wrap (n : Int) = (n : Int) := by rw [IntKind.wrap_u64]; omega
    have hlt : decide ((n : Int) < 0) = false := decide_eq_false (by omega)
    subst hxn
    clear hn hneg hD htab
    have hsz : (⟨D.toArray⟩ : ByteArray).size ≤ 20 := by rw [str_size]; exact hp
    have hst : (⟨#[]⟩ : ByteArray) ++ ⟨D.toArray⟩ = ⟨D.toArray⟩ := str_app [] D
    have hsz2 : (⟨D.toArray⟩ : ByteArray).size ≤ 21 := by omega
    obtain ⟨p, hpp⟩ : ∃ p, n % 65536 = p := ⟨_, rfl⟩
    rw [hpp] at hm hm2 hpt
    have HS2 : Hid (showL (n : Int) = D ++ ptL p) := by have := HS.out; rw [hpp] at this; show _ = _; rw [this] <;> simp
    have HST := Lib.hid hst
    have HSZ := Lib.hid hsz2
    clear HS hpp
    generalize hT : (⟨D.toArray⟩ : ByteArray) = T at *
    have HU := Lib.hid hT
    clear hT
    by_cases h0p : p = 0
    · subst h0p
      have hb0 : (((0 : Nat) : Int) == 0) = true := rfl
      have HE : Hid (showL (n : Int) = D) := by have := HS2.out; show _ = _; rw [this]; simp [ptL]
      go_enter Tryz.func192, Tryz.ntmps192
      go_wp2_with (go_at_call 267; (refine hF.mono ?_); rintro e w1 ⟨rfl, hb1⟩)
      go_returns
      exact ⟨by rw [HE.out]; show Ending.returned (Value.string T) = .returned (.string ⟨(D).toArray⟩); rw [HU.out], hb1⟩
    · have hb0 : ((p : Int) == 0) = false := by simp; omega
      have HE : Hid (showL (n : Int) = D ++ 46 :: fracF 16 p) := by have := HS2.out; show _ = _; rw [this]; simp [ptL, h0p]
      have hS := FrS.start hpt
      have HNE : Hid (fracF 16 p ≠ []) := by show fracF 16 p ≠ []; unfold fracF; rw [if_neg h0p]; simp
      go_enter Tryz.func192, Tryz.ntmps192
      go_wp2_with (go_at_call 267; (refine hF.mono ?_); rintro e w1 ⟨rfl, hb1⟩)
      clear hF hsz hsz2 hd hm hm2 hb0 h0p hpt hp
      go_loopw [6, 7] (fun qv bv wr => ∃ (pre : List UInt8) (m q : Nat), Hid (FrS p pre m q) ∧ qv = .int .u64 (q : Nat) ∧ wr.ownsRow w1.heap.size 5 1 bv pre.length (u8s pre) ∧ Below w1.heap.size w1 wr) (fun _ bv _ => 16 - lenV bv)
      case atStart => exact ⟨[], 16, p, hS, rfl, World.ownsRow_nil _ _ _ _, Below.refl _ _⟩
      case round =>
        obtain ⟨pre, m, q, hf, rfl, hown, hbr⟩ := hrel
        have hql := hf.out.lt
        have hln := hf.out.len
        have hlv := own_lenV hown
        by_cases hq : 0 < q
        · obtain ⟨m', rfl, hup⟩ := hf.out.up hq
          have HUP := Lib.hid hup
          obtain ⟨d, hd⟩ : ∃ d, q * 10 / 65536 = d := ⟨_, rfl⟩
          have hd10 : d < 10 := by omega
          obtain ⟨q', hq'⟩ : ∃ q', q * 10 % 65536 = q' := ⟨_, rfl⟩
          have HD := Lib.hid hd
          have HQ := Lib.hid hq'
          have v1 : ((q : Int) * 10).tdiv 65536 = (d : Int) := by rw [Int.tdiv_eq_ediv_of_nonneg (by omega)]; omega
          have v2 : ((q : Int) * 10).tmod 65536 = (q' : Int) := by rw [Int.tmod_eq_emod_of_nonneg (by omega)]; omega
          have v3 : (q : Int) * 10 / 65536 = (d : Int) := by omega
          have v4 : (q : Int) * 10 % 65536 = (q' : Int) := by omega
          have v5 : IntKind.u8.wrap (48 + (d : Int)) = ((UInt8.ofNat (48 + d)).toNat : Int) := by rw [ofNat_dig hd10, IntKind.wrap_u8]; omega
          have hsz := hbr.size
          have o1 : (pre.length + 1) * 1 ≤ 140737488355328 := by omega
          have o2 : pre.length + 1 ≤ 9223372036854775807 := by omega
          have hlv3 : 16 - (pre.length + 1) < 16 - lenV u7 := by omega
          have HLV := Lib.hid hlv3
          clear hup hd hq' hln hlv hlv3
          go_wp2_with (at_builtin; refine app1 rfl _ _ _ rfl Tryz.underlying59 u8_infoN rfl Nat.one_pos rfl rfl hown hbr (Nat.le_refl _) hsz rfl ints1 o1 o2 ?_; intro v' w' hown' hbel' hlt' hgr _; have hlw := own_lenV hown')
          refine ⟨⟨pre ++ [UInt8.ofNat (48 + d)], m', q', ?_, rfl, ?_, hbel'⟩, ?_⟩
          · have := HUP.out
            rw [HD.out, HQ.out] at this
            exact this
          · simpa using hown'
          · rw [hlw]
            exact HLV.out
        · obtain rfl : q = 0 := by omega
          obtain rfl := hf.out.done
          obtain ⟨A, c, rfl, hc, _, hr, _⟩ := own_form hown
          have hcv := run_convert_own A c (fracF 16 p) HNE.out hr
          have hFL := fracF_len 16 p
          have HE2 := HE.out
          generalize fracF 16 p = FL at *
          have hs1 : T ++ (⟨#[46]⟩ : ByteArray) = ⟨(D ++ [46]).toArray⟩ := by rw [← HU.out]; exact str_app _ _
          have hz1 : (⟨(D ++ [46]).toArray⟩ : ByteArray).size ≤ 22 := by have := HSZ.out; rw [← HU.out, str_size] at this; rw [str_size]; simp at this ⊢ <;> omega
          have hz2 : (⟨FL.toArray⟩ : ByteArray).size ≤ 16 := by rw [str_size]; exact hFL
          have hz0 := HSZ.out
          have hst2 : (⟨(D ++ [46]).toArray⟩ : ByteArray) ++ ⟨FL.toArray⟩ = ⟨(D ++ [46] ++ FL).toArray⟩ := str_app _ _
          have HS3 : Hid ((⟨(D ++ [46] ++ FL).toArray⟩ : ByteArray) = ⟨(D ++ 46 :: FL).toArray⟩) := by show _ = _; simp
          have HS4 := Lib.hid hst2
          clear hst2
          generalize (⟨(D ++ [46]).toArray⟩ : ByteArray) = V at *
          go_wp2_with fail
          go_returns
          exact ⟨by rw [HE2]; show Ending.returned (Value.string (V ++ ⟨FL.toArray⟩)) = .returned (.string ⟨(D ++ 46 :: FL).toArray⟩); rw [HS4.out, HS3.out], hb1.trans (hbr.mono hb1.size)⟩
end Go.Proofs.YtgohbkkeppknoaaGreatDoor
end
