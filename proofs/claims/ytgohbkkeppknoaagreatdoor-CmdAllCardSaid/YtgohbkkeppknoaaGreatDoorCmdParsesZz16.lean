/- Several texts in one: The reference's numbers as texts. (Printed by wip/tools/gennc2.py.) -/
import Derived.Test.YtgohbkkeppknoaaGreatDoorCmdParsesZz15
section
set_option linter.unusedVariables false
namespace Go.Proofs.YtgohbkkeppknoaaGreatDoor
open Go.RowKit
open Go.Lib (decDigits itoa nDigits)
/-- The digits of u, none for 0. -/
def decF (u : Nat) : List UInt8 := if u = 0 then [] else decDigits u
theorem decF_step {m : Nat} (h : 0 < m) : decF m = decF (m / 10) ++ [UInt8.ofNat (48 + m % 10)] := by
  unfold decF
  rw [if_neg (by omega)]
  by_cases h1 : m < 10
  · rw [Go.Lib.decDigits, dif_pos h1, if_pos (by omega), Nat.mod_eq_of_lt h1]
    rfl
  · rw [Go.Lib.decDigits, dif_neg h1, if_neg (by omega)]
theorem decF_len {m : Nat} (h : 0 < m) : 0 < (decF m).length := by
  rw [decF_step h]
  simp
theorem BigN.len0 {lo : Nat} {w : World} {s : Bool} {A : Option Addr} {n c : Nat} {z : Int} (h : BigN lo w (.agg #[.bool s, .slice A n c]) z) : s = decide (z < 0) ∧ (n = 0 ↔ z = 0) := by
  obtain ⟨A', c', l, e, h2, h3, h4, h5, h6, h7⟩ := h
  have e2 := congrArg (fun x : Value => match x with | .agg a => a[0]? | _ => none) e
  have e3 := congrArg (fun x : Value => match x with | .agg a => a[1]? | _ => none) e
  simp at e2 e3
  obtain ⟨rfl, rfl, rfl⟩ := e3
  refine ⟨e2, ?_⟩
  have := norm_zero h6
  rw [h7] at this
  rw [List.length_eq_zero_iff, this]
  omega
/-- The same number without its sign. -/
theorem BigN.abs {lo : Nat} {w : World} {s : Bool} {A : Option Addr} {n c : Nat} {z : Int} (h : BigN lo w (.agg #[.bool s, .slice A n c]) z) : BigN lo w (.agg #[.bool false, .slice A n c]) (z.natAbs : Int) := by
  obtain ⟨A', c', l, e, h2, h3, h4, h5, h6, h7⟩ := h
  have e3 := congrArg (fun x : Value => match x with | .agg a => a[1]? | _ => none) e
  simp at e3
  obtain ⟨rfl, rfl, rfl⟩ := e3
  exact ⟨A, c, l, by rw [decide_eq_false (by omega)], h2, h3, h4, h5, h6, by simpa using h7⟩
/-- What an operation tells where one lays a block (a), and one stores the number z into it (st). -/
def DagF (S : List (Option (Int ⊕ Value))) (a st lo : Nat) (z : Int) : Nat → Value → Value → World → Prop := fun i v v' w =>
  if i = a then ∃ g, v = .pointer (some ⟨g, 0, none⟩) ∧ lo < g ∧ ∃ b A n c, Bk w g 200 #[.bool b, .slice A n c]
  else if i = st then ∃ g, v' = .pointer (some ⟨g, 0, none⟩) ∧ BgC w g z else Sat (S.getD i none) v w
theorem DagF.nx {S : List (Option (Int ⊕ Value))} {a st lo : Nat} {z : Int} {i : Nat} {v v' : Value} {w w' : World} (hb : Below w.heap.size w w') (h : DagF S a st lo z i v v' w) : DagF S a st lo z i v v' w' := by
  unfold DagF at *
  by_cases ha : i = a
  · rw [if_pos ha] at *
    obtain ⟨g, e, hl, b, A, n, c, k⟩ := h
    exact ⟨g, e, hl, b, A, n, c, k.nx hb⟩
  · rw [if_neg ha] at *
    by_cases hs : i = st
    · rw [if_pos hs] at *
      obtain ⟨g, e, hC⟩ := h
      exact ⟨g, e, hC.nx hb⟩
    · rw [if_neg hs] at *
      exact Sat.nx hb h
theorem DagF.gb {S : List (Option (Int ⊕ Value))} {a st lo : Nat} {z : Int} {i : Nat} {v v' : Value} {w w' : World} {g : Nat} {b b' : Bool} {A A' : Option Addr} {n c n' c' : Nat} (hk : Bk w g 200 #[.bool b, .slice A n c]) (hg : w.grownBy w' (some g)) (hk' : Bk w' g 200 #[.bool b', .slice A' n' c']) (hz : BigN 0 w (.agg #[.bool b', .slice A' n' c']) z) (h : DagF S a st lo z i v v' w) : DagF S a st lo z i v v' w' := by
  unfold DagF at *
  by_cases ha : i = a
  · rw [if_pos ha] at *
    obtain ⟨g1, e, hl, b1, A1, n1, c1, k1⟩ := h
    by_cases hgg : g1 = g
    · subst hgg
      exact ⟨g1, e, hl, _, _, _, _, hk'⟩
    · exact ⟨g1, e, hl, b1, A1, n1, c1, k1.grown hg (fun e => by injection e with e; exact hgg e)⟩
  · rw [if_neg ha] at *
    by_cases hs : i = st
    · rw [if_pos hs] at *
      obtain ⟨g1, e, hC⟩ := h
      by_cases hgg : g1 = g
      · subst hgg
        exact ⟨g1, e, _, _, _, _, hk', hz.gbig hk hg⟩
      · exact ⟨g1, e, hC.gb hk hg hgg⟩
    · rw [if_neg hs] at *
      exact Sat.gb hk hg h
/-- What an operation tells where one (a) lays the byte d in a slice of its own. -/
def TxtF (S : List (Option (Int ⊕ Value))) (a : Nat) (d : Int) : Nat → Value → Value → World → Prop := fun i v v' w =>
  if i = a then ∃ g, v = .slice (some ⟨g, 0, none⟩) 1 1 ∧ Bk w g 5 #[.int .u8 d] else Sat (S.getD i none) v w
theorem TxtF.nx {S : List (Option (Int ⊕ Value))} {a : Nat} {d : Int} {i : Nat} {v v' : Value} {w w' : World} (hb : Below w.heap.size w w') (h : TxtF S a d i v v' w) : TxtF S a d i v v' w' := by
  unfold TxtF at *
  by_cases ha : i = a
  · rw [if_pos ha] at *
    obtain ⟨g, e, k⟩ := h
    exact ⟨g, e, k.nx hb⟩
  · rw [if_neg ha] at *
    exact Sat.nx hb h
theorem conv1 {w : World} (g d : Nat) (hd : d < 10) (k : Bk w g 5 #[.int .u8 (48 + d)]) : (convert 59 9 (.slice (some ⟨g, 0, none⟩) 1 1)).run Tryz.prog w = .ok (strV [UInt8.ofNat (48 + d)]) w := by
  have hr : RdL w 0 (some ⟨g, 0, none⟩) (u8s [UInt8.ofNat (48 + d)]) := fun i hi => by
    obtain rfl : i = 0 := by simpa using hi
    refine ⟨g, 0, rfl, Nat.zero_le _, k.lt, ?_⟩
    rw [k.cell]
    show some (Value.int .u8 (48 + (d : Int))) = some (Value.int .u8 ((UInt8.ofNat (48 + d)).toNat : Int))
    rw [ofNat_dig hd]
    congr 2
  have := run_convert_own (B := w.heap.size) (some ⟨g, 0, none⟩) 1 [UInt8.ofNat (48 + d)] (by simp) hr.rd
  simpa using this
theorem nd_le : ∀ (k u : Nat), u < 10 ^ (k + 1) → nDigits u ≤ k + 1
  | 0, u, hu => by rw [Go.Lib.nDigits_small (by simpa using hu)]; decide
  | k + 1, u, hu => by
    by_cases h : u < 10
    · rw [Go.Lib.nDigits_small h]; omega
    · rw [Go.Lib.nDigits_big h]
      have := nd_le k (u / 10) (by rw [Nat.pow_succ] at hu; omega)
      omega
def strLen : Value → Nat
  | .string s => s.size
  | _ => 0
set_option maxRecDepth 100000 in
set_option maxHeartbeats 32000000 in
theorem rtext_any (va : Value) (z : Int) (w : World) {lo : Nat} (ha : BigN lo w va z) (hz : z.natAbs < 10 ^ 90) : Calls Tryz.prog 150 #[va] w fun e w' => e = .returned (strV (itoa z)) ∧ Below w.heap.size w w' := by
  obtain ⟨s, A, n, c, rfl⟩ := ha.shape
  obtain ⟨hs0, hn0⟩ := ha.len0
  have hL := ((Lie.start w).alloc #[.bool s, .slice A n c] 200).alloc #[.bool false, .slice A n c] 200
  simp only [World.size_alloc] at hL
  have k12 : Bk _ w.heap.size 200 #[.bool s, .slice A n c] := hL.k 1 (by simp)
  have k4 : Bk _ (w.heap.size + 1) 200 #[.bool false, .slice A n c] := hL.k 0 (by simp)
  have hN := ((ha.abs.any.alloc (.cells #[.bool s, .slice A n c] 200)).alloc (.cells #[.bool false, .slice A n c] 200))
  have hb2 := hL.bel
  have x1' : (w.alloc (.cells #[.bool s, .slice A n c] 200)).cell? ⟨w.heap.size, 1, none⟩ = some (.slice A n c) := (Bk.new w _ _).cell2.2
  have HS0 := Lib.hid hs0
  clear hs0 hn0
  go_enter Tryz.func150, Tryz.ntmps150
  go_wp2_with fail
  have hC0 : BgC _ (w.heap.size + 1) ((z.natAbs : Nat) : Int) := ⟨_, _, _, _, k4, hN⟩
  generalize (w.alloc (.cells #[.bool s, .slice A n c] 200)).alloc (.cells #[.bool false, .slice A n c] 200) = w2 at *
  obtain ⟨g4, hg4⟩ : ∃ g4, w.heap.size + 1 = g4 := ⟨_, rfl⟩
  obtain ⟨N, hNN⟩ : ∃ N, z.natAbs = N := ⟨_, rfl⟩
  rw [hg4, hNN] at hC0
  rw [hNN] at hz
  simp only [hg4]
  have hg14 : w.heap.size < g4 := by omega
  have HN := Lib.hid hNN
  clear hg4 hL k4 hN x1' ha hNN
  go_loopw [3] (fun sv wr => ∃ (m : Nat) (L : List UInt8), sv = .string ⟨L.toArray⟩ ∧ BgC wr g4 (m : Int) ∧ Hid (decF m ++ L = decF N ∧ m ≤ N) ∧ Bk wr w.heap.size 200 #[.bool s, .slice A n c] ∧ Below w.heap.size w wr) (fun sv _ => (decF N).length - strLen sv)
  case atStart => exact ⟨N, [], rfl, hC0, ⟨by simp, Nat.le_refl _⟩, k12, hb2⟩
  case round =>
    clear hC0 k12 hb2
    obtain ⟨m, L, rfl, hC, hinv, kr, hbr⟩ := hrel
    obtain ⟨s4, A4, n4, c4, k4, hN4⟩ := id hC
    obtain ⟨-, hn4⟩ := hN4.len0
    have hbz := hbr.size
    have hzr := kr.lt
    have hg4r := k4.lt
    obtain ⟨d0, d1⟩ := k4.cell2
    have hLN : L.length ≤ (decF N).length := by rw [← hinv.out.1]; simp
    by_cases hm : 0 < m
    · have hlt : 0 < n4 := by omega
      have hmb : m < 10 ^ 90 := Nat.lt_of_le_of_lt hinv.out.2 hz
      have hst := decF_step hm
      have hle := decF_len hm
      have hO := fun w' => of_any 10 w' (by omega) (by omega)
      have sm : Sm (m : Int) := sm_nat (Nat.lt_of_lt_of_le hmb (Nat.pow_le_pow_right (by decide) (by decide)))
      have sq : Sm ((m / 10 : Nat) : Int) := sm_nat (Nat.lt_of_le_of_lt (Nat.div_le_self _ _) (Nat.lt_of_lt_of_le hmb (Nat.pow_le_pow_right (by decide) (by decide))))
      have s10 : Sm 10 := sm_of (by omega) (by omega)
      have b10 : ((10 : Int).natAbs : Int) < Bp 38 := by have := Bp_mono (show 4 ≤ 38 by decide); rw [Bp4] at this; omega
      have hfl : flo (m : Int) 10 = ((m / 10 : Nat) : Int) := by unfold flo; omega
      have hqq : Sm (((m / 10 : Nat) : Int) * 10) := by
        rw [show ((m / 10 : Nat) : Int) * 10 = ((m / 10 * 10 : Nat) : Int) by simp]
        exact sm_nat (Nat.lt_of_le_of_lt (Nat.div_mul_le_self _ _) (Nat.lt_of_lt_of_le hmb (Nat.pow_le_pow_right (by decide) (by decide))))
      have hsub : (m : Int) - ((m / 10 : Nat) : Int) * 10 = ((m % 10 : Nat) : Int) := by omega
      have hlt10 : m % 10 < 10 := Nat.mod_lt _ (by decide)
      have HI : Hid (decF (m / 10) ++ (UInt8.ofNat (48 + m % 10) :: L) = decF N ∧ m / 10 ≤ N) := by
        refine ⟨?_, Nat.le_trans (Nat.div_le_self _ _) hinv.out.2⟩
        rw [← hinv.out.1, hst, List.append_assoc]
        rfl
      have HM : Hid ((decF N).length - (L.length + 1) < (decF N).length - L.length) := by
        have := congrArg List.length hinv.out.1
        rw [List.length_append] at this
        show _ < _
        omega
      have hLb : L.length ≤ 1000000 := by
        have h1 : (decF N).length ≤ 1000000 := by
          unfold decF
          split
          · simp
          · rw [Go.Lib.decDigits_length]
            have := nd_le 89 N hz
            omega
        omega
      clear hst hle hinv hmb hLN hn4
      generalize m / 10 = q at *
      generalize hd : m % 10 = d at *
      clear hd
      obtain ⟨B, hB⟩ : ∃ B, UInt8.ofNat (48 + d) = B := ⟨_, rfl⟩
      have hcv0 : ∀ (g : Nat) (w' : World), Bk w' g 5 #[.int .u8 (48 + d)] → (convert 59 9 (.slice (some ⟨g, 0, none⟩) 1 1)).run Tryz.prog w' = .ok (.string ⟨[B].toArray⟩) w' := fun g w' k => by
        rw [← hB]
        exact conv1 g d hlt10 k
      rw [hB] at HI
      clear hB
      obtain ⟨OB, hOB⟩ : ∃ OB : ByteArray, ⟨[B].toArray⟩ = OB := ⟨_, rfl⟩
      have hst : (⟨[B].toArray⟩ : ByteArray) ++ ⟨L.toArray⟩ = ⟨(B :: L).toArray⟩ := str_app [B] L
      have hz1 : (⟨[B].toArray⟩ : ByteArray).size ≤ 1 := by rw [str_size]; simp
      have hz2 : (⟨L.toArray⟩ : ByteArray).size ≤ 1000000 := by rw [str_size]; exact hLb
      have HM2 : Hid ((decF N).length - (⟨(B :: L).toArray⟩ : ByteArray).size < (decF N).length - (⟨L.toArray⟩ : ByteArray).size) := by show _ < _; rw [str_size, str_size]; exact HM.out
      rw [hOB] at hst hz1
      simp only [hOB] at hcv0
      obtain ⟨NB, hNB⟩ : ∃ NB : ByteArray, ⟨(B :: L).toArray⟩ = NB := ⟨_, rfl⟩
      rw [hNB] at hst HM2
      have HNB := Lib.hid hNB
      clear hOB hNB
      generalize (⟨L.toArray⟩ : ByteArray) = TL at *
      go_upto_region 4 with fail
      clear hlt
      refine wp_region_dag' 5 [] (fun i => if i = 4 then 3 else i)
        (DagF [bigS m, bigS 10, bigS q] 3 4 g4 (q : Int))
        (fun b w' => Below w.heap.size w w' ∧ BgC w' g4 (m : Int) ∧ Bk w' w.heap.size 200 #[.bool s, .slice A n c])
        (by kernel_rfl) (by kernel_rfl) (by kernel_rfl) (by kernel_rfl) ⟨below_drewN hbr 1, hC.nx (below_drewN (Below.refl _ _) 1), kr⟩ ?_ ?_
      case refine_1 =>
        intro K i o y wr b ho hG hs hdep hK
        have hG' := hG
        obtain ⟨hB, hC, hR⟩ := hG'
        rcases i with _ | i
        · obtain rfl : _ = o := Option.some.inj ho
          unfold StepTo
          simp only [↓reduceIte, Nat.zero_add, Nat.reduceAdd, Nat.reduceEqDiff, List.map_cons, List.map_nil, puts, updV, Act.put, List.setIfInBounds_toArray, List.set_cons_zero, List.set_cons_succ] at hK ⊢
          generalize y 0 = y0 at *; generalize y 1 = y1 at *; generalize y 2 = y2 at *; generalize y 3 = y3 at *; generalize y 4 = y4 at *
          clear hs
          obtain ⟨s1', A1', n1', c1', k1, hN⟩ := hC
          refine ldBig rfl _ rfl k1 rfl ?_
          exact ⟨rfl, hK _ _ hN hG (fun _ _ _ h => h)⟩
        rcases i with _ | i
        · obtain rfl : _ = o := Option.some.inj ho
          unfold StepTo
          simp only [↓reduceIte, Nat.zero_add, Nat.reduceAdd, Nat.reduceEqDiff, List.map_cons, List.map_nil, puts, updV, Act.put, List.setIfInBounds_toArray, List.set_cons_zero, List.set_cons_succ] at hK ⊢
          generalize y 0 = y0 at *; generalize y 1 = y1 at *; generalize y 2 = y2 at *; generalize y 3 = y3 at *; generalize y 4 = y4 at *
          clear hs
          go_wp2_with (go_at_call 151; refine (hO _).mono ?_; rintro e w2 ⟨v, rfl, hN, hb⟩)
          exact hK _ _ hN.any ⟨hB.trans (hb.mono hB.size), hC.nx hb, hR.nx hb⟩ (fun _ _ _ h => DagF.nx hb h)
        rcases i with _ | i
        · obtain rfl : _ = o := Option.some.inj ho
          have p0 : BigN 0 wr (y 0) m := hdep { on := 0, ground := .data } (by simp) rfl
          have p1 : BigN 0 wr (y 1) 10 := hdep { on := 1, ground := .data } (by simp) rfl
          unfold StepTo
          simp only [↓reduceIte, Nat.zero_add, Nat.reduceAdd, Nat.reduceEqDiff, List.map_cons, List.map_nil, puts, updV, Act.put, List.setIfInBounds_toArray, List.set_cons_zero, List.set_cons_succ] at hK ⊢
          generalize y 0 = y0 at *; generalize y 1 = y1 at *; generalize y 2 = y2 at *; generalize y 3 = y3 at *; generalize y 4 = y4 at *
          clear hs
          go_wp2_with (go_at_call 202; refine (floor_any _ _ _ _ _ p0 p1 (by omega) sm b10).mono ?_; rintro e w2 ⟨v, rfl, hN, hb⟩)
          exact hK _ _ (by rw [hfl] at hN; exact hN.any) ⟨hB.trans (hb.mono hB.size), hC.nx hb, hR.nx hb⟩ (fun _ _ _ h => DagF.nx hb h)
        rcases i with _ | i
        · obtain rfl : _ = o := Option.some.inj ho
          unfold StepTo
          simp only [↓reduceIte, Nat.zero_add, Nat.reduceAdd, Nat.reduceEqDiff, List.map_cons, List.map_nil, puts, updV, Act.put, List.setIfInBounds_toArray, List.set_cons_zero, List.set_cons_succ] at hK ⊢
          generalize y 0 = y0 at *; generalize y 1 = y1 at *; generalize y 2 = y2 at *; generalize y 3 = y3 at *; generalize y 4 = y4 at *
          clear hs
          have hb := (Below.refl wr.heap.size wr).alloc (Nat.le_refl _) (.cells #[.bool false, .slice none 0 0] 200)
          have hlt4 : g4 < wr.heap.size := (by obtain ⟨_, _, _, _, k, _⟩ := hC; exact k.lt)
          go_wp2_with fail
          exact hK _ _ ⟨_, rfl, hlt4, _, _, _, _, Bk.new _ _ _⟩ ⟨hB.alloc hB.size _, hC.nx hb, hR.nx hb⟩ (fun _ _ _ h => DagF.nx hb h)
        rcases i with _ | i
        · obtain rfl : _ = o := Option.some.inj ho
          have p2 : BigN 0 wr (y 2) q := hdep { on := 2, ground := .data } (by simp) rfl
          have p3 : ∃ g, (y 3) = .pointer (some ⟨g, 0, none⟩) ∧ g4 < g ∧ ∃ b A n c, Bk wr g 200 #[.bool b, .slice A n c] := hdep { on := 3, ground := .data } (by simp) rfl
          unfold StepTo
          simp only [↓reduceIte, Nat.zero_add, Nat.reduceAdd, Nat.reduceEqDiff, List.map_cons, List.map_nil, puts, updV, Act.put, List.setIfInBounds_toArray, List.set_cons_zero, List.set_cons_succ] at hK ⊢
          generalize y 0 = y0 at *; generalize y 1 = y1 at *; generalize y 2 = y2 at *; generalize y 3 = y3 at *; generalize y 4 = y4 at *
          clear hs
          obtain ⟨g, rfl, hlg, b5, A5, n5, c5, k5⟩ := p3
          obtain ⟨s9, A9, n9, c9, rfl⟩ := p2.shape
          refine stBig rfl _ _ rfl k5 rfl rfl rfl ?_
          intro w2 hk hg hs2
          exact ⟨rfl, hK undef _ ⟨g, rfl, _, _, _, _, hk, p2.gbig k5 hg⟩ ⟨below_of_gb hB hg (by omega) hB.size, hC.gb k5 hg (by omega), hR.grown hg (fun e => by injection e with e; omega)⟩ (fun _ _ _ h => DagF.gb k5 hg hk p2 h)⟩
        · exact absurd ho (by simp)
      case refine_2 =>
        intro y wr b hG hF hbs
        clear hbs
        obtain ⟨hB, hC, hR⟩ := hG
        have p3 : ∃ g, y 3 = .pointer (some ⟨g, 0, none⟩) ∧ g4 < g ∧ _ := hF 3 (by decide)
        have p4 : ∃ g, y 3 = .pointer (some ⟨g, 0, none⟩) ∧ BgC wr g q := hF 4 (by decide)
        obtain ⟨g5, e3, hg45, -⟩ := p3
        obtain ⟨g5', e3', hC5⟩ := p4
        rw [e3] at e3'
        injection e3' with e3'
        injection e3' with e3'
        injection e3' with e3'
        subst e3'
        simp only [Nat.zero_add, Nat.reduceAdd, List.map_cons, List.map_nil, puts, Act.put, List.setIfInBounds_toArray, List.set_cons_zero, List.set_cons_succ]
        generalize y 0 = y0 at *; generalize y 1 = y1 at *; generalize y 2 = y2 at *; generalize y 3 = y3 at *; generalize y 4 = y4 at *
        subst e3
        clear hF
        go_upto_region 5 with fail
        refine wp_region_dag' 12 [11, 10] id
          (TxtF [bigS m, bigS q, bigS 10, bigS (q * 10), bigS d, valS (.int .u64 d), valS (.int .u64 (48 + d)), valS (.int .u8 (48 + d)), none, valS (.string OB), valS (.string TL), valS (.string NB), valS (.string NB)] 8 (48 + d))
          (fun b w' => Below w.heap.size w w' ∧ BgC w' g4 (m : Int) ∧ BgC w' g5 (q : Int) ∧ Bk w' w.heap.size 200 #[.bool s, .slice A n c])
          (by kernel_rfl) (by kernel_rfl) (by kernel_rfl) (by kernel_rfl) ⟨below_drewN hB 1, hC.nx (below_drewN (Below.refl _ _) 1), hC5.nx (below_drewN (Below.refl _ _) 1), hR⟩ ?_ ?_
        case refine_1 =>
          intro K i o y wr b ho hG hs hdep hK
          have hG' := hG
          obtain ⟨hB, hC, hC5, hR⟩ := hG'
          rcases i with _ | i
          · obtain rfl : _ = o := Option.some.inj ho
            unfold StepTo
            simp only [↓reduceIte, Nat.zero_add, Nat.reduceAdd, Nat.reduceEqDiff, List.map_cons, List.map_nil, puts, updV, Act.put, List.setIfInBounds_toArray, List.set_cons_zero, List.set_cons_succ] at hK ⊢
            generalize y 0 = y0 at *; generalize y 1 = y1 at *; generalize y 2 = y2 at *; generalize y 3 = y3 at *; generalize y 4 = y4 at *; generalize y 5 = y5 at *; generalize y 6 = y6 at *; generalize y 7 = y7 at *; generalize y 8 = y8 at *; generalize y 9 = y9 at *; generalize y 10 = y10 at *; generalize y 11 = y11 at *; generalize y 12 = y12 at *
            clear hs
            obtain ⟨s1', A1', n1', c1', k1, hN⟩ := hC
            refine ldBig rfl _ rfl k1 rfl ?_
            exact ⟨rfl, hK _ _ hN hG (fun _ _ _ h => h)⟩
          rcases i with _ | i
          · obtain rfl : _ = o := Option.some.inj ho
            unfold StepTo
            simp only [↓reduceIte, Nat.zero_add, Nat.reduceAdd, Nat.reduceEqDiff, List.map_cons, List.map_nil, puts, updV, Act.put, List.setIfInBounds_toArray, List.set_cons_zero, List.set_cons_succ] at hK ⊢
            generalize y 0 = y0 at *; generalize y 1 = y1 at *; generalize y 2 = y2 at *; generalize y 3 = y3 at *; generalize y 4 = y4 at *; generalize y 5 = y5 at *; generalize y 6 = y6 at *; generalize y 7 = y7 at *; generalize y 8 = y8 at *; generalize y 9 = y9 at *; generalize y 10 = y10 at *; generalize y 11 = y11 at *; generalize y 12 = y12 at *
            clear hs
            obtain ⟨s1', A1', n1', c1', k1, hN⟩ := hC5
            refine ldBig rfl _ rfl k1 rfl ?_
            exact ⟨rfl, hK _ _ hN hG (fun _ _ _ h => h)⟩
          rcases i with _ | i
          · obtain rfl : _ = o := Option.some.inj ho
            unfold StepTo
            simp only [↓reduceIte, Nat.zero_add, Nat.reduceAdd, Nat.reduceEqDiff, List.map_cons, List.map_nil, puts, updV, Act.put, List.setIfInBounds_toArray, List.set_cons_zero, List.set_cons_succ] at hK ⊢
            generalize y 0 = y0 at *; generalize y 1 = y1 at *; generalize y 2 = y2 at *; generalize y 3 = y3 at *; generalize y 4 = y4 at *; generalize y 5 = y5 at *; generalize y 6 = y6 at *; generalize y 7 = y7 at *; generalize y 8 = y8 at *; generalize y 9 = y9 at *; generalize y 10 = y10 at *; generalize y 11 = y11 at *; generalize y 12 = y12 at *
            clear hs
            go_wp2_with (go_at_call 151; refine (hO _).mono ?_; rintro e w2 ⟨v, rfl, hN, hb⟩)
            exact hK _ _ hN.any ⟨hB.trans (hb.mono hB.size), hC.nx hb, hC5.nx hb, hR.nx hb⟩ (fun _ _ _ h => TxtF.nx hb h)
          rcases i with _ | i
          · obtain rfl : _ = o := Option.some.inj ho
            have p1 : BigN 0 wr (y 1) q := hdep { on := 1, ground := .data } (by simp) rfl
            have p2 : BigN 0 wr (y 2) 10 := hdep { on := 2, ground := .data } (by simp) rfl
            unfold StepTo
            simp only [↓reduceIte, Nat.zero_add, Nat.reduceAdd, Nat.reduceEqDiff, List.map_cons, List.map_nil, puts, updV, Act.put, List.setIfInBounds_toArray, List.set_cons_zero, List.set_cons_succ] at hK ⊢
            generalize y 0 = y0 at *; generalize y 1 = y1 at *; generalize y 2 = y2 at *; generalize y 3 = y3 at *; generalize y 4 = y4 at *; generalize y 5 = y5 at *; generalize y 6 = y6 at *; generalize y 7 = y7 at *; generalize y 8 = y8 at *; generalize y 9 = y9 at *; generalize y 10 = y10 at *; generalize y 11 = y11 at *; generalize y 12 = y12 at *
            clear hs
            go_wp2_with (go_at_call 196; refine (mul_any _ _ _ _ _ p1 p2 sq s10).mono ?_; rintro e w2 ⟨v, rfl, hN, hb⟩)
            exact hK _ _ hN.any ⟨hB.trans (hb.mono hB.size), hC.nx hb, hC5.nx hb, hR.nx hb⟩ (fun _ _ _ h => TxtF.nx hb h)
          rcases i with _ | i
          · obtain rfl : _ = o := Option.some.inj ho
            have p0 : BigN 0 wr (y 0) m := hdep { on := 0, ground := .data } (by simp) rfl
            have p3 : BigN 0 wr (y 3) (q * 10) := hdep { on := 3, ground := .data } (by simp) rfl
            unfold StepTo
            simp only [↓reduceIte, Nat.zero_add, Nat.reduceAdd, Nat.reduceEqDiff, List.map_cons, List.map_nil, puts, updV, Act.put, List.setIfInBounds_toArray, List.set_cons_zero, List.set_cons_succ] at hK ⊢
            generalize y 0 = y0 at *; generalize y 1 = y1 at *; generalize y 2 = y2 at *; generalize y 3 = y3 at *; generalize y 4 = y4 at *; generalize y 5 = y5 at *; generalize y 6 = y6 at *; generalize y 7 = y7 at *; generalize y 8 = y8 at *; generalize y 9 = y9 at *; generalize y 10 = y10 at *; generalize y 11 = y11 at *; generalize y 12 = y12 at *
            clear hs
            go_wp2_with (go_at_call 209; refine (sub_any _ _ _ _ _ p0 p3 sm hqq).mono ?_; rintro e w2 ⟨v, rfl, hN, hb⟩)
            exact hK _ _ (by rw [hsub] at hN; exact hN.any) ⟨hB.trans (hb.mono hB.size), hC.nx hb, hC5.nx hb, hR.nx hb⟩ (fun _ _ _ h => TxtF.nx hb h)
          rcases i with _ | i
          · obtain rfl : _ = o := Option.some.inj ho
            have p4 : BigN 0 wr (y 4) d := hdep { on := 4, ground := .data } (by simp) rfl
            unfold StepTo
            simp only [↓reduceIte, Nat.zero_add, Nat.reduceAdd, Nat.reduceEqDiff, List.map_cons, List.map_nil, puts, updV, Act.put, List.setIfInBounds_toArray, List.set_cons_zero, List.set_cons_succ] at hK ⊢
            generalize y 0 = y0 at *; generalize y 1 = y1 at *; generalize y 2 = y2 at *; generalize y 3 = y3 at *; generalize y 4 = y4 at *; generalize y 5 = y5 at *; generalize y 6 = y6 at *; generalize y 7 = y7 at *; generalize y 8 = y8 at *; generalize y 9 = y9 at *; generalize y 10 = y10 at *; generalize y 11 = y11 at *; generalize y 12 = y12 at *
            clear hs
            go_wp2_with (go_at_call 210; refine (unsigned_any _ _ _ p4 (by omega)).mono ?_; rintro e w2 ⟨rfl, hb⟩)
            exact hK _ _ rfl ⟨hB.trans (hb.mono hB.size), hC.nx hb, hC5.nx hb, hR.nx hb⟩ (fun _ _ _ h => TxtF.nx hb h)
          rcases i with _ | i
          · obtain rfl : _ = o := Option.some.inj ho
            have p5 : y 5 = _ := hdep { on := 5, ground := .data } (by simp) rfl
            unfold StepTo
            simp only [↓reduceIte, Nat.zero_add, Nat.reduceAdd, Nat.reduceEqDiff, List.map_cons, List.map_nil, puts, updV, Act.put, List.setIfInBounds_toArray, List.set_cons_zero, List.set_cons_succ] at hK ⊢
            generalize y 0 = y0 at *; generalize y 1 = y1 at *; generalize y 2 = y2 at *; generalize y 3 = y3 at *; generalize y 4 = y4 at *; generalize y 5 = y5 at *; generalize y 6 = y6 at *; generalize y 7 = y7 at *; generalize y 8 = y8 at *; generalize y 9 = y9 at *; generalize y 10 = y10 at *; generalize y 11 = y11 at *; generalize y 12 = y12 at *
            clear hs
            subst p5
            go_wp2_with fail
            first | exact hK _ _ rfl hG (fun _ _ _ h => h) | exact ⟨rfl, hK _ _ rfl hG (fun _ _ _ h => h)⟩
          rcases i with _ | i
          · obtain rfl : _ = o := Option.some.inj ho
            have p6 : y 6 = _ := hdep { on := 6, ground := .data } (by simp) rfl
            unfold StepTo
            simp only [↓reduceIte, Nat.zero_add, Nat.reduceAdd, Nat.reduceEqDiff, List.map_cons, List.map_nil, puts, updV, Act.put, List.setIfInBounds_toArray, List.set_cons_zero, List.set_cons_succ] at hK ⊢
            generalize y 0 = y0 at *; generalize y 1 = y1 at *; generalize y 2 = y2 at *; generalize y 3 = y3 at *; generalize y 4 = y4 at *; generalize y 5 = y5 at *; generalize y 6 = y6 at *; generalize y 7 = y7 at *; generalize y 8 = y8 at *; generalize y 9 = y9 at *; generalize y 10 = y10 at *; generalize y 11 = y11 at *; generalize y 12 = y12 at *
            clear hs
            subst p6
            go_wp2_with fail
            first | exact hK _ _ rfl hG (fun _ _ _ h => h) | exact ⟨rfl, hK _ _ rfl hG (fun _ _ _ h => h)⟩
          rcases i with _ | i
          · obtain rfl : _ = o := Option.some.inj ho
            have p7 : y 7 = _ := hdep { on := 7, ground := .data } (by simp) rfl
            unfold StepTo
            simp only [↓reduceIte, Nat.zero_add, Nat.reduceAdd, Nat.reduceEqDiff, List.map_cons, List.map_nil, puts, updV, Act.put, List.setIfInBounds_toArray, List.set_cons_zero, List.set_cons_succ] at hK ⊢
            generalize y 0 = y0 at *; generalize y 1 = y1 at *; generalize y 2 = y2 at *; generalize y 3 = y3 at *; generalize y 4 = y4 at *; generalize y 5 = y5 at *; generalize y 6 = y6 at *; generalize y 7 = y7 at *; generalize y 8 = y8 at *; generalize y 9 = y9 at *; generalize y 10 = y10 at *; generalize y 11 = y11 at *; generalize y 12 = y12 at *
            clear hs
            subst p7
            have hb := (Below.refl wr.heap.size wr).alloc (Nat.le_refl _) (.cells #[.int .u8 (48 + d)] 5)
            go_wp2_with fail
            exact hK _ _ ⟨_, rfl, Bk.new _ _ _⟩ ⟨hB.alloc hB.size _, hC.nx hb, hC5.nx hb, hR.nx hb⟩ (fun _ _ _ h => TxtF.nx hb h)
          rcases i with _ | i
          · obtain rfl : _ = o := Option.some.inj ho
            have p8 : ∃ g, (y 8) = .slice (some ⟨g, 0, none⟩) 1 1 ∧ Bk wr g 5 #[.int .u8 (48 + d)] := hdep { on := 8, ground := .data } (by simp) rfl
            unfold StepTo
            simp only [↓reduceIte, Nat.zero_add, Nat.reduceAdd, Nat.reduceEqDiff, List.map_cons, List.map_nil, puts, updV, Act.put, List.setIfInBounds_toArray, List.set_cons_zero, List.set_cons_succ] at hK ⊢
            generalize y 0 = y0 at *; generalize y 1 = y1 at *; generalize y 2 = y2 at *; generalize y 3 = y3 at *; generalize y 4 = y4 at *; generalize y 5 = y5 at *; generalize y 6 = y6 at *; generalize y 7 = y7 at *; generalize y 8 = y8 at *; generalize y 9 = y9 at *; generalize y 10 = y10 at *; generalize y 11 = y11 at *; generalize y 12 = y12 at *
            clear hs
            obtain ⟨g, rfl, k8⟩ := p8
            have hcv := hcv0 g wr k8
            go_wp2_with fail
            exact hK _ _ rfl hG (fun _ _ _ h => h)
          rcases i with _ | i
          · obtain rfl : _ = o := Option.some.inj ho
            unfold StepTo
            simp only [↓reduceIte, Nat.zero_add, Nat.reduceAdd, Nat.reduceEqDiff, List.map_cons, List.map_nil, puts, updV, Act.put, List.setIfInBounds_toArray, List.set_cons_zero, List.set_cons_succ] at hK ⊢
            generalize y 0 = y0 at *; generalize y 1 = y1 at *; generalize y 2 = y2 at *; generalize y 3 = y3 at *; generalize y 4 = y4 at *; generalize y 5 = y5 at *; generalize y 6 = y6 at *; generalize y 7 = y7 at *; generalize y 8 = y8 at *; generalize y 9 = y9 at *; generalize y 10 = y10 at *; generalize y 11 = y11 at *; generalize y 12 = y12 at *
            obtain ⟨rfl, e12⟩ := hs (.inl (by simp))
            obtain rfl : y12 = .string TL := e12
            go_wp2_with fail
            first | exact hK _ _ rfl hG (fun _ _ _ h => h) | exact ⟨rfl, hK _ _ rfl hG (fun _ _ _ h => h)⟩
          rcases i with _ | i
          · obtain rfl : _ = o := Option.some.inj ho
            have p9 : y 9 = _ := hdep { on := 9, ground := .data } (by simp) rfl
            have p10 : y 10 = _ := hdep { on := 10, ground := .data } (by simp) rfl
            unfold StepTo
            simp only [↓reduceIte, Nat.zero_add, Nat.reduceAdd, Nat.reduceEqDiff, List.map_cons, List.map_nil, puts, updV, Act.put, List.setIfInBounds_toArray, List.set_cons_zero, List.set_cons_succ] at hK ⊢
            generalize y 0 = y0 at *; generalize y 1 = y1 at *; generalize y 2 = y2 at *; generalize y 3 = y3 at *; generalize y 4 = y4 at *; generalize y 5 = y5 at *; generalize y 6 = y6 at *; generalize y 7 = y7 at *; generalize y 8 = y8 at *; generalize y 9 = y9 at *; generalize y 10 = y10 at *; generalize y 11 = y11 at *; generalize y 12 = y12 at *
            clear hs
            subst p9
            subst p10
            go_wp2_with fail
            exact hK _ _ rfl hG (fun _ _ _ h => h)
          rcases i with _ | i
          · obtain rfl : _ = o := Option.some.inj ho
            have p11 : y 11 = _ := hdep { on := 11, ground := .data } (by simp) rfl
            unfold StepTo
            simp only [↓reduceIte, Nat.zero_add, Nat.reduceAdd, Nat.reduceEqDiff, List.map_cons, List.map_nil, puts, updV, Act.put, List.setIfInBounds_toArray, List.set_cons_zero, List.set_cons_succ] at hK ⊢
            generalize y 0 = y0 at *; generalize y 1 = y1 at *; generalize y 2 = y2 at *; generalize y 3 = y3 at *; generalize y 4 = y4 at *; generalize y 5 = y5 at *; generalize y 6 = y6 at *; generalize y 7 = y7 at *; generalize y 8 = y8 at *; generalize y 9 = y9 at *; generalize y 10 = y10 at *; generalize y 11 = y11 at *; generalize y 12 = y12 at *
            clear hs
            subst p11
            go_wp2_with fail
            first | exact hK _ _ rfl hG (fun _ _ _ h => h) | exact ⟨rfl, hK _ _ rfl hG (fun _ _ _ h => h)⟩
          · exact absurd ho (by simp)
        case refine_2 =>
          intro y wr b hG hF hbs
          obtain rfl := hbs (by decide)
          clear hbs
          obtain ⟨hB, hC, hC5, hR⟩ := hG
          have p12 : y 12 = _ := hF 12 (by decide)
          simp only [Nat.zero_add, Nat.reduceAdd, List.map_cons, List.map_nil, puts, Act.put, List.setIfInBounds_toArray, List.set_cons_zero, List.set_cons_succ]
          generalize y 0 = y0 at *; generalize y 1 = y1 at *; generalize y 2 = y2 at *; generalize y 3 = y3 at *; generalize y 4 = y4 at *; generalize y 5 = y5 at *; generalize y 6 = y6 at *; generalize y 7 = y7 at *; generalize y 8 = y8 at *; generalize y 9 = y9 at *; generalize y 10 = y10 at *; generalize y 11 = y11 at *; generalize y 12 = y12 at *
          subst p12
          clear hF
          obtain ⟨s5, A5, n5, c5, k5, hN5⟩ := hC5
          obtain ⟨s4', A4', n4', c4', k4', hN4'⟩ := hC
          go_wp2_with (first
            | (refine ldBig rfl _ rfl k5 rfl ?_)
            | (refine stBig rfl _ _ rfl k4' rfl rfl rfl ?_; intro w7 k7 hg7 hs7))
          exact ⟨⟨q, B :: L, by rw [HNB.out], ⟨_, _, _, _, k7, hN5.gbig k4' hg7⟩, HI, hR.grown hg7 (fun e => by injection e with e; omega), below_of_gb hB hg7 (by omega) hB.size⟩, HM2.out⟩
    · obtain rfl : m = 0 := by omega
      have hn40 : n4 = 0 := hn4.2 rfl
      subst hn40
      have hLe : L = decF N := by have := hinv.out.1; simpa [decF] using this
      subst hLe
      clear hinv hC hn4
      have kc := kr.cell2
      obtain ⟨y0, y1⟩ := kc
      by_cases hN0 : N = 0
      · subst hN0
        have hz0 : z = 0 := by have := HN.out; omega
        have HI : Hid (itoa z = [48]) := by show _ = _; subst hz0; unfold Go.Lib.itoa; rw [if_neg (by omega)]; exact Go.Lib.decDigits_one (i := 0) (by omega)
        have hemp : (⟨(decF 0).toArray⟩ : ByteArray) = ⟨#[]⟩ := rfl
        rw [hemp]
        go_wp2_with fail

        go_returns
        exact ⟨by rw [HI.out]; rfl, hbr⟩
      · have hne : decF N ≠ [] := fun e => by have := decF_len (m := N) (by omega); rw [e] at this; simp at this
        have hem : (⟨(decF N).toArray⟩ : ByteArray).toList.isEmpty = false := bl_ne (by rw [bl_mk]; exact hne)
        have hsz : (⟨(decF N).toArray⟩ : ByteArray).size ≤ 1000000 := by
          rw [str_size]
          unfold decF
          rw [if_neg hN0, Go.Lib.decDigits_length]
          have := nd_le 89 N hz
          omega
        have hdd : decF N = decDigits N := if_neg hN0
        cases s with
        | false =>
          have HI : Hid (itoa z = decF N) := by
            show _ = _
            have hzz : ¬ z < 0 := by simpa using HS0.out.symm
            unfold Go.Lib.itoa
            rw [if_neg hzz, hdd]
            congr 1
            have := HN.out
            omega
          generalize hT : (⟨(decF N).toArray⟩ : ByteArray) = T at *
          go_wp2_with fail

          go_returns
          exact ⟨by rw [HI.out]; show Ending.returned (.string T) = .returned (.string ⟨(decF N).toArray⟩); rw [hT], hbr⟩
        | true =>
          have HI : Hid (itoa z = 45 :: decF N) := by
            show _ = _
            have hzz : z < 0 := by simpa using HS0.out.symm
            unfold Go.Lib.itoa
            rw [if_pos hzz, hdd]
            congr 2
          have happ : (⟨#[45]⟩ : ByteArray) ++ ⟨(decF N).toArray⟩ = ⟨(45 :: decF N).toArray⟩ := str_app [45] _
          generalize hT : (⟨(decF N).toArray⟩ : ByteArray) = T at *
          have HA := Lib.hid happ
          clear happ
          go_wp2_with fail
          go_returns
          exact ⟨by rw [HI.out]; show Ending.returned (.string (⟨#[45]⟩ ++ T)) = .returned (.string ⟨(45 :: decF N).toArray⟩); rw [HA.out], hbr⟩
end Go.Proofs.YtgohbkkeppknoaaGreatDoor
end
