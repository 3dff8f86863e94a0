/- Several texts in one: What the row's reading tells of an argument: 'Rv' (its cells can be read as data of a type), opened type by type. Commands: words as a row is read; what the library has laid; small contracts of the law. CmdParses: the law walked. -/
import Derived.Test.YtgohbkkeppknoaaGreatDoorCmdParsesZz1
import Derived.ProofKit
import Derived.OpenShut
import Derived.Carry
import Derived.ChangeOld
import Derived.Deep.Slices
import Derived.Test.YtgohbkkeppknoaaGreatDoorCmdParsesZz29
import Derived.Test.YtgohbkkeppknoaaGreatDoorCmdParsesZz30
import Derived.Lib.LaidTab
section
set_option linter.unusedVariables false
namespace Go.Proofs.YtgohbkkeppknoaaGreatDoor
open Go.RowKit
section
variable {P : Program} {w : World}
/-- The cells can be read as data of type t (as the rows read them). -/
def Rv (P : Program) (w : World) (t : TypeId) (cs : List Value) : Prop :=
  ∃ (H : Type) (enc : TypeId × Value → H) (fuel : Nat) (x : DataW H × List MemPlace), DataW.trod enc P w 0 (fun _ => true) true fuel t cs = some x
theorem rv_int {t : TypeId} {k : IntKind} {cs : List Value} (ht : P.underlying t = some (.int k)) (h : Rv P w t cs) : ∃ n, cs = [.int k n] ∧ (Lit.int k n).wf = true := by
  obtain ⟨H, enc, fuel, x, h⟩ := h
  cases fuel with
  | zero => simp [DataW.trod] at h
  | succ n =>
    unfold DataW.trod at h
    rw [ht] at h
    split at h <;> simp_all
theorem rv_bool {t : TypeId} {cs : List Value} (ht : P.underlying t = some .bool) (h : Rv P w t cs) : ∃ b, cs = [.bool b] := by
  obtain ⟨H, enc, fuel, x, h⟩ := h
  cases fuel with
  | zero => simp [DataW.trod] at h
  | succ n =>
    unfold DataW.trod at h
    rw [ht] at h
    split at h <;> simp_all
theorem rv_string {t : TypeId} {cs : List Value} (ht : P.underlying t = some .string) (h : Rv P w t cs) : ∃ s, cs = [.string s] ∧ s.size ≤ maxLen := by
  obtain ⟨H, enc, fuel, x, h⟩ := h
  cases fuel with
  | zero => simp [DataW.trod] at h
  | succ n =>
    unfold DataW.trod at h
    rw [ht] at h
    split at h <;> simp_all
theorem rv_struct {t : TypeId} {fs : Array Field} {cs : List Value} (ht : P.underlying t = some (.struct fs)) (h : Rv P w t cs) :
    cs.length = P.cellsOf t ∧ ∀ (i : Nat) (f : Field), fs[i]? = some f → Rv P w f.type ((cs.drop f.offset).take (P.cellsOf f.type)) := by
  obtain ⟨H, enc, fuel, x, h⟩ := h
  obtain ⟨xs, n, _, _, hl, hxs, hf⟩ := DataW.trod_struct ht h
  refine ⟨hl, fun i f hi => ?_⟩
  have hi2 : i < xs.length := by rw [hxs]; exact (Array.getElem?_eq_some_iff.1 hi).1
  exact ⟨H, enc, n, xs[i], by rw [hf i f hi, List.getElem?_eq_getElem hi2]⟩
theorem rv_array {t e : TypeId} {n : Nat} {cs : List Value} (ht : P.underlying t = some (.array n e)) (h : Rv P w t cs) :
    cs.length = P.cellsOf t ∧ ∀ i, i < n → Rv P w e ((cs.drop (i * P.cellsOf e)).take (P.cellsOf e)) := by
  obtain ⟨H, enc, fuel, x, h⟩ := h
  obtain ⟨xs, m, _, _, hl, hxs, hf⟩ := DataW.trod_array ht h
  refine ⟨hl, fun i hi => ?_⟩
  have hi2 : i < xs.length := by omega
  exact ⟨H, enc, m, xs[i], by rw [hf i hi, List.getElem?_eq_getElem hi2]⟩
/-- A slice: nil, or each element's cells lie one behind the other from an address on, and can be read. -/
theorem rv_slice {t e : TypeId} {cs : List Value} (ht : P.underlying t = some (.slice e)) (h : Rv P w t cs) :
    ∃ (A : Option Addr) (n c : Nat), cs = [.slice A n c] ∧ n ≤ c ∧ c ≤ maxLen ∧ (A = none → c = 0) ∧
      ∀ i, i < n → ∃ (a : Addr) (xs : List Value), A = some a ∧ xs.length = P.cellsOf e ∧ (∀ j, j < P.cellsOf e → w.cell? ((a.add (i * P.cellsOf e)).add j) = xs[j]?) ∧ Rv P w e xs := by
  obtain ⟨H, enc, fuel, x, h⟩ := h
  rcases Deep.open_slice ht h with ⟨h1, h2⟩ | ⟨a, len, cap, m, n, D, Pl, h1, h2, h3, h4, h5, h6, h7⟩
  · exact ⟨none, 0, 0, h1, Nat.le_refl _, by simp [maxLen], fun _ => rfl, fun i hi => absurd hi (by omega)⟩
  · refine ⟨some a, len, cap, h1, h3, h4, (by intro e; cases e), fun i hi => ?_⟩
    obtain ⟨cs', hc, hr⟩ := h7 i (by rw [h5]; simp; omega)
    obtain ⟨_, hl, hx⟩ := World.cells?_some hc
    exact ⟨a, cs', rfl, hl, hx, H, enc, n, _, hr⟩
theorem spot_none {w : World} {a : Addr} {v : Value} (h : w.cell? a = some v) : ∃ b o, a = ⟨b, o, none⟩ ∧ b < w.heap.size := by
  have hb := World.block_lt_of_cell? w a h
  obtain ⟨b, o, s⟩ := a
  have : s = none := by simpa using World.cell?_spot h
  subst this
  exact ⟨b, o, rfl, hb⟩
/-- A slice of elements of k cells: the cells of all its elements, one behind the other, and what each element's reading tells. -/
theorem rv_rows {t e : TypeId} {k : Nat} {cs : List Value} (ht : P.underlying t = some (.slice e)) (hk : P.cellsOf e = k) (hk0 : 0 < k) (h : Rv P w t cs) :
    ∃ (A : Option Addr) (n c : Nat) (xs : List (List Value)), cs = [.slice A n c] ∧ n ≤ c ∧ c ≤ maxLen ∧ xs.length = n ∧ (∀ x ∈ xs, x.length = k ∧ Rv P w e x) ∧ Rd w w.heap.size A xs.flatten := by
  obtain ⟨A, n, c, h1, h2, h3, h4, h5⟩ := rv_slice ht h
  rw [hk] at h5
  rcases Nat.eq_zero_or_pos n with h0 | h0
  · subst h0
    exact ⟨A, 0, c, [], h1, h2, h3, rfl, by simp, by simpa using Rd.nil⟩
  · obtain ⟨a0, x0, hA, hl0, hc0, _⟩ := h5 0 h0
    have h00 := hc0 0 hk0
    rw [List.getElem?_eq_getElem (by omega)] at h00
    have hadd0 : ((a0.add (0 * k)).add 0) = a0 := by simp [Addr.add]
    rw [hadd0] at h00
    obtain ⟨b, o, rfl, hb⟩ := spot_none h00
    subst hA
    have h6 : ∀ i : Nat, ∃ xs : List Value, i < n → xs.length = k ∧ (∀ j, j < k → w.cell? ⟨b, o + (i * k + j), none⟩ = xs[j]?) ∧ Rv P w e xs := fun i => by
      by_cases hi : i < n
      · obtain ⟨a, xs, ha, hl, hc, hr⟩ := h5 i hi
        injection ha with ha
        subst ha
        refine ⟨xs, fun _ => ⟨hl, fun j hj => ?_, hr⟩⟩
        have := hc j hj
        have e1 : ((⟨b, o, none⟩ : Addr).add (i * k)).add j = ⟨b, o + (i * k + j), none⟩ := by
          have ea : ∀ (o i : Nat), (⟨b, o, none⟩ : Addr).add i = ⟨b, o + i, none⟩ := fun o i => by unfold Addr.add; split <;> simp_all
          rw [ea, ea, Nat.add_assoc]
        rw [e1] at this
        exact this
      · exact ⟨[], fun h => absurd h hi⟩
    have h7 := Classical.axiomOfChoice h6
    obtain ⟨f, hf⟩ := h7
    have hlen : ∀ m, m ≤ n → (((List.range m).map f).flatten).length = m * k := fun m => by
      induction m with
      | zero => simp
      | succ m ih => intro hm; rw [List.range_succ]; simp [ih (by omega), (hf m (by omega)).1, Nat.add_mul]
    have hget : ∀ m, m ≤ n → ∀ i, (hi : i < (((List.range m).map f).flatten).length) → w.cell? ⟨b, o + i, none⟩ = some (((List.range m).map f).flatten)[i] := fun m => by
      induction m with
      | zero => intro _ i hi; simp at hi
      | succ m ih =>
        intro hm i hi
        have hsp : ((List.range (m + 1)).map f).flatten = ((List.range m).map f).flatten ++ f m := by rw [List.range_succ]; simp
        have hlm := hlen m (by omega)
        have hlm1 := hlen (m + 1) hm
        by_cases hlt : i < m * k
        · have := ih (by omega) i (by omega)
          rw [this]
          congr 1
          have h8 : ((List.range (m + 1)).map f).flatten[i]? = ((List.range m).map f).flatten[i]? := by rw [hsp, List.getElem?_append_left (by omega)]
          rw [List.getElem?_eq_getElem hi, List.getElem?_eq_getElem (by omega)] at h8
          injection h8 with h8
          exact h8.symm
        · rw [hlm1, Nat.add_mul, Nat.one_mul] at hi
          have h9 := (hf m (by omega)).2.1 (i - m * k) (by omega)
          have e2 : o + (m * k + (i - m * k)) = o + i := by omega
          rw [e2] at h9
          rw [h9]
          have h8 : ((List.range (m + 1)).map f).flatten[i]? = (f m)[i - m * k]? := by rw [hsp, List.getElem?_append_right (by omega), hlm]
          rw [← h8, List.getElem?_eq_getElem]
    refine ⟨_, n, c, (List.range n).map f, h1, h2, h3, by simp, fun x hx => ?_, fun i hi => ⟨b, o, rfl, hb, hget n (Nat.le_refl _) i hi⟩⟩
    obtain ⟨i, hi, rfl⟩ := List.mem_map.1 hx
    have := hf i (by simpa using hi)
    exact ⟨this.1, this.2.2⟩
/-- A slice of integers. -/
theorem rv_ints {t e : TypeId} {k : IntKind} {cs : List Value} (ht : P.underlying t = some (.slice e)) (he : P.underlying e = some (.int k)) (hc : P.cellsOf e = 1) (h : Rv P w t cs) :
    ∃ (A : Option Addr) (n c : Nat) (l : List Int), cs = [.slice A n c] ∧ n ≤ c ∧ c ≤ maxLen ∧ l.length = n ∧ (∀ z ∈ l, (Lit.int k z).wf = true) ∧ Rd w w.heap.size A (l.map (Value.int k)) := by
  obtain ⟨A, n, c, xs, h1, h2, h3, h4, h5, h6⟩ := rv_rows ht hc (by omega) h
  have h7 : ∀ ys : List (List Value), (∀ x ∈ ys, x.length = 1 ∧ Rv P w e x) → ∃ l : List Int, l.length = ys.length ∧ (∀ z ∈ l, (Lit.int k z).wf = true) ∧ ys.flatten = l.map (Value.int k) := fun ys => by
    induction ys with
    | nil => intro _; exact ⟨[], rfl, by simp, rfl⟩
    | cons x ys ih =>
      intro hx
      obtain ⟨l, hl1, hl2, hl3⟩ := ih (fun y hy => hx y (by simp [hy]))
      obtain ⟨n, rfl, hn⟩ := rv_int he (hx x (by simp)).2
      exact ⟨n :: l, by simp [hl1], by simpa using ⟨hn, hl2⟩, by simp [hl3]⟩
  obtain ⟨l, hl1, hl2, hl3⟩ := h7 xs h5
  exact ⟨A, n, c, l, h1, h2, h3, by omega, hl2, by rw [← hl3]; exact h6⟩
theorem okWide_array {r : Reach} {base n : Nat} {t e : TypeId} {v : Value} (ht : P.underlying t = some (.array n e)) (h : Value.okWide P w r base t v) : ∃ cs, v = .agg cs ∧ cs.size = P.cellsOf t := by
  simp only [Value.okWide, ht] at h
  obtain ⟨cs, h1, h2, _⟩ := h
  exact ⟨cs, h1, h2⟩
theorem wf_i64 {n : Int} (h : (Lit.int .i64 n).wf = true) : -9223372036854775808 ≤ n ∧ n ≤ 9223372036854775807 := by
  simpa [Lit.wf, IntKind.min, IntKind.max, IntKind.signed, IntKind.bits] using h
theorem wf_u64 {n : Int} (h : (Lit.int .u64 n).wf = true) : 0 ≤ n ∧ n ≤ 18446744073709551615 := by
  simpa [Lit.wf, IntKind.min, IntKind.max, IntKind.signed, IntKind.bits] using h
theorem wf_u8 {n : Int} (h : (Lit.int .u8 n).wf = true) : 0 ≤ n ∧ n ≤ 255 := by
  simpa [Lit.wf, IntKind.min, IntKind.max, IntKind.signed, IntKind.bits] using h
end
end Go.Proofs.YtgohbkkeppknoaaGreatDoor
end
section
set_option linter.unusedVariables false
namespace Go.Proofs.YtgohbkkeppknoaaGreatDoor
open Go.RowKit
theorem ca_str : Tryz.prog.cellsOf 9 = 1 := by kernel_rfl
theorem open_strs {w : World} {A : Option Addr} {n c : Nat} (h : Rv Tryz.prog w 22 [.slice A n c]) : ∃ ws : List ByteArray, ws.length = n ∧ n ≤ c ∧ (∀ b ∈ ws, b.size ≤ maxLen) ∧ Rd w w.heap.size A (ws.map Value.string) := by
  obtain ⟨A', n', c', xs, h1, h2, h3, h4, h5, h6⟩ := rv_rows Tryz.underlying22 ca_str (by omega) h
  have h7 : ∀ ys : List (List Value), (∀ x ∈ ys, x.length = 1 ∧ Rv Tryz.prog w 9 x) → ∃ l : List ByteArray, l.length = ys.length ∧ (∀ z ∈ l, z.size ≤ maxLen) ∧ ys.flatten = l.map Value.string := fun ys => by
    induction ys with
    | nil => intro _; exact ⟨[], rfl, by simp, rfl⟩
    | cons x ys ih =>
      intro hx
      obtain ⟨l, hl1, hl2, hl3⟩ := ih (fun y hy => hx y (by simp [hy]))
      obtain ⟨n, rfl, hn⟩ := rv_string Tryz.underlying9 (hx x (by simp)).2
      exact ⟨n :: l, by simp [hl1], by simpa using ⟨hn, hl2⟩, by simp [hl3]⟩
  obtain ⟨l, hl1, hl2, hl3⟩ := h7 xs h5
  simp at h1
  obtain ⟨rfl, rfl, rfl⟩ := h1
  exact ⟨l, by omega, h2, hl2, by rw [← hl3]; exact h6⟩
theorem trod_ifc {H : Type} {enc : TypeId × Value → H} {P : Program} {w : World} {base : Nat} {sp : Nat → Bool} {held : Bool} {fuel : Nat} {t : TypeId} {m : Array (String × TypeId)} {cs : List Value} {nm : String} {d : DataW H} {p : List MemPlace}
    (ht : P.underlying t = some (.interface m)) (h : DataW.trod enc P w base sp held fuel t cs = some (.iface nm d, p)) : ∃ u v, cs = [.iface u v] := by
  cases fuel with
  | zero => simp [DataW.trod] at h
  | succ fuel =>
    rcases cs with _ | ⟨c0, _ | ⟨c1, cs⟩⟩
    · simp [DataW.trod, ht] at h
    · cases c0
      all_goals first
        | exact ⟨_, _, rfl⟩
        | simp [DataW.trod, ht] at h
    · simp [DataW.trod, ht] at h
theorem laidT_of {d1 d2 : String × DataW Unit} {x y : DataW Unit} {nx ny : String} {W : World} (h : laidMet Tryz.prog [d1, d2, ("internal/strconv.uint64pow10", Lib.tabData .u64 Lib.pow10Tab), ("strconv.ErrRange", .iface nx x), ("strconv.ErrSyntax", .iface ny y)] W) : LaidT W := by
  obtain ⟨ps, ⟨g1, t1, cs1, f1, p1, q1, _, _, _, _, ⟨g2, t2, cs2, f2, p2, q2, _, _, _, _, ⟨g3, t3, cs3, f3, p3, q3, hg3, ht3, hv3, hd3, ⟨g4, t4, cs4, f4, p4, q4, hg4, ht4, hv4, hd4, ⟨g5, t5, cs5, f5, p5, q5, hg5, ht5, hv5, hd5, _⟩, _⟩, _⟩, _⟩, _⟩, _⟩ := h
  refine ⟨?_, ?_, ?_⟩
  · obtain rfl := Option.some.inj ((show Tryz.prog.globalNamed "internal/strconv.uint64pow10" = some 3 by kernel_rfl).symm.trans hg3)
    obtain rfl := Option.some.inj ((show (Tryz.prog.globals[3]?).map (·.type) = some 425 by kernel_rfl).symm.trans ht3)
    show Lib.TabIs Tryz.prog W _ _ _
    unfold Lib.TabIs
    rw [hv3, ← Lib.cells_of_tab Tryz.underlying425 Tryz.underlying44 (by kernel_rfl) (by kernel_rfl) hd3]
  · obtain rfl := Option.some.inj ((show Tryz.prog.globalNamed "strconv.ErrSyntax" = some 1 by kernel_rfl).symm.trans hg5)
    obtain rfl := Option.some.inj ((show (Tryz.prog.globals[1]?).map (·.type) = some 180 by kernel_rfl).symm.trans ht5)
    obtain ⟨u, v, hu⟩ := trod_ifc Tryz.underlying180 hd5
    refine ⟨u, v, ?_⟩
    rw [World.var?_cell hg5 hv5 0, show cs5 = #[.iface u v] from Array.toList_inj.1 hu]
    rfl
  · obtain rfl := Option.some.inj ((show Tryz.prog.globalNamed "strconv.ErrRange" = some 2 by kernel_rfl).symm.trans hg4)
    obtain rfl := Option.some.inj ((show (Tryz.prog.globals[2]?).map (·.type) = some 180 by kernel_rfl).symm.trans ht4)
    obtain ⟨u, v, hu⟩ := trod_ifc Tryz.underlying180 hd4
    refine ⟨u, v, ?_⟩
    rw [World.var?_cell hg4 hv4 0, show cs4 = #[.iface u v] from Array.toList_inj.1 hu]
    rfl
def fewW (ws : List ByteArray) : Bool := ws.all (fun b => decide (b.size ≤ 100)) && decide (ws.length ≤ 300)
set_option maxRecDepth 100000 in
set_option maxHeartbeats 4000000 in
theorem fewW_any (A : Option Addr) (c : Nat) (ws : List ByteArray) (w : World) (hr : Rd w w.heap.size A (ws.map Value.string)) (hn : ws.length ≤ 9223372036854775807) (hs : ∀ b ∈ ws, b.size ≤ 9223372036854775807) : Calls Tryz.prog 6 #[.slice A ws.length c] w fun e w' => e = .returned (.bool (fewW ws)) ∧ w = w' := by
  go_enter Tryz.func6, Tryz.ntmps6
  go_wp2_with fail
  have HS := Lib.hid hs
  clear hs
  go_loopw [7] (fun iv wr => ∃ k : Nat, k ≤ ws.length ∧ iv = .int .i64 k ∧ Hid ((ws.take k).all (fun b => decide (b.size ≤ 100)) = true) ∧ w = wr) (fun iv _ => ws.length - (intOf iv).toNat)
  case atStart => exact ⟨0, by omega, rfl, rfl, rfl⟩
  case round =>
    obtain ⟨k, hk, rfl, hall, rfl⟩ := hrel
    by_cases hlt : k < ws.length
    · have hlt' : (k : Int) < (ws.length : Int) := by omega
      obtain ⟨bb, oo, rfl, hbw, hcc⟩ := hr k (by rw [List.length_map]; exact hlt)
      rw [List.getElem_map] at hcc
      have hb1 := HS.out ws[k] (List.getElem_mem hlt)
      by_cases hg : 100 < ws[k].size
      · have HR : Hid (fewW ws = false) := by
          show _ = _
          unfold fewW
          have : ws.all (fun b => decide (b.size ≤ 100)) = false := by
            rw [List.all_eq_false]
            exact ⟨ws[k], List.getElem_mem hlt, by simp; omega⟩
          rw [this]; rfl
        have hg' : (ws[k].size : Int) > 100 := by omega
        clear hall
        generalize ws[k] = S at *
        go_wp2_with fail
        go_returns
        exact ⟨by rw [HR.out]; rfl, rfl⟩
      · have HA : Hid ((ws.take (k + 1)).all (fun b => decide (b.size ≤ 100)) = true) := by
          show _ = _
          rw [List.take_succ_eq_append_getElem hlt, List.all_append, hall.out]
          simp; omega
        have hg' : ¬ (ws[k].size : Int) > 100 := by omega
        clear hall
        generalize ws[k] = S at *
        go_wp2_with fail
        exact ⟨⟨k + 1, by omega, by go_num, HA, trivial⟩, by simp [intOf]; omega⟩
    · obtain rfl : k = ws.length := by omega
      have HR : Hid (fewW ws = decide ((ws.length : Int) ≤ 300)) := by
        show _ = _
        unfold fewW
        rw [show ws.all (fun b => decide (b.size ≤ 100)) = true by have := hall.out; rwa [List.take_of_length_le (Nat.le_refl _)] at this, Bool.true_and]
        congr 1
        apply propext
        omega
      clear hall
      go_wp2_with fail
      go_returns
      exact ⟨by rw [HR.out]; rfl, rfl⟩
def opO (o : Option (List Int)) (x : Int) : Int := if o.isSome then x else 0
theorem CmdIs.row {o : Option (List Int)} {op k : Int} {cs : Array Value} {base : Nat} {w : World} (h : CmdIs o op k cs base w) : ∃ A c, cs = cmA (opO o op) (opO o k) A (o.getD []).length c ∧ Rd w w.heap.size A ((o.getD []).map (Value.int .i64)) := by
  cases o with
  | none => exact ⟨none, 0, h, Rd.nil⟩
  | some L => obtain ⟨A, c, h, ho⟩ := h; exact ⟨A, c, h, Rd.of_own ho⟩
theorem cright_prs (ws : List ByteArray) (A : Option Addr) (c : Nat) (w : World) : Calls Tryz.prog 11 #[.agg (cmA (opO (prs ws).L (prs ws).op) (opO (prs ws).L (prs ws).k) A ((prs ws).L.getD []).length c)] w fun e w' => e = .returned (.bool (prs ws).L.isSome) ∧ Below w.heap.size w w' := by
  cases h : (prs ws).L with
  | none => exact cright_no A c w
  | some L => exact cright_ok (prs_ok h) A c w
theorem prs_cB (ws : List ByteArray) : ((prs ws).c == 0) = (prs ws).L.isSome := by
  have h := prs_c ws
  cases hs : (prs ws).L.isSome with
  | true => exact beq_iff_eq.2 (h.2 hs)
  | false => exact beq_eq_false_iff_ne.2 (fun e => by have := h.1 e; rw [hs] at this; cases this)
end Go.Proofs.YtgohbkkeppknoaaGreatDoor
end
section
set_option linter.unusedVariables false
set_option linter.constructorNameAsVariable false
namespace Go.Proofs.YtgohbkkeppknoaaGreatDoor
open Go.RowKit
/-- The example's words. -/
def alW : List ByteArray := [strB [97, 102, 102, 105, 110, 101], strB [49], strB [48], strB [48, 46, 53], strB [48], strB [49], strB [48]]
theorem alW_L : (prs alW).L = some [65536, 0, 32768, 0, 65536, 0] := by decide +kernel
theorem alW_op : (prs alW).op = 9 := by decide +kernel
theorem alW_k : (prs alW).k = 1 := by decide +kernel
theorem alW_c : (prs alW).c = 0 := by decide +kernel
theorem prs_len (ws : List ByteArray) {L : List Int} (h : (prs ws).L = some L) : L.length ≤ ws.length := by
  rcases ws with _ | ⟨s, r⟩
  · simp [prs, noR] at h
  rw [show prs (s :: r) = prs1 s r from rfl] at h
  unfold prs1 at h
  split at h
  · have := (madeO_len (show madeO _ _ _ = some L from h)).2; simp only [List.length_cons]; omega
  split at h
  · have := (madeO_len (show madeO _ _ _ = some L from h)).2; simp only [List.length_cons]; omega
  split at h
  · simp [noR] at h
  rcases r with _ | ⟨t, r⟩
  · simp [prsQ, noR] at h
  rw [prsQ_cons] at h
  unfold prsQ1 at h
  split at h
  · simp [noR] at h
  · have := (madeO_len (show madeO _ _ _ = some L from h)).2; simp only [List.length_cons]; omega
abbrev alCs : Array Value := (alW.map Value.string).toArray
theorem alParse (w : World) (hl : LaidT w) : Calls Tryz.prog 7 #[.slice (some ⟨w.heap.size, 0, none⟩) 7 7] (w.alloc (.cells alCs 9)) fun e w' => (∃ A1 c1, e = .returned (.tuple #[.agg (cmA 9 1 A1 6 c1), .int .i64 0]) ∧ Rd w' w'.heap.size A1 (([65536, 0, 32768, 0, 65536, 0] : List Int).map (Value.int .i64))) ∧ Below (w.alloc (.cells alCs 9)).heap.size (w.alloc (.cells alCs 9)) w' := by
  have hb0 := (Below.refl w.heap.size w).alloc (Nat.le_refl _) (.cells alCs 9)
  have hk : Bk _ w.heap.size 9 alCs := Bk.new w 9 alCs
  refine (cparse_any (some ⟨w.heap.size, 0, none⟩) 7 alW _ (by decide) ⟨bk_rd50 (l := alW.map Value.string) hk, by decide +kernel, by decide⟩ (hl.nx hb0)).mono fun e w' h => ?_
  obtain ⟨⟨cs, he, hcs⟩, hb⟩ := h
  obtain ⟨A1, c1, h1, h2⟩ := hcs.row
  rw [alW_L, alW_op, alW_k] at h1
  rw [alW_L] at h2
  rw [alW_c] at he
  exact ⟨⟨A1, c1, by rw [he, h1]; rfl, h2⟩, hb⟩
set_option maxRecDepth 100000 in
set_option maxHeartbeats 8000000 in
theorem alive50 (w : World) (hl : LaidT w) : Calls Tryz.prog 12 #[] w fun e w' => e = .returned (.bool true) ∧ Below w.heap.size w w' := by
  have hb0 := (Below.refl w.heap.size w).alloc (Nat.le_refl _) (.cells alCs 9)
  have hP := alParse w hl
  go_enter Tryz.func12, Tryz.ntmps12
  go_upto_region 2 with (first
    | (go_at_call 7; refine Calls.mono (show Calls _ _ _ _ _ from hP) ?_; rintro e w2 ⟨⟨A1, c1, rfl, hr1⟩, hb2⟩; have hb3 := hb0.trans (hb2.mono hb0.size); have hnew := Bk.new w2 26 cm0; have hrn := hr1.alloc (Nat.le_refl _) (.cells cm0 26); have hbn := hb3.alloc hb3.size (.cells cm0 26))
    | (refine stB (ty := 26) (cells := cmA 9 1 A1 6 c1) rfl _ _ rfl hnew rfl rfl cc50_size rfl (by simp [Value.oneCell']) ?_; intro w3 hK3 hg3 hs3; have hr3 := hrn.gb hg3 (by simp) (Nat.le_refl _); have hb4 := below_of_gb hbn hg3 hb3.size hbn.size))
  obtain ⟨d0, d1, d2⟩ := hK3.cell3
  obtain ⟨bb, oo, rfl, hlt, hc2⟩ := hr3 2 (by decide)
  replace hc2 : w3.cell? ⟨bb, oo + 2, none⟩ = some (.int .i64 32768) := hc2
  go_wp2_with fail
  go_returns
  exact ⟨rfl, hb4⟩
set_option maxRecDepth 100000 in
set_option maxHeartbeats 16000000 in
theorem walkCmdParses (A : Option Addr) (c : Nat) (ws : List ByteArray) (w : World) (hn : ws.length ≤ 9223372036854775807) (hc : ws.length ≤ c) (hs : ∀ b ∈ ws, b.size ≤ 9223372036854775807) (hr : Rd w w.heap.size A (ws.map Value.string)) (hl : LaidT w) :
    Calls Tryz.prog 3 #[.slice A ws.length c] w fun e w' => e = .returned (.bool true) ∧ Below w.heap.size w w' := by
  have hF := fewW_any A c ws w hr hn hs
  cases hf : fewW ws with
  | false =>
    rw [hf] at hF
    go_enter Tryz.func3, Tryz.ntmps3
    go_wp2_with (go_at_call 6; (with_reducible refine hF.mono ?_); rintro e w1 ⟨rfl, rfl⟩)
    go_returns
    exact ⟨rfl, Below.refl _ _⟩
  | true =>
    rw [hf] at hF
    have hw : WdsOk w A ws := by
      unfold fewW at hf
      simp only [Bool.and_eq_true, List.all_eq_true, decide_eq_true_eq] at hf
      exact ⟨hr, fun b hb => by have := hf.1 b hb; omega, by omega⟩
    have hP := cparse_any A c ws w hc hw hl
    have hQ := fun (w' : World) (hb : Below w.heap.size w w') => rparse_any A c ws w' hc (hw.nx hb)
    have hAl := fun (w' : World) (hb : Below w.heap.size w w') => alive50 w' (hl.nx hb)
    have hRt := fun A c w' => cright_prs ws A c w'
    have hcB := prs_cB ws
    have hll : ((prs ws).L.getD []).length ≤ 1000000 := by
      cases h : (prs ws).L with
      | none => decide
      | some L =>
        have h2 := prs_len ws h
        have := hw.n
        show L.length ≤ _
        omega
    have hP2 : Calls Tryz.prog 7 #[.slice A ws.length c] w fun e w' => ∃ A1 c1, e = .returned (.tuple #[.agg (cmA (opO (prs ws).L (prs ws).op) (opO (prs ws).L (prs ws).k) A1 ((prs ws).L.getD []).length c1), .int .i64 (prs ws).c]) ∧ Rd w' w'.heap.size A1 (((prs ws).L.getD []).map (Value.int .i64)) ∧ Below w.heap.size w w' :=
      hP.mono fun e w' h => by obtain ⟨⟨cs, he, hcs⟩, hb⟩ := h; obtain ⟨A1, c1, h1, h2⟩ := hcs.row; exact ⟨A1, c1, by rw [he, h1], h2, hb⟩
    have hQ2 : ∀ w', Below w.heap.size w w' → Calls Tryz.prog 8 #[.slice A ws.length c] w' fun e w2 => ∃ A1 c1, e = .returned (.tuple #[.agg (cmA (opO (prs ws).L (prs ws).op) (opO (prs ws).L (prs ws).k) A1 ((prs ws).L.getD []).length c1), .int .i64 (prs ws).c]) ∧ Rd w2 w2.heap.size A1 (((prs ws).L.getD []).map (Value.int .i64)) ∧ Below w'.heap.size w' w2 := fun w' hb =>
      (hQ w' hb).mono fun e w2 h => by obtain ⟨⟨cs, he, hcs⟩, hb⟩ := h; obtain ⟨A1, c1, h1, h2⟩ := hcs.row; exact ⟨A1, c1, by rw [he, h1], h2, hb⟩
    generalize opO (prs ws).L (prs ws).op = op at *
    generalize opO (prs ws).L (prs ws).k = k at *
    generalize hS : (prs ws).L.isSome = B at *
    generalize (prs ws).c = cd at *
    generalize (prs ws).L.getD [] = L at *
    clear hP hQ hS hf hs hw
    obtain ⟨m, hm⟩ : ∃ m, L.length = m := ⟨_, rfl⟩
    have HM := Lib.hid hm
    simp only [hm] at hP2 hQ2 hRt hll
    clear hm
    go_enter Tryz.func3, Tryz.ntmps3
    go_upto_region 5 with (first
      | (go_at_call 6; (with_reducible refine hF.mono ?_); rintro e w1 ⟨rfl, rfl⟩)
      | (go_at_call 7; refine Calls.mono (show Calls _ _ _ _ _ from hP2) ?_; rintro e w2 ⟨A1, c1, rfl, hr2, hb2⟩; have hnew := Bk.new w2 26 cm0; have hrn := hr2.alloc (Nat.le_refl _) (.cells cm0 26); have hbn := hb2.alloc hb2.size (.cells cm0 26))
      | (refine stB (ty := 26) (cells := cmA op k A1 m c1) rfl _ _ rfl hnew rfl rfl cc50_size rfl (by simp [Value.oneCell']) ?_; intro w3 hK3 hg3 hs3; have hr3 := (hrn.gb hg3 (by simp) (Nat.le_refl _)).more (B' := w3.heap.size) (by rw [hs3]; simp); have hb3 := below_of_gb hbn hg3 hb2.size hbn.size)
      | (go_at_call 8; refine Calls.mono (show Calls _ _ _ _ _ from hQ2 w3 hb3) ?_; rintro e w4 ⟨A2, c2, rfl, hr4, hb4⟩; have hnew2 := Bk.new w4 30 cm0; have hrn2 := hr4.alloc (Nat.le_refl _) (.cells cm0 30); have hb43 := hb3.trans (hb4.mono hb3.size); have hbn2 := hb43.alloc hb43.size (.cells cm0 30); have hr34 := (hr3.below hb4).more hb4.size; have hrn34 := hr34.alloc (Nat.le_refl _) (.cells cm0 30); have hK4 := (hK3.nx hb4).alloc (.cells cm0 30))
      | (refine stB (ty := 30) (cells := cmA op k A2 m c2) rfl _ _ rfl hnew2 rfl rfl cr50_size rfl (by simp [Value.oneCell']) ?_; intro w5 hK5 hg5 hs5; have hr5 := (hrn2.gb hg5 (by simp) (Nat.le_refl _)); have hr35 := (hrn34.gb hg5 (by simp) (Nat.le_refl _)); have hb5 := below_of_gb hbn2 hg5 hb43.size hbn2.size; have hK35 := hK4.grown hg5 (by intro e; injection e with e; have := (hK3.nx hb4).lt; omega)))
    have hz5 : w4.heap.size ≤ w5.heap.size := by rw [hs5]; simp
    obtain ⟨d0, d1, d2⟩ := hK35.cell3
    obtain ⟨f0, f1, f2⟩ := hK5.cell3
    have hgr := fun (d : Nat) (os : Array Obj) => below_regrown w5 d os
    have hSm := fun (d : Nat) (os : Array Obj) => same50_any op k L A1 A2 m c1 c2 (Go.Sort.grow (redrawn w5 d) os) (B := w4.heap.size) (B' := w4.heap.size) HM.out (hr35.below' (hgr d os) hz5) (hr5.below' (hgr d os) hz5) (Nat.le_trans hz5 (hgr d os).size) (Nat.le_trans hz5 (hgr d os).size) hll
    have hOw := fun (d : Nat) (os : Array Obj) => own50_any op k A1 m c1 (Go.Sort.grow (redrawn w5 d) os)
    have hRi := fun (d : Nat) (os : Array Obj) => hRt A1 c1 (Go.Sort.grow (redrawn w5 d) os)
    have hAi := fun (d : Nat) (os : Array Obj) => hAl (Go.Sort.grow (redrawn w5 d) os) (hb5.trans ((hgr d os).mono hb5.size))
    have q0 := fun (d : Nat) (os : Array Obj) => cell_regrown d0 d os
    have q1 := fun (d : Nat) (os : Array Obj) => cell_regrown d1 d os
    have q2 := fun (d : Nat) (os : Array Obj) => cell_regrown d2 d os
    have p0 := fun (d : Nat) (os : Array Obj) => cell_regrown f0 d os
    have p1 := fun (d : Nat) (os : Array Obj) => cell_regrown f1 d os
    have p2 := fun (d : Nat) (os : Array Obj) => cell_regrown f2 d os
    clear hF hP2 hQ2 hRt hAl d0 d1 d2 f0 f1 f2 hK3 hK4 hK5 hK35 hr2 hr3 hr4 hr5 hr34 hr35 hrn hrn2 hrn34 hg3 hg5 hnew hnew2 hbn hbn2 hb2 hb3 hb4 hb43 hr
    refine wp_region_quiet_below (by kernel_rfl) (by kernel_rfl) ?_
    repeat (first
      | go_big_quiet_step (first | with_reducible exact quiet_below (hSm _ _) | with_reducible exact quiet_below (hOw _ _) | with_reducible exact quiet_below (hRi _ _) | with_reducible exact quiet_below (hAi _ _))
      | quiet_step (first | with_reducible exact quiet_below (hSm _ _) | with_reducible exact quiet_below (hOw _ _) | with_reducible exact quiet_below (hRi _ _) | with_reducible exact quiet_below (hAi _ _)))
    refine wpQuiet_nil ?_
    intro _ hw'
    obtain ⟨⟨d9, os⟩, hw''⟩ := hw'
    subst hw''
    have hL9 := hb5.trans ((hgr d9 os).mono hb5.size)
    generalize Go.Sort.grow (redrawn w5 d9) os = wx at *
    go_wp2_with fail
    go_returns
    exact ⟨rfl, hL9⟩
/-- The law, of any argument as the row reads it. -/
theorem lawCmdParses (A : Option Addr) (n c : Nat) (w : World) (h : Rv Tryz.prog w 22 [.slice A n c]) (hL : laidMetH Tryz.prog Rows.cmdParsesRow.laid w) :
    Calls Tryz.prog 3 #[.slice A n c] w fun e w' => e = .returned (.bool true) ∧ Below w.heap.size w w' := by
  obtain ⟨ws, rfl, hc, hs, hr⟩ := open_strs h
  obtain ⟨A', n', c', he, h1, h2, _⟩ := rv_slice Tryz.underlying22 h
  simp at he
  obtain ⟨rfl, rfl, rfl⟩ := he
  have hLd : LaidT w := laidT_of hL
  exact walkCmdParses A c ws w (by simp [maxLen] at h2; omega) hc (fun b hb => by have := hs b hb; simp [maxLen] at this; omega) hr hLd
end Go.Proofs.YtgohbkkeppknoaaGreatDoor
end
