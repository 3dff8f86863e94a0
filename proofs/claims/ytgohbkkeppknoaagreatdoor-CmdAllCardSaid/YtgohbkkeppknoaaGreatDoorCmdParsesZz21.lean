/- Several texts in one: words: the whole number that a text is. Commands: words as numbers, by a form. Commands: the program's numbers of words. Commands: the reference's numbers of words. Commands: forms of whole numbers; the reference's commands of numbers. As QLate, where the region's first operation, a move, may come whenever it likes. -/
import Derived.Test.YtgohbkkeppknoaaGreatDoorCmdParsesZz14
import Derived.Shelf.Strconv.ParseIntPublic10
import Derived.Test.YtgohbkkeppknoaaGreatDoorCmdParsesZz20
import Derived.Test.YtgohbkkeppknoaaGreatDoorCmdParsesZz1
import Derived.Test.YtgohbkkeppknoaaGreatDoorCmdParsesZz13
section
set_option linter.unusedVariables false
namespace Go.Proofs.YtgohbkkeppknoaaGreatDoor
open Go.RowKit
open Go.Lib (decDigits itoa)
/-- What the library has laid, and the walks lean on. -/
structure LaidT (w : World) : Prop where
  ten : TenT w
  syn : ∃ te pe, w.cell? ⟨1, 0, none⟩ = some (.iface te pe)
  rng : ∃ te pe, w.cell? ⟨2, 0, none⟩ = some (.iface te pe)
theorem cell_lt {w : World} {g : Nat} {v : Value} (h : w.cell? ⟨g, 0, none⟩ = some v) : g < w.heap.size := World.block_lt_of_cell? w _ h
theorem LaidT.nx {w w' : World} (h : LaidT w) (hb : Below w.heap.size w w') : LaidT w' := by
  obtain ⟨a, b, hs⟩ := h.syn
  obtain ⟨c, d, hr⟩ := h.rng
  exact ⟨h.ten.nx hb, ⟨a, b, (hb.cell (cell_lt hs)).trans hs⟩, ⟨c, d, (hb.cell (cell_lt hr)).trans hr⟩⟩
theorem bel_bytes (w : World) (t : TypeId) (s : ByteArray) : Below w.heap.size w (Lib.bytesWorld w t s) := Lib.bytesWorld_below _ _ _
set_option maxRecDepth 100000 in
set_option maxHeartbeats 8000000 in
theorem wnum_any (s : ByteArray) (hs : s.size ≤ 1000000) (w : World) (hl : LaidT w) : Calls Tryz.prog 135 #[.string s] w fun e w' => e = .returned (.tuple #[.int .i64 ((numO (bl s)).getD 0), .bool (numO (bl s)).isSome]) ∧ Below w.heap.size w w' := by
  rcases hp : Lib.parseIntB 64 (bl s) with v | _ | _
  · have hP : Calls Tryz.prog 193 #[.string s, .int .i64 10, .int .i64 64] w _ := Any.strconv_ParseInt_10_at64_ok parI s (by omega) v hp w
    have hbd := Lib.parseIntB_bounds hp
    have hF : ∀ w', TenT w' → Calls Tryz.prog 194 #[.int .i64 v, .int .i64 10] w' fun e w'' => e = .returned (.string ⟨(itoa v).toArray⟩) ∧ Below w'.heap.size w' w'' := fun w' ht => (Any.strconv_FormatInt_10 fmtI v (by omega) (by omega) w' ht).mono (fun e w'' h => by
      obtain ⟨h1, k, os, h2⟩ := h
      exact ⟨h1, by rw [h2]; exact bel_growN w' k os⟩)
    have hcmp := str_eqB (itoa v) s
    by_cases hi : itoa v = bl s
    · have hN : Hid (numO (bl s) = some v) := by show _ = _; unfold numO; rw [hp]; simp [hi]
      rw [decide_eq_true hi] at hcmp
      clear hi hp hbd
      generalize (⟨(itoa v).toArray⟩ : ByteArray) = T at *
      go_enter Tryz.func135, Tryz.ntmps135
      go_wp2_with (first
        | (go_at_call 193; refine hP.mono ?_; rintro e w1 ⟨rfl, hw1⟩; have hb1 : Below w.heap.size w w1 := (by rcases hw1 with h | ⟨t, h⟩ <;> rw [h]; exact Below.refl _ _; exact bel_bytes _ _ _); clear hw1)
        | (go_at_call 194; refine (hF _ (hl.ten.nx hb1)).mono ?_; rintro e w2 ⟨rfl, hb2⟩))
      go_returns
      exact ⟨by rw [hN.out]; rfl, hb1.trans (hb2.mono hb1.size)⟩
    · have hN : Hid (numO (bl s) = none) := by show _ = _; unfold numO; rw [hp]; simp [hi]
      rw [decide_eq_false hi] at hcmp
      clear hi hp hbd
      generalize (⟨(itoa v).toArray⟩ : ByteArray) = T at *
      go_enter Tryz.func135, Tryz.ntmps135
      go_wp2_with (first
        | (go_at_call 193; refine hP.mono ?_; rintro e w1 ⟨rfl, hw1⟩; have hb1 : Below w.heap.size w w1 := (by rcases hw1 with h | ⟨t, h⟩ <;> rw [h]; exact Below.refl _ _; exact bel_bytes _ _ _); clear hw1)
        | (go_at_call 194; refine (hF _ (hl.ten.nx hb1)).mono ?_; rintro e w2 ⟨rfl, hb2⟩))
      go_returns
      exact ⟨by rw [hN.out]; rfl, hb1.trans (hb2.mono hb1.size)⟩
  · obtain ⟨te, pe, hv⟩ := hl.syn
    have hP : Calls Tryz.prog 193 #[.string s, .int .i64 10, .int .i64 64] w _ := Any.strconv_ParseInt_10_at64_syntax parI s (by omega) hp (.iface te pe) w hv (.inr ⟨te, pe, rfl⟩)
    have hN : Hid (numO (bl s) = none) := by show _ = _; unfold numO; rw [hp]
    clear hp hv
    go_enter Tryz.func135, Tryz.ntmps135
    go_wp2_with (go_at_call 193; refine hP.mono ?_; rintro e w1 ⟨N, rfl, -, -, hb1⟩)
    go_returns
    exact ⟨by rw [hN.out]; rfl, hb1⟩
  · obtain ⟨te, pe, hv⟩ := hl.rng
    have hP : Calls Tryz.prog 193 #[.string s, .int .i64 10, .int .i64 64] w _ := Any.strconv_ParseInt_10_at64_range parI s (by omega) hp (.iface te pe) w hv (.inr ⟨te, pe, rfl⟩)
    have hN : Hid (numO (bl s) = none) := by show _ = _; unfold numO; rw [hp]
    clear hp hv
    generalize Lib.intSat 64 s.data.toList = q at *
    go_enter Tryz.func135, Tryz.ntmps135
    go_wp2_with (go_at_call 193; refine hP.mono ?_; rintro e w1 ⟨N, rfl, -, -, hb1⟩)
    go_returns
    exact ⟨by rw [hN.out]; rfl, hb1⟩
end Go.Proofs.YtgohbkkeppknoaaGreatDoor
end
section
set_option linter.unusedVariables false
namespace Go.Proofs.YtgohbkkeppknoaaGreatDoor
open Go.RowKit
/-- The number of the i-th word. -/
def numW (f : List UInt8) (i : Nat) (b : List UInt8) : Option Int := if f[i]? = some 119 then numO b else readO b
def numsK (f : List UInt8) : Nat → List (List UInt8) → Option (List Int) → Option (List Int)
  | _, [], acc => acc
  | i, b :: r, acc => numsK f (i + 1) r (acc.bind fun L => (numW f i b).map fun x => L ++ [x])
def numsF (f : List UInt8) (ws : List ByteArray) : Option (List Int) := numsK f 0 (ws.map bl) (some [])
theorem numsK_none (f : List UInt8) : ∀ (l : List (List UInt8)) (i : Nat), numsK f i l none = none
  | [], _ => rfl
  | b :: r, i => by rw [numsK]; exact numsK_none f r (i + 1)
theorem numsK_app (f : List UInt8) : ∀ (l m : List (List UInt8)) (i : Nat) (acc : Option (List Int)), numsK f i (l ++ m) acc = numsK f (i + l.length) m (numsK f i l acc)
  | [], m, i, acc => rfl
  | b :: r, m, i, acc => by
    rw [List.cons_append, numsK, numsK, numsK_app f r m (i + 1), List.length_cons, show i + 1 + r.length = i + (r.length + 1) by omega]
theorem take_mapS (ws : List ByteArray) (k : Nat) (h : k < ws.length) : (ws.take (k + 1)).map bl = (ws.take k).map bl ++ [bl ws[k]] := by
  rw [List.take_succ_eq_append_getElem h, List.map_append]; rfl
theorem nums_up {f : List UInt8} {ws : List ByteArray} {k : Nat} (h : k < ws.length) {L : List Int} (hL : numsK f 0 ((ws.take k).map bl) (some []) = some L) : numsK f 0 ((ws.take (k + 1)).map bl) (some []) = (numW f k (bl ws[k])).map fun x => L ++ [x] := by
  rw [take_mapS ws k h, numsK_app, hL]
  simp [numsK, Nat.min_eq_left (Nat.le_of_lt h)]
theorem nums_no {f : List UInt8} {ws : List ByteArray} {k : Nat} (h : k < ws.length) (hn : numsK f 0 ((ws.take (k + 1)).map bl) (some []) = none) : numsF f ws = none := by
  unfold numsF
  have e : ws.map bl = (ws.take (k + 1)).map bl ++ (ws.drop (k + 1)).map bl := by rw [← List.map_append, List.take_append_drop]
  rw [e, numsK_app, hn, numsK_none]
theorem nums_end {f : List UInt8} {ws : List ByteArray} {L : List Int} (h : numsK f 0 ((ws.take ws.length).map bl) (some []) = some L) : numsF f ws = some L := by
  rw [List.take_of_length_le (Nat.le_refl _)] at h; exact h
/-- What stands for a form's byte. -/
theorem form_at (f : ByteArray) (i : Nat) (h : i < f.size) : ∃ c : Nat, c ≤ 255 ∧ (∀ W, (Instr.index 9 (.string f) (.int .i64 i)).run Tryz.prog W = .ok (.int .u8 c) W) ∧ ((bl f)[i]? = some 119 ↔ c = 119) := by
  refine ⟨(f[i]'h).toNat, by have := (f[i]'h).toNat_lt; omega, fun W => ?_, ?_⟩
  · rw [run_index_string (P := Tryz.prog) W 9 f .i64 (i : Int) Tryz.underlying9, dif_pos ⟨by omega, by omega⟩]
    rfl
  · rw [List.getElem?_eq_getElem (by rw [bl_len]; exact h), bl_get f i h]
    constructor
    · intro e; have := Option.some.inj e; rw [this]; rfl
    · intro e; congr 1; exact UInt8.toNat_inj.1 (by rw [e]; rfl)
theorem i64_infoW : (Tryz.prog.info? 2).map (fun i => (i.zero, i.size, i.bytes)) = some (some (.int .i64 0), 1, 8) := by kernel_rfl
end Go.Proofs.YtgohbkkeppknoaaGreatDoor
end
section
set_option linter.unusedVariables false
namespace Go.Proofs.YtgohbkkeppknoaaGreatDoor
open Go.RowKit
/-- What numbers of words are told: a row of one's own, or nothing. -/
def NumsV (o : Option (List Int)) (v : Value) (base : Nat) (w : World) : Prop := match o with
  | none => v = .slice none 0 0
  | some L => w.ownsRow base 2 1 v L.length (L.map (Value.int .i64))
theorem ints1q {z : Int} : ∀ u ∈ (#[Value.int .i64 z] : Array Value).toList, u.oneCell' = true := by simp [Value.oneCell']
/-- Words as a function's parameter holds them. -/
structure WdsOk (w : World) (A : Option Addr) (ws : List ByteArray) : Prop where
  rd : Rd w w.heap.size A (ws.map Value.string)
  sz : ∀ b ∈ ws, b.size ≤ 1000000
  n : ws.length ≤ 1000000
set_option maxRecDepth 100000 in
set_option maxHeartbeats 16000000 in
theorem cnums_any (A : Option Addr) (c : Nat) (ws : List ByteArray) (f : ByteArray) (hf : f.size ≤ 10000000) (w : World) (hw : WdsOk w A ws) (hl : LaidT w) : Calls Tryz.prog 74 #[.slice A ws.length c, .string f] w fun e w' => ∃ v, e = .returned (.tuple #[v, .bool (numsF (bl f) ws).isSome]) ∧ NumsV (numsF (bl f) ws) v w.heap.size w' ∧ Below w.heap.size w w' := by
  obtain ⟨hr, hsz, hn⟩ := hw
  have HSZ := Lib.hid hsz
  clear hsz
  go_enter Tryz.func74, Tryz.ntmps74
  go_wp2_with fail
  go_loopw [6, 14] (fun v iv wr => ∃ (k : Nat) (L : List Int), iv = .int .i64 k ∧ k ≤ ws.length ∧ L.length = k ∧ Hid (numsK (bl f) 0 ((ws.take k).map bl) (some []) = some L) ∧ wr.ownsRow w.heap.size 2 1 v k (L.map (Value.int .i64)) ∧ Below w.heap.size w wr) (fun _ iv _ => ws.length - (intOf iv).toNat)
  case atStart => exact ⟨0, [], rfl, by omega, rfl, rfl, World.ownsRow_nil _ _ _ _, Below.refl _ _⟩
  case round =>
    obtain ⟨k, L, rfl, hk, hLk, hL, hown, hbr⟩ := hrel
    obtain ⟨wq, rfl⟩ : ∃ wq : World, wq = wr := ⟨_, rfl⟩
    have hqz := hbr.size
    by_cases hlt : k < ws.length
    · have hlt' : (k : Int) < (ws.length : Int) := by omega
      obtain ⟨bb, oo, rfl, hbw, hcc⟩ := (hr.below hbr) k (by rw [List.length_map]; exact hlt)
      rw [List.getElem_map] at hcc
      have hs1 := HSZ.out ws[k] (List.getElem_mem hlt)
      have hup := nums_up hlt hL.out
      have hno := fun h => nums_no (f := bl f) hlt h
      have hlq := hl.nx hbr
      obtain ⟨s, hs⟩ : ∃ s, ws[k] = s := ⟨_, rfl⟩
      rw [hs] at hcc hs1 hup
      have HUP := Lib.hid hup
      have HNO := Lib.hid hno
      clear hup hno hL hs
      have hz1 : (k + 1) * 8 ≤ 140737488355328 := by omega
      have hz2 : k + 1 ≤ 9223372036854775807 := by omega
      have main : ∀ (fn : FuncId), (fn = 134 ∧ numW (bl f) k (bl s) = readO (bl s)) ∨ (fn = 135 ∧ numW (bl f) k (bl s) = numO (bl s)) → Calls Tryz.prog fn #[.string s] wq fun e w' => e = .returned (.tuple #[.int .i64 ((numW (bl f) k (bl s)).getD 0), .bool (numW (bl f) k (bl s)).isSome]) ∧ Below wq.heap.size wq w' := by
        rintro fn (⟨rfl, h⟩ | ⟨rfl, h⟩)
        · rw [h]; exact fread_any s hs1 wq hlq.ten
        · rw [h]; exact wnum_any s hs1 wq hlq
      by_cases hkf : k < f.size
      · obtain ⟨cz, hcz, hidx, hiff⟩ := form_at f k hkf
        have hkf2 : (k : Int) < (f.size : Int) := by omega
        by_cases hc : cz = 119
        · subst hc
          have hM := main 135 (.inr ⟨rfl, by unfold numW; rw [if_pos (hiff.2 rfl)]⟩)
          clear hiff
          cases ho : numW (bl f) k (bl s) with
          | none =>
            rw [ho] at hM
            simp only [Option.getD_none, Option.isSome_none] at hM
            have HR : Hid (numsF (bl f) ws = none) := HNO.out (by rw [HUP.out, ho]; rfl)
            clear ho main
            go_wp2_with (go_at_call 135; (with_reducible refine hM.mono ?_); rintro e w2 ⟨rfl, hb2⟩)
            go_returns
            exact ⟨_, by rw [HR.out]; rfl, by rw [HR.out]; rfl, hbr.trans (hb2.mono hqz)⟩
          | some x =>
            rw [ho] at hM
            simp only [Option.getD_some, Option.isSome_some] at hM
            have HS : Hid (numsK (bl f) 0 ((ws.take (k + 1)).map bl) (some []) = some (L ++ [x])) := by show _ = _; rw [HUP.out, ho]; rfl
            clear ho main
            go_wp2_with (first
              | (go_at_call 135; (with_reducible refine hM.mono ?_); rintro e w2 ⟨rfl, hb2⟩; have hown2 := own_below hown hb2 (Nat.le_refl _); have hbr2 := hbr.trans (hb2.mono hqz); have hqz2 := hbr2.size)
              | (at_builtin; refine app1 rfl _ _ _ rfl Tryz.underlying24 i64_infoW rfl Nat.one_pos rfl rfl hown2 hbr2 (Nat.le_refl _) hqz2 rfl ints1q hz1 hz2 ?_; intro v' w' hown' hbel' hlt2 hgr _))
            exact ⟨⟨k + 1, L ++ [x], by go_num, by omega, by simp [hLk], HS.out, by simpa using hown', hbel'⟩, by simp [intOf]; omega⟩
        · have hc2 : ((cz : Int) == 119) = false := beq_eq_false_iff_ne.2 (by omega)
          have hc3 : ¬ ((cz : Int) = 119) := by omega
          have hM := main 134 (.inl ⟨rfl, by unfold numW; rw [if_neg (fun h => hc (hiff.1 h))]⟩)
          clear hiff
          cases ho : numW (bl f) k (bl s) with
          | none =>
            rw [ho] at hM
            simp only [Option.getD_none, Option.isSome_none] at hM
            have HR : Hid (numsF (bl f) ws = none) := HNO.out (by rw [HUP.out, ho]; rfl)
            clear ho main
            go_wp2_with (go_at_call 134; (with_reducible refine hM.mono ?_); rintro e w2 ⟨rfl, hb2⟩)
            go_returns
            exact ⟨_, by rw [HR.out]; rfl, by rw [HR.out]; rfl, hbr.trans (hb2.mono hqz)⟩
          | some x =>
            rw [ho] at hM
            simp only [Option.getD_some, Option.isSome_some] at hM
            have HS : Hid (numsK (bl f) 0 ((ws.take (k + 1)).map bl) (some []) = some (L ++ [x])) := by show _ = _; rw [HUP.out, ho]; rfl
            clear ho main
            go_wp2_with (first
              | (go_at_call 134; (with_reducible refine hM.mono ?_); rintro e w2 ⟨rfl, hb2⟩; have hown2 := own_below hown hb2 (Nat.le_refl _); have hbr2 := hbr.trans (hb2.mono hqz); have hqz2 := hbr2.size)
              | (at_builtin; refine app1 rfl _ _ _ rfl Tryz.underlying24 i64_infoW rfl Nat.one_pos rfl rfl hown2 hbr2 (Nat.le_refl _) hqz2 rfl ints1q hz1 hz2 ?_; intro v' w' hown' hbel' hlt2 hgr _))
            exact ⟨⟨k + 1, L ++ [x], by go_num, by omega, by simp [hLk], HS.out, by simpa using hown', hbel'⟩, by simp [intOf]; omega⟩
      · have hkf2 : ¬ ((k : Int) < (f.size : Int)) := by omega
        have hM := main 134 (.inl ⟨rfl, by unfold numW; rw [if_neg (by rw [List.getElem?_eq_none (by rw [bl_len]; omega)]; simp)]⟩)
        cases ho : numW (bl f) k (bl s) with
        | none =>
          rw [ho] at hM
          simp only [Option.getD_none, Option.isSome_none] at hM
          have HR : Hid (numsF (bl f) ws = none) := HNO.out (by rw [HUP.out, ho]; rfl)
          clear ho main
          go_wp2_with (go_at_call 134; (with_reducible refine hM.mono ?_); rintro e w2 ⟨rfl, hb2⟩)
          go_returns
          exact ⟨_, by rw [HR.out]; rfl, by rw [HR.out]; rfl, hbr.trans (hb2.mono hqz)⟩
        | some x =>
          rw [ho] at hM
          simp only [Option.getD_some, Option.isSome_some] at hM
          have HS : Hid (numsK (bl f) 0 ((ws.take (k + 1)).map bl) (some []) = some (L ++ [x])) := by show _ = _; rw [HUP.out, ho]; rfl
          clear ho main
          go_wp2_with (first
            | (go_at_call 134; (with_reducible refine hM.mono ?_); rintro e w2 ⟨rfl, hb2⟩; have hown2 := own_below hown hb2 (Nat.le_refl _); have hbr2 := hbr.trans (hb2.mono hqz); have hqz2 := hbr2.size)
            | (at_builtin; refine app1 rfl _ _ _ rfl Tryz.underlying24 i64_infoW rfl Nat.one_pos rfl rfl hown2 hbr2 (Nat.le_refl _) hqz2 rfl ints1q hz1 hz2 ?_; intro v' w' hown' hbel' hlt2 hgr _))
          exact ⟨⟨k + 1, L ++ [x], by go_num, by omega, by simp [hLk], HS.out, by simpa using hown', hbel'⟩, by simp [intOf]; omega⟩
    · obtain rfl : k = ws.length := by omega
      have HR := Lib.hid (nums_end hL.out)
      clear hL
      go_wp2_with fail
      go_returns
      exact ⟨_, by rw [HR.out]; rfl, by rw [HR.out]; show wq.ownsRow w.heap.size 2 1 _ L.length _; rw [hLk]; exact hown, hbr⟩
end Go.Proofs.YtgohbkkeppknoaaGreatDoor
end
section
set_option linter.unusedVariables false
namespace Go.Proofs.YtgohbkkeppknoaaGreatDoor
open Go.RowKit
set_option maxRecDepth 100000 in
set_option maxHeartbeats 16000000 in
theorem rnums_any (A : Option Addr) (c : Nat) (ws : List ByteArray) (f : ByteArray) (hf : f.size ≤ 10000000) (w : World) (hw : WdsOk w A ws) : Calls Tryz.prog 76 #[.slice A ws.length c, .string f] w fun e w' => ∃ v, e = .returned (.tuple #[v, .bool (numsF (bl f) ws).isSome]) ∧ NumsV (numsF (bl f) ws) v w.heap.size w' ∧ Below w.heap.size w w' := by
  obtain ⟨hr, hsz, hn⟩ := hw
  have HSZ := Lib.hid hsz
  clear hsz
  go_enter Tryz.func76, Tryz.ntmps76
  go_wp2_with fail
  go_loopw [6, 7] (fun v iv wr => ∃ (k : Nat) (L : List Int), iv = .int .i64 k ∧ k ≤ ws.length ∧ L.length = k ∧ Hid (numsK (bl f) 0 ((ws.take k).map bl) (some []) = some L) ∧ wr.ownsRow w.heap.size 2 1 v k (L.map (Value.int .i64)) ∧ Below w.heap.size w wr) (fun _ iv _ => ws.length - (intOf iv).toNat)
  case atStart => exact ⟨0, [], rfl, by omega, rfl, rfl, World.ownsRow_nil _ _ _ _, Below.refl _ _⟩
  case round =>
    obtain ⟨k, L, rfl, hk, hLk, hL, hown, hbr⟩ := hrel
    obtain ⟨wq, rfl⟩ : ∃ wq : World, wq = wr := ⟨_, rfl⟩
    have hqz := hbr.size
    by_cases hlt : k < ws.length
    · have hlt' : (k : Int) < (ws.length : Int) := by omega
      obtain ⟨bb, oo, rfl, hbw, hcc⟩ := (hr.below hbr) k (by rw [List.length_map]; exact hlt)
      rw [List.getElem_map] at hcc
      have hs1 := HSZ.out ws[k] (List.getElem_mem hlt)
      have hup := nums_up hlt hL.out
      have hno := fun h => nums_no (f := bl f) hlt h
      obtain ⟨s, hs⟩ : ∃ s, ws[k] = s := ⟨_, rfl⟩
      rw [hs] at hcc hs1 hup
      have HUP := Lib.hid hup
      have HNO := Lib.hid hno
      clear hup hno hL hs
      have hz1 : (k + 1) * 8 ≤ 140737488355328 := by omega
      have hz2 : k + 1 ≤ 9223372036854775807 := by omega
      have main : ∀ (fn : FuncId), (fn = 137 ∧ numW (bl f) k (bl s) = readO (bl s)) ∨ (fn = 136 ∧ numW (bl f) k (bl s) = numO (bl s)) → Calls Tryz.prog fn #[.string s] wq fun e w' => e = .returned (.tuple #[.int .i64 ((numW (bl f) k (bl s)).getD 0), .bool (numW (bl f) k (bl s)).isSome]) ∧ Below wq.heap.size wq w' := by
        rintro fn (⟨rfl, h⟩ | ⟨rfl, h⟩)
        · rw [h]; exact rread_any s hs1 wq
        · rw [h]; have := rnum_any s hs1 wq; rw [refN_eq] at this; exact this
      by_cases hkf : k < f.size
      · obtain ⟨cz, hcz, hidx, hiff⟩ := form_at f k hkf
        have hkf2 : (k : Int) < (f.size : Int) := by omega
        by_cases hc : cz = 119
        · subst hc
          have hM := main 136 (.inr ⟨rfl, by unfold numW; rw [if_pos (hiff.2 rfl)]⟩)
          clear hiff
          cases ho : numW (bl f) k (bl s) with
          | none =>
            rw [ho] at hM
            simp only [Option.getD_none, Option.isSome_none] at hM
            have HR : Hid (numsF (bl f) ws = none) := HNO.out (by rw [HUP.out, ho]; rfl)
            clear ho main
            go_wp2_with (go_at_call 136; (with_reducible refine hM.mono ?_); rintro e w2 ⟨rfl, hb2⟩)
            go_returns
            exact ⟨_, by rw [HR.out]; rfl, by rw [HR.out]; rfl, hbr.trans (hb2.mono hqz)⟩
          | some x =>
            rw [ho] at hM
            simp only [Option.getD_some, Option.isSome_some] at hM
            have HS : Hid (numsK (bl f) 0 ((ws.take (k + 1)).map bl) (some []) = some (L ++ [x])) := by show _ = _; rw [HUP.out, ho]; rfl
            clear ho main
            go_wp2_with (first
              | (go_at_call 136; (with_reducible refine hM.mono ?_); rintro e w2 ⟨rfl, hb2⟩; have hown2 := own_below hown hb2 (Nat.le_refl _); have hbr2 := hbr.trans (hb2.mono hqz); have hqz2 := hbr2.size)
              | (at_builtin; refine app1 rfl _ _ _ rfl Tryz.underlying24 i64_infoW rfl Nat.one_pos rfl rfl hown2 hbr2 (Nat.le_refl _) hqz2 rfl ints1q hz1 hz2 ?_; intro v' w' hown' hbel' hlt2 hgr _))
            exact ⟨⟨k + 1, L ++ [x], by go_num, by omega, by simp [hLk], HS.out, by simpa using hown', hbel'⟩, by simp [intOf]; omega⟩
        · have hc2 : ((cz : Int) == 119) = false := beq_eq_false_iff_ne.2 (by omega)
          have hc3 : ¬ ((cz : Int) = 119) := by omega
          have hM := main 137 (.inl ⟨rfl, by unfold numW; rw [if_neg (fun h => hc (hiff.1 h))]⟩)
          clear hiff
          cases ho : numW (bl f) k (bl s) with
          | none =>
            rw [ho] at hM
            simp only [Option.getD_none, Option.isSome_none] at hM
            have HR : Hid (numsF (bl f) ws = none) := HNO.out (by rw [HUP.out, ho]; rfl)
            clear ho main
            go_wp2_with (go_at_call 137; (with_reducible refine hM.mono ?_); rintro e w2 ⟨rfl, hb2⟩)
            go_returns
            exact ⟨_, by rw [HR.out]; rfl, by rw [HR.out]; rfl, hbr.trans (hb2.mono hqz)⟩
          | some x =>
            rw [ho] at hM
            simp only [Option.getD_some, Option.isSome_some] at hM
            have HS : Hid (numsK (bl f) 0 ((ws.take (k + 1)).map bl) (some []) = some (L ++ [x])) := by show _ = _; rw [HUP.out, ho]; rfl
            clear ho main
            go_wp2_with (first
              | (go_at_call 137; (with_reducible refine hM.mono ?_); rintro e w2 ⟨rfl, hb2⟩; have hown2 := own_below hown hb2 (Nat.le_refl _); have hbr2 := hbr.trans (hb2.mono hqz); have hqz2 := hbr2.size)
              | (at_builtin; refine app1 rfl _ _ _ rfl Tryz.underlying24 i64_infoW rfl Nat.one_pos rfl rfl hown2 hbr2 (Nat.le_refl _) hqz2 rfl ints1q hz1 hz2 ?_; intro v' w' hown' hbel' hlt2 hgr _))
            exact ⟨⟨k + 1, L ++ [x], by go_num, by omega, by simp [hLk], HS.out, by simpa using hown', hbel'⟩, by simp [intOf]; omega⟩
      · have hkf2 : ¬ ((k : Int) < (f.size : Int)) := by omega
        have hM := main 137 (.inl ⟨rfl, by unfold numW; rw [if_neg (by rw [List.getElem?_eq_none (by rw [bl_len]; omega)]; simp)]⟩)
        cases ho : numW (bl f) k (bl s) with
        | none =>
          rw [ho] at hM
          simp only [Option.getD_none, Option.isSome_none] at hM
          have HR : Hid (numsF (bl f) ws = none) := HNO.out (by rw [HUP.out, ho]; rfl)
          clear ho main
          go_wp2_with (go_at_call 137; (with_reducible refine hM.mono ?_); rintro e w2 ⟨rfl, hb2⟩)
          go_returns
          exact ⟨_, by rw [HR.out]; rfl, by rw [HR.out]; rfl, hbr.trans (hb2.mono hqz)⟩
        | some x =>
          rw [ho] at hM
          simp only [Option.getD_some, Option.isSome_some] at hM
          have HS : Hid (numsK (bl f) 0 ((ws.take (k + 1)).map bl) (some []) = some (L ++ [x])) := by show _ = _; rw [HUP.out, ho]; rfl
          clear ho main
          go_wp2_with (first
            | (go_at_call 137; (with_reducible refine hM.mono ?_); rintro e w2 ⟨rfl, hb2⟩; have hown2 := own_below hown hb2 (Nat.le_refl _); have hbr2 := hbr.trans (hb2.mono hqz); have hqz2 := hbr2.size)
            | (at_builtin; refine app1 rfl _ _ _ rfl Tryz.underlying24 i64_infoW rfl Nat.one_pos rfl rfl hown2 hbr2 (Nat.le_refl _) hqz2 rfl ints1q hz1 hz2 ?_; intro v' w' hown' hbel' hlt2 hgr _))
          exact ⟨⟨k + 1, L ++ [x], by go_num, by omega, by simp [hLk], HS.out, by simpa using hown', hbel'⟩, by simp [intOf]; omega⟩
    · obtain rfl : k = ws.length := by omega
      have HR := Lib.hid (nums_end hL.out)
      clear hL
      go_wp2_with fail
      go_returns
      exact ⟨_, by rw [HR.out]; rfl, by rw [HR.out]; show wq.ownsRow w.heap.size 2 1 _ L.length _; rw [hLk]; exact hown, hbr⟩
end Go.Proofs.YtgohbkkeppknoaaGreatDoor
end
section
set_option linter.unusedVariables false
namespace Go.Proofs.YtgohbkkeppknoaaGreatDoor
open Go.RowKit
def whoL (n : Nat) : List UInt8 := List.replicate n 119
theorem whoL_up (n : Nat) : whoL n ++ [119] = whoL (n + 1) := by unfold whoL; rw [List.replicate_succ']
set_option maxRecDepth 100000 in
set_option maxHeartbeats 4000000 in
theorem rwhole_any (n : Nat) (hn : n ≤ 1000) (w : World) : Calls Tryz.prog 35 #[.int .i64 n] w fun e w' => e = .returned (strV (whoL n)) ∧ w = w' := by
  go_enter Tryz.func35, Tryz.ntmps35
  go_wp2_with fail
  go_loopw [3, 4] (fun sv iv wr => ∃ k : Nat, k ≤ n ∧ iv = .int .i64 k ∧ sv = .string ⟨(whoL k).toArray⟩ ∧ w = wr) (fun _ iv _ => n - (intOf iv).toNat)
  case atStart => exact ⟨0, by omega, rfl, rfl, rfl⟩
  case round =>
    obtain ⟨k, hk, rfl, rfl, rfl⟩ := hrel
    by_cases hlt : k < n
    · have hlt' : (k : Int) < (n : Int) := by omega
      have happ : (⟨(whoL k).toArray⟩ : ByteArray) ++ ⟨#[119]⟩ = ⟨(whoL (k + 1)).toArray⟩ := by rw [← whoL_up]; exact str_app _ [119]
      have hz : (⟨(whoL k).toArray⟩ : ByteArray).size ≤ 1000 := by rw [str_size]; unfold whoL; simp; omega
      have HA := Lib.hid happ
      clear happ
      generalize (⟨(whoL k).toArray⟩ : ByteArray) = SB at *
      go_wp2_with fail
      exact ⟨⟨k + 1, by omega, by go_num, by rw [HA.out], trivial⟩, by simp [intOf]; omega⟩
    · obtain rfl : k = n := by omega
      go_wp2_with fail
      go_returns
      exact ⟨rfl, rfl⟩
end Go.Proofs.YtgohbkkeppknoaaGreatDoor
end
section
set_option linter.unusedVariables false
namespace Go.Proofs.YtgohbkkeppknoaaGreatDoor
open Go.RowKit Go.Sort
section
variable {P : Program} {ops : Array Oper} {md : Region.Mode} {C : World → Prop}
def behindB1 (md : Region.Mode) (ops : Array Oper) (n f : Nat) : Bool := (List.range ops.size).all fun t => decide (t < n) || (List.range n).all fun i => i == 0 || reachB md ops f t i
theorem behind_lt1 {n f : Nat} (hB : behindB1 md ops n f = true) {ls : Array Bool} (inv : HeadInv md ops n ls) {i : Nat} (hi : i < n) (hi1 : 1 ≤ i) (hun : ls.getD i true = false) (j : Nat) (hj : j ∈ Region.ready md ops ls) : j < n := by
  rcases Nat.lt_or_ge j n with h | h
  · exact h
  · exfalso
    obtain ⟨hj1, oj, hoj, hall⟩ := mem_ready.1 hj
    have hjs : j < ops.size := (Array.getElem?_eq_some_iff.1 hoj).1
    have h1 := List.all_eq_true.1 hB j (List.mem_range.2 hjs)
    simp only [Bool.or_eq_true, decide_eq_true_eq] at h1
    rcases h1 with h1 | h1
    · omega
    · have h2 := List.all_eq_true.1 h1 i (List.mem_range.2 hi)
      have h2' : reachB md ops f j i = true := by
        rcases (Bool.or_eq_true _ _).mp h2 with h | h
        · exact absurd (beq_iff_eq.1 h) (by omega)
        · exact h
      have h3 := reach_listed inv f j h2' (fun o ho e he hb => by
        have : o = oj := Option.some.inj (ho.symm.trans hoj)
        subst this
        exact hall e he hb)
      rw [getD_both hun] at h3
      cases h3
def lateB1 (md : Region.Mode) (ops : Array Oper) (n f : Nat) : Bool :=
  Region.noSelect ops && decide (n ≤ ops.size) && decide (1 ≤ n) && behindB1 md ops n f && (Region.ready md ops (Array.replicate ops.size false)).contains 0 && Region.free md ops (Array.replicate ops.size false) 0 && goB md ops (n - 1) 1 ((Array.replicate ops.size false).setIfInBounds 0 true) && (Region.ready md ops (upTo (n - 1) 1 ((Array.replicate ops.size false).setIfInBounds 0 true))).all (fun j => decide (n ≤ j))
theorem HeadQ.lexU1 {n f : Nat} {LS : Array Bool} {Lq : Act → Prop} (hsel : Region.noSelect ops = true) (hb : behindB1 md ops n f = true) (hd : ∀ j ∈ Region.ready md ops LS, n ≤ j) (l : List Oper) :
    ∀ (k : Nat) (ls : Array Bool) (a : Act), 1 ≤ k → (∀ j, j < l.length → l[j]? = ops[k + j]?) → k + l.length = n → HeadInv md ops n ls → goB md ops l.length k ls = true → upTo l.length k ls = LS → wpQuiet P ops C Lq l a →
      HeadQ P md ops C n (fun ls' a' => ls' = LS ∧ Lq a') l.length ls a := by
  induction l with
  | nil => intro k ls a _ _ _ _ _ hu h; exact ⟨hu, h⟩
  | cons o l ih =>
    intro k ls a hk1 hl hk inv hB hu h
    have ho : ops[k]? = some o := by have := hl 0 (by simp); simpa using this.symm
    rw [List.length_cons] at hk hB hu
    simp only [goB, Bool.and_eq_true] at hB
    have hkn : k < n := by omega
    have hr : k ∈ Region.ready md ops ls := by simpa using hB.1.1
    obtain ⟨v, hy, hK⟩ := yieldsIn_of_qOp (K := wpQuiet P ops C Lq l) ho (by unfold qOp; simp only [ho]; exact h)
    exact HeadQ.first ⟨ho, hsel, hkn, fun ls' inv' hun j hj => behind_lt1 hb inv' hkn hk1 hun j hj, fun ls' a' hL => by rw [hL.1]; exact hd⟩ l.length ls a inv (Region.free_spec ho hB.1.2) hr hy
      (ih (k + 1) _ _ (by omega) (fun j hj => by have := hl (j + 1) (by simp; omega); rw [show k + 1 + j = k + (j + 1) by omega, ← this]; rfl) (by omega) (inv.set hr hkn) hB.2 hu hK)
end
theorem wp_region_quiet_late1 {P : Program} {id : Nat} {Q : Exit → Act → World → Prop} {a : Act} {w : World} {o0 : Oper} {l : List Oper} (n f : Nat) (x : Operand) (hm : P.follows .mixedOrders = true) (ho : o0.op = .move x) (hg : o0.guard = none) (hB : lateB1 .any (o0 :: l).toArray n f = true)
    (hQ : ∀ c a' w', Q (.panic c) (a'.put o0.dst (a.eval x)) w' → Q (.panic c) a' w')
    (h : wpQuiet P (o0 :: l).toArray (fun w' => ∃ p : Regrown, w' = grow (redrawn w p.d) p.os) (fun a' => ∀ w', (∃ p : Regrown, w' = grow (redrawn w p.d) p.os) → wpAny P .any (o0 :: l).toArray Q (l.length + 1 - n) (upTo (n - 1) 1 ((Array.replicate (l.length + 1) false).setIfInBounds 0 true)) a' w') (l.take (n - 1)) (a.put o0.dst (a.eval x))) : (Code.region id (o0 :: l).toArray true).wp P Q a w := by
  simp only [lateB1, Bool.and_eq_true, decide_eq_true_eq] at hB
  obtain ⟨⟨⟨⟨⟨⟨⟨hsel, hn⟩, hn1⟩, hb⟩, hr0⟩, hf0⟩, hgo⟩, hd⟩ := hB
  have hn2 : n ≤ l.length + 1 := by simpa using hn
  have hsz : (o0 :: l).toArray.size = l.length + 1 := by simp
  rw [hsz] at hgo hd hr0 hf0
  have e1 : (l.take (n - 1)).length = n - 1 := by rw [List.length_take]; omega
  have hw : Cl w { w with drawn := w.drawn + 1 } := ⟨⟨w.drawn + 1, #[]⟩, by rw [grow_empty]; rfl⟩
  have inv : HeadInv .any (o0 :: l).toArray n (Array.replicate (l.length + 1) false) :=
    ⟨by simp, fun j oj _ hl => (by rw [getD_replicate_false] at hl; cases hl), fun t _ ht => getD_in (by simpa using ht) (getD_replicate_false _ _)⟩
  have hr0' : 0 ∈ Region.ready .any (o0 :: l).toArray (Array.replicate (l.length + 1) false) := by simpa using hr0
  have inv1 := inv.set hr0' hn1
  have hd2 : ∀ j ∈ Region.ready .any (o0 :: l).toArray (upTo (n - 1) 1 ((Array.replicate (l.length + 1) false).setIfInBounds 0 true)), n ≤ j := fun j hj => of_decide_eq_true (List.all_eq_true.1 hd j hj)
  have H := HeadQ.lexU1 (P := P) (md := .any) (f := f) (LS := upTo (n - 1) 1 ((Array.replicate (l.length + 1) false).setIfInBounds 0 true)) hsel hb hd2 (l.take (n - 1)) 1 _ _ (Nat.le_refl _) (fun j hj => by
    rw [e1] at hj
    have hj2 : j < n - 1 := hj
    rw [show 1 + j = j + 1 by omega]
    simp [hj2]) (by omega) inv1 (by rw [e1]; exact hgo) (by rw [e1]) h
  refine wp_region_any hm ?_
  rw [hsz]
  refine wpAny_take (i := 0) (oi := o0) (v := a.eval x) (by simp) hsel hf0 (by simpa using hr0) hQ (.inl ⟨by unfold Region.wanted; rw [hg], fun w' => ?_⟩) ?_
  · unfold execOp
    simp [ho]
  · have R := HeadQ.run (Q' := Q) (g := l.length + 1 - n) (fun ls a' w' hC hL => by rw [hL.1]; exact hL.2 w' hC) _ _ _ _ hw H
    rw [e1, show n - 1 + (l.length + 1 - n) = l.length by omega] at R
    exact R
end Go.Proofs.YtgohbkkeppknoaaGreatDoor
end
