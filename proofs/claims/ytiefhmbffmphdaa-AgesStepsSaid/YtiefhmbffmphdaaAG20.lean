/- ages: Touch of a new thing: the walk. -/
import Derived.Test.YtiefhmbffmphdaaAG19
import Derived.WalkSpells
set_option linter.unusedVariables false
namespace Go.Proofs.Ytiefhmbffmphdaa
open Go.RowKit
theorem Hw.cut {F : Nat → Prop} {w : World} {g : Nat} {A : Option Addr} {n c : Nat} {mv : Value} {now : Int} {a : Nat → Nat} {K W : Nat → Int} (h : Hw F w g A n c mv now a K W) : Hw (fun i => F i ∧ i < w.heap.size) w g A n c mv now a K W :=
  ⟨h.hg, h.row, h.th, h.inj, ⟨h.fg, h.hg.lt⟩, fun b hb => ⟨h.fr b hb, (h.row.lt b hb).2⟩, fun j hj => ⟨h.ft j hj, (h.th j hj).lt⟩⟩
set_option maxRecDepth 100000 in
set_option maxHeartbeats 8000000 in
/-- Touch of a new thing, from where the map is there. -/
theorem atouch_new {F : Nat → Prop} {w : World} {g : Nat} {A : Option Addr} {n c cnt : Nat} {mv : Value} {M : Int → Option Nat} {now : Int} {a : Nat → Nat} {K W : Nat → Int} (mo : Option Nat) (h : Hw F w g A n c mv now a K W) (hp : Hp W a n)
    (hlt : ∀ i, F i → i < w.heap.size) (hM : (mv = .map none ∧ M = (fun _ => none) ∧ mo = none) ∨ ∃ mb, mv = .map (some mb) ∧ mo = some mb ∧ ¬ F mb ∧ Mp Try.prog 3 w mb cnt M) (k : Int) (hk : -9223372036854775808 ≤ k ∧ k ≤ 9223372036854775807) (hMk : M k = none) (hn : n < 1000000) (hc : cnt ≤ 1000000) (hnow : 0 ≤ now ∧ now ≤ 1000000) :
    Calls Try.prog 6 #[.pointer (some ⟨g, 0, none⟩), .int .i64 k] w (NewTh F w g n cnt now a K W M k mo) := by
  obtain ⟨n0, n1⟩ := hnow
  have hwn : wrap64 (now + 1) = now + 1 := IntWalk.wrap64_in _ ⟨by omega, by omega⟩
  have hgl := h.hg.lt
  obtain ⟨c0, c1, c2⟩ := h.hg.cell3
  have f2 := h.hg.frozen 2
  have h1 := h.tick (now + 1)
  have hO1 : Only (fun i => F i ∨ some i = mo) w (w.setCell ⟨g, 2, none⟩ (.int .i64 (now + 1))) := only_gb (gb_set1 w ⟨g, 2, none⟩ _) (.inl h.fg)
  have hsz1 : (w.setCell ⟨g, 2, none⟩ (.int .i64 (now + 1))).heap.size = w.heap.size := by simp [World.setCell]
  have hM1 : (mv = .map none ∧ M = (fun _ => none) ∧ mo = none) ∨ ∃ mb, mv = .map (some mb) ∧ mo = some mb ∧ ¬ F mb ∧ Mp Try.prog 3 (w.setCell ⟨g, 2, none⟩ (.int .i64 (now + 1))) mb cnt M := by
    rcases hM with h2 | ⟨mb, e1, e2, h3, h4⟩
    · exact .inl h2
    · exact .inr ⟨mb, e1, e2, h3, h4.kept (gb_set1 w ⟨g, 2, none⟩ _) (by intro e; injection e with e; exact h3 (by rw [e]; exact h.fg))⟩
  have hqm : ∀ (w : World) (r : Option Nat), (binOp .eql 27 (.map r) (.map none)).run Try.prog w = .ok (.bool r.isNone) w := fun w r => run_eql_map_nil w _ _ _ r Try.underlying27
  have hmm := @run_makeMap Try.prog
  go_enter Try.func6, Try.ntmps6
  go_upto_region 2 with fail
  clear c0 c1 c2 f2 h hM hwn
  generalize w.setCell ⟨g, 2, none⟩ (.int .i64 (now + 1)) = w1 at *
  have hlk : (Instr.lookup 27 mv (.int .i64 k) false).run Try.prog w1 = .ok (ptV none) w1 := by
    have := MapIs.look (F := fun _ => True) (Fh := fun _ => False) (cnt := cnt) (M := M) (mv := mv) (w := w1) (by rcases hM1 with ⟨e1, e2, _⟩ | ⟨mb, e1, _, _, h4⟩; exact .inl ⟨e1, e2⟩; exact .inr ⟨mb, e1, trivial, id, h4⟩) hk
    rw [hMk] at this; exact this
  have hf : Calls Try.prog 18 #[.pointer (some ⟨g, 0, none⟩), .int .i64 k] w1 fun e w' => e = .returned (.pointer none) ∧ w1 = w' := afind_any h1.hg k _ hlk
  have HMk := Lib.hid hMk
  clear hlk hMk
  obtain ⟨c0, c1, c2⟩ := h1.hg.cell3
  have f1 := h1.hg.frozen 1
  have hF1 : ∀ i, F i → i < w1.heap.size := fun i hi => by rw [hsz1]; exact hlt i hi
  have HS1 := Lib.hid hsz1
  clear hsz1
  refine Or.elim hM1 ?armA ?armB
  case' armA =>
    rintro ⟨rfl, rfl, _⟩
    clear hM1
    obtain ⟨mb, hmb⟩ : ∃ mb, w1.heap.size = mb := ⟨_, rfl⟩
    have h2 := (h1.alloc (.map #[] 0)).remap (.map (some w1.heap.size))
    have hM2 : Mp Try.prog 3 ((w1.alloc (.map #[] 0)).setCell ⟨g, 1, none⟩ (.map (some w1.heap.size))) w1.heap.size cnt (fun _ => none) := by
      obtain ⟨D, h3, h4⟩ := ((mp_made w1 Try.prog 3).kept (gb_set1 (w1.alloc (.map #[] 0)) ⟨g, 1, none⟩ (.map (some w1.heap.size))) (by intro e; injection e with e; have e : w1.heap.size = g := e; have := HS1.out; omega))
      exact ⟨D, h3.mono (Nat.zero_le _), h4⟩
    have hO2 : Only (fun i => F i ∨ some i = mo) w1 ((w1.alloc (.map #[] 0)).setCell ⟨g, 1, none⟩ (.map (some w1.heap.size))) := (only_below ((Below.refl _ _).alloc (Nat.le_refl _) _)).trans (G := fun i => F i ∨ some i = mo) (only_gb (gb_set1 (w1.alloc (.map #[] 0)) ⟨g, 1, none⟩ _) (.inl h1.fg)) (fun i h => .inl h)
    have hOt := hO1.trans hO2 (fun i h => .inl h)
    have hFm : ¬ F w1.heap.size := fun e => Nat.lt_irrefl _ (hF1 _ e)
    have hmo : mo = some w1.heap.size ∨ w.heap.size ≤ w1.heap.size := .inr (by have := HS1.out; omega)
    have HMO := Lib.hid hmo
    clear hmo
    obtain ⟨e0, e1, e2⟩ := (h1.alloc (.map #[] 0)).hg.cell3
    have fe := (h1.alloc (.map #[] 0)).hg.frozen 1
    go_upto_region 8 with (go_at_call 18; (with_reducible refine hf.mono ?_); rintro e w2 ⟨rfl, rfl⟩)
    clear c0 c1 c2 f1 e0 e1 e2 fe hO1 hO2 hf h1
    rw [hmb] at *
    generalize (w1.alloc (.map #[] 0)).setCell ⟨g, 1, none⟩ (.map (some mb)) = w2 at *
  case' armB =>
    clear hM1
    rintro ⟨mb, rfl, hmE, hFm, hM1⟩
    have hM2 := hM1
    have h2 := h1
    have hOt := hO1
    have hmo : mo = some mb ∨ w.heap.size ≤ mb := .inl hmE
    clear hmE
    have HMO := Lib.hid hmo
    clear hmo
    go_upto_region 8 with (go_at_call 18; (with_reducible refine hf.mono ?_); rintro e w2 ⟨rfl, rfl⟩)
    clear c0 c1 c2 f1 hO1 hf h1
    generalize w1 = w2 at *
  all_goals
    have hF2 : ∀ i, F i → i < w2.heap.size := fun i hi => Nat.lt_of_lt_of_le (hlt i hi) hOt.bel.size
    have hmlt := hM2.lt
    have hgq : g ≠ w2.heap.size := fun e => Nat.lt_irrefl _ (Nat.lt_of_lt_of_le (hF2 g h2.fg) (Nat.le_of_eq e.symm))
    have haq : ∀ j, j < n → a j ≠ w2.heap.size := fun j hj e => Nat.lt_irrefl _ (Nat.lt_of_lt_of_le (hF2 _ (h2.ft j hj)) (Nat.le_of_eq e.symm))
    have h3 := (h2.alloc (.cells #[.int .i64 k, .int .i64 (now + 1), .int .i64 0] 48)).upd (K' := fun x => if x = w2.heap.size then k else K x) (W' := fun x => if x = w2.heap.size then now + 1 else W x) (fun j hj => if_neg (haq j hj)) (fun j hj => if_neg (haq j hj))
    have hp3 : Hp (fun x => if x = w2.heap.size then now + 1 else W x) a n := hp_upd hp (fun j hj => if_neg (haq j hj))
    have kq3 : Bk (w2.alloc (.cells #[.int .i64 k, .int .i64 (now + 1), .int .i64 0] 48)) w2.heap.size 48 #[.int .i64 k, .int .i64 (now + 1), .int .i64 0] := Bk.new _ _ _
    have hM3 := hM2.kept (World.grownBy_alloc w2 (.cells #[.int .i64 k, .int .i64 (now + 1), .int .i64 0] 48) none) (by simp)
    have hO3 := hOt.trans (only_below (F := F) ((Below.refl _ w2).alloc (Nat.le_refl _) (.cells #[.int .i64 k, .int .i64 (now + 1), .int .i64 0] 48))) (fun i h => .inl (.inl h))
    have hq0 : w.heap.size ≤ w2.heap.size := hOt.bel.size
    have hmq : mb ≠ w2.heap.size := by omega
    obtain ⟨c0, c1, c2⟩ := h2.hg.cell3
    go_upto_region 9 with fail
    clear c0 c1 c2 hOt hM2 hp
    have hs3 : w2.heap.size < (w2.alloc (.cells #[.int .i64 k, .int .i64 (now + 1), .int .i64 0] 48)).heap.size := by simp
    clear h2
    generalize hq : w2.heap.size = q at *
    generalize w2.alloc (.cells #[.int .i64 k, .int .i64 (now + 1), .int .i64 0] 48) = w3 at *
    have HQ := Lib.hid hq
    clear hq
    obtain ⟨c0, c1, c2⟩ := h3.hg.cell3
    go_upto_region 10 with (at_mapUpdate; (refine wpList_put rfl _ _ _ _ _ rfl Try.underlying3 Try.underlying27 hM3 (by unfold maxLen; omega) rfl k rfl hk q rfl ?_); intro w4 hM4 hg4 hs4)
    have h4 := h3.far hg4 hFm
    have kq4 := kq3.grown hg4 (fun e => hmq (by injection e with e; exact e.symm))
    have hO4 := hO3.trans (only_gb (F := fun i => i = mb) hg4 rfl) (fun i h => by rcases HMO.out with e | e; exact .inl (.inr (by rw [h, e])); exact .inr (by rw [h]; exact e))
    clear c0 c1 c2 h3 hM3 kq3 hO3
    have hPu := hpush_any h4 hp3 q 0 (by show Bk _ _ _ #[.int .i64 (if q = q then k else K q), .int .i64 (if q = q then now + 1 else W q), .int .i64 0]; rw [if_pos rfl, if_pos rfl]; exact kq4) haq hn
    obtain ⟨c0, c1, c2⟩ := h4.hg.cell3
    have hmlt4 : mb < w4.heap.size := hM4.lt
    clear hqm hmm
    go_wp2_with (go_at_call 20; (with_reducible refine hPu.mono ?_); rintro e w5 ⟨rfl, A', c', F', b, h5, hp5, hP5, hF5, hO5⟩)
    go_end0
    have hnm : ¬ (F' mb ∧ mb < w5.heap.size) := fun ⟨e, _⟩ => by
      rcases hF5 mb e with e | e | e
      · exact hFm e
      · exact hmq e
      · omega
    refine ⟨rfl, A', c', fun i => F' i ∧ i < w5.heap.size, b, mb, q, h5.cut, hp5, hP5, hM4.same (hO5.out mb hmlt4 (fun e => by rcases e with e | e; exact hFm e; exact hmq e)), hq0, ?_, ?_, fun i hi => hi.2, hnm, HMO.out, Nat.lt_of_lt_of_le hmlt4 hO5.bel.size, ?_⟩
    · have := hO5.bel.size; omega
    · rintro i ⟨hi, _⟩
      have hw4 := hO4.bel.size
      rcases hF5 i hi with e | e | e
      · exact .inl e
      · exact .inr (by omega)
      · exact .inr (by omega)
    · exact hO4.trans hO5 (fun i hi => by rcases hi with e | e; exact .inl (.inl e); exact .inr (by omega))
end Go.Proofs.Ytiefhmbffmphdaa
