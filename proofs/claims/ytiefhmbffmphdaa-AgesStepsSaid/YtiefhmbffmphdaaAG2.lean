/- container/heap over a row of things: which method is called; up. (203: the number of the dump's types, as the walk writes it.) -/
import Derived.Test.YtiefhmbffmphdaaAG1
set_option linter.unusedVariables false
namespace Go.Proofs.Ytiefhmbffmphdaa
open Go.RowKit
theorem me_find (nm : String) (f : FuncId) (pr : Bool) (h : ((Try.t50.methods.find? (fun x => x.name == nm)).map fun m => (m.path, m.func)) = some (#[], some (f, pr))) : ∃ m, Try.t50.methods.find? (fun x => x.name == nm) = some m ∧ m.path = #[] ∧ m.func = some (f, pr) := by
  obtain ⟨m, hm, e⟩ := Option.map_eq_some_iff.1 h
  injection e with e1 e2
  exact ⟨m, hm, e1, e2⟩
theorem wrap_nil {P : Program} (ts : Array TypeId) (t : TypeId) (a : Addr) (x y : String) (w : World) : (Builtin.ssaWrapNilChk_ ts t #[.pointer (some a), strVal x, strVal y]).run P w = .ok (.pointer (some a)) w := rfl
theorem lv_row (g : Nat) (w : World) (A : Option Addr) (n c : Nat) (hc : w.cell? ⟨g, 0, none⟩ = some (.slice A n c)) : (loadVar 26 ⟨g, 0, none⟩).run Try.prog w = .ok (.slice A n c) w := by
  unfold loadVar
  simp [hc]
theorem me_less (g : Nat) (w : World) (sl : Value) (hv : (loadVar 26 ⟨g, 0, none⟩).run Try.prog w = .ok sl w) : (method 203 50 (.pointer (some ⟨g, 0, none⟩)) "Less").run Try.prog w = .ok (64, sl) w := by
  obtain ⟨m, hm, hp, hf⟩ := me_find "Less" 64 false (by kernel_rfl)
  unfold method
  simp [follow, receiverAt, Place.get, hm, hp, hf, wrap_nil, asAddr, hv]
theorem me_swap (g : Nat) (w : World) (sl : Value) (hv : (loadVar 26 ⟨g, 0, none⟩).run Try.prog w = .ok sl w) : (method 203 50 (.pointer (some ⟨g, 0, none⟩)) "Swap").run Try.prog w = .ok (65, sl) w := by
  obtain ⟨m, hm, hp, hf⟩ := me_find "Swap" 65 false (by kernel_rfl)
  unfold method
  simp [follow, receiverAt, Place.get, hm, hp, hf, wrap_nil, asAddr, hv]
theorem me_len (g : Nat) (w : World) (sl : Value) (hv : (loadVar 26 ⟨g, 0, none⟩).run Try.prog w = .ok sl w) : (method 203 50 (.pointer (some ⟨g, 0, none⟩)) "Len").run Try.prog w = .ok (63, sl) w := by
  obtain ⟨m, hm, hp, hf⟩ := me_find "Len" 63 false (by kernel_rfl)
  unfold method
  simp [follow, receiverAt, Place.get, hm, hp, hf, wrap_nil, asAddr, hv]
theorem me_push (g : Nat) (w : World) : (method 203 50 (.pointer (some ⟨g, 0, none⟩)) "Push").run Try.prog w = .ok (67, .pointer (some ⟨g, 0, none⟩)) w := by
  obtain ⟨m, hm, hp, hf⟩ := me_find "Push" 67 true (by kernel_rfl)
  unfold method
  simp [follow, receiverAt, Place.get, hm, hp, hf]
theorem me_pop (g : Nat) (w : World) : (method 203 50 (.pointer (some ⟨g, 0, none⟩)) "Pop").run Try.prog w = .ok (66, .pointer (some ⟨g, 0, none⟩)) w := by
  obtain ⟨m, hm, hp, hf⟩ := me_find "Pop" 66 true (by kernel_rfl)
  unfold method
  simp [follow, receiverAt, Place.get, hm, hp, hf]
theorem Hw.lv {F : Nat → Prop} {w : World} {g : Nat} {A : Option Addr} {n c : Nat} {mv : Value} {now : Int} {a : Nat → Nat} {K W : Nat → Int} (h : Hw F w g A n c mv now a K W) : (loadVar 26 ⟨g, 0, none⟩).run Try.prog w = .ok (.slice A n c) w := lv_row g w A n c (h.hg.cell3).1
theorem Hw.nx {F : Nat → Prop} {w w' : World} {g : Nat} {A : Option Addr} {n c : Nat} {mv : Value} {now : Int} {a : Nat → Nat} {K W : Nat → Int} (h : Hw F w g A n c mv now a K W) (hb : Below w.heap.size w w') : Hw F w' g A n c mv now a K W :=
  ⟨h.hg.nx hb, own_below h.row hb (Nat.le_refl _), fun j hj => (h.th j hj).nx hb, h.inj, h.fg, h.fr, h.ft⟩
abbrev ifV (g : Nat) : Value := .iface 50 (.pointer (some ⟨g, 0, none⟩))
set_option maxRecDepth 100000 in
set_option maxHeartbeats 8000000 in
theorem up_any {F : Nat → Prop} {w : World} {g : Nat} {A : Option Addr} {n c : Nat} {mv : Value} {now : Int} {a : Nat → Nat} {K W : Nat → Int} (h : Hw F w g A n c mv now a K W) (j : Nat) (hU : Up W a n j) (hn : n ≤ 1000000) :
    Calls Try.prog 27 #[ifV g, .int .i64 (j : Nat)] w fun e w' => e = .returned (.tuple #[]) ∧ ∃ a', Hw F w' g A n c mv now a' K W ∧ Hp W a' n ∧ Pm a a' n ∧ Only F w w' := by
  go_enter Try.func27, Try.ntmps27
  go_wp2_with fail
  go_loopw [1, 4] (fun jv _ wr => ∃ (j : Nat) (b : Nat → Nat), jv = .int .i64 (j : Nat) ∧ Hw F wr g A n c mv now b K W ∧ Up W b n j ∧ Pm a b n ∧ Only F w wr) (fun jv _ _ => (intOf jv).toNat)
  case atStart => exact ⟨j, a, rfl, h, hU, pm_refl a n, only_refl F w⟩
  case round =>
    clear h hU
    obtain ⟨j, b, rfl, h, hU, hP, hO⟩ := hrel
    have hj := hU.1
    by_cases h0 : j = 0
    · subst h0
      go_wp2_with fail
      go_end0
      exact ⟨rfl, b, h, up_end hU (.inl rfl), hP, hO⟩
    · have hq : ((j : Int) - 1) / 2 = (((j - 1) / 2 : Nat) : Int) := by omega
      obtain ⟨i, hi⟩ : ∃ i, i = (j - 1) / 2 := ⟨_, rfl⟩
      have hij : i < j := by omega
      have hne : ((i : Int) == (j : Int)) = false := by simp; omega
      rw [← hi] at hq
      have HI := Lib.hid hi
      clear hi
      have hme := me_less g wr _ h.lv
      have hL := rless_any h j i hj (by omega) hn
      by_cases hl : W (b j) < W (b i)
      · rw [decide_eq_true hl] at hL
        go_upto_region 2 with (go_at_call 64; (with_reducible refine hL.mono ?_); rintro e w1 ⟨rfl, hb1⟩)
        have h1 := h.nx hb1
        have hms := me_swap g w1 _ h1.lv
        have hS := rswap_any h1 i j (by omega) hj (by omega) hn
        clear hme hL h hne hq
        go_wp2_with (go_at_call 65; (with_reducible refine hS.mono ?_); rintro e w2 ⟨rfl, h2, hO2, hs2⟩)
        have hI := HI.out
        refine ⟨⟨i, sw b i j, rfl, h2, ?_, pm_trans hP (pm_sw b (by omega) hj), (hO.trans (G := F) (only_below hb1) (fun i h => .inl h)).trans hO2 (fun i h => .inl h)⟩, by simp [intOf]; omega⟩
        rw [hI]
        exact up_step hU (by omega) (by rw [← hI]; exact hl)
      · rw [decide_eq_false hl] at hL
        go_wp2_with (go_at_call 64; (with_reducible refine hL.mono ?_); rintro e w1 ⟨rfl, hb1⟩)
        go_end0
        have hI := HI.out
        exact ⟨rfl, b, h.nx hb1, up_end hU (.inr (by rw [← hI]; omega)), hP, hO.trans (G := F) (only_below hb1) (fun i h => .inl h)⟩
end Go.Proofs.Ytiefhmbffmphdaa
