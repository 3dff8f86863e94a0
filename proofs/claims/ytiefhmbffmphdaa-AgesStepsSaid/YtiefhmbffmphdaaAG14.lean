/- ages: Drop of a thing that is there. -/
import Derived.Test.YtiefhmbffmphdaaAG13
set_option linter.unusedVariables false
namespace Go.Proofs.Ytiefhmbffmphdaa
open Go.RowKit
theorem adrop_none {w : World} {g : Nat} {sl mv : Value} {now : Int} (hg : Bk w g 29 #[sl, mv, .int .i64 now]) (k : Int) (hlk : (Instr.lookup 27 mv (.int .i64 k) false).run Try.prog w = .ok (ptV none) w) :
    Calls Try.prog 8 #[.pointer (some ⟨g, 0, none⟩), .int .i64 k] w fun e w' => e = .returned (.bool false) ∧ w = w' := by
  have hf : Calls Try.prog 18 #[.pointer (some ⟨g, 0, none⟩), .int .i64 k] w fun e w' => e = .returned (.pointer none) ∧ w = w' := afind_any hg k none hlk
  clear hlk
  go_enter Try.func8, Try.ntmps8
  go_wp2_with (go_at_call 18; (with_reducible refine hf.mono ?_); rintro e w1 ⟨rfl, rfl⟩)
  go_returns
  exact ⟨rfl, rfl⟩
theorem Hw.far {F : Nat → Prop} {w w' : World} {g mb : Nat} {A : Option Addr} {n c : Nat} {mv : Value} {now : Int} {a : Nat → Nat} {K W : Nat → Int} (h : Hw F w g A n c mv now a K W) (hg : w.grownBy w' (some mb)) (hF : ¬ F mb) : Hw F w' g A n c mv now a K W :=
  ⟨(hg.block g h.hg.lt (by intro e; injection e with e; subst e; exact hF h.fg)).trans h.hg,
   by
    refine ⟨h.row.1, ?_⟩
    rcases h.row.2 with h2 | ⟨r, cap, cur, hv, hb, hh, rest⟩
    · exact .inl h2
    · exact .inr ⟨r, cap, cur, hv, hb, by rw [hg.block r (Bk.lt hh) (by intro e; injection e with e; subst e; exact hF (h.fr r (by rw [hv]; rfl)))]; exact hh, rest⟩,
   fun j hj => (hg.block (a j) (h.th j hj).lt (by intro e; injection e with e; exact hF (by rw [← e]; exact h.ft j hj))).trans (h.th j hj), h.inj, h.fg, h.fr, h.ft⟩
set_option maxRecDepth 100000 in
set_option maxHeartbeats 8000000 in
theorem adrop_some {F : Nat → Prop} {w : World} {g : Nat} {A : Option Addr} {n c : Nat} {mb cnt : Nat} {M : Int → Option Nat} {now : Int} {a : Nat → Nat} {K W : Nat → Int} (h : Hw F w g A (n + 1) c (.map (some mb)) now a K W) (hp : Hp W a (n + 1)) (hM : Mp Try.prog 3 w mb cnt M) (hF : ¬ F mb) (i : Nat) (hi : i ≤ n) (k : Int) (hk : -9223372036854775808 ≤ k ∧ k ≤ 9223372036854775807) (hMk : M k = some (a i)) (hn : n < 1000000) :
    Calls Try.prog 8 #[.pointer (some ⟨g, 0, none⟩), .int .i64 k] w fun e w' => e = .returned (.bool true) ∧ ∃ b, Hw F w' g A n c (.map (some mb)) now b K W ∧ Hp W b n ∧ Pm a b (n + 1) ∧ b n = a i ∧ Mp Try.prog 3 w' mb cnt (fun z => if z = k then none else M z) ∧ Only (fun i => F i ∨ i = mb) w w' := by
  have hlk := MapIs.look (F := fun _ => True) (Fh := fun _ => False) (.inr ⟨mb, rfl, trivial, id, hM⟩) hk
  rw [hMk] at hlk
  have hf : Calls Try.prog 18 #[.pointer (some ⟨g, 0, none⟩), .int .i64 k] w fun e w' => e = .returned (.pointer (some ⟨a i, 0, none⟩)) ∧ w = w' := afind_any h.hg k _ hlk
  obtain ⟨d0, d1, d2⟩ := (h.th i (by omega)).cell3
  have hR := fun (w' : World) (hh : Hw F w' g A (n + 1) c (.map (some mb)) now a K W) => hremove_any hh hp i hi hn
  clear hlk
  go_enter Try.func8, Try.ntmps8
  go_upto_region 4 with (go_at_call 18; (with_reducible refine hf.mono ?_); rintro e w1 ⟨rfl, rfl⟩)
  go_region_with (first
    | (go_at_call 21; (with_reducible refine (hR _ (by exact h.drew)).mono ?_); rintro e w2 ⟨rfl, b, h2, hp2, hP2, hbn, hO2⟩)
    | (go_at_call 21; (with_reducible refine (hR _ (by exact h)).mono ?_); rintro e w2 ⟨rfl, b, h2, hp2, hP2, hbn, hO2⟩))
  all_goals
    have hM2 := hM.same (hO2.out mb hM.lt hF)
    obtain ⟨c0, c1, c2⟩ := h2.hg.cell3
    go_wp2_with (at_delete; (refine wpList_del rfl _ _ _ _ rfl Try.underlying3 Try.underlying27 hM2 rfl k rfl hk ?_); intro w5 hM5 hg5 hs5)
    go_returns
    exact ⟨rfl, b, h2.far hg5 hF, hp2, hP2, hbn, hM5, ((only_refl (fun i => F i ∨ i = mb) w).drew).trans ((Only.trans (F := fun i => F i ∨ i = mb) (G := F) ⟨hO2.bel, fun i hi hn => hO2.out i hi (fun h => hn (.inl h))⟩ (only_refl F _) (fun i h => .inl (.inl h))).trans (only_gb (F := fun i => F i ∨ i = mb) hg5 (.inr rfl)) (fun i h => .inl h)) (fun i h => .inl h)⟩
end Go.Proofs.Ytiefhmbffmphdaa
