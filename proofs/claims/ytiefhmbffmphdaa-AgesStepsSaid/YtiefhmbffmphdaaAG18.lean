/- ages: Touch of a thing that is there: the walk. -/
import Derived.Test.YtiefhmbffmphdaaAG17
set_option linter.unusedVariables false
namespace Go.Proofs.Ytiefhmbffmphdaa
open Go.RowKit
set_option maxRecDepth 100000 in
set_option maxHeartbeats 8000000 in
theorem atouch_old {F : Nat → Prop} {w : World} {g : Nat} {A : Option Addr} {n c : Nat} {mb cnt : Nat} {M : Int → Option Nat} {now : Int} {a : Nat → Nat} {K W : Nat → Int} (h : Hw F w g A n c (.map (some mb)) now a K W) (hp : Hp W a n) (hM : Mp Try.prog 3 w mb cnt M) (hF : ¬ F mb) (i : Nat) (hi : i < n) (k : Int) (hk : -9223372036854775808 ≤ k ∧ k ≤ 9223372036854775807) (hMk : M k = some (a i)) (hn : n ≤ 1000000) (hnow : 0 ≤ now ∧ now ≤ 1000000) :
    Calls Try.prog 6 #[.pointer (some ⟨g, 0, none⟩), .int .i64 k] w fun e w' => e = .returned (.tuple #[]) ∧ ∃ b, Hw F w' g A n c (.map (some mb)) (now + 1) b K (fun x => if x = a i then now + 1 else W x) ∧ Hp (fun x => if x = a i then now + 1 else W x) b n ∧ Pm a b n ∧ Only F w w' := by
  obtain ⟨n0, n1⟩ := hnow
  have hwn : wrap64 (now + 1) = now + 1 := IntWalk.wrap64_in _ ⟨by omega, by omega⟩
  obtain ⟨c0, c1, c2⟩ := h.hg.cell3
  have f2 := h.hg.frozen 2
  have hmg : mb ≠ g := fun e => hF (by rw [e]; exact h.fg)
  have h1 := h.tick (now + 1)
  have hO1 : Only F w (w.setCell ⟨g, 2, none⟩ (.int .i64 (now + 1))) := only_gb (gb_set1 w ⟨g, 2, none⟩ _) h.fg
  have hM1 : Mp Try.prog 3 (w.setCell ⟨g, 2, none⟩ (.int .i64 (now + 1))) mb cnt M := hM.kept (gb_set1 w ⟨g, 2, none⟩ _) (by intro e; injection e with e; exact hmg e)
  go_enter Try.func6, Try.ntmps6
  go_upto_region 2 with fail
  clear c0 c1 c2 f2 h hM hwn
  generalize w.setCell ⟨g, 2, none⟩ (.int .i64 (now + 1)) = w1 at *
  have hlk := MapIs.look (F := fun _ => True) (Fh := fun _ => False) (.inr ⟨mb, rfl, trivial, id, hM1⟩) hk
  rw [hMk] at hlk
  have hf : Calls Try.prog 18 #[.pointer (some ⟨g, 0, none⟩), .int .i64 k] w1 fun e w' => e = .returned (.pointer (some ⟨a i, 0, none⟩)) ∧ w1 = w' := afind_any h1.hg k _ hlk
  clear hlk
  obtain ⟨c0, c1, c2⟩ := h1.hg.cell3
  obtain ⟨d0, d1, d2⟩ := (h1.th i hi).cell3
  have fd := (h1.th i hi).frozen 1
  have h2 := h1.time i hi (now + 1)
  have hO2 : Only F w1 (w1.setCell ⟨a i, 1, none⟩ (.int .i64 (now + 1))) := only_gb (gb_set1 w1 ⟨a i, 1, none⟩ _) (h1.ft i hi)
  go_upto_region 5 with (go_at_call 18; (with_reducible refine hf.mono ?_); rintro e w2 ⟨rfl, rfl⟩)
  clear c0 c1 c2 d0 d1 d2 fd hf
  generalize w1.setCell ⟨a i, 1, none⟩ (.int .i64 (now + 1)) = w3 at *
  obtain ⟨d0, d1, d2⟩ := (h2.th i hi).cell3
  have hDn := dn_key (k' := fun x => if x = a i then now + 1 else W x) hp hi (fun j hj hne => by show (if a j = a i then now + 1 else W (a j)) = _; rw [if_neg (fun e => hne (h2.inj j i hj hi e))])
  have hFx := fun (w' : World) (hh : Hw F w' g A n c (.map (some mb)) (now + 1) a K (fun x => if x = a i then now + 1 else W x)) => fix_any hh i hDn hn
  go_region_with (first
    | (go_at_call 19; (with_reducible refine (hFx _ (by exact h2.drew)).mono ?_); rintro e w4 ⟨rfl, b, h4, hp4, hP4, hO4⟩)
    | (go_at_call 19; (with_reducible refine (hFx _ (by exact h2)).mono ?_); rintro e w4 ⟨rfl, b, h4, hp4, hP4, hO4⟩))
  all_goals
    go_wp2_with fail
    first | go_returns | (refine bodyPost_ret (results_none rfl _ _) rfl ?_)
    exact ⟨rfl, b, h4, hp4, hP4, (hO1.trans (hO2.drew) (fun i h => .inl h)).trans hO4 (fun i h => .inl h)⟩
end Go.Proofs.Ytiefhmbffmphdaa
