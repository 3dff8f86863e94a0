/- A row of things: Less, Swap. -/
import Derived.Test.YtiefhmbffmphdaaAG0
import Derived.Test.YtiefhmbffmphdaaQTail
import Derived.Deep.QuietTactic
import Derived.BigQuiet
import Derived.BigRegion
import Derived.RegionTactic
import Derived.Deep.Cut
import Derived.Deep.DeepCutAuto
set_option linter.unusedVariables false
namespace Go.Proofs.Ytiefhmbffmphdaa
open Go.RowKit
set_option maxRecDepth 100000 in
set_option maxHeartbeats 4000000 in
theorem rless_any {F : Nat → Prop} {w : World} {g : Nat} {A : Option Addr} {n c : Nat} {mv : Value} {now : Int} {a : Nat → Nat} {K W : Nat → Int} (h : Hw F w g A n c mv now a K W) (i k : Nat) (hi : i < n) (hk : k < n) (hn : n ≤ 1000000) :
    Calls Try.prog 64 #[.slice A n c, .int .i64 (i : Nat), .int .i64 (k : Nat)] w fun e w' => e = .returned (.bool (decide (W (a i) < W (a k)))) ∧ Below w.heap.size w w' := by
  obtain ⟨r, cur, rfl, _, _, hnc, _, ci⟩ := h.cell i hi
  obtain ⟨r2, _, e2, _, _, _, _, ck⟩ := h.cell k hk
  injection e2 with e2
  injection e2 with e2
  subst e2
  obtain ⟨_, t1, _⟩ := (h.th i hi).cell3
  obtain ⟨_, t2, _⟩ := (h.th k hk).cell3
  have hb := Below.refl w.heap.size w
  clear h
  generalize a i = x at *
  generalize a k = y at *
  generalize W x = wx at *
  generalize W y = wy at *
  have hi2 : (i : Int) < (n : Int) := by omega
  have hk2 : (k : Int) < (n : Int) := by omega
  go_enter Try.func64, Try.ntmps64
  go_upto_region 1 with fail
  go_quiet (fail)
  go_wp2_with fail
  go_returns
  exact ⟨rfl, below_drewN hb _⟩
theorem own_two {w : World} {r n c : Nat} {a : Nat → Nat} (h : w.ownsRow 0 45 1 (.slice (some ⟨r, 0, none⟩) n c) n (ptrs a n)) {i k : Nat} (hi : i < n) (hk : k < n) (hne : i ≠ k) :
    ((w.setCell ⟨r, i, none⟩ (.pointer (some ⟨a k, 0, none⟩))).setCell ⟨r, k, none⟩ (.pointer (some ⟨a i, 0, none⟩))).ownsRow 0 45 1 (.slice (some ⟨r, 0, none⟩) n c) n (ptrs (sw a i k) n) ∧
    ((w.setCell ⟨r, k, none⟩ (.pointer (some ⟨a i, 0, none⟩))).setCell ⟨r, i, none⟩ (.pointer (some ⟨a k, 0, none⟩))).ownsRow 0 45 1 (.slice (some ⟨r, 0, none⟩) n c) n (ptrs (sw a i k) n) := by
  constructor
  · have h1 := (h.stored i (.pointer (some ⟨a k, 0, none⟩))).1
    have h2 := (h1.stored k (.pointer (some ⟨a i, 0, none⟩))).1
    rw [ptrs_sw a n i k hi hk] at h2
    exact h2
  · have h1 := (h.stored k (.pointer (some ⟨a i, 0, none⟩))).1
    have h2 := (h1.stored i (.pointer (some ⟨a k, 0, none⟩))).1
    rw [List.set_comm _ _ (Ne.symm hne), ptrs_sw a n i k hi hk] at h2
    exact h2
theorem gb_two (w : World) (r : Nat) (i k : Nat) (u v : Value) : w.grownBy ((w.setCell ⟨r, i, none⟩ u).setCell ⟨r, k, none⟩ v) (some r) :=
  gb_setCell (g := r) (p := ⟨r, k, none⟩) (gb_setCell (g := r) (p := ⟨r, i, none⟩) (World.grownBy.refl w _) (.inl rfl) u) (.inl rfl) v
/-- Between a swap's halves: the row is swapped, the things' places are not. -/
structure Mid (F : Nat → Prop) (w0 w : World) (g : Nat) (r n c : Nat) (mv : Value) (now : Int) (a : Nat → Nat) (K W : Nat → Int) (i k : Nat) : Prop where
  hg : Bk w g 29 #[.slice (some ⟨r, 0, none⟩) n c, mv, .int .i64 now]
  row : w.ownsRow 0 45 1 (.slice (some ⟨r, 0, none⟩) n c) n (ptrs (sw a i k) n)
  th : ∀ j, j < n → Bk w (a j) 48 #[.int .i64 (K (a j)), .int .i64 (W (a j)), .int .i64 (j : Nat)]
  on : Only F w0 w
  sz : w.heap.size = w0.heap.size
theorem Mid.cell {F : Nat → Prop} {w0 w : World} {g r n c : Nat} {mv : Value} {now : Int} {a : Nat → Nat} {K W : Nat → Int} {i k : Nat} (h : Mid F w0 w g r n c mv now a K W i k) (j : Nat) (hj : j < n) : w.cell? ⟨r, j, none⟩ = some (.pointer (some ⟨sw a i k j, 0, none⟩)) := by
  rcases h.row.2 with ⟨e, e2⟩ | ⟨r', cap, cur, e, _, hh, hn, hm, hs, ht⟩
  · omega
  · injection e with e1 e2 e3
    injection e1 with e1
    injection e1 with e1
    subst e1 e3
    have hc : cur[j]? = some (.pointer (some ⟨sw a i k j, 0, none⟩)) := by
      have h2 := ptrs_get (sw a i k) n j hj
      rw [← ht, List.getElem?_take, if_pos (by omega)] at h2
      simpa using h2
    simp [World.cell?, hh, hc]
theorem Mid.drew {F : Nat → Prop} {w0 w : World} {g r n c : Nat} {mv : Value} {now : Int} {a : Nat → Nat} {K W : Nat → Int} {i k : Nat} (h : Mid F w0 w g r n c mv now a K W i k) : Mid F w0 w.drew g r n c mv now a K W i k :=
  ⟨h.hg, h.row, h.th, ⟨below_drewN h.on.bel 1, h.on.out⟩, h.sz⟩
theorem Only.drew {F : Nat → Prop} {w w' : World} (h : Only F w w') : Only F w w'.drew := ⟨below_drewN h.bel 1, h.out⟩
theorem Hw.drew {F : Nat → Prop} {w : World} {g : Nat} {A : Option Addr} {n c : Nat} {mv : Value} {now : Int} {a : Nat → Nat} {K W : Nat → Int} (h : Hw F w g A n c mv now a K W) : Hw F w.drew g A n c mv now a K W :=
  ⟨h.hg, h.row, h.th, h.inj, h.fg, h.fr, h.ft⟩
theorem Hw.drewN {F : Nat → Prop} {w : World} {g : Nat} {A : Option Addr} {n c : Nat} {mv : Value} {now : Int} {a : Nat → Nat} {K W : Nat → Int} (h : Hw F w g A n c mv now a K W) (m : Nat) : Hw F (w.drewN m) g A n c mv now a K W :=
  ⟨h.hg, h.row, h.th, h.inj, h.fg, h.fr, h.ft⟩
theorem far2 {w : World} {b x y : Nat} {t : TypeId} {cs : Array Value} (h : Bk w b t cs) (h1 : b ≠ x) (h2 : b ≠ y) (u v : Value) : Bk ((w.setCell ⟨x, 2, none⟩ u).setCell ⟨y, 2, none⟩ v) b t cs := (h.far (by simpa using h1) _).far (by simpa using h2) _
theorem bk_type {w : World} {b : Nat} {t t' : TypeId} {cs cs' : Array Value} (h : Bk w b t cs) (h' : Bk w b t' cs') : t = t' := by
  have h1 : w.heap[b]? = _ := h
  have h2 : w.heap[b]? = _ := h'
  rw [h1] at h2
  injection h2 with h2
  injection h2
/-- Both places told: the swap is whole. -/
theorem mid_end {F : Nat → Prop} {w0 wc w : World} {g r n c : Nat} {mv : Value} {now : Int} {a : Nat → Nat} {K W : Nat → Int} {i k : Nat} (hM : Mid F w0 wc g r n c mv now a K W i k) (h : Hw F w g (some ⟨r, 0, none⟩) n c mv now a K W) (hi : i < n) (hk : k < n) (hne : i ≠ k) (hn1 : g ≠ r) (hn2 : ∀ j, j < n → a j ≠ r) (w1 : World)
    (hw1 : w1 = (wc.setCell ⟨a k, 2, none⟩ (.int .i64 (i : Nat))).setCell ⟨a i, 2, none⟩ (.int .i64 (k : Nat)) ∨ w1 = (wc.setCell ⟨a i, 2, none⟩ (.int .i64 (k : Nat))).setCell ⟨a k, 2, none⟩ (.int .i64 (i : Nat))) : Hw F w1 g (some ⟨r, 0, none⟩) n c mv now (sw a i k) K W := by
  have hxy : a i ≠ a k := fun e => hne (h.inj i k hi hk e)
  have hga : ∀ j, j < n → g ≠ a j := fun j hj e => by
    have h1 := hM.hg; rw [e] at h1; exact absurd (bk_type h1 (hM.th j hj)) (by decide)
  have hp := pm_sw a hi hk
  have hth : ∀ j, j < n → j ≠ i → j ≠ k → Bk w1 (a j) 48 #[.int .i64 (K (a j)), .int .i64 (W (a j)), .int .i64 (j : Nat)] := by
    intro j hj e1 e2
    have n1 : a j ≠ a i := fun e => e1 (h.inj j i hj hi e)
    have n2 : a j ≠ a k := fun e => e2 (h.inj j k hj hk e)
    rcases hw1 with rfl | rfl
    · exact far2 (hM.th j hj) n2 n1 _ _
    · exact far2 (hM.th j hj) n1 n2 _ _
  have h1 : Bk w1 (a i) 48 #[.int .i64 (K (a i)), .int .i64 (W (a i)), .int .i64 (k : Nat)] := by
    rcases hw1 with rfl | rfl
    · exact ((hM.th i hi).far (by simpa using hxy) _).set 2 _
    · exact ((hM.th i hi).set 2 (.int .i64 (k : Nat))).far (by simpa using hxy) _
  have h2 : Bk w1 (a k) 48 #[.int .i64 (K (a k)), .int .i64 (W (a k)), .int .i64 (i : Nat)] := by
    rcases hw1 with rfl | rfl
    · exact ((hM.th k hk).set 2 (.int .i64 (i : Nat))).far (by simpa using hxy.symm) _
    · exact ((hM.th k hk).far (by simpa using hxy.symm) _).set 2 _
  have hrow : w1.ownsRow 0 45 1 (.slice (some ⟨r, 0, none⟩) n c) n (ptrs (sw a i k) n) := by
    rcases hw1 with rfl | rfl
    · exact own_far (own_far hM.row _ _ (fun g' e => by injection e with e; rw [← e]; exact (hn2 k hk).symm)) _ _ (fun g' e => by injection e with e; rw [← e]; exact (hn2 i hi).symm)
    · exact own_far (own_far hM.row _ _ (fun g' e => by injection e with e; rw [← e]; exact (hn2 i hi).symm)) _ _ (fun g' e => by injection e with e; rw [← e]; exact (hn2 k hk).symm)
  refine ⟨?_, hrow, ?_, hp.2.2 h.inj, h.fg, h.fr, fun j hj => by obtain ⟨x, hx, e⟩ := hp.1 j hj; rw [e]; exact h.ft x hx⟩
  · rcases hw1 with rfl | rfl
    · exact far2 hM.hg (hga k hk) (hga i hi) _ _
    · exact far2 hM.hg (hga i hi) (hga k hk) _ _
  · intro j hj
    by_cases e1 : j = i
    · subst e1; rw [(sw_at a j k).1]; exact h2
    · by_cases e2 : j = k
      · subst e2; rw [(sw_at a i j).2]; exact h1
      · rw [sw_ne a e1 e2]; exact hth j hj e1 e2
set_option maxRecDepth 100000 in
set_option maxHeartbeats 8000000 in
theorem rswap_any {F : Nat → Prop} {w : World} {g : Nat} {A : Option Addr} {n c : Nat} {mv : Value} {now : Int} {a : Nat → Nat} {K W : Nat → Int} (h : Hw F w g A n c mv now a K W) (i k : Nat) (hi : i < n) (hk : k < n) (hne : i ≠ k) (hn : n ≤ 1000000) :
    Calls Try.prog 65 #[.slice A n c, .int .i64 (i : Nat), .int .i64 (k : Nat)] w fun e w' => e = .returned (.tuple #[]) ∧ Hw F w' g A n c mv now (sw a i k) K W ∧ Only F w w' ∧ w'.heap.size = w.heap.size := by
  have HH := Lib.hid h
  obtain ⟨r, cur, rfl, hFr, hh, hnc, _, ci⟩ := h.cell i hi
  obtain ⟨r2, _, e2, _, _, _, _, ck⟩ := h.cell k hk
  injection e2 with e2
  injection e2 with e2
  subst e2
  have hn1 : g ≠ r := fun e => by have h1 := h.hg; rw [e] at h1; rw [h1] at hh; injection hh with hh; injection hh with _ h3 _; exact absurd h3 (by decide)
  have hn2 : ∀ j, j < n → a j ≠ r := fun j hj e => by have h1 := h.th j hj; rw [e] at h1; rw [h1] at hh; injection hh with hh; injection hh with _ h3 _; exact absurd h3 (by decide)
  have f1 := h.row.frozenAt i
  have f2 := h.row.frozenAt k
  have hi2 : (i : Int) < (n : Int) := by omega
  have hk2 : (k : Int) < (n : Int) := by omega
  have HM : ∀ w1, (w1 = (w.setCell ⟨r, i, none⟩ (.pointer (some ⟨a k, 0, none⟩))).setCell ⟨r, k, none⟩ (.pointer (some ⟨a i, 0, none⟩)) ∨ w1 = (w.setCell ⟨r, k, none⟩ (.pointer (some ⟨a i, 0, none⟩))).setCell ⟨r, i, none⟩ (.pointer (some ⟨a k, 0, none⟩))) → Mid F w w1 g r n c mv now a K W i k := by
    rintro w1 (rfl | rfl)
    · exact ⟨(h.hg.far (by simpa using hn1) _).far (by simpa using hn1) _, (own_two h.row hi hk hne).1, fun j hj => ((h.th j hj).far (by simpa using hn2 j hj) _).far (by simpa using hn2 j hj) _, only_gb (gb_two w r i k _ _) hFr, by simp [World.setCell]⟩
    · exact ⟨(h.hg.far (by simpa using hn1) _).far (by simpa using hn1) _, (own_two h.row hi hk hne).2, fun j hj => ((h.th j hj).far (by simpa using hn2 j hj) _).far (by simpa using hn2 j hj) _, only_gb (gb_two w r k i _ _) hFr, by simp [World.setCell]⟩
  clear h hh
  go_enter Try.func65, Try.ntmps65
  go_upto_region 0 with fail
  go_cut [0, 1, 2] (fun p q s wx => p = .slice (some ⟨r, 0, none⟩) n c ∧ q = .int .i64 (i : Nat) ∧ s = .int .i64 (k : Nat) ∧ Mid F w wx g r n c mv now a K W i k)
  case first =>
    go_region
    all_goals
      go_wp2_with fail
      go_meet
      first
        | exact ⟨rfl, rfl, rfl, (HM _ (.inl rfl)).drew⟩
        | exact ⟨rfl, rfl, rfl, (HM _ (.inr rfl)).drew⟩
  case rest =>
    obtain ⟨rfl, rfl, rfl, hM⟩ := hcut
    clear HM ci ck f1 f2
    have ci := hM.cell i hi
    have ck := hM.cell k hk
    rw [(sw_at a i k).1] at ci
    rw [(sw_at a i k).2] at ck
    have ti := hM.th i hi
    have tk := hM.th k hk
    have hxy : a i ≠ a k := fun e => hne (HH.out.inj i k hi hk e)
    obtain ⟨_, _, p1⟩ := ti.cell3
    obtain ⟨_, _, p2⟩ := tk.cell3
    have g1 := ti.frozen 2
    have g2 := tk.frozen 2
    have HF : ∀ w1, (w1 = (wc.setCell ⟨a k, 2, none⟩ (.int .i64 (i : Nat))).setCell ⟨a i, 2, none⟩ (.int .i64 (k : Nat)) ∨ w1 = (wc.setCell ⟨a i, 2, none⟩ (.int .i64 (k : Nat))).setCell ⟨a k, 2, none⟩ (.int .i64 (i : Nat))) → Hw F w1 g (some ⟨r, 0, none⟩) n c mv now (sw a i k) K W ∧ Only F w w1 ∧ w1.heap.size = w.heap.size := by
      intro w1 hw1
      refine ⟨mid_end hM HH.out hi hk hne hn1 hn2 w1 hw1, ?_, ?_⟩
      · refine hM.on.trans (G := F) ?_ (fun i h => .inl h)
        rcases hw1 with rfl | rfl
        · exact (only_gb (gb_set1 wc ⟨a k, 2, none⟩ _) (HH.out.ft k hk)).trans (only_gb (gb_set1 _ ⟨a i, 2, none⟩ _) (HH.out.ft i hi)) (fun i h => .inl h)
        · exact (only_gb (gb_set1 wc ⟨a i, 2, none⟩ _) (HH.out.ft i hi)).trans (only_gb (gb_set1 _ ⟨a k, 2, none⟩ _) (HH.out.ft k hk)) (fun i h => .inl h)
      · rcases hw1 with rfl | rfl <;> simpa [World.setCell] using hM.sz
    go_upto_region 1 with fail
    go_region
    all_goals
      go_wp2_with fail
      go_end0
      first
        | exact ⟨rfl, (HF _ (.inl rfl)).1.drew, (HF _ (.inl rfl)).2.1.drew, (HF _ (.inl rfl)).2.2⟩
        | exact ⟨rfl, (HF _ (.inr rfl)).1.drew, (HF _ (.inr rfl)).2.1.drew, (HF _ (.inr rfl)).2.2⟩
end Go.Proofs.Ytiefhmbffmphdaa
