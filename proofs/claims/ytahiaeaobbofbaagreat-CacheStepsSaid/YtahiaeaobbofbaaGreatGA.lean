/- Several texts in one: A heap of things in memory, over a footprint of blocks. A row of things: Less, Swap. container/heap over a row of things: which method is called; up. (203: the number of the dump's types, as the walk writes it.) container/heap over a row of things: down. (Printed by wip/tools/genag3.py.) container/heap over a row of things: Fix. A row of things: Push. -/
import Derived.Test.YtahiaeaobbofbaaGreatLie
import Derived.Test.YtahiaeaobbofbaaGreatApp
import Derived.Test.YtahiaeaobbofbaaGreatHP
import Derived.Laws.OwnMore
import Derived.Test.YtahiaeaobbofbaaGreatQTail
import Derived.Deep.QuietTactic
import Derived.BigQuiet
import Derived.BigRegion
import Derived.RegionTactic
import Derived.Deep.Cut
import Derived.Deep.DeepCutAuto
section
set_option linter.unusedVariables false
namespace Go.Proofs.YtahiaeaobbofbaaGreat
open Go.RowKit
def ptrs (a : Nat → Nat) (n : Nat) : List Value := (List.range n).map fun j => .pointer (some ⟨a j, 0, none⟩)
theorem ptrs_len (a : Nat → Nat) (n : Nat) : (ptrs a n).length = n := by simp [ptrs]
theorem ptrs_get (a : Nat → Nat) (n j : Nat) (h : j < n) : (ptrs a n)[j]? = some (.pointer (some ⟨a j, 0, none⟩)) := by simp [ptrs, h]
theorem ptrs_sw (a : Nat → Nat) (n i k : Nat) (hi : i < n) (hk : k < n) : ((ptrs a n).set i (.pointer (some ⟨a k, 0, none⟩))).set k (.pointer (some ⟨a i, 0, none⟩)) = ptrs (sw a i k) n := by
  apply List.ext_getElem?
  intro j
  by_cases hj : j < n
  · rw [ptrs_get _ _ _ hj]
    by_cases e2 : j = k
    · subst e2
      rw [List.getElem?_set_self (by simp [ptrs_len]; exact hj), (sw_at a i j).2]
    · rw [List.getElem?_set_ne (Ne.symm e2)]
      by_cases e1 : j = i
      · subst e1
        rw [List.getElem?_set_self (by rw [ptrs_len]; exact hj), (sw_at a j k).1]
      · rw [List.getElem?_set_ne (Ne.symm e1), ptrs_get _ _ _ hj, sw_ne a e1 e2]
  · rw [List.getElem?_eq_none (by simp [ptrs_len]; omega), List.getElem?_eq_none (by rw [ptrs_len]; omega)]
/-- Blocks out of F lie as they lay. -/
structure Only (F : Nat → Prop) (w w' : World) : Prop where
  bel : Below 0 w w'
  out : ∀ i, i < w.heap.size → ¬ F i → w'.heap[i]? = w.heap[i]?
theorem only_refl (F : Nat → Prop) (w : World) : Only F w w := ⟨Below.refl 0 w, fun _ _ _ => rfl⟩
theorem Only.trans {F G : Nat → Prop} {w w' w'' : World} (h : Only F w w') (g : Only G w' w'') (hFG : ∀ i, G i → F i ∨ w.heap.size ≤ i) : Only F w w'' :=
  ⟨h.bel.trans g.bel, fun i hi hF => (g.out i (Nat.lt_of_lt_of_le hi h.bel.size) (fun hG => by rcases hFG i hG with h1 | h1; exact hF h1; omega)).trans (h.out i hi hF)⟩
theorem only_below {F : Nat → Prop} {w w' : World} (h : Below w.heap.size w w') : Only F w w' := ⟨h.mono (Nat.zero_le _), fun i hi _ => h.block i hi⟩
theorem only_gb {F : Nat → Prop} {w w' : World} {g : Nat} (h : w.grownBy w' (some g)) (hF : F g) : Only F w w' :=
  ⟨⟨h.os, h.tape, h.output, h.size, fun i hi => by omega⟩, fun i hi hn => h.block i hi (by intro e; injection e with e; subst e; exact hn hF)⟩
/-- A heap of things in memory. -/
structure Hw (F : Nat → Prop) (w : World) (g : Nat) (A : Option Addr) (n c : Nat) (mv : Value) (now : Int) (a : Nat → Nat) (K W : Nat → Int) : Prop where
  hg : Bk w g 106 #[.slice A n c, mv, .int .i64 now]
  row : w.ownsRow 0 128 1 (.slice A n c) n (ptrs a n)
  th : ∀ j, j < n → Bk w (a j) 131 #[.int .i64 (K (a j)), .int .i64 (W (a j)), .int .i64 (j : Nat)]
  inj : ∀ i j, i < n → j < n → a i = a j → i = j
  fg : F g
  fr : ∀ b, (Value.slice A n c).ownBlock = some b → F b
  ft : ∀ j, j < n → F (a j)
/-- The row's cells. -/
theorem Hw.cell {F : Nat → Prop} {w : World} {g : Nat} {A : Option Addr} {n c : Nat} {mv : Value} {now : Int} {a : Nat → Nat} {K W : Nat → Int} (h : Hw F w g A n c mv now a K W) (j : Nat) (hj : j < n) :
    ∃ r cur, A = some ⟨r, 0, none⟩ ∧ F r ∧ w.heap[r]? = some (.cells cur 128 (0, 0)) ∧ n ≤ c ∧ cur.size = c ∧ w.cell? ⟨r, j, none⟩ = some (.pointer (some ⟨a j, 0, none⟩)) := by
  rcases h.row.2 with ⟨e, e2⟩ | ⟨r, cap, cur, e, _, hh, hn, hm, hs, ht⟩
  · omega
  · injection e with e1 e2 e3
    subst e1 e3
    have hc : cur[j]? = some (.pointer (some ⟨a j, 0, none⟩)) := by
      have h2 := ptrs_get a n j hj
      rw [← ht, List.getElem?_take, if_pos (by omega)] at h2
      simpa using h2
    refine ⟨r, cur, rfl, h.fr r rfl, hh, hn, by omega, ?_⟩
    simp [World.cell?, hh, hc]
end Go.Proofs.YtahiaeaobbofbaaGreat
end
section
set_option linter.unusedVariables false
namespace Go.Proofs.YtahiaeaobbofbaaGreat
open Go.RowKit
set_option maxRecDepth 100000 in
set_option maxHeartbeats 4000000 in
theorem rless_any {F : Nat → Prop} {w : World} {g : Nat} {A : Option Addr} {n c : Nat} {mv : Value} {now : Int} {a : Nat → Nat} {K W : Nat → Int} (h : Hw F w g A n c mv now a K W) (i k : Nat) (hi : i < n) (hk : k < n) (hn : n ≤ 1000000) :
    Calls Tryz.prog 139 #[.slice A n c, .int .i64 (i : Nat), .int .i64 (k : Nat)] w fun e w' => e = .returned (.bool (decide (W (a i) < W (a k)))) ∧ Below w.heap.size w w' := by
  obtain ⟨r, cur, rfl, _, _, hnc, _, ci⟩ := h.cell i hi
  obtain ⟨r2, _, e2, _, _, _, _, ck⟩ := h.cell k hk
  injection e2 with e2
  injection e2 with e2
  subst e2
  obtain ⟨_, t1, _⟩ := (h.th i hi).cell3
  obtain ⟨_, t2, _⟩ := (h.th k hk).cell3
  have hb := Below.refl w.heap.size w
  clear h
  generalize a i = x at *
  generalize a k = y at *
  generalize W x = wx at *
  generalize W y = wy at *
  have hi2 : (i : Int) < (n : Int) := by omega
  have hk2 : (k : Int) < (n : Int) := by omega
  go_enter Tryz.func139, Tryz.ntmps139
  go_upto_region 1 with fail
  go_quiet (fail)
  go_wp2_with fail
  go_returns
  exact ⟨rfl, below_drewN hb _⟩
theorem own_two {w : World} {r n c : Nat} {a : Nat → Nat} (h : w.ownsRow 0 128 1 (.slice (some ⟨r, 0, none⟩) n c) n (ptrs a n)) {i k : Nat} (hi : i < n) (hk : k < n) (hne : i ≠ k) :
    ((w.setCell ⟨r, i, none⟩ (.pointer (some ⟨a k, 0, none⟩))).setCell ⟨r, k, none⟩ (.pointer (some ⟨a i, 0, none⟩))).ownsRow 0 128 1 (.slice (some ⟨r, 0, none⟩) n c) n (ptrs (sw a i k) n) ∧
    ((w.setCell ⟨r, k, none⟩ (.pointer (some ⟨a i, 0, none⟩))).setCell ⟨r, i, none⟩ (.pointer (some ⟨a k, 0, none⟩))).ownsRow 0 128 1 (.slice (some ⟨r, 0, none⟩) n c) n (ptrs (sw a i k) n) := by
  constructor
  · have h1 := (h.stored i (.pointer (some ⟨a k, 0, none⟩))).1
    have h2 := (h1.stored k (.pointer (some ⟨a i, 0, none⟩))).1
    rw [ptrs_sw a n i k hi hk] at h2
    exact h2
  · have h1 := (h.stored k (.pointer (some ⟨a i, 0, none⟩))).1
    have h2 := (h1.stored i (.pointer (some ⟨a k, 0, none⟩))).1
    rw [List.set_comm _ _ (Ne.symm hne), ptrs_sw a n i k hi hk] at h2
    exact h2
theorem gb_two (w : World) (r : Nat) (i k : Nat) (u v : Value) : w.grownBy ((w.setCell ⟨r, i, none⟩ u).setCell ⟨r, k, none⟩ v) (some r) :=
  gb_setCell (g := r) (p := ⟨r, k, none⟩) (gb_setCell (g := r) (p := ⟨r, i, none⟩) (World.grownBy.refl w _) (.inl rfl) u) (.inl rfl) v
/-- Between a swap's halves: the row is swapped, the things' places are not. -/
structure Mid (F : Nat → Prop) (w0 w : World) (g : Nat) (r n c : Nat) (mv : Value) (now : Int) (a : Nat → Nat) (K W : Nat → Int) (i k : Nat) : Prop where
  hg : Bk w g 106 #[.slice (some ⟨r, 0, none⟩) n c, mv, .int .i64 now]
  row : w.ownsRow 0 128 1 (.slice (some ⟨r, 0, none⟩) n c) n (ptrs (sw a i k) n)
  th : ∀ j, j < n → Bk w (a j) 131 #[.int .i64 (K (a j)), .int .i64 (W (a j)), .int .i64 (j : Nat)]
  on : Only F w0 w
  sz : w.heap.size = w0.heap.size
theorem Mid.cell {F : Nat → Prop} {w0 w : World} {g r n c : Nat} {mv : Value} {now : Int} {a : Nat → Nat} {K W : Nat → Int} {i k : Nat} (h : Mid F w0 w g r n c mv now a K W i k) (j : Nat) (hj : j < n) : w.cell? ⟨r, j, none⟩ = some (.pointer (some ⟨sw a i k j, 0, none⟩)) := by
  rcases h.row.2 with ⟨e, e2⟩ | ⟨r', cap, cur, e, _, hh, hn, hm, hs, ht⟩
  · omega
  · injection e with e1 e2 e3
    injection e1 with e1
    injection e1 with e1
    subst e1 e3
    have hc : cur[j]? = some (.pointer (some ⟨sw a i k j, 0, none⟩)) := by
      have h2 := ptrs_get (sw a i k) n j hj
      rw [← ht, List.getElem?_take, if_pos (by omega)] at h2
      simpa using h2
    simp [World.cell?, hh, hc]
theorem Mid.drew {F : Nat → Prop} {w0 w : World} {g r n c : Nat} {mv : Value} {now : Int} {a : Nat → Nat} {K W : Nat → Int} {i k : Nat} (h : Mid F w0 w g r n c mv now a K W i k) : Mid F w0 w.drew g r n c mv now a K W i k :=
  ⟨h.hg, h.row, h.th, ⟨below_drewN h.on.bel 1, h.on.out⟩, h.sz⟩
theorem Only.drew {F : Nat → Prop} {w w' : World} (h : Only F w w') : Only F w w'.drew := ⟨below_drewN h.bel 1, h.out⟩
theorem Hw.drew {F : Nat → Prop} {w : World} {g : Nat} {A : Option Addr} {n c : Nat} {mv : Value} {now : Int} {a : Nat → Nat} {K W : Nat → Int} (h : Hw F w g A n c mv now a K W) : Hw F w.drew g A n c mv now a K W :=
  ⟨h.hg, h.row, h.th, h.inj, h.fg, h.fr, h.ft⟩
theorem Hw.drewN {F : Nat → Prop} {w : World} {g : Nat} {A : Option Addr} {n c : Nat} {mv : Value} {now : Int} {a : Nat → Nat} {K W : Nat → Int} (h : Hw F w g A n c mv now a K W) (m : Nat) : Hw F (w.drewN m) g A n c mv now a K W :=
  ⟨h.hg, h.row, h.th, h.inj, h.fg, h.fr, h.ft⟩
theorem far2 {w : World} {b x y : Nat} {t : TypeId} {cs : Array Value} (h : Bk w b t cs) (h1 : b ≠ x) (h2 : b ≠ y) (u v : Value) : Bk ((w.setCell ⟨x, 2, none⟩ u).setCell ⟨y, 2, none⟩ v) b t cs := (h.far (by simpa using h1) _).far (by simpa using h2) _
theorem bk_type {w : World} {b : Nat} {t t' : TypeId} {cs cs' : Array Value} (h : Bk w b t cs) (h' : Bk w b t' cs') : t = t' := by
  have h1 : w.heap[b]? = _ := h
  have h2 : w.heap[b]? = _ := h'
  rw [h1] at h2
  injection h2 with h2
  injection h2
/-- Both places told: the swap is whole. -/
theorem mid_end {F : Nat → Prop} {w0 wc w : World} {g r n c : Nat} {mv : Value} {now : Int} {a : Nat → Nat} {K W : Nat → Int} {i k : Nat} (hM : Mid F w0 wc g r n c mv now a K W i k) (h : Hw F w g (some ⟨r, 0, none⟩) n c mv now a K W) (hi : i < n) (hk : k < n) (hne : i ≠ k) (hn1 : g ≠ r) (hn2 : ∀ j, j < n → a j ≠ r) (w1 : World)
    (hw1 : w1 = (wc.setCell ⟨a k, 2, none⟩ (.int .i64 (i : Nat))).setCell ⟨a i, 2, none⟩ (.int .i64 (k : Nat)) ∨ w1 = (wc.setCell ⟨a i, 2, none⟩ (.int .i64 (k : Nat))).setCell ⟨a k, 2, none⟩ (.int .i64 (i : Nat))) : Hw F w1 g (some ⟨r, 0, none⟩) n c mv now (sw a i k) K W := by
  have hxy : a i ≠ a k := fun e => hne (h.inj i k hi hk e)
  have hga : ∀ j, j < n → g ≠ a j := fun j hj e => by
    have h1 := hM.hg; rw [e] at h1; exact absurd (bk_type h1 (hM.th j hj)) (by decide)
  have hp := pm_sw a hi hk
  have hth : ∀ j, j < n → j ≠ i → j ≠ k → Bk w1 (a j) 131 #[.int .i64 (K (a j)), .int .i64 (W (a j)), .int .i64 (j : Nat)] := by
    intro j hj e1 e2
    have n1 : a j ≠ a i := fun e => e1 (h.inj j i hj hi e)
    have n2 : a j ≠ a k := fun e => e2 (h.inj j k hj hk e)
    rcases hw1 with rfl | rfl
    · exact far2 (hM.th j hj) n2 n1 _ _
    · exact far2 (hM.th j hj) n1 n2 _ _
  have h1 : Bk w1 (a i) 131 #[.int .i64 (K (a i)), .int .i64 (W (a i)), .int .i64 (k : Nat)] := by
    rcases hw1 with rfl | rfl
    · exact ((hM.th i hi).far (by simpa using hxy) _).set 2 _
    · exact ((hM.th i hi).set 2 (.int .i64 (k : Nat))).far (by simpa using hxy) _
  have h2 : Bk w1 (a k) 131 #[.int .i64 (K (a k)), .int .i64 (W (a k)), .int .i64 (i : Nat)] := by
    rcases hw1 with rfl | rfl
    · exact ((hM.th k hk).set 2 (.int .i64 (i : Nat))).far (by simpa using hxy.symm) _
    · exact ((hM.th k hk).far (by simpa using hxy.symm) _).set 2 _
  have hrow : w1.ownsRow 0 128 1 (.slice (some ⟨r, 0, none⟩) n c) n (ptrs (sw a i k) n) := by
    rcases hw1 with rfl | rfl
    · exact own_far (own_far hM.row _ _ (fun g' e => by injection e with e; rw [← e]; exact (hn2 k hk).symm)) _ _ (fun g' e => by injection e with e; rw [← e]; exact (hn2 i hi).symm)
    · exact own_far (own_far hM.row _ _ (fun g' e => by injection e with e; rw [← e]; exact (hn2 i hi).symm)) _ _ (fun g' e => by injection e with e; rw [← e]; exact (hn2 k hk).symm)
  refine ⟨?_, hrow, ?_, hp.2.2 h.inj, h.fg, h.fr, fun j hj => by obtain ⟨x, hx, e⟩ := hp.1 j hj; rw [e]; exact h.ft x hx⟩
  · rcases hw1 with rfl | rfl
    · exact far2 hM.hg (hga k hk) (hga i hi) _ _
    · exact far2 hM.hg (hga i hi) (hga k hk) _ _
  · intro j hj
    by_cases e1 : j = i
    · subst e1; rw [(sw_at a j k).1]; exact h2
    · by_cases e2 : j = k
      · subst e2; rw [(sw_at a i j).2]; exact h1
      · rw [sw_ne a e1 e2]; exact hth j hj e1 e2
set_option maxRecDepth 100000 in
set_option maxHeartbeats 8000000 in
theorem rswap_any {F : Nat → Prop} {w : World} {g : Nat} {A : Option Addr} {n c : Nat} {mv : Value} {now : Int} {a : Nat → Nat} {K W : Nat → Int} (h : Hw F w g A n c mv now a K W) (i k : Nat) (hi : i < n) (hk : k < n) (hne : i ≠ k) (hn : n ≤ 1000000) :
    Calls Tryz.prog 140 #[.slice A n c, .int .i64 (i : Nat), .int .i64 (k : Nat)] w fun e w' => e = .returned (.tuple #[]) ∧ Hw F w' g A n c mv now (sw a i k) K W ∧ Only F w w' ∧ w'.heap.size = w.heap.size := by
  have HH := Lib.hid h
  obtain ⟨r, cur, rfl, hFr, hh, hnc, _, ci⟩ := h.cell i hi
  obtain ⟨r2, _, e2, _, _, _, _, ck⟩ := h.cell k hk
  injection e2 with e2
  injection e2 with e2
  subst e2
  have hn1 : g ≠ r := fun e => by have h1 := h.hg; rw [e] at h1; rw [h1] at hh; injection hh with hh; injection hh with _ h3 _; exact absurd h3 (by decide)
  have hn2 : ∀ j, j < n → a j ≠ r := fun j hj e => by have h1 := h.th j hj; rw [e] at h1; rw [h1] at hh; injection hh with hh; injection hh with _ h3 _; exact absurd h3 (by decide)
  have f1 := h.row.frozenAt i
  have f2 := h.row.frozenAt k
  have hi2 : (i : Int) < (n : Int) := by omega
  have hk2 : (k : Int) < (n : Int) := by omega
  have HM : ∀ w1, (w1 = (w.setCell ⟨r, i, none⟩ (.pointer (some ⟨a k, 0, none⟩))).setCell ⟨r, k, none⟩ (.pointer (some ⟨a i, 0, none⟩)) ∨ w1 = (w.setCell ⟨r, k, none⟩ (.pointer (some ⟨a i, 0, none⟩))).setCell ⟨r, i, none⟩ (.pointer (some ⟨a k, 0, none⟩))) → Mid F w w1 g r n c mv now a K W i k := by
    rintro w1 (rfl | rfl)
    · exact ⟨(h.hg.far (by simpa using hn1) _).far (by simpa using hn1) _, (own_two h.row hi hk hne).1, fun j hj => ((h.th j hj).far (by simpa using hn2 j hj) _).far (by simpa using hn2 j hj) _, only_gb (gb_two w r i k _ _) hFr, by simp [World.setCell]⟩
    · exact ⟨(h.hg.far (by simpa using hn1) _).far (by simpa using hn1) _, (own_two h.row hi hk hne).2, fun j hj => ((h.th j hj).far (by simpa using hn2 j hj) _).far (by simpa using hn2 j hj) _, only_gb (gb_two w r k i _ _) hFr, by simp [World.setCell]⟩
  clear h hh
  go_enter Tryz.func140, Tryz.ntmps140
  go_upto_region 0 with fail
  go_cut [0, 1, 2] (fun p q s wx => p = .slice (some ⟨r, 0, none⟩) n c ∧ q = .int .i64 (i : Nat) ∧ s = .int .i64 (k : Nat) ∧ Mid F w wx g r n c mv now a K W i k)
  case first =>
    go_region
    all_goals
      go_wp2_with fail
      go_meet
      first
        | exact ⟨rfl, rfl, rfl, (HM _ (.inl rfl)).drew⟩
        | exact ⟨rfl, rfl, rfl, (HM _ (.inr rfl)).drew⟩
  case rest =>
    obtain ⟨rfl, rfl, rfl, hM⟩ := hcut
    clear HM ci ck f1 f2
    have ci := hM.cell i hi
    have ck := hM.cell k hk
    rw [(sw_at a i k).1] at ci
    rw [(sw_at a i k).2] at ck
    have ti := hM.th i hi
    have tk := hM.th k hk
    have hxy : a i ≠ a k := fun e => hne (HH.out.inj i k hi hk e)
    obtain ⟨_, _, p1⟩ := ti.cell3
    obtain ⟨_, _, p2⟩ := tk.cell3
    have g1 := ti.frozen 2
    have g2 := tk.frozen 2
    have HF : ∀ w1, (w1 = (wc.setCell ⟨a k, 2, none⟩ (.int .i64 (i : Nat))).setCell ⟨a i, 2, none⟩ (.int .i64 (k : Nat)) ∨ w1 = (wc.setCell ⟨a i, 2, none⟩ (.int .i64 (k : Nat))).setCell ⟨a k, 2, none⟩ (.int .i64 (i : Nat))) → Hw F w1 g (some ⟨r, 0, none⟩) n c mv now (sw a i k) K W ∧ Only F w w1 ∧ w1.heap.size = w.heap.size := by
      intro w1 hw1
      refine ⟨mid_end hM HH.out hi hk hne hn1 hn2 w1 hw1, ?_, ?_⟩
      · refine hM.on.trans (G := F) ?_ (fun i h => .inl h)
        rcases hw1 with rfl | rfl
        · exact (only_gb (gb_set1 wc ⟨a k, 2, none⟩ _) (HH.out.ft k hk)).trans (only_gb (gb_set1 _ ⟨a i, 2, none⟩ _) (HH.out.ft i hi)) (fun i h => .inl h)
        · exact (only_gb (gb_set1 wc ⟨a i, 2, none⟩ _) (HH.out.ft i hi)).trans (only_gb (gb_set1 _ ⟨a k, 2, none⟩ _) (HH.out.ft k hk)) (fun i h => .inl h)
      · rcases hw1 with rfl | rfl <;> simpa [World.setCell] using hM.sz
    go_upto_region 1 with fail
    go_region
    all_goals
      go_wp2_with fail
      go_end0
      first
        | exact ⟨rfl, (HF _ (.inl rfl)).1.drew, (HF _ (.inl rfl)).2.1.drew, (HF _ (.inl rfl)).2.2⟩
        | exact ⟨rfl, (HF _ (.inr rfl)).1.drew, (HF _ (.inr rfl)).2.1.drew, (HF _ (.inr rfl)).2.2⟩
end Go.Proofs.YtahiaeaobbofbaaGreat
end
section
set_option linter.unusedVariables false
namespace Go.Proofs.YtahiaeaobbofbaaGreat
open Go.RowKit
theorem me_find (nm : String) (f : FuncId) (pr : Bool) (h : ((Tryz.t133.methods.find? (fun x => x.name == nm)).map fun m => (m.path, m.func)) = some (#[], some (f, pr))) : ∃ m, Tryz.t133.methods.find? (fun x => x.name == nm) = some m ∧ m.path = #[] ∧ m.func = some (f, pr) := by
  obtain ⟨m, hm, e⟩ := Option.map_eq_some_iff.1 h
  injection e with e1 e2
  exact ⟨m, hm, e1, e2⟩
theorem wrap_nil {P : Program} (ts : Array TypeId) (t : TypeId) (a : Addr) (x y : String) (w : World) : (Builtin.ssaWrapNilChk_ ts t #[.pointer (some a), strVal x, strVal y]).run P w = .ok (.pointer (some a)) w := rfl
theorem lv_row (g : Nat) (w : World) (A : Option Addr) (n c : Nat) (hc : w.cell? ⟨g, 0, none⟩ = some (.slice A n c)) : (loadVar 103 ⟨g, 0, none⟩).run Tryz.prog w = .ok (.slice A n c) w := by
  unfold loadVar
  simp [hc]
theorem me_less (g : Nat) (w : World) (sl : Value) (hv : (loadVar 103 ⟨g, 0, none⟩).run Tryz.prog w = .ok sl w) : (method 289 133 (.pointer (some ⟨g, 0, none⟩)) "Less").run Tryz.prog w = .ok (139, sl) w := by
  obtain ⟨m, hm, hp, hf⟩ := me_find "Less" 139 false (by kernel_rfl)
  unfold method
  simp [follow, receiverAt, Place.get, hm, hp, hf, wrap_nil, asAddr, hv]
theorem me_swap (g : Nat) (w : World) (sl : Value) (hv : (loadVar 103 ⟨g, 0, none⟩).run Tryz.prog w = .ok sl w) : (method 289 133 (.pointer (some ⟨g, 0, none⟩)) "Swap").run Tryz.prog w = .ok (140, sl) w := by
  obtain ⟨m, hm, hp, hf⟩ := me_find "Swap" 140 false (by kernel_rfl)
  unfold method
  simp [follow, receiverAt, Place.get, hm, hp, hf, wrap_nil, asAddr, hv]
theorem me_len (g : Nat) (w : World) (sl : Value) (hv : (loadVar 103 ⟨g, 0, none⟩).run Tryz.prog w = .ok sl w) : (method 289 133 (.pointer (some ⟨g, 0, none⟩)) "Len").run Tryz.prog w = .ok (138, sl) w := by
  obtain ⟨m, hm, hp, hf⟩ := me_find "Len" 138 false (by kernel_rfl)
  unfold method
  simp [follow, receiverAt, Place.get, hm, hp, hf, wrap_nil, asAddr, hv]
theorem me_push (g : Nat) (w : World) : (method 289 133 (.pointer (some ⟨g, 0, none⟩)) "Push").run Tryz.prog w = .ok (142, .pointer (some ⟨g, 0, none⟩)) w := by
  obtain ⟨m, hm, hp, hf⟩ := me_find "Push" 142 true (by kernel_rfl)
  unfold method
  simp [follow, receiverAt, Place.get, hm, hp, hf]
theorem me_pop (g : Nat) (w : World) : (method 289 133 (.pointer (some ⟨g, 0, none⟩)) "Pop").run Tryz.prog w = .ok (141, .pointer (some ⟨g, 0, none⟩)) w := by
  obtain ⟨m, hm, hp, hf⟩ := me_find "Pop" 141 true (by kernel_rfl)
  unfold method
  simp [follow, receiverAt, Place.get, hm, hp, hf]
theorem Hw.lv {F : Nat → Prop} {w : World} {g : Nat} {A : Option Addr} {n c : Nat} {mv : Value} {now : Int} {a : Nat → Nat} {K W : Nat → Int} (h : Hw F w g A n c mv now a K W) : (loadVar 103 ⟨g, 0, none⟩).run Tryz.prog w = .ok (.slice A n c) w := lv_row g w A n c (h.hg.cell3).1
theorem Hw.nx {F : Nat → Prop} {w w' : World} {g : Nat} {A : Option Addr} {n c : Nat} {mv : Value} {now : Int} {a : Nat → Nat} {K W : Nat → Int} (h : Hw F w g A n c mv now a K W) (hb : Below w.heap.size w w') : Hw F w' g A n c mv now a K W :=
  ⟨h.hg.nx hb, own_below h.row hb (Nat.le_refl _), fun j hj => (h.th j hj).nx hb, h.inj, h.fg, h.fr, h.ft⟩
abbrev ifV (g : Nat) : Value := .iface 133 (.pointer (some ⟨g, 0, none⟩))
set_option maxRecDepth 100000 in
set_option maxHeartbeats 8000000 in
theorem up_any {F : Nat → Prop} {w : World} {g : Nat} {A : Option Addr} {n c : Nat} {mv : Value} {now : Int} {a : Nat → Nat} {K W : Nat → Int} (h : Hw F w g A n c mv now a K W) (j : Nat) (hU : Up W a n j) (hn : n ≤ 1000000) :
    Calls Tryz.prog 90 #[ifV g, .int .i64 (j : Nat)] w fun e w' => e = .returned (.tuple #[]) ∧ ∃ a', Hw F w' g A n c mv now a' K W ∧ Hp W a' n ∧ Pm a a' n ∧ Only F w w' := by
  go_enter Tryz.func90, Tryz.ntmps90
  go_wp2_with fail
  go_loopw [1, 4] (fun jv _ wr => ∃ (j : Nat) (b : Nat → Nat), jv = .int .i64 (j : Nat) ∧ Hw F wr g A n c mv now b K W ∧ Up W b n j ∧ Pm a b n ∧ Only F w wr) (fun jv _ _ => (intOf jv).toNat)
  case atStart => exact ⟨j, a, rfl, h, hU, pm_refl a n, only_refl F w⟩
  case round =>
    clear h hU
    obtain ⟨j, b, rfl, h, hU, hP, hO⟩ := hrel
    have hj := hU.1
    by_cases h0 : j = 0
    · subst h0
      go_wp2_with fail
      go_end0
      exact ⟨rfl, b, h, up_end hU (.inl rfl), hP, hO⟩
    · have hq : ((j : Int) - 1) / 2 = (((j - 1) / 2 : Nat) : Int) := by omega
      obtain ⟨i, hi⟩ : ∃ i, i = (j - 1) / 2 := ⟨_, rfl⟩
      have hij : i < j := by omega
      have hne : ((i : Int) == (j : Int)) = false := by simp; omega
      rw [← hi] at hq
      have HI := Lib.hid hi
      clear hi
      have hme := me_less g wr _ h.lv
      have hL := rless_any h j i hj (by omega) hn
      by_cases hl : W (b j) < W (b i)
      · rw [decide_eq_true hl] at hL
        go_upto_region 2 with (go_at_call 139; (with_reducible refine hL.mono ?_); rintro e w1 ⟨rfl, hb1⟩)
        have h1 := h.nx hb1
        have hms := me_swap g w1 _ h1.lv
        have hS := rswap_any h1 i j (by omega) hj (by omega) hn
        clear hme hL h hne hq
        go_wp2_with (go_at_call 140; (with_reducible refine hS.mono ?_); rintro e w2 ⟨rfl, h2, hO2, hs2⟩)
        have hI := HI.out
        refine ⟨⟨i, sw b i j, rfl, h2, ?_, pm_trans hP (pm_sw b (by omega) hj), (hO.trans (G := F) (only_below hb1) (fun i h => .inl h)).trans hO2 (fun i h => .inl h)⟩, by simp [intOf]; omega⟩
        rw [hI]
        exact up_step hU (by omega) (by rw [← hI]; exact hl)
      · rw [decide_eq_false hl] at hL
        go_wp2_with (go_at_call 139; (with_reducible refine hL.mono ?_); rintro e w1 ⟨rfl, hb1⟩)
        go_end0
        have hI := HI.out
        exact ⟨rfl, b, h.nx hb1, up_end hU (.inr (by rw [← hI]; omega)), hP, hO.trans (G := F) (only_below hb1) (fun i h => .inl h)⟩
end Go.Proofs.YtahiaeaobbofbaaGreat
end
section
set_option linter.unusedVariables false
namespace Go.Proofs.YtahiaeaobbofbaaGreat
open Go.RowKit
set_option maxRecDepth 100000 in
set_option maxHeartbeats 8000000 in
theorem down_any {F : Nat → Prop} {w : World} {g : Nat} {A : Option Addr} {n c : Nat} {mv0 : Value} {now : Int} {a : Nat → Nat} {K W : Nat → Int} (h : Hw F w g A n c mv0 now a K W) (i0 m : Nat) (hD : Dn W false a m i0) (hm : m ≤ n) (hn : n ≤ 1000000) :
    Calls Tryz.prog 89 #[ifV g, .int .i64 (i0 : Nat), .int .i64 (m : Nat)] w fun e w' => ∃ (mv : Bool) (b : Nat → Nat), e = .returned (.bool mv) ∧ Hw F w' g A n c mv0 now b K W ∧ Pm a b n ∧ (∀ x, m ≤ x → b x = a x) ∧ (mv = true → Hp W b m) ∧ (mv = false → Up W b m i0 ∧ b = a) ∧ Only F w w' := by
  go_enter Tryz.func89, Tryz.ntmps89
  go_wp2_with fail
  go_loopw [7, 8, 9, 10] (fun iv _ _ _ wr => ∃ (i : Nat) (b : Nat → Nat) (mv : Bool), iv = .int .i64 (i : Nat) ∧ Hw F wr g A n c mv0 now b K W ∧ Dn W mv b m i ∧ (if mv = true then i0 < i else i0 = i) ∧ (mv = false → i = i0 ∧ b = a) ∧ Pm a b n ∧ (∀ x, m ≤ x → b x = a x) ∧ Only F w wr) (fun iv _ _ _ _ => m - (intOf iv).toNat)
  case atStart => exact ⟨i0, a, false, rfl, h, hD, rfl, fun _ => ⟨rfl, rfl⟩, pm_refl a n, fun _ _ => rfl, only_refl F w⟩
  case round =>
    clear h hD
    obtain ⟨i, b, mv, rfl, h, hD, hmv, hno, hP, hX, hO⟩ := hrel
    have him := hD.1
    have hmv2 := Lib.hid hmv
    clear hmv
    obtain ⟨j1, hj1⟩ : ∃ j1, j1 = 2 * i + 1 := ⟨_, rfl⟩
    have hq1 : 2 * (i : Int) + 1 = (j1 : Int) := by omega
    have HI1 := Lib.hid hj1
    clear hj1
    by_cases hge : m ≤ j1
    · have hge2 : (m : Int) ≤ (j1 : Int) := by omega
      go_wp2_with fail
      go_returns
      have hI1 := HI1.out
      have hE := dn_end hD (fun c c0 c1 => by omega)
      have e9 : decide (i0 < i) = mv := by
        have h9 := hmv2.out
        cases mv
        · rw [if_neg (by simp)] at h9; exact decide_eq_false (by omega)
        · rw [if_pos rfl] at h9; exact decide_eq_true (by omega)
      exact ⟨mv, b, ret_bool e9, h, hP, hX, hE.1, fun e => ⟨(hno e).1 ▸ hE.2, (hno e).2⟩, hO⟩
    · have hlt1 : (j1 : Int) < (m : Int) := by omega
      obtain ⟨j2, hj2⟩ : ∃ j2, j2 = j1 + 1 := ⟨_, rfl⟩
      have hq2 : (j1 : Int) + 1 = (j2 : Int) := by omega
      have HI2 := Lib.hid hj2
      clear hj2 hge
      by_cases h2 : j2 < m
      · have hlt2 : (j2 : Int) < (m : Int) := by omega
        have hma := me_less g wr _ h.lv
        have hL1 := rless_any h j2 j1 (by omega) (by omega) hn
        by_cases hc : W (b j2) < W (b j1)
        · rw [decide_eq_true hc] at hL1
          go_upto_region 8 with (go_at_call 139; (with_reducible refine hL1.mono ?_); rintro e w1 ⟨rfl, hb1⟩)
          have h1 := h.nx hb1
          have hO1 : Only F w w1 := hO.trans (G := F) (only_below hb1) (fun i h => .inl h)
          clear hL1 hma
          have hI1 := HI1.out
          have hI2 := HI2.out
          have hmin : ∀ c, c < m → (c = 2 * i + 1 ∨ c = 2 * i + 2) → W (b j2) ≤ W (b c) := by
            intro c c0 c1
            rcases c1 with e | e
            · rw [show c = j1 by omega]; omega
            · rw [show c = j2 by omega]; omega
          have hjn : j2 < n ∧ i < n ∧ i ≠ j2 := by omega
          have hjc : j2 = 2 * i + 1 ∨ j2 = 2 * i + 2 := by omega
          clear hI1 hI2
          have hL2 := rless_any h1 j2 i (by omega) (by omega) hn
          have hmb := me_less g w1 _ h1.lv
          by_cases hl : W (b j2) < W (b i)
          · rw [decide_eq_true hl] at hL2
            go_upto_region 9 with (go_at_call 139; (with_reducible refine hL2.mono ?_); rintro e w3 ⟨rfl, hb3⟩)
            have h3 := h1.nx hb3
            have hms := me_swap g w3 _ h3.lv
            have hS := rswap_any h3 i j2 (by omega) (by omega) (by omega) hn
            have hOb : Only F w w3 := (hO1).trans (G := F) (only_below hb3) (fun i h => .inl h)
            clear hL2 hmb
            go_wp2_with (go_at_call 140; (with_reducible refine hS.mono ?_); rintro e w4 ⟨rfl, h4, hO4, hs4⟩)
            refine ⟨⟨j2, sw b i j2, true, rfl, h4, dn_step hD (by omega) (by omega) hmin hl, ?_, (fun e => by cases e), pm_trans hP (pm_sw b (by omega) (by omega)), (fun x hx => by rw [sw_ne b (by omega) (by omega)]; exact hX x hx), hOb.trans hO4 (fun i h => .inl h)⟩, by simp [intOf]; omega⟩
            rw [if_pos rfl]
            have h9 := hmv2.out
            split at h9 <;> omega
          · rw [decide_eq_false hl] at hL2
            go_wp2_with (go_at_call 139; (with_reducible refine hL2.mono ?_); rintro e w3 ⟨rfl, hb3⟩)
            go_returns
            have hE := dn_end hD (fun c c0 c1 => by have := hmin c c0 c1; omega)
            have e9 : decide (i0 < i) = mv := by
              have h9 := hmv2.out
              cases mv
              · rw [if_neg (by simp)] at h9; exact decide_eq_false (by omega)
              · rw [if_pos rfl] at h9; exact decide_eq_true (by omega)
            exact ⟨mv, b, ret_bool e9, h1.nx hb3, hP, hX, hE.1, fun e => ⟨(hno e).1 ▸ hE.2, (hno e).2⟩, (hO1).trans (G := F) (only_below hb3) (fun i h => .inl h)⟩
        · rw [decide_eq_false hc] at hL1
          go_upto_region 8 with (go_at_call 139; (with_reducible refine hL1.mono ?_); rintro e w1 ⟨rfl, hb1⟩)
          have h1 := h.nx hb1
          have hO1 : Only F w w1 := hO.trans (G := F) (only_below hb1) (fun i h => .inl h)
          clear hL1 hma
          have hI1 := HI1.out
          have hI2 := HI2.out
          have hmin : ∀ c, c < m → (c = 2 * i + 1 ∨ c = 2 * i + 2) → W (b j1) ≤ W (b c) := by
            intro c c0 c1
            rcases c1 with e | e
            · rw [show c = j1 by omega]; omega
            · rw [show c = j2 by omega]; omega
          have hjn : j1 < n ∧ i < n ∧ i ≠ j1 := by omega
          have hjc : j1 = 2 * i + 1 ∨ j1 = 2 * i + 2 := by omega
          clear hI1 hI2
          have hL2 := rless_any h1 j1 i (by omega) (by omega) hn
          have hmb := me_less g w1 _ h1.lv
          by_cases hl : W (b j1) < W (b i)
          · rw [decide_eq_true hl] at hL2
            go_upto_region 9 with (go_at_call 139; (with_reducible refine hL2.mono ?_); rintro e w3 ⟨rfl, hb3⟩)
            have h3 := h1.nx hb3
            have hms := me_swap g w3 _ h3.lv
            have hS := rswap_any h3 i j1 (by omega) (by omega) (by omega) hn
            have hOb : Only F w w3 := (hO1).trans (G := F) (only_below hb3) (fun i h => .inl h)
            clear hL2 hmb
            go_wp2_with (go_at_call 140; (with_reducible refine hS.mono ?_); rintro e w4 ⟨rfl, h4, hO4, hs4⟩)
            refine ⟨⟨j1, sw b i j1, true, rfl, h4, dn_step hD (by omega) (by omega) hmin hl, ?_, (fun e => by cases e), pm_trans hP (pm_sw b (by omega) (by omega)), (fun x hx => by rw [sw_ne b (by omega) (by omega)]; exact hX x hx), hOb.trans hO4 (fun i h => .inl h)⟩, by simp [intOf]; omega⟩
            rw [if_pos rfl]
            have h9 := hmv2.out
            split at h9 <;> omega
          · rw [decide_eq_false hl] at hL2
            go_wp2_with (go_at_call 139; (with_reducible refine hL2.mono ?_); rintro e w3 ⟨rfl, hb3⟩)
            go_returns
            have hE := dn_end hD (fun c c0 c1 => by have := hmin c c0 c1; omega)
            have e9 : decide (i0 < i) = mv := by
              have h9 := hmv2.out
              cases mv
              · rw [if_neg (by simp)] at h9; exact decide_eq_false (by omega)
              · rw [if_pos rfl] at h9; exact decide_eq_true (by omega)
            exact ⟨mv, b, ret_bool e9, h1.nx hb3, hP, hX, hE.1, fun e => ⟨(hno e).1 ▸ hE.2, (hno e).2⟩, (hO1).trans (G := F) (only_below hb3) (fun i h => .inl h)⟩
      · have hge2 : (m : Int) ≤ (j2 : Int) := by omega
        go_upto_region 8 with fail
        have hI1 := HI1.out
        have hI2 := HI2.out
        have hmin : ∀ c, c < m → (c = 2 * i + 1 ∨ c = 2 * i + 2) → W (b j1) ≤ W (b c) := by
          intro c c0 c1
          rcases c1 with e | e
          · rw [show c = j1 by omega]; omega
          · omega
        have hjn : j1 < n ∧ i < n ∧ i ≠ j1 := by omega
        have hjc : j1 = 2 * i + 1 ∨ j1 = 2 * i + 2 := by omega
        clear hI1 hI2
        have hL2 := rless_any h j1 i (by omega) (by omega) hn
        have hmb := me_less g wr _ h.lv
        by_cases hl : W (b j1) < W (b i)
        · rw [decide_eq_true hl] at hL2
          go_upto_region 9 with (go_at_call 139; (with_reducible refine hL2.mono ?_); rintro e w3 ⟨rfl, hb3⟩)
          have h3 := h.nx hb3
          have hms := me_swap g w3 _ h3.lv
          have hS := rswap_any h3 i j1 (by omega) (by omega) (by omega) hn
          have hOb : Only F w w3 := (hO).trans (G := F) (only_below hb3) (fun i h => .inl h)
          clear hL2 hmb
          go_wp2_with (go_at_call 140; (with_reducible refine hS.mono ?_); rintro e w4 ⟨rfl, h4, hO4, hs4⟩)
          refine ⟨⟨j1, sw b i j1, true, rfl, h4, dn_step hD (by omega) (by omega) hmin hl, ?_, (fun e => by cases e), pm_trans hP (pm_sw b (by omega) (by omega)), (fun x hx => by rw [sw_ne b (by omega) (by omega)]; exact hX x hx), hOb.trans hO4 (fun i h => .inl h)⟩, by simp [intOf]; omega⟩
          rw [if_pos rfl]
          have h9 := hmv2.out
          split at h9 <;> omega
        · rw [decide_eq_false hl] at hL2
          go_wp2_with (go_at_call 139; (with_reducible refine hL2.mono ?_); rintro e w3 ⟨rfl, hb3⟩)
          go_returns
          have hE := dn_end hD (fun c c0 c1 => by have := hmin c c0 c1; omega)
          have e9 : decide (i0 < i) = mv := by
            have h9 := hmv2.out
            cases mv
            · rw [if_neg (by simp)] at h9; exact decide_eq_false (by omega)
            · rw [if_pos rfl] at h9; exact decide_eq_true (by omega)
          exact ⟨mv, b, ret_bool e9, h.nx hb3, hP, hX, hE.1, fun e => ⟨(hno e).1 ▸ hE.2, (hno e).2⟩, (hO).trans (G := F) (only_below hb3) (fun i h => .inl h)⟩
end Go.Proofs.YtahiaeaobbofbaaGreat
end
section
set_option linter.unusedVariables false
namespace Go.Proofs.YtahiaeaobbofbaaGreat
open Go.RowKit
theorem rlen_any (A : Option Addr) (n c : Nat) (w : World) : Calls Tryz.prog 138 #[.slice A n c] w fun e w' => e = .returned (.int .i64 (n : Nat)) ∧ w = w' := by
  go_enter Tryz.func138, Tryz.ntmps138
  go_wp2_with fail
  go_returns
  exact ⟨rfl, rfl⟩
set_option maxRecDepth 100000 in
set_option maxHeartbeats 4000000 in
theorem fix_any {F : Nat → Prop} {w : World} {g : Nat} {A : Option Addr} {n c : Nat} {mv : Value} {now : Int} {a : Nat → Nat} {K W : Nat → Int} (h : Hw F w g A n c mv now a K W) (i : Nat) (hD : Dn W false a n i) (hn : n ≤ 1000000) :
    Calls Tryz.prog 75 #[ifV g, .int .i64 (i : Nat)] w fun e w' => e = .returned (.tuple #[]) ∧ ∃ b, Hw F w' g A n c mv now b K W ∧ Hp W b n ∧ Pm a b n ∧ Only F w w' := by
  have hme := me_len g w _ h.lv
  have hDo := down_any h i n hD (Nat.le_refl _) hn
  go_enter Tryz.func75, Tryz.ntmps75
  go_upto_region 1 with (first
    | (go_at_call 138; (with_reducible refine (rlen_any _ _ _ _).mono ?_); rintro e w1 ⟨rfl, rfl⟩)
    | (go_at_call 89; (with_reducible refine hDo.mono ?_); rintro e w2 ⟨mv', b, rfl, h2, hP, _, hT, hF, hO⟩; cases mv'))
  · obtain ⟨hU, rfl⟩ := hF (by trivial)
    have hUp := up_any h2 i hU hn
    go_wp2_with (go_at_call 90; (with_reducible refine hUp.mono ?_); rintro e w3 ⟨rfl, b3, h3, hp3, hP3, hO3⟩)
    go_end0
    exact ⟨rfl, b3, h3, hp3, hP3, hO.trans hO3 (fun i h => .inl h)⟩
  · go_wp2_with fail
    go_end0
    exact ⟨rfl, b, h2, hT (by trivial), hP, hO⟩
end Go.Proofs.YtahiaeaobbofbaaGreat
end
section
set_option linter.unusedVariables false
namespace Go.Proofs.YtahiaeaobbofbaaGreat
open Go.RowKit
theorem pt_info : (Tryz.prog.info? 128).map (fun i => (i.zero, i.size, i.bytes)) = some (some (.pointer none), 1, 8) := by kernel_rfl
theorem ptrs_snoc (a : Nat → Nat) (n q : Nat) : ptrs a n ++ (#[.pointer (some ⟨q, 0, none⟩)] : Array Value).toList = ptrs (fun j => if j = n then q else a j) (n + 1) := by
  unfold ptrs
  rw [List.range_succ, List.map_append]
  congr 1
  · apply List.map_congr_left
    intro j hj
    have := List.mem_range.1 hj
    show _ = Value.pointer (some ⟨if j = n then q else a j, 0, none⟩)
    rw [if_neg (by omega)]
  · simp
/-- app1, the owner first. -/
theorem app1o {P : Program} {ops : Array Oper} {rest : List Oper} {o : Oper} {a : Act} {Q : Exit → Act → World → Prop} (hgd : o.guard = none) (s x : Operand) (t : TypeId)
    (ho : o.op = .call { callee := .builtin .append, args := #[s, x], argTypes := #[t, t] })
    {e : TypeId} {z : Value} {size bytes : Nat} (ht : P.underlying t = some (.slice e)) (hi : (P.info? e).map (fun i => (i.zero, i.size, i.bytes)) = some (some z, size, bytes)) (hzs : z.cells.size = size) (hsz : 0 < size)
    {w W : World} {B base n : Nat} {v : Value} {xs : List Value} {cs : Array Value} (hown : w.ownsRow base e size v n xs) (hs : a.eval s = v) (hx : a.eval x = .slice (some ⟨w.heap.size, 0, none⟩) 1 1)
    (hbel : Below B W w) (hB : B ≤ base) (hbase : base ≤ w.heap.size) (hcs : cs.size = size) (h1 : ∀ u ∈ cs.toList, u.oneCell' = true)
    (hbytes : (n + 1) * bytes ≤ 140737488355328) (h63 : n + 1 ≤ 9223372036854775807)
    (h : ∀ v' w', w'.ownsRow base e size v' (n + 1) (xs ++ cs.toList) → Below B W w' → w.heap.size < w'.heap.size → w.grownBy w' v.ownBlock → (v'.ownBlock = v.ownBlock ∨ v'.ownBlock = some (w.heap.size + 1)) → wpList P ops Q rest (a.put o.dst v') w') :
    wpList P ops Q (o :: rest) a (w.alloc (.cells cs e)) := app1 hgd s x t ho ht hi hzs hsz hs hx hown hbel hB hbase hcs h1 hbytes h63 h
set_option maxRecDepth 100000 in
set_option maxHeartbeats 8000000 in
theorem rpush_any {F : Nat → Prop} {w : World} {g : Nat} {A : Option Addr} {n c : Nat} {mv : Value} {now : Int} {a : Nat → Nat} {K W : Nat → Int} (h : Hw F w g A n c mv now a K W) (q : Nat) (z : Int) (hq : Bk w q 131 #[.int .i64 (K q), .int .i64 (W q), .int .i64 z]) (hqn : ∀ j, j < n → a j ≠ q) (hn : n ≤ 1000000) :
    Calls Tryz.prog 142 #[.pointer (some ⟨g, 0, none⟩), .iface 128 (.pointer (some ⟨q, 0, none⟩))] w fun e w' => e = .returned (.tuple #[]) ∧ ∃ A' c' F', Hw F' w' g A' (n + 1) c' mv now (fun j => if j = n then q else a j) K W ∧ (∀ i, F' i → F i ∨ i = q ∨ w.heap.size ≤ i) ∧ Only (fun i => F i ∨ i = q) w w' := by
  have HH := Lib.hid h
  obtain ⟨c0, c1, c2⟩ := h.hg.cell3
  obtain ⟨d0, d1, d2⟩ := hq.cell3
  have f2 := hq.frozen 2
  have hgq : g ≠ q := fun e => by have h1 := h.hg; rw [e] at h1; exact absurd (bk_type h1 hq) (by decide)
  have hta : ∀ w', (Instr.typeAssert (.iface 128 (.pointer (some ⟨q, 0, none⟩))) 20 128 true).run Tryz.prog w' = .ok (.tuple #[.pointer (some ⟨q, 0, none⟩), .bool true]) w' := fun w' => by kernel_rfl
  go_enter Tryz.func142, Tryz.ntmps142
  go_upto_region 3 with fail
  have hrq : ∀ b, (Value.slice A n c).ownBlock = some b → b ≠ q ∧ b ≠ g := fun b hb => by
    rcases h.row.2 with ⟨e, _⟩ | ⟨r, cap, cur, e, _, hh, _⟩
    · rw [e] at hb; cases hb
    · rw [e] at hb; injection hb with hb; subst hb
      exact ⟨fun e => by rw [show r = q from e] at hh; exact absurd (bk_type hq hh) (by decide), fun e => by rw [show r = g from e] at hh; exact absurd (bk_type h.hg hh) (by decide)⟩
  have ho1 : (w.setCell ⟨q, 2, none⟩ (.int .i64 (n : Nat))).ownsRow 0 128 1 (.slice A n c) n (ptrs a n) := own_far h.row _ _ (fun b hb => (hrq b hb).1)
  have k1 : Bk (w.setCell ⟨q, 2, none⟩ (.int .i64 (n : Nat))) q 131 #[.int .i64 (K q), .int .i64 (W q), .int .i64 (n : Nat)] := hq.set 2 _
  have kg1 : Bk (w.setCell ⟨q, 2, none⟩ (.int .i64 (n : Nat))) g 106 #[.slice A n c, mv, .int .i64 now] := h.hg.far (by simpa using hgq) _
  have hth1 : ∀ j, j < n → Bk (w.setCell ⟨q, 2, none⟩ (.int .i64 (n : Nat))) (a j) 131 #[.int .i64 (K (a j)), .int .i64 (W (a j)), .int .i64 (j : Nat)] := fun j hj => (h.th j hj).far (by simpa using hqn j hj) _
  have hO1 : Only (fun i => F i ∨ i = q) w (w.setCell ⟨q, 2, none⟩ (.int .i64 (n : Nat))) := only_gb (gb_set1 w ⟨q, 2, none⟩ _) (.inr rfl)
  have hs1 : (w.setCell ⟨q, 2, none⟩ (.int .i64 (n : Nat))).heap.size = w.heap.size := by simp [World.setCell]
  clear c0 c1 c2 d0 d1 d2 f2 hta hq h
  generalize w.setCell ⟨q, 2, none⟩ (.int .i64 (n : Nat)) = w1 at *
  have HS1 := Lib.hid hs1
  clear hs1
  obtain ⟨c0, c1, c2⟩ := kg1.cell3
  have hlg := kg1.lt
  go_wp2_with (at_builtin; go_loud (refine app1o rfl _ _ _ rfl Tryz.underlying103 pt_info rfl (by omega) ho1 rfl rfl (Below.refl 0 w1) (Nat.le_refl _) (Nat.zero_le _) rfl (by simp [Value.oneCell']) (by omega) (by omega) ?_); intro v' w5 ho5 hb5 hs5 hg5 hn5; have kg5 : Bk w5 g 106 #[.slice A n c, mv, .int .i64 now] := (hg5.block g hlg (fun e => (hrq g e.symm).2 rfl)).trans kg1; obtain ⟨e0, e1, e2⟩ := kg5.cell3; have fg := kg5.frozen 0; obtain ⟨A', c', rfl, hc1, hc2, _⟩ := own_form ho5)
  go_end0
  have hw5 := hs5
  have hvl := ho1.lt
  have hsz := HS1.out
  rw [ptrs_snoc] at ho5
  have hv5 := ho5.lt
  have hng : ∀ b, (Value.slice A' (n + 1) c').ownBlock = some b → b ≠ g := fun b hb e => by
    rcases hn5 with e5 | e5
    · rw [hb] at e5; exact (hrq b e5.symm).2 e
    · rw [hb] at e5; injection e5 with e5; omega
  have hg6 : (w5.setCell ⟨g, 0, none⟩ (.slice A' (n + 1) c')).heap.size = w5.heap.size := by simp [World.setCell]
  have hkq : ∀ b cs, Bk w1 b 131 cs → Bk (w5.setCell ⟨g, 0, none⟩ (.slice A' (n + 1) c')) b 131 cs := fun b cs hb => by
    have hb5' : Bk w5 b 131 cs := (hg5.block b hb.lt (fun e => by
      rcases ho1.2 with ⟨e1, _⟩ | ⟨r, cap, cur, e1, _, hh, _⟩
      · rw [e1] at e; cases e
      · rw [e1] at e; injection e with e; rw [show b = r from e] at hb; exact absurd (bk_type hb hh) (by decide))).trans hb
    exact hb5'.far (by simp; intro e; rw [e] at hb5'; exact absurd (bk_type hb5' kg5) (by decide)) _
  refine ⟨rfl, A', c', fun i => F i ∨ i = q ∨ w.heap.size ≤ i, ⟨kg5.set 0 _, own_far ho5 _ _ (fun b hb => hng b hb), ?_, ?_, .inl HH.out.fg, ?_, ?_⟩, fun i h => h, ?_⟩
  · intro j hj
    by_cases e : j = n
    · show Bk _ (if j = n then q else a j) _ _
      rw [if_pos e, e]; exact hkq q _ k1
    · show Bk _ (if j = n then q else a j) _ _
      rw [if_neg e]; exact hkq (a j) _ (hth1 j (by omega))
  · intro i j hi hj e
    have e' : (if i = n then q else a i) = (if j = n then q else a j) := e
    split at e' <;> split at e'
    · omega
    · exact absurd e'.symm (hqn j (by omega))
    · exact absurd e' (hqn i (by omega))
    · exact HH.out.inj i j (by omega) (by omega) e'
  · intro b hb
    rcases hn5 with e5 | e5
    · rw [hb] at e5; exact .inl (HH.out.fr b e5.symm)
    · rw [hb] at e5; injection e5 with e5; exact .inr (.inr (by omega))
  · intro j hj
    show F (if j = n then q else a j) ∨ _
    split
    · exact .inr (.inl rfl)
    · exact .inl (HH.out.ft j (by omega))
  · have hO5 : Only (fun i => F i ∨ i = q) w1 w5 := ⟨hb5, fun i hi hF => hg5.block i hi (fun e => hF (.inl (HH.out.fr i e.symm)))⟩
    exact (hO1.trans hO5 (fun i h => .inl h)).trans (only_gb (gb_set1 w5 ⟨g, 0, none⟩ _) (.inl HH.out.fg)) (fun i h => .inl h)
end Go.Proofs.YtahiaeaobbofbaaGreat
end
