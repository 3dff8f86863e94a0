/- Several texts in one: ages: what a nil one answers; Has, Len of an Ages as a whole. ages: Drop of a thing that is there. ages: Drop of an Ages as a whole. ages: Pop. ages: Touch of a thing that is there. ages: Touch of a thing that is there: the walk. ages: Touch of a thing that is there, of an Ages as a whole. ages: Touch of a new thing: the walk. ages: Touch of an Ages as a whole. -/
import Derived.Test.YtahiaeaobbofbaaGreatGB
import Derived.WalkSpells
section
set_option linter.unusedVariables false
namespace Go.Proofs.YtahiaeaobbofbaaGreat
open Go.RowKit
theorem atouch_nil (k : Int) (w : World) : Calls Tryz.prog 54 #[.pointer none, .int .i64 k] w fun e w' => e = .returned (.tuple #[]) ∧ w = w' := by
  go_enter Tryz.func54, Tryz.ntmps54
  go_wp2_with fail
  first | go_returns | (refine bodyPost_ret (results_none rfl _ _) rfl ?_)
  exact ⟨rfl, rfl⟩
theorem adrop_nil (k : Int) (w : World) : Calls Tryz.prog 87 #[.pointer none, .int .i64 k] w fun e w' => e = .returned (.bool false) ∧ w = w' := by
  go_enter Tryz.func87, Tryz.ntmps87
  go_wp2_with (go_at_call 74; (with_reducible refine (afind_nil _ _).mono ?_); rintro e w1 ⟨rfl, rfl⟩)
  go_returns
  exact ⟨rfl, rfl⟩
theorem apop_nil (w : World) : Calls Tryz.prog 72 #[.pointer none] w fun e w' => e = .returned (.tuple #[.int .i64 0, .bool false]) ∧ w = w' := by
  go_enter Tryz.func72, Tryz.ntmps72
  go_wp2_with (go_at_call 86; (with_reducible refine (aold_nil _).mono ?_); rintro e w1 ⟨rfl, rfl⟩)
  go_returns
  exact ⟨rfl, rfl⟩
theorem aall_nil (w : World) : Calls Tryz.prog 70 #[.pointer none] w fun e w' => e = .returned (.slice none 0 0) ∧ w = w' := by
  go_enter Tryz.func70, Tryz.ntmps70
  go_wp2_with fail
  go_returns
  exact ⟨rfl, rfl⟩
theorem Ag.len {F : Nat → Prop} {w : World} {g : Nat} {now : Int} {m : List Int} (h : Ag F w g now m) : Calls Tryz.prog 33 #[.pointer (some ⟨g, 0, none⟩)] w fun e w' => e = .returned (.int .i64 (m.length : Nat)) ∧ w = w' := by
  obtain ⟨A, n, c, cnt, mv, a, K, W, s, M, Fh, hH, hp, hS, rfl, _, hM, _⟩ := h.ex
  have e : (s.map K).length = n := by rw [List.length_map]; exact hS.len
  rw [e]
  exact alen_any hH.hg
theorem Ag.has {F : Nat → Prop} {w : World} {g : Nat} {now : Int} {m : List Int} (h : Ag F w g now m) {k : Int} (hk : -9223372036854775808 ≤ k ∧ k ≤ 9223372036854775807) : Calls Tryz.prog 69 #[.pointer (some ⟨g, 0, none⟩), .int .i64 k] w fun e w' => e = .returned (.bool (decide (k ∈ m))) ∧ w = w' := by
  obtain ⟨A, n, c, cnt, mv, a, K, W, s, M, Fh, hH, hp, hS, rfl, _, hM, _, hMk, _⟩ := h.ex
  have h1 := ahas_any hH.hg k (M k) (hM.look hk)
  have e : (M k).isSome = decide (k ∈ s.map K) := by
    cases hq : M k with
    | none =>
      refine (decide_eq_false ?_).symm
      intro hm
      obtain ⟨b, hb, hkb⟩ := List.mem_map.1 hm
      have := (hMk k b).2 ⟨hb, hkb⟩
      rw [hq] at this; cases this
    | some b =>
      obtain ⟨hb, hkb⟩ := (hMk k b).1 hq
      exact (decide_eq_true (List.mem_map.2 ⟨b, hb, hkb⟩)).symm
  rw [e] at h1
  exact h1
theorem Ag.old {F : Nat → Prop} {w : World} {g : Nat} {now : Int} {m : List Int} (h : Ag F w g now m) : Calls Tryz.prog 86 #[.pointer (some ⟨g, 0, none⟩)] w fun e w' => e = .returned (.tuple #[.int .i64 (m.headD 0), .bool (decide (m ≠ []))]) ∧ w = w' := by
  obtain ⟨A, n, c, cnt, mv, a, K, W, s, M, Fh, hH, hp, hS, rfl, _, hM, _⟩ := h.ex
  rcases Nat.eq_zero_or_pos n with rfl | hn
  · obtain rfl : s = [] := List.eq_nil_of_length_eq_zero hS.len
    exact aold_none hH.hg
  · obtain ⟨r, rfl⟩ := ag_old hS hp hn
    exact aold_some hH hn
end Go.Proofs.YtahiaeaobbofbaaGreat
end
section
set_option linter.unusedVariables false
namespace Go.Proofs.YtahiaeaobbofbaaGreat
open Go.RowKit
theorem adrop_none {w : World} {g : Nat} {sl mv : Value} {now : Int} (hg : Bk w g 106 #[sl, mv, .int .i64 now]) (k : Int) (hlk : (Instr.lookup 104 mv (.int .i64 k) false).run Tryz.prog w = .ok (ptV none) w) :
    Calls Tryz.prog 87 #[.pointer (some ⟨g, 0, none⟩), .int .i64 k] w fun e w' => e = .returned (.bool false) ∧ w = w' := by
  have hf : Calls Tryz.prog 74 #[.pointer (some ⟨g, 0, none⟩), .int .i64 k] w fun e w' => e = .returned (.pointer none) ∧ w = w' := afind_any hg k none hlk
  clear hlk
  go_enter Tryz.func87, Tryz.ntmps87
  go_wp2_with (go_at_call 74; (with_reducible refine hf.mono ?_); rintro e w1 ⟨rfl, rfl⟩)
  go_returns
  exact ⟨rfl, rfl⟩
theorem Hw.far {F : Nat → Prop} {w w' : World} {g mb : Nat} {A : Option Addr} {n c : Nat} {mv : Value} {now : Int} {a : Nat → Nat} {K W : Nat → Int} (h : Hw F w g A n c mv now a K W) (hg : w.grownBy w' (some mb)) (hF : ¬ F mb) : Hw F w' g A n c mv now a K W :=
  ⟨(hg.block g h.hg.lt (by intro e; injection e with e; subst e; exact hF h.fg)).trans h.hg,
   by
    refine ⟨h.row.1, ?_⟩
    rcases h.row.2 with h2 | ⟨r, cap, cur, hv, hb, hh, rest⟩
    · exact .inl h2
    · exact .inr ⟨r, cap, cur, hv, hb, by rw [hg.block r (Bk.lt hh) (by intro e; injection e with e; subst e; exact hF (h.fr r (by rw [hv]; rfl)))]; exact hh, rest⟩,
   fun j hj => (hg.block (a j) (h.th j hj).lt (by intro e; injection e with e; exact hF (by rw [← e]; exact h.ft j hj))).trans (h.th j hj), h.inj, h.fg, h.fr, h.ft⟩
set_option maxRecDepth 100000 in
set_option maxHeartbeats 8000000 in
theorem adrop_some {F : Nat → Prop} {w : World} {g : Nat} {A : Option Addr} {n c : Nat} {mb cnt : Nat} {M : Int → Option Nat} {now : Int} {a : Nat → Nat} {K W : Nat → Int} (h : Hw F w g A (n + 1) c (.map (some mb)) now a K W) (hp : Hp W a (n + 1)) (hM : Mp Tryz.prog 3 w mb cnt M) (hF : ¬ F mb) (i : Nat) (hi : i ≤ n) (k : Int) (hk : -9223372036854775808 ≤ k ∧ k ≤ 9223372036854775807) (hMk : M k = some (a i)) (hn : n < 1000000) :
    Calls Tryz.prog 87 #[.pointer (some ⟨g, 0, none⟩), .int .i64 k] w fun e w' => e = .returned (.bool true) ∧ ∃ b, Hw F w' g A n c (.map (some mb)) now b K W ∧ Hp W b n ∧ Pm a b (n + 1) ∧ b n = a i ∧ Mp Tryz.prog 3 w' mb cnt (fun z => if z = k then none else M z) ∧ Only (fun i => F i ∨ i = mb) w w' := by
  have hlk := MapIs.look (F := fun _ => True) (Fh := fun _ => False) (.inr ⟨mb, rfl, trivial, id, hM⟩) hk
  rw [hMk] at hlk
  have hf : Calls Tryz.prog 74 #[.pointer (some ⟨g, 0, none⟩), .int .i64 k] w fun e w' => e = .returned (.pointer (some ⟨a i, 0, none⟩)) ∧ w = w' := afind_any h.hg k _ hlk
  obtain ⟨d0, d1, d2⟩ := (h.th i (by omega)).cell3
  have hR := fun (w' : World) (hh : Hw F w' g A (n + 1) c (.map (some mb)) now a K W) => hremove_any hh hp i hi hn
  clear hlk
  go_enter Tryz.func87, Tryz.ntmps87
  go_upto_region 4 with (go_at_call 74; (with_reducible refine hf.mono ?_); rintro e w1 ⟨rfl, rfl⟩)
  go_region_with (first
    | (go_at_call 98; (with_reducible refine (hR _ (by exact h.drew)).mono ?_); rintro e w2 ⟨rfl, b, h2, hp2, hP2, hbn, hO2⟩)
    | (go_at_call 98; (with_reducible refine (hR _ (by exact h)).mono ?_); rintro e w2 ⟨rfl, b, h2, hp2, hP2, hbn, hO2⟩))
  all_goals
    have hM2 := hM.same (hO2.out mb hM.lt hF)
    obtain ⟨c0, c1, c2⟩ := h2.hg.cell3
    go_wp2_with (at_delete; (refine wpList_del rfl _ _ _ _ rfl Tryz.underlying3 Tryz.underlying104 hM2 rfl k rfl hk ?_); intro w5 hM5 hg5 hs5)
    go_returns
    exact ⟨rfl, b, h2.far hg5 hF, hp2, hP2, hbn, hM5, ((only_refl (fun i => F i ∨ i = mb) w).drew).trans ((Only.trans (F := fun i => F i ∨ i = mb) (G := F) ⟨hO2.bel, fun i hi hn => hO2.out i hi (fun h => hn (.inl h))⟩ (only_refl F _) (fun i h => .inl (.inl h))).trans (only_gb (F := fun i => F i ∨ i = mb) hg5 (.inr rfl)) (fun i h => .inl h)) (fun i h => .inl h)⟩
end Go.Proofs.YtahiaeaobbofbaaGreat
end
section
set_option linter.unusedVariables false
namespace Go.Proofs.YtahiaeaobbofbaaGreat
open Go.RowKit
theorem Ag.drop {F : Nat → Prop} {w : World} {g : Nat} {now : Int} {m : List Int} (h : Ag F w g now m) {k : Int} (hk : -9223372036854775808 ≤ k ∧ k ≤ 9223372036854775807) (hnow : now ≤ 1000000) :
    Calls Tryz.prog 87 #[.pointer (some ⟨g, 0, none⟩), .int .i64 k] w fun e w' => e = .returned (.bool (decide (k ∈ m))) ∧ Ag F w' g now (m.filter (· ≠ k)) ∧ Only F w w' := by
  obtain ⟨A, n, c, cnt, mv, a, K, W, s, M, Fh, hH, hp, hS, rfl, hFh, hM, hcn, hMk, hnn⟩ := h.ex
  cases hq : M k with
  | none =>
    have hno : k ∉ s.map K := fun hm => by
      obtain ⟨b, hb, hkb⟩ := List.mem_map.1 hm
      have := (hMk k b).2 ⟨hb, hkb⟩
      rw [hq] at this; cases this
    have hlk := hM.look hk
    rw [hq] at hlk
    rw [decide_eq_false hno, without_none hno]
    refine (adrop_none hH.hg k hlk).mono ?_
    rintro e w' ⟨rfl, rfl⟩
    exact ⟨rfl, h, only_refl F w⟩
  | some b =>
    obtain ⟨hb, hkb⟩ := (hMk k b).1 hq
    obtain ⟨i, hi, hai⟩ := (hS.mem b).1 hb
    obtain ⟨n', rfl⟩ : ∃ n', n = n' + 1 := ⟨n - 1, by omega⟩
    rw [decide_eq_true (List.mem_map.2 ⟨b, hb, hkb⟩)]
    rcases hM with ⟨_, hM0⟩ | ⟨mb, rfl, hFm, hnF, hM⟩
    · rw [hM0] at hq; cases hq
    · refine (adrop_some hH hp hM hnF i (by omega) k hk (by rw [hq, hai]) (by omega)).mono ?_
      rintro e w' ⟨rfl, b', hH', hp', hP', hbn, hM', hO⟩
      have hOF : Only F w w' := ⟨hO.bel, fun i hi hn => hO.out i hi (fun e => by rcases e with e | rfl; exact hn (hFh i e); exact hn hFm)⟩
      have hS2 := ag_drop (ag_pm hS hP')
      rw [hbn, hai] at hS2
      refine ⟨rfl, ⟨⟨A, n', c, cnt, .map (some mb), b', K, W, s.filter (· ≠ b), fun z => if z = k then none else M z, Fh, hH', hp', hS2, ?_, hFh, .inr ⟨mb, rfl, hFm, hnF, hM'⟩, hcn, ?_, by omega⟩, fun i hi => Nat.lt_of_lt_of_le (h.lt i hi) hO.bel.size⟩, hOF⟩
      · rw [map_without (fun x hx e => hS.key x b hx hb e), hkb]
      · intro z x
        show (if z = k then none else M z) = some x ↔ _
        by_cases ez : z = k
        · rw [if_pos ez]
          constructor
          · intro e; cases e
          · rintro ⟨h1, h2⟩
            have h3 := List.mem_filter.1 h1
            exact absurd (hS.key x b h3.1 hb (by rw [h2, ez, hkb])) (by simpa using h3.2)
        · rw [if_neg ez, hMk]
          simp only [List.mem_filter, decide_eq_true_eq]
          constructor
          · rintro ⟨h1, h2⟩
            exact ⟨⟨h1, fun e => ez (by rw [← h2, e, hkb])⟩, h2⟩
          · rintro ⟨⟨h1, _⟩, h2⟩
            exact ⟨h1, h2⟩
end Go.Proofs.YtahiaeaobbofbaaGreat
end
section
set_option linter.unusedVariables false
namespace Go.Proofs.YtahiaeaobbofbaaGreat
open Go.RowKit
set_option maxRecDepth 100000 in
set_option maxHeartbeats 4000000 in
theorem Ag.pop {F : Nat → Prop} {w : World} {g : Nat} {now : Int} {m : List Int} (h : Ag F w g now m) (hm : ∀ k, k ∈ m → -9223372036854775808 ≤ k ∧ k ≤ 9223372036854775807) (hnow : now ≤ 1000000) :
    Calls Tryz.prog 72 #[.pointer (some ⟨g, 0, none⟩)] w fun e w' => e = .returned (.tuple #[.int .i64 (m.headD 0), .bool (decide (m ≠ []))]) ∧ Ag F w' g now (m.filter (· ≠ m.headD 0)) ∧ Only F w w' := by
  have hO := h.old
  cases m with
  | nil =>
    go_enter Tryz.func72, Tryz.ntmps72
    go_wp2_with (go_at_call 86; (with_reducible refine hO.mono ?_); rintro e w1 ⟨rfl, rfl⟩)
    go_returns
    exact ⟨rfl, h, only_refl F w⟩
  | cons k r =>
    have hD := h.drop (hm k (by simp)) hnow
    rw [decide_eq_true (by simp : k ∈ k :: r)] at hD
    have hO' : Calls Tryz.prog 86 #[.pointer (some ⟨g, 0, none⟩)] w fun e w' => e = .returned (.tuple #[.int .i64 k, .bool true]) ∧ w = w' := hO
    clear hO
    go_enter Tryz.func72, Tryz.ntmps72
    go_wp2_with (first
      | (go_at_call 86; (with_reducible refine hO'.mono ?_); rintro e w1 ⟨rfl, rfl⟩)
      | (go_at_call 87; (with_reducible refine hD.mono ?_); rintro e w2 ⟨rfl, h2, hO2⟩))
    go_returns
    exact ⟨rfl, h2, hO2⟩
end Go.Proofs.YtahiaeaobbofbaaGreat
end
section
set_option linter.unusedVariables false
namespace Go.Proofs.YtahiaeaobbofbaaGreat
open Go.RowKit
/-- A heap but for what stands at i, whose number has turned. -/
theorem dn_key {α : Type} {k k' : α → Int} {a : Nat → α} {n i : Nat} (h : Hp k a n) (hi : i < n) (hk : ∀ j, j < n → j ≠ i → k' (a j) = k (a j)) : Dn k' false a n i := by
  refine ⟨hi, ?_, ?_⟩
  · intro j j0 j1 hp hji
    have hne : j ≠ i := fun e => by cases hji e
    rw [hk j j1 hne, hk ((j - 1) / 2) (by omega) hp]
    exact h j j0 j1
  · intro i0 j j0 j1 hp
    rw [hk j j1 (by omega), hk ((i - 1) / 2) (by omega) (by omega)]
    have h1 := h j j0 j1
    have h2 := h i i0 hi
    rw [hp] at h1; omega
theorem Hw.row_ne {F : Nat → Prop} {w : World} {g : Nat} {A : Option Addr} {n c : Nat} {mv : Value} {now : Int} {a : Nat → Nat} {K W : Nat → Int} (h : Hw F w g A n c mv now a K W) : ∀ b, (Value.slice A n c).ownBlock = some b → b ≠ g ∧ ∀ j, j < n → b ≠ a j := fun b hb => by
  rcases h.row.2 with ⟨e, _⟩ | ⟨r, cap, cur, e, _, hh, _⟩
  · rw [e] at hb; cases hb
  · rw [e] at hb; injection hb with hb
    exact ⟨fun e2 => by rw [show r = g from hb.trans e2] at hh; exact absurd (bk_type h.hg hh) (by decide), fun j hj e2 => by rw [show r = a j from hb.trans e2] at hh; exact absurd (bk_type (h.th j hj) hh) (by decide)⟩
theorem Hw.ga {F : Nat → Prop} {w : World} {g : Nat} {A : Option Addr} {n c : Nat} {mv : Value} {now : Int} {a : Nat → Nat} {K W : Nat → Int} (h : Hw F w g A n c mv now a K W) (j : Nat) (hj : j < n) : a j ≠ g := fun e => by
  have h1 := h.th j hj; rw [e] at h1; exact absurd (bk_type h1 h.hg) (by decide)
/-- now is stored anew. -/
theorem Hw.tick {F : Nat → Prop} {w : World} {g : Nat} {A : Option Addr} {n c : Nat} {mv : Value} {now : Int} {a : Nat → Nat} {K W : Nat → Int} (h : Hw F w g A n c mv now a K W) (z : Int) : Hw F (w.setCell ⟨g, 2, none⟩ (.int .i64 z)) g A n c mv z a K W :=
  ⟨h.hg.set 2 _, own_far h.row _ _ (fun b hb => (h.row_ne b hb).1), fun j hj => (h.th j hj).far (by simpa using h.ga j hj) _, h.inj, h.fg, h.fr, h.ft⟩
/-- A thing's time is stored anew. -/
theorem Hw.time {F : Nat → Prop} {w : World} {g : Nat} {A : Option Addr} {n c : Nat} {mv : Value} {now : Int} {a : Nat → Nat} {K W : Nat → Int} (h : Hw F w g A n c mv now a K W) (i : Nat) (hi : i < n) (z : Int) : Hw F (w.setCell ⟨a i, 1, none⟩ (.int .i64 z)) g A n c mv now a K (fun x => if x = a i then z else W x) := by
  refine ⟨h.hg.far (by simpa using (h.ga i hi).symm) _, own_far h.row _ _ (fun b hb => (h.row_ne b hb).2 i hi), ?_, h.inj, h.fg, h.fr, h.ft⟩
  intro j hj
  show Bk _ _ _ #[.int .i64 (K (a j)), .int .i64 (if a j = a i then z else W (a j)), .int .i64 (j : Nat)]
  by_cases e : j = i
  · rw [e, if_pos rfl]; exact (h.th i hi).set 1 _
  · have hne : a j ≠ a i := fun e2 => e (h.inj j i hj hi e2)
    rw [if_neg hne]; exact (h.th j hj).far (by simpa using hne) _
end Go.Proofs.YtahiaeaobbofbaaGreat
end
section
set_option linter.unusedVariables false
namespace Go.Proofs.YtahiaeaobbofbaaGreat
open Go.RowKit
set_option maxRecDepth 100000 in
set_option maxHeartbeats 8000000 in
theorem atouch_old {F : Nat → Prop} {w : World} {g : Nat} {A : Option Addr} {n c : Nat} {mb cnt : Nat} {M : Int → Option Nat} {now : Int} {a : Nat → Nat} {K W : Nat → Int} (h : Hw F w g A n c (.map (some mb)) now a K W) (hp : Hp W a n) (hM : Mp Tryz.prog 3 w mb cnt M) (hF : ¬ F mb) (i : Nat) (hi : i < n) (k : Int) (hk : -9223372036854775808 ≤ k ∧ k ≤ 9223372036854775807) (hMk : M k = some (a i)) (hn : n ≤ 1000000) (hnow : 0 ≤ now ∧ now ≤ 1000000) :
    Calls Tryz.prog 54 #[.pointer (some ⟨g, 0, none⟩), .int .i64 k] w fun e w' => e = .returned (.tuple #[]) ∧ ∃ b, Hw F w' g A n c (.map (some mb)) (now + 1) b K (fun x => if x = a i then now + 1 else W x) ∧ Hp (fun x => if x = a i then now + 1 else W x) b n ∧ Pm a b n ∧ Only F w w' := by
  obtain ⟨n0, n1⟩ := hnow
  have hwn : wrap64 (now + 1) = now + 1 := IntWalk.wrap64_in _ ⟨by omega, by omega⟩
  obtain ⟨c0, c1, c2⟩ := h.hg.cell3
  have f2 := h.hg.frozen 2
  have hmg : mb ≠ g := fun e => hF (by rw [e]; exact h.fg)
  have h1 := h.tick (now + 1)
  have hO1 : Only F w (w.setCell ⟨g, 2, none⟩ (.int .i64 (now + 1))) := only_gb (gb_set1 w ⟨g, 2, none⟩ _) h.fg
  have hM1 : Mp Tryz.prog 3 (w.setCell ⟨g, 2, none⟩ (.int .i64 (now + 1))) mb cnt M := hM.kept (gb_set1 w ⟨g, 2, none⟩ _) (by intro e; injection e with e; exact hmg e)
  go_enter Tryz.func54, Tryz.ntmps54
  go_upto_region 2 with fail
  clear c0 c1 c2 f2 h hM hwn
  generalize w.setCell ⟨g, 2, none⟩ (.int .i64 (now + 1)) = w1 at *
  have hlk := MapIs.look (F := fun _ => True) (Fh := fun _ => False) (.inr ⟨mb, rfl, trivial, id, hM1⟩) hk
  rw [hMk] at hlk
  have hf : Calls Tryz.prog 74 #[.pointer (some ⟨g, 0, none⟩), .int .i64 k] w1 fun e w' => e = .returned (.pointer (some ⟨a i, 0, none⟩)) ∧ w1 = w' := afind_any h1.hg k _ hlk
  clear hlk
  obtain ⟨c0, c1, c2⟩ := h1.hg.cell3
  obtain ⟨d0, d1, d2⟩ := (h1.th i hi).cell3
  have fd := (h1.th i hi).frozen 1
  have h2 := h1.time i hi (now + 1)
  have hO2 : Only F w1 (w1.setCell ⟨a i, 1, none⟩ (.int .i64 (now + 1))) := only_gb (gb_set1 w1 ⟨a i, 1, none⟩ _) (h1.ft i hi)
  go_upto_region 5 with (go_at_call 74; (with_reducible refine hf.mono ?_); rintro e w2 ⟨rfl, rfl⟩)
  clear c0 c1 c2 d0 d1 d2 fd hf
  generalize w1.setCell ⟨a i, 1, none⟩ (.int .i64 (now + 1)) = w3 at *
  obtain ⟨d0, d1, d2⟩ := (h2.th i hi).cell3
  have hDn := dn_key (k' := fun x => if x = a i then now + 1 else W x) hp hi (fun j hj hne => by show (if a j = a i then now + 1 else W (a j)) = _; rw [if_neg (fun e => hne (h2.inj j i hj hi e))])
  have hFx := fun (w' : World) (hh : Hw F w' g A n c (.map (some mb)) (now + 1) a K (fun x => if x = a i then now + 1 else W x)) => fix_any hh i hDn hn
  go_region_with (first
    | (go_at_call 75; (with_reducible refine (hFx _ (by exact h2.drew)).mono ?_); rintro e w4 ⟨rfl, b, h4, hp4, hP4, hO4⟩)
    | (go_at_call 75; (with_reducible refine (hFx _ (by exact h2)).mono ?_); rintro e w4 ⟨rfl, b, h4, hp4, hP4, hO4⟩))
  all_goals
    go_wp2_with fail
    first | go_returns | (refine bodyPost_ret (results_none rfl _ _) rfl ?_)
    exact ⟨rfl, b, h4, hp4, hP4, (hO1.trans (hO2.drew) (fun i h => .inl h)).trans hO4 (fun i h => .inl h)⟩
end Go.Proofs.YtahiaeaobbofbaaGreat
end
section
set_option linter.unusedVariables false
namespace Go.Proofs.YtahiaeaobbofbaaGreat
open Go.RowKit
/-- What Touch leaves: k is the last one. -/
def Touched (F : Nat → Prop) (w : World) (g : Nat) (now : Int) (m : List Int) (k : Int) (e : Ending) (w' : World) : Prop :=
  e = .returned (.tuple #[]) ∧ ∃ F', Ag F' w' g (now + 1) (m.filter (· ≠ k) ++ [k]) ∧ (∀ i, F' i → F i ∨ w.heap.size ≤ i) ∧ Only F w w'
theorem Ag.touch_old {F : Nat → Prop} {w : World} {g : Nat} {A : Option Addr} {n c cnt : Nat} {mv : Value} {now : Int} {a : Nat → Nat} {K W : Nat → Int} {s : List Nat} {M : Int → Option Nat} {Fh : Nat → Prop} (hH : Hw Fh w g A n c mv now a K W) (hp : Hp W a n) (hS : AgS K W now a n s) (hFh : ∀ i, Fh i → F i) (hM : MapIs F Fh w mv cnt M) (hcn : (cnt : Int) ≤ now) (hMk : ∀ k b, M k = some b ↔ b ∈ s ∧ K b = k) (hnn : (n : Int) ≤ now) (hlt : ∀ i, F i → i < w.heap.size)
    {k : Int} (hk : -9223372036854775808 ≤ k ∧ k ≤ 9223372036854775807) (hnow : now ≤ 1000000) (b : Nat) (hq : M k = some b) :
    Calls Tryz.prog 54 #[.pointer (some ⟨g, 0, none⟩), .int .i64 k] w (Touched F w g now (s.map K) k) := by
  obtain ⟨hb, hkb⟩ := (hMk k b).1 hq
  obtain ⟨i, hi, hai⟩ := (hS.mem b).1 hb
  rcases hM with ⟨_, hM0⟩ | ⟨mb, rfl, hFm, hnF, hM⟩
  · rw [hM0] at hq; cases hq
  · refine (atouch_old hH hp hM hnF i hi k hk (by rw [hq, hai]) (by omega) ⟨by omega, by omega⟩).mono ?_
    rintro e w' ⟨rfl, b', hH', hp', hP', hO⟩
    have hS2 := ag_pm (ag_touch hS hb) hP'
    rw [hai] at hH' hp'
    have hOF : Only F w w' := ⟨hO.bel, fun i hi hn => hO.out i hi (fun e => hn (hFh i e))⟩
    have hM' := hM.same (hO.out mb hM.lt hnF)
    have hmem : ∀ x, x ∈ s.filter (· ≠ b) ++ [b] ↔ x ∈ s := by
      intro x
      rw [hS2.mem, (ag_pm hS hP').mem]
    refine ⟨rfl, F, ⟨⟨A, n, c, cnt, .map (some mb), b', K, _, s.filter (· ≠ b) ++ [b], M, Fh, hH', hp', hS2, ?_, hFh, .inr ⟨mb, rfl, hFm, hnF, hM'⟩, by omega, ?_, by omega⟩, fun i hi => Nat.lt_of_lt_of_le (hlt i hi) hO.bel.size⟩, fun i h => .inl h, hOF⟩
    · rw [List.map_append, map_without (fun x hx e => hS.key x b hx hb e), hkb]; simp [hkb]
    · intro z x
      rw [hMk z x, hmem]
theorem Hw.upd {F : Nat → Prop} {w : World} {g : Nat} {A : Option Addr} {n c : Nat} {mv : Value} {now : Int} {a : Nat → Nat} {K W : Nat → Int} (h : Hw F w g A n c mv now a K W) {K' W' : Nat → Int} (hK : ∀ j, j < n → K' (a j) = K (a j)) (hW : ∀ j, j < n → W' (a j) = W (a j)) : Hw F w g A n c mv now a K' W' :=
  ⟨h.hg, h.row, fun j hj => by rw [hK j hj, hW j hj]; exact h.th j hj, h.inj, h.fg, h.fr, h.ft⟩
theorem hp_upd {a : Nat → Nat} {W W' : Nat → Int} {n : Nat} (h : Hp W a n) (hW : ∀ j, j < n → W' (a j) = W (a j)) : Hp W' a n := fun j h0 h1 => by
  rw [hW j h1, hW _ (by omega)]; exact h j h0 h1
/-- Another map. -/
theorem Hw.remap {F : Nat → Prop} {w : World} {g : Nat} {A : Option Addr} {n c : Nat} {mv : Value} {now : Int} {a : Nat → Nat} {K W : Nat → Int} (h : Hw F w g A n c mv now a K W) (mv' : Value) : Hw F (w.setCell ⟨g, 1, none⟩ mv') g A n c mv' now a K W :=
  ⟨h.hg.set 1 _, own_far h.row _ _ (fun b hb => (h.row_ne b hb).1), fun j hj => (h.th j hj).far (by simpa using h.ga j hj) _, h.inj, h.fg, h.fr, h.ft⟩
theorem Hw.alloc {F : Nat → Prop} {w : World} {g : Nat} {A : Option Addr} {n c : Nat} {mv : Value} {now : Int} {a : Nat → Nat} {K W : Nat → Int} (h : Hw F w g A n c mv now a K W) (o : Obj) : Hw F (w.alloc o) g A n c mv now a K W :=
  h.nx ((Below.refl _ _).alloc (Nat.le_refl _) _)
/-- What Touch leaves of a new thing. -/
def NewTh (F : Nat → Prop) (w : World) (g n cnt : Nat) (now : Int) (a : Nat → Nat) (K W : Nat → Int) (M : Int → Option Nat) (k : Int) (mo : Option Nat) (e : Ending) (w' : World) : Prop :=
  e = .returned (.tuple #[]) ∧ ∃ A' c' F' b mb q, Hw F' w' g A' (n + 1) c' (.map (some mb)) (now + 1) b (fun x => if x = q then k else K x) (fun x => if x = q then now + 1 else W x) ∧ Hp (fun x => if x = q then now + 1 else W x) b (n + 1) ∧ Pm (fun j => if j = n then q else a j) b (n + 1) ∧
    Mp Tryz.prog 3 w' mb (cnt + 1) (fun z => if z = k then some q else M z) ∧ w.heap.size ≤ q ∧ q < w'.heap.size ∧ (∀ i, F' i → F i ∨ w.heap.size ≤ i) ∧ (∀ i, F' i → i < w'.heap.size) ∧ ¬ F' mb ∧ (mo = some mb ∨ w.heap.size ≤ mb) ∧ mb < w'.heap.size ∧ Only (fun i => F i ∨ some i = mo) w w'
end Go.Proofs.YtahiaeaobbofbaaGreat
end
section
set_option linter.unusedVariables false
namespace Go.Proofs.YtahiaeaobbofbaaGreat
open Go.RowKit
theorem Hw.cut {F : Nat → Prop} {w : World} {g : Nat} {A : Option Addr} {n c : Nat} {mv : Value} {now : Int} {a : Nat → Nat} {K W : Nat → Int} (h : Hw F w g A n c mv now a K W) : Hw (fun i => F i ∧ i < w.heap.size) w g A n c mv now a K W :=
  ⟨h.hg, h.row, h.th, h.inj, ⟨h.fg, h.hg.lt⟩, fun b hb => ⟨h.fr b hb, (h.row.lt b hb).2⟩, fun j hj => ⟨h.ft j hj, (h.th j hj).lt⟩⟩
set_option maxRecDepth 100000 in
set_option maxHeartbeats 8000000 in
/-- Touch of a new thing, from where the map is there. -/
theorem atouch_new {F : Nat → Prop} {w : World} {g : Nat} {A : Option Addr} {n c cnt : Nat} {mv : Value} {M : Int → Option Nat} {now : Int} {a : Nat → Nat} {K W : Nat → Int} (mo : Option Nat) (h : Hw F w g A n c mv now a K W) (hp : Hp W a n)
    (hlt : ∀ i, F i → i < w.heap.size) (hM : (mv = .map none ∧ M = (fun _ => none) ∧ mo = none) ∨ ∃ mb, mv = .map (some mb) ∧ mo = some mb ∧ ¬ F mb ∧ Mp Tryz.prog 3 w mb cnt M) (k : Int) (hk : -9223372036854775808 ≤ k ∧ k ≤ 9223372036854775807) (hMk : M k = none) (hn : n < 1000000) (hc : cnt ≤ 1000000) (hnow : 0 ≤ now ∧ now ≤ 1000000) :
    Calls Tryz.prog 54 #[.pointer (some ⟨g, 0, none⟩), .int .i64 k] w (NewTh F w g n cnt now a K W M k mo) := by
  obtain ⟨n0, n1⟩ := hnow
  have hwn : wrap64 (now + 1) = now + 1 := IntWalk.wrap64_in _ ⟨by omega, by omega⟩
  have hgl := h.hg.lt
  obtain ⟨c0, c1, c2⟩ := h.hg.cell3
  have f2 := h.hg.frozen 2
  have h1 := h.tick (now + 1)
  have hO1 : Only (fun i => F i ∨ some i = mo) w (w.setCell ⟨g, 2, none⟩ (.int .i64 (now + 1))) := only_gb (gb_set1 w ⟨g, 2, none⟩ _) (.inl h.fg)
  have hsz1 : (w.setCell ⟨g, 2, none⟩ (.int .i64 (now + 1))).heap.size = w.heap.size := by simp [World.setCell]
  have hM1 : (mv = .map none ∧ M = (fun _ => none) ∧ mo = none) ∨ ∃ mb, mv = .map (some mb) ∧ mo = some mb ∧ ¬ F mb ∧ Mp Tryz.prog 3 (w.setCell ⟨g, 2, none⟩ (.int .i64 (now + 1))) mb cnt M := by
    rcases hM with h2 | ⟨mb, e1, e2, h3, h4⟩
    · exact .inl h2
    · exact .inr ⟨mb, e1, e2, h3, h4.kept (gb_set1 w ⟨g, 2, none⟩ _) (by intro e; injection e with e; exact h3 (by rw [e]; exact h.fg))⟩
  have hqm : ∀ (w : World) (r : Option Nat), (binOp .eql 104 (.map r) (.map none)).run Tryz.prog w = .ok (.bool r.isNone) w := fun w r => run_eql_map_nil w _ _ _ r Tryz.underlying104
  have hmm := @run_makeMap Tryz.prog
  go_enter Tryz.func54, Tryz.ntmps54
  go_upto_region 2 with fail
  clear c0 c1 c2 f2 h hM hwn
  generalize w.setCell ⟨g, 2, none⟩ (.int .i64 (now + 1)) = w1 at *
  have hlk : (Instr.lookup 104 mv (.int .i64 k) false).run Tryz.prog w1 = .ok (ptV none) w1 := by
    have := MapIs.look (F := fun _ => True) (Fh := fun _ => False) (cnt := cnt) (M := M) (mv := mv) (w := w1) (by rcases hM1 with ⟨e1, e2, _⟩ | ⟨mb, e1, _, _, h4⟩; exact .inl ⟨e1, e2⟩; exact .inr ⟨mb, e1, trivial, id, h4⟩) hk
    rw [hMk] at this; exact this
  have hf : Calls Tryz.prog 74 #[.pointer (some ⟨g, 0, none⟩), .int .i64 k] w1 fun e w' => e = .returned (.pointer none) ∧ w1 = w' := afind_any h1.hg k _ hlk
  have HMk := Lib.hid hMk
  clear hlk hMk
  obtain ⟨c0, c1, c2⟩ := h1.hg.cell3
  have f1 := h1.hg.frozen 1
  have hF1 : ∀ i, F i → i < w1.heap.size := fun i hi => by rw [hsz1]; exact hlt i hi
  have HS1 := Lib.hid hsz1
  clear hsz1
  refine Or.elim hM1 ?armA ?armB
  case' armA =>
    rintro ⟨rfl, rfl, _⟩
    clear hM1
    obtain ⟨mb, hmb⟩ : ∃ mb, w1.heap.size = mb := ⟨_, rfl⟩
    have h2 := (h1.alloc (.map #[] 0)).remap (.map (some w1.heap.size))
    have hM2 : Mp Tryz.prog 3 ((w1.alloc (.map #[] 0)).setCell ⟨g, 1, none⟩ (.map (some w1.heap.size))) w1.heap.size cnt (fun _ => none) := by
      obtain ⟨D, h3, h4⟩ := ((mp_made w1 Tryz.prog 3).kept (gb_set1 (w1.alloc (.map #[] 0)) ⟨g, 1, none⟩ (.map (some w1.heap.size))) (by intro e; injection e with e; have e : w1.heap.size = g := e; have := HS1.out; omega))
      exact ⟨D, h3.mono (Nat.zero_le _), h4⟩
    have hO2 : Only (fun i => F i ∨ some i = mo) w1 ((w1.alloc (.map #[] 0)).setCell ⟨g, 1, none⟩ (.map (some w1.heap.size))) := (only_below ((Below.refl _ _).alloc (Nat.le_refl _) _)).trans (G := fun i => F i ∨ some i = mo) (only_gb (gb_set1 (w1.alloc (.map #[] 0)) ⟨g, 1, none⟩ _) (.inl h1.fg)) (fun i h => .inl h)
    have hOt := hO1.trans hO2 (fun i h => .inl h)
    have hFm : ¬ F w1.heap.size := fun e => Nat.lt_irrefl _ (hF1 _ e)
    have hmo : mo = some w1.heap.size ∨ w.heap.size ≤ w1.heap.size := .inr (by have := HS1.out; omega)
    have HMO := Lib.hid hmo
    clear hmo
    obtain ⟨e0, e1, e2⟩ := (h1.alloc (.map #[] 0)).hg.cell3
    have fe := (h1.alloc (.map #[] 0)).hg.frozen 1
    go_upto_region 8 with (go_at_call 74; (with_reducible refine hf.mono ?_); rintro e w2 ⟨rfl, rfl⟩)
    clear c0 c1 c2 f1 e0 e1 e2 fe hO1 hO2 hf h1
    rw [hmb] at *
    generalize (w1.alloc (.map #[] 0)).setCell ⟨g, 1, none⟩ (.map (some mb)) = w2 at *
  case' armB =>
    clear hM1
    rintro ⟨mb, rfl, hmE, hFm, hM1⟩
    have hM2 := hM1
    have h2 := h1
    have hOt := hO1
    have hmo : mo = some mb ∨ w.heap.size ≤ mb := .inl hmE
    clear hmE
    have HMO := Lib.hid hmo
    clear hmo
    go_upto_region 8 with (go_at_call 74; (with_reducible refine hf.mono ?_); rintro e w2 ⟨rfl, rfl⟩)
    clear c0 c1 c2 f1 hO1 hf h1
    generalize w1 = w2 at *
  all_goals
    have hF2 : ∀ i, F i → i < w2.heap.size := fun i hi => Nat.lt_of_lt_of_le (hlt i hi) hOt.bel.size
    have hmlt := hM2.lt
    have hgq : g ≠ w2.heap.size := fun e => Nat.lt_irrefl _ (Nat.lt_of_lt_of_le (hF2 g h2.fg) (Nat.le_of_eq e.symm))
    have haq : ∀ j, j < n → a j ≠ w2.heap.size := fun j hj e => Nat.lt_irrefl _ (Nat.lt_of_lt_of_le (hF2 _ (h2.ft j hj)) (Nat.le_of_eq e.symm))
    have h3 := (h2.alloc (.cells #[.int .i64 k, .int .i64 (now + 1), .int .i64 0] 131)).upd (K' := fun x => if x = w2.heap.size then k else K x) (W' := fun x => if x = w2.heap.size then now + 1 else W x) (fun j hj => if_neg (haq j hj)) (fun j hj => if_neg (haq j hj))
    have hp3 : Hp (fun x => if x = w2.heap.size then now + 1 else W x) a n := hp_upd hp (fun j hj => if_neg (haq j hj))
    have kq3 : Bk (w2.alloc (.cells #[.int .i64 k, .int .i64 (now + 1), .int .i64 0] 131)) w2.heap.size 131 #[.int .i64 k, .int .i64 (now + 1), .int .i64 0] := Bk.new _ _ _
    have hM3 := hM2.kept (World.grownBy_alloc w2 (.cells #[.int .i64 k, .int .i64 (now + 1), .int .i64 0] 131) none) (by simp)
    have hO3 := hOt.trans (only_below (F := F) ((Below.refl _ w2).alloc (Nat.le_refl _) (.cells #[.int .i64 k, .int .i64 (now + 1), .int .i64 0] 131))) (fun i h => .inl (.inl h))
    have hq0 : w.heap.size ≤ w2.heap.size := hOt.bel.size
    have hmq : mb ≠ w2.heap.size := by omega
    obtain ⟨c0, c1, c2⟩ := h2.hg.cell3
    go_upto_region 9 with fail
    clear c0 c1 c2 hOt hM2 hp
    have hs3 : w2.heap.size < (w2.alloc (.cells #[.int .i64 k, .int .i64 (now + 1), .int .i64 0] 131)).heap.size := by simp
    clear h2
    generalize hq : w2.heap.size = q at *
    generalize w2.alloc (.cells #[.int .i64 k, .int .i64 (now + 1), .int .i64 0] 131) = w3 at *
    have HQ := Lib.hid hq
    clear hq
    obtain ⟨c0, c1, c2⟩ := h3.hg.cell3
    go_upto_region 10 with (at_mapUpdate; (refine wpList_put rfl _ _ _ _ _ rfl Tryz.underlying3 Tryz.underlying104 hM3 (by unfold maxLen; omega) rfl k rfl hk q rfl ?_); intro w4 hM4 hg4 hs4)
    have h4 := h3.far hg4 hFm
    have kq4 := kq3.grown hg4 (fun e => hmq (by injection e with e; exact e.symm))
    have hO4 := hO3.trans (only_gb (F := fun i => i = mb) hg4 rfl) (fun i h => by rcases HMO.out with e | e; exact .inl (.inr (by rw [h, e])); exact .inr (by rw [h]; exact e))
    clear c0 c1 c2 h3 hM3 kq3 hO3
    have hPu := hpush_any h4 hp3 q 0 (by show Bk _ _ _ #[.int .i64 (if q = q then k else K q), .int .i64 (if q = q then now + 1 else W q), .int .i64 0]; rw [if_pos rfl, if_pos rfl]; exact kq4) haq hn
    obtain ⟨c0, c1, c2⟩ := h4.hg.cell3
    have hmlt4 : mb < w4.heap.size := hM4.lt
    clear hqm hmm
    go_wp2_with (go_at_call 76; (with_reducible refine hPu.mono ?_); rintro e w5 ⟨rfl, A', c', F', b, h5, hp5, hP5, hF5, hO5⟩)
    go_end0
    have hnm : ¬ (F' mb ∧ mb < w5.heap.size) := fun ⟨e, _⟩ => by
      rcases hF5 mb e with e | e | e
      · exact hFm e
      · exact hmq e
      · omega
    refine ⟨rfl, A', c', fun i => F' i ∧ i < w5.heap.size, b, mb, q, h5.cut, hp5, hP5, hM4.same (hO5.out mb hmlt4 (fun e => by rcases e with e | e; exact hFm e; exact hmq e)), hq0, ?_, ?_, fun i hi => hi.2, hnm, HMO.out, Nat.lt_of_lt_of_le hmlt4 hO5.bel.size, ?_⟩
    · have := hO5.bel.size; omega
    · rintro i ⟨hi, _⟩
      have hw4 := hO4.bel.size
      rcases hF5 i hi with e | e | e
      · exact .inl e
      · exact .inr (by omega)
      · exact .inr (by omega)
    · exact hO4.trans hO5 (fun i hi => by rcases hi with e | e; exact .inl (.inl e); exact .inr (by omega))
end Go.Proofs.YtahiaeaobbofbaaGreat
end
section
set_option linter.unusedVariables false
namespace Go.Proofs.YtahiaeaobbofbaaGreat
open Go.RowKit
theorem Ag.touch {F : Nat → Prop} {w : World} {g : Nat} {now : Int} {m : List Int} (h : Ag F w g now m) {k : Int} (hk : -9223372036854775808 ≤ k ∧ k ≤ 9223372036854775807) (hnow : now ≤ 99999) :
    Calls Tryz.prog 54 #[.pointer (some ⟨g, 0, none⟩), .int .i64 k] w (Touched F w g now m k) := by
  obtain ⟨A, n, c, cnt, mv, a, K, W, s, M, Fh, hH, hp, hS, rfl, hFh, hM, hcn, hMk, hnn⟩ := h.ex
  cases hq : M k with
  | some b => exact Ag.touch_old hH hp hS hFh hM hcn hMk hnn h.lt hk (by omega) b hq
  | none =>
    have hno : k ∉ s.map K := fun hm => by
      obtain ⟨b, hb, hkb⟩ := List.mem_map.1 hm
      have := (hMk k b).2 ⟨hb, hkb⟩
      rw [hq] at this; cases this
    obtain ⟨mo, hmo, hmF⟩ : ∃ mo : Option Nat, ((mv = .map none ∧ M = (fun _ => none) ∧ mo = none) ∨ ∃ mb, mv = .map (some mb) ∧ mo = some mb ∧ ¬ Fh mb ∧ Mp Tryz.prog 3 w mb cnt M) ∧ ∀ i, some i = mo → F i := by
      rcases hM with ⟨e1, e2⟩ | ⟨mb, e1, h1, h2, h3⟩
      · exact ⟨none, .inl ⟨e1, e2, rfl⟩, fun i e => by cases e⟩
      · exact ⟨some mb, .inr ⟨mb, e1, rfl, h2, h3⟩, fun i e => by injection e with e; rw [e]; exact h1⟩
    refine (atouch_new mo hH hp (fun i hi => h.lt i (hFh i hi)) hmo k hk hq (by omega) (by omega) ⟨by omega, by omega⟩).mono ?_
    rintro e w' ⟨rfl, A', c', F', b, mb, q, hH', hp', hP', hM', hq0, hq1, hF', hFl, hnm, hmm, hml, hO⟩
    have hsq : ∀ x, x ∈ s → x ≠ q := fun x hx e => by
      obtain ⟨j, hj, ej⟩ := (hS.mem x).1 hx
      have := (hH.th j hj).lt
      omega
    have hS1 : AgS (fun x => if x = q then k else K x) (fun x => if x = q then now + 1 else W x) (now + 1) (fun j => if j = n then q else a j) (n + 1) (s ++ [q]) := by
      refine ag_new hS (fun hx => hsq q hx rfl) ?_ ?_ ?_ ?_ ?_ ?_
      · intro x hx e
        rw [if_pos rfl] at e
        exact hno (List.mem_map.2 ⟨x, hx, e⟩)
      · intro j hj; exact if_neg (by omega)
      · exact if_pos rfl
      · intro x hx; exact if_neg (hsq x hx)
      · intro x hx; exact if_neg (hsq x hx)
      · exact if_pos rfl
    have hS2 := ag_pm hS1 hP'
    have hOF : Only F w w' := ⟨hO.bel, fun i hi hn => hO.out i hi (fun e => by rcases e with e | e; exact hn (hFh i e); exact hn (hmF i e))⟩
    have hsz := hO.bel.size
    refine ⟨rfl, fun i => F i ∨ F' i ∨ i = mb, ⟨⟨A', n + 1, c', cnt + 1, .map (some mb), b, _, _, s ++ [q], _, F', hH', hp', hS2, ?_, fun i hi => .inr (.inl hi), .inr ⟨mb, rfl, .inr (.inr rfl), hnm, hM'⟩, by omega, ?_, by omega⟩, ?_⟩, ?_, hOF⟩
    · rw [List.map_append, map_upd (K := K) (fun x hx => if_neg (hsq x hx)), without_none hno]
      simp
    · intro z x
      show (if z = k then some q else M z) = some x ↔ x ∈ s ++ [q] ∧ (if x = q then k else K x) = z
      rw [List.mem_append, List.mem_singleton]
      by_cases ez : z = k
      · rw [if_pos ez]
        constructor
        · intro e; injection e with e
          exact ⟨.inr e.symm, by rw [if_pos e.symm, ez]⟩
        · rintro ⟨h1 | h1, h2⟩
          · rw [if_neg (hsq x h1)] at h2
            exact absurd (List.mem_map.2 ⟨x, h1, h2.trans ez⟩) hno
          · rw [h1]
      · rw [if_neg ez, hMk z x]
        constructor
        · rintro ⟨h1, h2⟩
          exact ⟨.inl h1, by rw [if_neg (hsq x h1)]; exact h2⟩
        · rintro ⟨h1 | h1, h2⟩
          · rw [if_neg (hsq x h1)] at h2; exact ⟨h1, h2⟩
          · rw [if_pos h1] at h2; exact absurd h2.symm ez
    · rintro i (e | e | e)
      · exact Nat.lt_of_lt_of_le (h.lt i e) hsz
      · exact hFl i e
      · rw [e]; exact hml
    · rintro i (e | e | e)
      · exact .inl e
      · rcases hF' i e with e | e
        · exact .inl (hFh i e)
        · exact .inr e
      · rw [e]
        rcases hmm with e2 | e2
        · exact .inl (hmF mb e2.symm)
        · exact .inr e2
end Go.Proofs.YtahiaeaobbofbaaGreat
end
