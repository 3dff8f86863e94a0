/- Several texts in one: container/heap over a row of things: Push. A row of things: Pop. container/heap over a row of things: Remove. ages: Len, Oldest. ages: find, Has. ages: an Ages as a whole: its heap, its map, what it tells. ages: New, and an Ages that is zero. -/
import Derived.Test.YtahiaeaobbofbaaGreatGA
import Derived.Test.YtahiaeaobbofbaaGreatMK
section
set_option linter.unusedVariables false
namespace Go.Proofs.YtahiaeaobbofbaaGreat
open Go.RowKit
set_option maxRecDepth 100000 in
set_option maxHeartbeats 4000000 in
theorem hpush_any {F : Nat → Prop} {w : World} {g : Nat} {A : Option Addr} {n c : Nat} {mv : Value} {now : Int} {a : Nat → Nat} {K W : Nat → Int} (h : Hw F w g A n c mv now a K W) (hp : Hp W a n) (q : Nat) (z : Int) (hq : Bk w q 131 #[.int .i64 (K q), .int .i64 (W q), .int .i64 z]) (hqn : ∀ j, j < n → a j ≠ q) (hn : n < 1000000) :
    Calls Tryz.prog 76 #[ifV g, .iface 128 (.pointer (some ⟨q, 0, none⟩))] w fun e w' => e = .returned (.tuple #[]) ∧ ∃ A' c' F' b, Hw F' w' g A' (n + 1) c' mv now b K W ∧ Hp W b (n + 1) ∧ Pm (fun j => if j = n then q else a j) b (n + 1) ∧ (∀ i, F' i → F i ∨ i = q ∨ w.heap.size ≤ i) ∧ Only (fun i => F i ∨ i = q) w w' := by
  have hme := me_push g w
  have hPu := rpush_any h q z hq hqn (by omega)
  go_enter Tryz.func76, Tryz.ntmps76
  go_upto_region 1 with (go_at_call 142; (with_reducible refine hPu.mono ?_); rintro e w1 ⟨rfl, A', c', F', h1, hF, hO⟩)
  have hml := me_len g w1 _ h1.lv
  have hUp := up_any h1 n (up_start hp (fun j hj => by rw [if_neg (by omega)])) (by omega)
  clear hme hPu h hq
  go_wp2_with (first
    | (go_at_call 138; (with_reducible refine (rlen_any _ _ _ _).mono ?_); rintro e w2 ⟨rfl, rfl⟩)
    | (go_at_call 90; (with_reducible refine hUp.mono ?_); rintro e w3 ⟨rfl, b, h3, hp3, hP3, hO3⟩))
  go_end0
  refine ⟨rfl, A', c', F', b, h3, hp3, hP3, hF, ?_⟩
  exact hO.trans hO3 (fun i hi => by rcases hF i hi with h | h | h; exact .inl (.inl h); exact .inl (.inr h); exact .inr h)
end Go.Proofs.YtahiaeaobbofbaaGreat
end
section
set_option linter.unusedVariables false
namespace Go.Proofs.YtahiaeaobbofbaaGreat
open Go.RowKit
theorem ptrs_take (a : Nat → Nat) (n : Nat) : (ptrs a (n + 1)).take n = ptrs a n := by
  unfold ptrs
  rw [List.range_succ, List.map_append, List.take_append_of_le_length (by simp), List.take_of_length_le (by simp)]
theorem own_less {w : World} {A : Option Addr} {n c : Nat} {a : Nat → Nat} (h : w.ownsRow 0 128 1 (.slice A (n + 1) c) (n + 1) (ptrs a (n + 1))) : w.ownsRow 0 128 1 (.slice A n c) n (ptrs a n) := by
  refine ⟨by simp [ptrs_len], ?_⟩
  rcases h.2 with ⟨e, e2⟩ | ⟨r, cap, cur, e, hb, hh, hn, hm, hs, ht⟩
  · omega
  · injection e with e1 e2 e3
    subst e1 e3
    refine .inr ⟨r, c, cur, rfl, hb, hh, by omega, hm, hs, ?_⟩
    rw [← ptrs_take, ← ht, List.take_take]
    congr 1; omega
set_option maxRecDepth 100000 in
set_option maxHeartbeats 8000000 in
theorem rpop_any {F : Nat → Prop} {w : World} {g : Nat} {A : Option Addr} {n c : Nat} {mv : Value} {now : Int} {a : Nat → Nat} {K W : Nat → Int} (h : Hw F w g A (n + 1) c mv now a K W) (hn : n < 1000000) :
    Calls Tryz.prog 141 #[.pointer (some ⟨g, 0, none⟩)] w fun e w' => e = .returned (.iface 128 (.pointer (some ⟨a n, 0, none⟩))) ∧ Hw F w' g A n c mv now a K W ∧ Only F w w' ∧ w'.heap.size = w.heap.size ∧ Bk w' (a n) 131 #[.int .i64 (K (a n)), .int .i64 (W (a n)), .int .i64 (n : Nat)] := by
  obtain ⟨r, cur, rfl, hFr, hh, hnc, hcs, ci⟩ := h.cell n (by omega)
  obtain ⟨c0, c1, c2⟩ := h.hg.cell3
  have f0 := h.hg.frozen 0
  have hgr : r ≠ g := fun e => by rw [e] at hh; exact absurd (bk_type h.hg hh) (by decide)
  have hga : ∀ j, j < n + 1 → a j ≠ g := fun j hj e => by have h1 := h.th j hj; rw [e] at h1; exact absurd (bk_type h1 h.hg) (by decide)
  have hfin : Hw F (w.setCell ⟨g, 0, none⟩ (.slice (some ⟨r, 0, none⟩) n c)) g (some ⟨r, 0, none⟩) n c mv now a K W :=
    ⟨h.hg.set 0 _, own_far (own_less h.row) _ _ (fun b hb => by injection hb with hb; rw [← hb]; exact hgr), fun j hj => (h.th j (by omega)).far (by simpa using hga j (by omega)) _, fun i j hi hj => h.inj i j (by omega) (by omega), h.fg, fun b hb => h.fr b hb, fun j hj => h.ft j (by omega)⟩
  have hO : Only F w (w.setCell ⟨g, 0, none⟩ (.slice (some ⟨r, 0, none⟩) n c)) := only_gb (gb_set1 w ⟨g, 0, none⟩ _) h.fg
  have hT := (h.th n (by omega)).far (p := ⟨g, 0, none⟩) (by simpa using hga n (by omega)) (.slice (some ⟨r, 0, none⟩) n c)
  clear h hh
  go_enter Tryz.func141, Tryz.ntmps141
  go_wp2_with fail
  go_returns
  exact ⟨rfl, hfin, hO, by simp [World.setCell], hT⟩
end Go.Proofs.YtahiaeaobbofbaaGreat
end
section
set_option linter.unusedVariables false
namespace Go.Proofs.YtahiaeaobbofbaaGreat
open Go.RowKit
set_option maxRecDepth 100000 in
set_option maxHeartbeats 8000000 in
theorem up_gen {F : Nat → Prop} {w : World} {g : Nat} {A : Option Addr} {n c : Nat} {mv : Value} {now : Int} {a : Nat → Nat} {K W : Nat → Int} (h : Hw F w g A n c mv now a K W) (j m : Nat) (hU : Up W a m j) (hm : m ≤ n) (hn : n ≤ 1000000) :
    Calls Tryz.prog 90 #[ifV g, .int .i64 (j : Nat)] w fun e w' => e = .returned (.tuple #[]) ∧ ∃ a', Hw F w' g A n c mv now a' K W ∧ Hp W a' m ∧ Pm a a' n ∧ (∀ x, m ≤ x → a' x = a x) ∧ Only F w w' := by
  go_enter Tryz.func90, Tryz.ntmps90
  go_wp2_with fail
  go_loopw [1, 4] (fun jv _ wr => ∃ (j : Nat) (b : Nat → Nat), jv = .int .i64 (j : Nat) ∧ Hw F wr g A n c mv now b K W ∧ Up W b m j ∧ Pm a b n ∧ (∀ x, m ≤ x → b x = a x) ∧ Only F w wr) (fun jv _ _ => (intOf jv).toNat)
  case atStart => exact ⟨j, a, rfl, h, hU, pm_refl a n, fun _ _ => rfl, only_refl F w⟩
  case round =>
    clear h hU
    obtain ⟨j, b, rfl, h, hU, hP, hX, hO⟩ := hrel
    have hj := hU.1
    by_cases h0 : j = 0
    · subst h0
      go_wp2_with fail
      go_end0
      exact ⟨rfl, b, h, up_end hU (.inl rfl), hP, hX, hO⟩
    · have hq : ((j : Int) - 1) / 2 = (((j - 1) / 2 : Nat) : Int) := by omega
      obtain ⟨i, hi⟩ : ∃ i, i = (j - 1) / 2 := ⟨_, rfl⟩
      have hij : i < j := by omega
      have hne : ((i : Int) == (j : Int)) = false := by simp; omega
      rw [← hi] at hq
      have HI := Lib.hid hi
      clear hi
      have hme := me_less g wr _ h.lv
      have hL := rless_any h j i (by omega) (by omega) hn
      by_cases hl : W (b j) < W (b i)
      · rw [decide_eq_true hl] at hL
        go_upto_region 2 with (go_at_call 139; (with_reducible refine hL.mono ?_); rintro e w1 ⟨rfl, hb1⟩)
        have h1 := h.nx hb1
        have hms := me_swap g w1 _ h1.lv
        have hS := rswap_any h1 i j (by omega) (by omega) (by omega) hn
        clear hme hL h hne hq
        go_wp2_with (go_at_call 140; (with_reducible refine hS.mono ?_); rintro e w2 ⟨rfl, h2, hO2, hs2⟩)
        have hI := HI.out
        refine ⟨⟨i, sw b i j, rfl, h2, ?_, pm_trans hP (pm_sw b (by omega) (by omega)), (fun x hx => by rw [sw_ne b (by omega) (by omega)]; exact hX x hx), (hO.trans (G := F) (only_below hb1) (fun i h => .inl h)).trans hO2 (fun i h => .inl h)⟩, by simp [intOf]; omega⟩
        rw [hI]
        exact up_step hU (by omega) (by rw [← hI]; exact hl)
      · rw [decide_eq_false hl] at hL
        go_wp2_with (go_at_call 139; (with_reducible refine hL.mono ?_); rintro e w1 ⟨rfl, hb1⟩)
        go_end0
        have hI := HI.out
        exact ⟨rfl, b, h.nx hb1, up_end hU (.inr (by rw [← hI]; omega)), hP, hX, hO.trans (G := F) (only_below hb1) (fun i h => .inl h)⟩
set_option maxRecDepth 100000 in
set_option maxHeartbeats 8000000 in
theorem hremove_any {F : Nat → Prop} {w : World} {g : Nat} {A : Option Addr} {n c : Nat} {mv : Value} {now : Int} {a : Nat → Nat} {K W : Nat → Int} (h : Hw F w g A (n + 1) c mv now a K W) (hp : Hp W a (n + 1)) (i : Nat) (hi : i ≤ n) (hn : n < 1000000) :
    Calls Tryz.prog 98 #[ifV g, .int .i64 (i : Nat)] w fun e w' => e = .returned (.iface 128 (.pointer (some ⟨a i, 0, none⟩))) ∧ ∃ b, Hw F w' g A n c mv now b K W ∧ Hp W b n ∧ Pm a b (n + 1) ∧ b n = a i ∧ Only F w w' := by
  have hme := me_len g w _ h.lv
  have hsz : ((n + 1 : Nat) : Int) - 1 = (n : Int) := by omega
  by_cases hin : i = n
  · subst hin
    have hmp := me_pop g w
    have hPo := rpop_any h hn
    go_enter Tryz.func98, Tryz.ntmps98
    go_wp2_with (first
      | (go_at_call 138; (with_reducible refine (rlen_any _ _ _ _).mono ?_); rintro e w1 ⟨rfl, rfl⟩)
      | (go_at_call 141; (with_reducible refine hPo.mono ?_); rintro e w2 ⟨rfl, h2, hO2, _, _⟩))
    go_returns
    exact ⟨rfl, a, h2, hp_less hp (by omega), pm_refl a _, rfl, hO2⟩
  · have hin2 : i < n := by omega
    have hms := me_swap g w _ h.lv
    have hSw := rswap_any h i n (by omega) (by omega) hin (by omega)
    have hb0 : ((n : Int) != (i : Int)) = true := by simp; omega
    have hpm := pm_sw a (i := i) (j := n) (n := n + 1) (by omega) (by omega)
    have hD : Dn W false (sw a i n) n i := dn_start hp (by omega) hin2 (fun j hj hne => sw_ne a hne (by omega))
    have hsn : sw a i n n = a i := (sw_at a i n).2
    clear h hp
    go_enter Tryz.func98, Tryz.ntmps98
    go_upto_region 4 with (first
      | (go_at_call 138; (with_reducible refine (rlen_any _ _ _ _).mono ?_); rintro e w1 ⟨rfl, rfl⟩)
      | (go_at_call 140; (with_reducible refine hSw.mono ?_); rintro e w2 ⟨rfl, h2, hO2, hs2⟩))
    have hDo := down_any h2 i n hD (by omega) (by omega)
    clear hme hms hSw hD
    go_upto_region 5 with (go_at_call 89; (with_reducible refine hDo.mono ?_); rintro e w3 ⟨mv', b, rfl, h3, hP, hX, hT, hF, hO3⟩; cases mv')
    · obtain ⟨hU, rfl⟩ := hF (by trivial)
      have hUp := up_gen h3 i n hU (by omega) (by omega)
      go_upto_region 6 with (go_at_call 90; (with_reducible refine hUp.mono ?_); rintro e w4 ⟨rfl, b4, h4, hp4, hP4, hX4, hO4⟩)
      have hmp := me_pop g w4
      have hPo := rpop_any h4 hn
      have hbn : b4 n = a i := (hX4 n (Nat.le_refl _)).trans hsn
      rw [hbn] at hPo
      go_wp2_with (go_at_call 141; (with_reducible refine hPo.mono ?_); rintro e w5 ⟨rfl, h5, hO5, _, _⟩)
      go_returns
      exact ⟨rfl, b4, h5, hp4, pm_trans hpm (pm_trans hP hP4), hbn, ((hO2.trans hO3 (fun i h => .inl h)).trans hO4 (fun i h => .inl h)).trans hO5 (fun i h => .inl h)⟩
    · have hpb := hT (by trivial)
      have hmp := me_pop g w3
      have hPo := rpop_any h3 hn
      have hbn : b n = a i := (hX n (Nat.le_refl _)).trans hsn
      rw [hbn] at hPo
      go_wp2_with (go_at_call 141; (with_reducible refine hPo.mono ?_); rintro e w5 ⟨rfl, h5, hO5, _, _⟩)
      go_returns
      exact ⟨rfl, b, h5, hpb, pm_trans hpm hP, hbn, (hO2.trans hO3 (fun i h => .inl h)).trans hO5 (fun i h => .inl h)⟩
end Go.Proofs.YtahiaeaobbofbaaGreat
end
section
set_option linter.unusedVariables false
namespace Go.Proofs.YtahiaeaobbofbaaGreat
open Go.RowKit
theorem alen_nil (w : World) : Calls Tryz.prog 33 #[.pointer none] w fun e w' => e = .returned (.int .i64 0) ∧ w = w' := by
  go_enter Tryz.func33, Tryz.ntmps33
  go_wp2_with fail
  go_returns
  exact ⟨rfl, rfl⟩
theorem alen_any {w : World} {g : Nat} {A : Option Addr} {n c : Nat} {mv : Value} {now : Int} (hg : Bk w g 106 #[.slice A n c, mv, .int .i64 now]) : Calls Tryz.prog 33 #[.pointer (some ⟨g, 0, none⟩)] w fun e w' => e = .returned (.int .i64 (n : Nat)) ∧ w = w' := by
  obtain ⟨c0, c1, c2⟩ := hg.cell3
  go_enter Tryz.func33, Tryz.ntmps33
  go_wp2_with fail
  go_returns
  exact ⟨rfl, rfl⟩
theorem aold_nil (w : World) : Calls Tryz.prog 86 #[.pointer none] w fun e w' => e = .returned (.tuple #[.int .i64 0, .bool false]) ∧ w = w' := by
  go_enter Tryz.func86, Tryz.ntmps86
  go_wp2_with (go_at_call 33; (with_reducible refine (alen_nil _).mono ?_); rintro e w1 ⟨rfl, rfl⟩)
  go_returns
  exact ⟨rfl, rfl⟩
theorem aold_none {w : World} {g : Nat} {A : Option Addr} {c : Nat} {mv : Value} {now : Int} (hg : Bk w g 106 #[.slice A 0 c, mv, .int .i64 now]) : Calls Tryz.prog 86 #[.pointer (some ⟨g, 0, none⟩)] w fun e w' => e = .returned (.tuple #[.int .i64 0, .bool false]) ∧ w = w' := by
  have hl := alen_any hg
  go_enter Tryz.func86, Tryz.ntmps86
  go_wp2_with (go_at_call 33; (with_reducible refine hl.mono ?_); rintro e w1 ⟨rfl, rfl⟩)
  go_returns
  exact ⟨rfl, rfl⟩
theorem aold_some {F : Nat → Prop} {w : World} {g : Nat} {A : Option Addr} {n c : Nat} {mv : Value} {now : Int} {a : Nat → Nat} {K W : Nat → Int} (h : Hw F w g A n c mv now a K W) (hn : 0 < n) : Calls Tryz.prog 86 #[.pointer (some ⟨g, 0, none⟩)] w fun e w' => e = .returned (.tuple #[.int .i64 (K (a 0)), .bool true]) ∧ w = w' := by
  have hl := alen_any h.hg
  obtain ⟨r, cur, rfl, _, _, hnc, _, ci⟩ := h.cell 0 hn
  obtain ⟨c0, c1, c2⟩ := h.hg.cell3
  obtain ⟨d0, d1, d2⟩ := (h.th 0 hn).cell3
  have hb : ((n : Int) == 0) = false := by simp; omega
  clear h
  generalize a 0 = b at *
  generalize K b = kb at *
  have hn2 : (0 : Int) < (n : Int) := by omega
  go_enter Tryz.func86, Tryz.ntmps86
  go_wp2_with (go_at_call 33; (with_reducible refine hl.mono ?_); rintro e w1 ⟨rfl, rfl⟩)
  go_returns
  exact ⟨rfl, rfl⟩
end Go.Proofs.YtahiaeaobbofbaaGreat
end
section
set_option linter.unusedVariables false
namespace Go.Proofs.YtahiaeaobbofbaaGreat
open Go.RowKit
theorem afind_nil (k : Int) (w : World) : Calls Tryz.prog 74 #[.pointer none, .int .i64 k] w fun e w' => e = .returned (.pointer none) ∧ w = w' := by
  go_enter Tryz.func74, Tryz.ntmps74
  go_wp2_with fail
  go_returns
  exact ⟨rfl, rfl⟩
theorem afind_any {w : World} {g : Nat} {sl mv : Value} {now : Int} (hg : Bk w g 106 #[sl, mv, .int .i64 now]) (k : Int) (o : Option Nat) (hlk : (Instr.lookup 104 mv (.int .i64 k) false).run Tryz.prog w = .ok (ptV o) w) :
    Calls Tryz.prog 74 #[.pointer (some ⟨g, 0, none⟩), .int .i64 k] w fun e w' => e = .returned (ptV o) ∧ w = w' := by
  obtain ⟨c0, c1, c2⟩ := hg.cell3
  clear c0 c2
  generalize ptV o = v at *
  go_enter Tryz.func74, Tryz.ntmps74
  go_wp2_with fail
  go_returns
  exact ⟨rfl, rfl⟩
theorem ahas_nil (k : Int) (w : World) : Calls Tryz.prog 69 #[.pointer none, .int .i64 k] w fun e w' => e = .returned (.bool false) ∧ w = w' := by
  go_enter Tryz.func69, Tryz.ntmps69
  go_wp2_with (go_at_call 74; (with_reducible refine (afind_nil _ _).mono ?_); rintro e w1 ⟨rfl, rfl⟩)
  go_returns
  exact ⟨rfl, rfl⟩
theorem ahas_any {w : World} {g : Nat} {sl mv : Value} {now : Int} (hg : Bk w g 106 #[sl, mv, .int .i64 now]) (k : Int) (o : Option Nat) (hlk : (Instr.lookup 104 mv (.int .i64 k) false).run Tryz.prog w = .ok (ptV o) w) :
    Calls Tryz.prog 69 #[.pointer (some ⟨g, 0, none⟩), .int .i64 k] w fun e w' => e = .returned (.bool o.isSome) ∧ w = w' := by
  have hf := afind_any hg k o hlk
  clear hlk
  cases o with
  | none =>
    have hf' : Calls Tryz.prog 74 #[.pointer (some ⟨g, 0, none⟩), .int .i64 k] w fun e w' => e = .returned (.pointer none) ∧ w = w' := hf
    go_enter Tryz.func69, Tryz.ntmps69
    go_wp2_with (go_at_call 74; (with_reducible refine hf'.mono ?_); rintro e w1 ⟨rfl, rfl⟩)
    go_returns
    exact ⟨rfl, rfl⟩
  | some b =>
    have hf' : Calls Tryz.prog 74 #[.pointer (some ⟨g, 0, none⟩), .int .i64 k] w fun e w' => e = .returned (.pointer (some ⟨b, 0, none⟩)) ∧ w = w' := hf
    go_enter Tryz.func69, Tryz.ntmps69
    go_wp2_with (go_at_call 74; (with_reducible refine hf'.mono ?_); rintro e w1 ⟨rfl, rfl⟩)
    go_returns
    exact ⟨rfl, rfl⟩
end Go.Proofs.YtahiaeaobbofbaaGreat
end
section
set_option linter.unusedVariables false
namespace Go.Proofs.YtahiaeaobbofbaaGreat
open Go.RowKit
/-- The map of an Ages: nil, or one that holds the things by their keys. -/
def MapIs (F Fh : Nat → Prop) (w : World) (mv : Value) (cnt : Nat) (M : Int → Option Nat) : Prop :=
  (mv = .map none ∧ M = fun _ => none) ∨ ∃ mb, mv = .map (some mb) ∧ F mb ∧ ¬ Fh mb ∧ Mp Tryz.prog 3 w mb cnt M
theorem MapIs.look {F Fh : Nat → Prop} {w : World} {mv : Value} {cnt : Nat} {M : Int → Option Nat} (h : MapIs F Fh w mv cnt M) {k : Int} (hk : -9223372036854775808 ≤ k ∧ k ≤ 9223372036854775807) :
    (Instr.lookup 104 mv (.int .i64 k) false).run Tryz.prog w = .ok (ptV (M k)) w := by
  have hz : (zeroValue 128).run Tryz.prog w = .ok (.pointer none) w := by
    have hzz : Tryz.t128.zero = some (.pointer none) := by kernel_rfl
    simp [zeroValue, hzz]
  rcases h with ⟨rfl, rfl⟩ | ⟨mb, rfl, _, _, h⟩
  · rw [Maps.look_nil false (Maps.int_keyed Tryz.underlying3) Tryz.underlying104 hz (Maps.keyOf_int_mk Tryz.underlying3 (lit_ok hk))]
    rfl
  · exact h.look Tryz.underlying3 Tryz.underlying104 hz hk
/-- An Ages at g that holds m, the one touched longest ago first. -/
structure Ag (F : Nat → Prop) (w : World) (g : Nat) (now : Int) (m : List Int) : Prop where
  ex : ∃ (A : Option Addr) (n c cnt : Nat) (mv : Value) (a : Nat → Nat) (K W : Nat → Int) (s : List Nat) (M : Int → Option Nat) (Fh : Nat → Prop),
    Hw Fh w g A n c mv now a K W ∧ Hp W a n ∧ AgS K W now a n s ∧ s.map K = m ∧ (∀ i, Fh i → F i) ∧ MapIs F Fh w mv cnt M ∧ (cnt : Int) ≤ now ∧ (∀ k b, M k = some b ↔ b ∈ s ∧ K b = k) ∧ (n : Int) ≤ now
  lt : ∀ i, F i → i < w.heap.size
end Go.Proofs.YtahiaeaobbofbaaGreat
end
section
set_option linter.unusedVariables false
namespace Go.Proofs.YtahiaeaobbofbaaGreat
open Go.RowKit
abbrev agZ : Array Value := #[.slice none 0 0, .map none, .int .i64 0]
theorem ag_zero {w : World} {g : Nat} (h : Bk w g 106 agZ) : Ag (fun i => i = g) w g 0 [] := by
  refine ⟨⟨none, 0, 0, 0, .map none, fun _ => 0, fun _ => 0, fun _ => 0, [], fun _ => none, fun i => i = g, ⟨h, World.ownsRow_nil w 0 _ 1, by omega, by omega, rfl, (fun b hb => by cases hb), by omega⟩, fun j h1 h2 => by omega, ag_nil _ _ _, rfl, (fun i h => h), .inl ⟨rfl, rfl⟩, by omega, by simp, by omega⟩, fun i e => by rw [e]; exact h.lt⟩
theorem agnew_any (w : World) : Calls Tryz.prog 29 #[] w fun e w' => e = .returned (.pointer (some ⟨w.heap.size, 0, none⟩)) ∧ w' = w.alloc (.cells agZ 106) := by
  go_enter Tryz.func29, Tryz.ntmps29
  go_wp2_with fail
  go_returns
  exact ⟨rfl, rfl⟩
end Go.Proofs.YtahiaeaobbofbaaGreat
end
