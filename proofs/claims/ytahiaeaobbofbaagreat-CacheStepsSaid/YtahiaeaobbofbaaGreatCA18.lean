/- The cache: Read of a pixel. -/
import Derived.Test.YtahiaeaobbofbaaGreatC12
import Derived.Deep.RegionWith
set_option linter.unusedVariables false
namespace Go.Proofs.YtahiaeaobbofbaaGreat
open Go.RowKit
section
variable {r r' r'' : Nat → Nat} {w w' w'' : World} {K : SC} {U : Nat} {s : CS} {kb ab ga nk na : Nat} {vt vs : Value} {AM : Int → Option Value}
theorem below_then {w W w' : World} (h2 : Below W.heap.size W w') (h1 : Below w.heap.size w W) : Below w.heap.size w w' := h1.trans (h2.mono h1.size)
def rowP (f : Nat → Int) (cn kk : Nat) : List Value := (List.range cn).map fun (ch : Nat) => .int .u8 (if ch < kk then f ch else 0)
theorem rowP_zero (f : Nat → Int) (cn : Nat) : (rowP f cn 0).toArray = Array.replicate cn (.int .u8 0) := by
  unfold rowP
  apply Array.toList_inj.1
  rw [Array.toList_replicate]
  simp [List.map_const']
theorem rowP_set (f : Nat → Int) (cn kk : Nat) (h : kk < cn) : (rowP f cn kk).toArray.setIfInBounds kk (.int .u8 (f kk)) = (rowP f cn (kk + 1)).toArray := by
  unfold rowP
  rw [List.setIfInBounds_toArray]
  congr 1
  apply List.ext_getElem
  · simp
  · intro i h1 h2
    simp only [List.getElem_set, List.getElem_map, List.getElem_range]
    by_cases e : kk = i
    · subst e; simp
    · rw [if_neg e]
      by_cases e2 : i < kk
      · rw [if_pos e2, if_pos (by omega)]
      · rw [if_neg e2, if_neg (by omega)]
theorem rowP_full (f : Nat → Int) (cn : Nat) : rowP f cn cn = (List.range cn).map fun (ch : Nat) => .int .u8 (f ch) := by
  unfold rowP
  apply List.map_congr_left
  intro i hi
  rw [if_pos (List.mem_range.1 hi)]
def rdS (K : SC) (s : CS) (t : Int × Int) : CS := useS K { s with S := addT s.S t } t
/-- What Read of a pixel leaves. -/
def ReadP (K : SC) (U : Nat) (s : CS) (r : Nat → Nat) (w : World) (kb ab ga : Nat) (t : Int × Int) (xs : List Value) (e : Ending) (w' : World) : Prop :=
  ∃ A c, e = .returned (.slice A xs.length c) ∧ Rd w' w'.heap.size A xs ∧ ∃ r' vt' vs' nk' na' AM', CaP K (U + 6) (rdS K s t) r' w' kb ab ga vt' vs' nk' na' AM' ∧ Step r w r' w'
def pxV (m : Im) (x y : Int) : List Value := (List.range m.C.toNat).map fun (ch : Nat) => .int .u8 (m.px.getD ((y * m.W + x) * m.C + (ch : Int)).toNat 0)
set_option maxRecDepth 100000 in
set_option maxHeartbeats 16000000 in
theorem cread_in (h : CaP K U s r w kb ab ga vt vs nk na AM) (hU : U ≤ 70000) (k : Nat) (hk : k < K.ims.length) (x y : Int) (hx : 0 ≤ x ∧ x < K.ims[k].W) (hy : 0 ≤ y ∧ y < K.ims[k].H) (hlo : K.lo ≤ w.heap.size) :
    Calls Tryz.prog 11 #[.pointer (some ⟨K.gc, 0, none⟩), .int .i64 k, .int .i64 x, .int .i64 y] w (ReadP K U s r w kb ab ga (k, tlI K.ims[k].W K.tw K.th x y) (pxV K.ims[k] x y)) := by
  have hok := cok h
  have hti := stile_in h.sto k hk x y hx hy
  have hck := h.ck K.ims[k] (List.getElem_mem hk)
  obtain ⟨hf, hpl⟩ := ck_parts hck
  obtain ⟨hcc, hw1, hw2, hh1, hh2, hpp⟩ := fitsC_ok hf
  have hg0 : grC K.ims[k].W K.ims[k].H K.tw K.th = 0 := grC_zero.2 ⟨⟨hw1, hw2⟩, ⟨hh1, hh2⟩, h.tws.1, h.tws.2⟩
  obtain ⟨hti1, hxt, hyt⟩ := tl_at hg0 hx hy
  have hvt : VT K.ims K.tw K.th ((k : Int), tlI K.ims[k].W K.tw K.th x y) := ⟨k, hk, rfl, hti1.1, hti1.2⟩
  have hkn : k < K.n := by have := h.len; omega
  have hks : k ≤ 100000 := by have := h.small; omega
  have hti64 : R64 (tlI K.ims[k].W K.tw K.th x y) := by
    obtain ⟨q1, q2⟩ := hti1
    obtain ⟨g1, g2⟩ := h.tws
    have a1 : grN K.ims[k].W K.tw ≤ 40000 := by unfold grN; exact Int.le_trans (Int.ediv_le_self _ (by omega)) (by omega)
    have a2 : grN K.ims[k].H K.th ≤ 40000 := by unfold grN; exact Int.le_trans (Int.ediv_le_self _ (by omega)) (by omega)
    have a3 : 0 ≤ grN K.ims[k].W K.tw := by unfold grN; exact Int.ediv_nonneg (by omega) (by omega)
    have a4 : 0 ≤ grN K.ims[k].H K.th := by unfold grN; exact Int.ediv_nonneg (by omega) (by omega)
    have a5 : grN K.ims[k].W K.tw * grN K.ims[k].H K.th ≤ 40000 * 40000 := Int.mul_le_mul a1 a2 a4 (by omega)
    constructor <;> omega
  obtain ⟨t2, ht2⟩ : ∃ t2, tlI K.ims[k].W K.tw K.th x y = t2 := ⟨_, rfl⟩
  rw [ht2] at hti hvt hti1 hxt hyt hti64
  have HT2 := Lib.hid ht2
  obtain ⟨t1, ht1⟩ : ∃ t1 : Int, (k : Int) = t1 := ⟨_, rfl⟩
  have hfinal : ∀ e w', ReadP K U s r w kb ab ga (t1, t2) (pxV K.ims[k] x y) e w' → ReadP K U s r w kb ab ga (k, tlI K.ims[k].W K.tw K.th x y) (pxV K.ims[k] x y) e w' := fun e w' hq => by rw [ht2, ht1]; exact hq
  refine Calls.mono ?_ hfinal
  clear hfinal
  have hvt1 : VT K.ims K.tw K.th (t1, t2) := by rw [← ht1]; exact hvt
  have ht164 : R64 t1 := by constructor <;> omega
  have hti' : Calls Tryz.prog 17 #[.pointer (some ⟨K.gs, 0, none⟩), .int .i64 t1, .int .i64 x, .int .i64 y] w fun e w' => e = .returned (.tuple #[.agg (tiA t1 t2), .bool true]) ∧ Below w.heap.size w w' := by rw [← ht1]; exact hti
  obtain ⟨c0, c1, c2, c3, c4, c5, c6, c7, c8, c9, c10⟩ := h.cb.cell11'
  have H := Lib.hid h
  have HXT := Lib.hid hxt
  have HYT := Lib.hid hyt
  have HX := Lib.hid hx
  have HY := Lib.hid hy
  have HV := Lib.hid hvt1
  have HT1 := Lib.hid ht1
  have HCK := Lib.hid hck
  have HLO := Lib.hid hlo
  have hgcw : K.gc < w.heap.size := h.cb.lt
  rw [ht1]
  clear hti hvt hvt1 hxt hyt hx hy ht1 ht2 hck hf hpl hw1 hw2 hh1 hh2 hpp hg0 hti1 hlo c1 c2 c3 c4 c5 c6 c7 c8 c9 c10
  obtain ⟨As, cs, rfl, _, _, hrS, _⟩ := own_form h.sr
  clear h
  obtain ⟨gc, hgc⟩ : ∃ gc, K.gc = gc := ⟨_, rfl⟩
  rw [hgc] at hgcw hok c0 ⊢
  have HGC := Lib.hid hgc
  clear hgc
  go_enter Tryz.func11, Tryz.ntmps11
  go_upto_region 4 with (first
    | (go_at_call 30; (with_reducible refine hok.mono ?_); rintro e w1 ⟨rfl, rfl⟩)
    | (go_at_call 17; (with_reducible refine hti'.mono ?_); rintro e w1 ⟨rfl, hb1⟩; have kN := Bk.new w1 48 (tiA 0 0))
    | (refine stB (ty := 48) (cells := tiA t1 t2) rfl _ _ rfl kN rfl rfl ti_size rfl (by simp [Value.oneCell']) ?_; intro w2 k2 hg2 hs2))
  have hL := ((Lie.start w1).alloc (tiA 0 0) 48).set hg2 k2 (by omega) (by simp)
  have hb2 : Below w.heap.size w w2 := hb1.trans (hL.bel.mono hb1.size)
  have hg9w : w.heap.size ≤ w1.heap.size := hb1.size
  obtain ⟨g9, hg9⟩ : ∃ g9, w1.heap.size = g9 := ⟨_, rfl⟩
  simp only [hg9] at k2 hg9w ⊢
  clear hg9 hL hg2 hs2 kN hok hti' hb1 c0
  have hx2 := H.out.nx hb2
  obtain ⟨d0, d1⟩ := k2.cell2
  have hcb2 := hx2.cb
  rw [HGC.out] at hcb2
  have c10 := hcb2.cell11'.2.2.2.2.2.2.2.2.2.2
  have hlS : s.S.length ≤ 1000000 := by have := hx2.bk.2.2.2; omega
  have hCon := tcon_any s.S As s.S.length cs w.heap.size (t1, t2) w2.drew rfl hlS (hrS.keep (fun p hp => hb2.cell hp)) hb2.size
  have S0 : w2.drew.cell? ⟨gc, 10, none⟩ = some (.slice As s.S.length cs) ∧ w2.drew.cell? ⟨g9, 0, none⟩ = some (.int .i64 t1) ∧ w2.drew.cell? ⟨g9, 1, none⟩ = some (.int .i64 t2) := ⟨c10, d0, d1⟩
  go_upto_region 6 with fail
  obtain ⟨sb, hsb⟩ : ∃ sb, decide ((t1, t2) ∈ s.S) = sb := ⟨_, rfl⟩
  rw [hsb] at hCon
  have HSB := Lib.hid hsb
  clear hsb
  go_region_held3 (fun w' => w'.cell? ⟨gc, 10, none⟩ = some (.slice As s.S.length cs) ∧ w'.cell? ⟨g9, 0, none⟩ = some (.int .i64 t1) ∧ w'.cell? ⟨g9, 1, none⟩ = some (.int .i64 t2))
    (first | exact S0 | exact S3 | assumption)
    (first
      | (go_at_call 35; (with_reducible refine hCon.mono ?_); rintro e w5 ⟨rfl, hb5⟩;
         have k5 := (show Bk w2.drew _ _ _ from k2).nx hb5; have hx5 := (hx2.nx (Below.refl _ _).drew).nx hb5;
         have hcb5 := hx5.cb; rw [HGC.out] at hcb5; have S3 := And.intro hcb5.cell11'.2.2.2.2.2.2.2.2.2.2 k5.cell2))
  rename_i hHeld
  clear hHeld S0 S3 hCon d0 d1 c10 k2 hcb2 hcb5
  have hst5 : Step r w r w5 := Step.of_below (hb2.trans (Below.mono (Below.trans (Below.refl w2.heap.size w2).drew hb5) hb2.size))
  have hg95 := k5.lt
  go_upto_if 38 with fail
  go_cut [9] (fun p wx => p = .pointer (some ⟨g9, 0, none⟩) ∧ ∃ r5 vs5, CaP K (U + 1) { s with S := addT s.S (t1, t2) } r5 wx kb ab ga vt vs5 nk na AM ∧ Step r w r5 wx ∧ Bk wx g9 48 (tiA t1 t2) ∧ r5 g9 = 0)
  case first =>
    have hrg9 : r g9 = 0 := H.out.fresh g9 hg9w
    by_cases hm : (t1, t2) ∈ s.S
    · obtain rfl : sb = true := by rw [← HSB.out]; exact decide_eq_true hm
      have hadd : addT s.S (t1, t2) = s.S := if_pos hm
      have HADD := Lib.hid hadd
      clear hm hadd
      go_wp2_with fail
      go_meet
      refine ⟨rfl, r, .slice As s.S.length cs, ?_, hst5, k5, hrg9⟩
      rw [HADD.out]
      exact hx5.more (by omega)
    · obtain rfl : sb = false := by rw [← HSB.out]; exact decide_eq_false hm
      have hadd : addT s.S (t1, t2) = s.S ++ [(t1, t2)] := if_neg hm
      have HADD := Lib.hid hadd
      clear hm hadd
      have hr1 : r gc = 1 := by rw [← HGC.out]; exact hx5.rc
      have hvb : ∀ b, (Value.slice As s.S.length cs).ownBlock = some b → b < w5.heap.size ∧ b ≠ gc ∧ b ≠ g9 := fun b hb => by
        have e1 := hx5.rv b hb
        exact ⟨(hx5.sr.lt b hb).2, (fun e => by rw [e, hr1] at e1; cases e1), (fun e => by rw [e, hrg9] at e1; cases e1)⟩
      have hcb5 := hx5.cb
      rw [HGC.out] at hcb5
      have e0 := hcb5.cell11'.2.2.2.2.2.2.2.2.2.2
      obtain ⟨v9, w9, hap, hown9, hg99, hvo⟩ := ti_app w5.drew 0 s.S.length _ _ t1 t2 hx5.sr (Nat.zero_le _) (by have := hx5.bk.2.2.2; omega)
      obtain ⟨A9, c9, rfl, _⟩ := own_form hown9
      have hbA : Below w5.heap.size w5 (w5.drew.alloc (.cells #[.int .i64 t1, .int .i64 t2] 48)) := ((Below.refl w5.heap.size w5).drew).alloc (Nat.le_refl _) _
      have h9i : ∀ i, i < w5.heap.size → (∀ b, (Value.slice As s.S.length cs).ownBlock = some b → i ≠ b) → w9.heap[i]? = w5.heap[i]? := fun i hi hn => (hg99.block i (by have := hbA.size; omega) (fun e => hn i e.symm rfl)).trans (hbA.block i hi)
      have hz9 : w5.heap.size + 1 ≤ w9.heap.size := by have := hg99.size; simpa using this
      have hcb9 : Bk w9 gc 41 (caA K s kb ab ga vt (.slice As s.S.length cs)) := (h9i gc hcb5.lt (fun b hb => (hvb b hb).2.1.symm)).trans hcb5
      have k9 : Bk w9 g9 48 (tiA t1 t2) := (h9i g9 hg95 (fun b hb => (hvb b hb).2.2.symm)).trans k5
      have e90 := hcb9.cell11'.2.2.2.2.2.2.2.2.2.2
      have f9 := hcb9.frozen 10
      have hcb10 := hcb9.set 10 (.slice A9 (s.S.length + 1) c9)
      simp only [List.setIfInBounds_toArray, List.set_cons_zero, List.set_cons_succ] at hcb10
      have hg9c : g9 ≠ gc := by omega
      have h0S : (fun w'' : World => w''.cell? ⟨g9, 0, none⟩ = some (.int .i64 t1) ∧ w''.cell? ⟨g9, 1, none⟩ = some (.int .i64 t2)) w5.drew := k5.cell2
      have hAS : (fun w'' : World => w''.cell? ⟨g9, 0, none⟩ = some (.int .i64 t1) ∧ w''.cell? ⟨g9, 1, none⟩ = some (.int .i64 t2)) (w5.drew.alloc (.cells #[.int .i64 t1, .int .i64 t2] 48)) := (k5.nx hbA).cell2
      have eA : (w5.drew.alloc (.cells #[.int .i64 t1, .int .i64 t2] 48)).cell? ⟨gc, 10, none⟩ = some (.slice As s.S.length cs) := (hcb5.nx hbA).cell11'.2.2.2.2.2.2.2.2.2.2
      have eB : (w5.alloc (.cells #[.int .i64 t1, .int .i64 t2] 48)).cell? ⟨gc, 10, none⟩ = some (.slice As s.S.length cs) := eA
      have h9S : (fun w'' : World => w''.cell? ⟨g9, 0, none⟩ = some (.int .i64 t1) ∧ w''.cell? ⟨g9, 1, none⟩ = some (.int .i64 t2)) w9 := k9.cell2
      have k10 := k9.far (p := ⟨gc, 10, none⟩) (by simp; omega) (.slice A9 (s.S.length + 1) c9)
      have hzS : (fun w'' : World => w''.cell? ⟨g9, 0, none⟩ = some (.int .i64 t1) ∧ w''.cell? ⟨g9, 1, none⟩ = some (.int .i64 t2)) (w9.setCell ⟨gc, 10, none⟩ (.slice A9 (s.S.length + 1) c9)) := k10.cell2
      have hfin : ∃ r5 vs5, CaP K (U + 1) { s with S := addT s.S (t1, t2) } r5 (w9.setCell ⟨gc, 10, none⟩ (.slice A9 (s.S.length + 1) c9)) kb ab ga vt vs5 nk na AM ∧ Step r w r5 (w9.setCell ⟨gc, 10, none⟩ (.slice A9 (s.S.length + 1) c9)) ∧ Bk (w9.setCell ⟨gc, 10, none⟩ (.slice A9 (s.S.length + 1) c9)) g9 48 (tiA t1 t2) ∧ r5 g9 = 0 := by
        have hgw : Chg r (fun q => q = 1 ∨ q = 6) w5 (w9.setCell ⟨gc, 10, none⟩ (.slice A9 (s.S.length + 1) c9)) := by
          refine ⟨?_, fun i hi hn => ?_⟩
          · have b2 : Below 0 w5 (w5.drew.alloc (.cells #[.int .i64 t1, .int .i64 t2] 48)) := hbA.mono (Nat.zero_le _)
            have b3 : Below 0 (w5.drew.alloc (.cells #[.int .i64 t1, .int .i64 t2] 48)) w9 := ⟨hg99.os, hg99.tape, hg99.output, hg99.size, fun i hi => by omega⟩
            exact (b2.trans b3).setCell (Nat.zero_le _) _
          · have i1 : i ≠ gc := fun e => hn (.inl (by rw [e]; exact hr1))
            have i3 : ∀ b, (Value.slice As s.S.length cs).ownBlock = some b → i ≠ b := fun b hb e => hn (.inr (by rw [e]; exact hx5.rv b hb))
            exact (Below.heap_setCell w9 ⟨gc, 10, none⟩ _ i i1).trans (h9i i hi i3)
        have hvb9 : ∀ b, (Value.slice A9 (s.S.length + 1) c9).ownBlock = some b → b ≠ gc := fun b hb => by
          rcases hvo with h3 | h3
          · rw [h3] at hb; exact (hvb b hb).2.1
          · rw [h3] at hb; injection hb with hb
            simp at hb
            have := hcb5.lt
            omega
        have hsr := own_same hown9 (w' := w9.setCell ⟨gc, 10, none⟩ (.slice A9 (s.S.length + 1) c9)) (fun b hb => Below.heap_setCell w9 ⟨gc, 10, none⟩ _ b (hvb9 b hb))
        obtain ⟨r', q1, q2⟩ := hx5.seen (t := (t1, t2)) (vs' := .slice A9 (s.S.length + 1) c9) hgw (by rw [HGC.out]; exact hcb10) hsr (by
          rcases hvo with h3 | h3
          · exact .inl h3
          · exact .inr ⟨_, h3, by simp⟩) (by have := HLO.out; have := hst5.size; omega)
        refine ⟨r', .slice A9 (s.S.length + 1) c9, ?_, hst5.trans q2, k10, (q2.ext g9 hg95).trans hrg9⟩
        rw [HADD.out]
        exact q1
      clear hcb5 hcb9 k9 k10 hcb10 hown9 hg99 hvo h9i hbA hvb hz9 hx5 hx2
      go_upto_region 7 with fail
      refine wp_region_held_drew (S := (fun w'' : World => w''.cell? ⟨g9, 0, none⟩ = some (.int .i64 t1) ∧ w''.cell? ⟨g9, 1, none⟩ = some (.int .i64 t2))) (by kernel_rfl) h0S (fun hHeld => ?_)
      refine wpAnyH_take (i := 0) (v := ?_) rfl (by kernel_rfl) (by kernel_rfl) (by kernel_rfl) (fun _ _ _ h => h) (Or.inl ⟨by rfl, ?_⟩) (by assumption) ?_
      rotate_left
      · (intro w hSw; (try dsimp only at hSw); go_simp; try with_reducible rfl)
      refine wpAnyH_take (i := 1) (v := ?_) rfl (by kernel_rfl) (by kernel_rfl) (by kernel_rfl) (fun _ _ _ h => h) (Or.inl ⟨by rfl, ?_⟩) (by assumption) ?_
      rotate_left
      · (intro w hSw; (try dsimp only at hSw); go_simp; try with_reducible rfl)
      refine wpAnyH_take (i := 2) (v := ?_) rfl (by kernel_rfl) (by kernel_rfl) (by kernel_rfl) (fun _ _ _ h => h) (Or.inl ⟨by rfl, ?_⟩) (by assumption) ?_
      rotate_left
      · (intro w hSw; (try dsimp only at hSw); go_simp; try with_reducible rfl)
      refine wpAnyH_take (i := 3) (v := ?_) rfl (by kernel_rfl) (by kernel_rfl) (by kernel_rfl) (fun _ _ _ h => h) (Or.inl ⟨by rfl, ?_⟩) (by assumption) ?_
      rotate_left
      · (intro w hSw; (try dsimp only at hSw); go_simp; try with_reducible rfl)
      refine wpAnyH_take (i := 5) (v := ?_) rfl (by kernel_rfl) (by kernel_rfl) (by kernel_rfl) (fun _ _ _ h => h) (Or.inl ⟨by rfl, ?_⟩) (by assumption) ?_
      rotate_left
      · (intro w hSw; (try dsimp only at hSw); go_simp; try with_reducible rfl)
      refine wpAnyH_ready (rs := [4, 6]) (by kernel_rfl) (by simp) ?_
      refine AllReadyH.cons rfl (fun K hK => ?_) (AllReadyH.cons rfl (fun K hK => ?_) AllReadyH.nil)
      · go_simp
        refine hK.out _ _ hHeld (fun hHeld => ?_)
        clear hK K
        refine wpAnyH_ready (rs := [6]) (by kernel_rfl) (by simp) ?_
        refine AllReadyH.cons rfl (fun K hK => ?_) AllReadyH.nil
        go_simp
        refine hK.out _ _ hAS (fun hHeld => ?_)
        clear hK K
        refine wpAnyH_ready (rs := [7]) (by kernel_rfl) (by simp) ?_
        refine AllReadyH.cons rfl (fun K hK => ?_) AllReadyH.nil
        rw [if_pos (by kernel_rfl)]
        refine ca_append_run (v := .slice As s.S.length cs) _ _ _ rfl rfl rfl hap ?_
        go_simp
        refine hK.out _ _ h9S (fun hHeld => ?_)
        clear hK K
        refine wpAnyH_take (i := 8) (v := ?_) rfl (by kernel_rfl) (by kernel_rfl) (by kernel_rfl) (fun _ _ _ h => h) (Or.inl ⟨by rfl, ?_⟩) (by assumption) ?_
        rotate_left
        · (intro w hSw; (try dsimp only at hSw); go_simp; try with_reducible rfl)
        refine wpAnyH_take (i := 9) (v := ?_) rfl (by kernel_rfl) (by kernel_rfl) (by kernel_rfl) (fun _ _ _ h => h) (Or.inl ⟨by rfl, ?_⟩) (by assumption) ?_
        rotate_left
        · (intro w hSw; (try dsimp only at hSw); go_simp; try with_reducible rfl)
        refine wpAnyH_ready (rs := [10]) (by kernel_rfl) (by simp) ?_
        refine AllReadyH.cons rfl (fun K hK => ?_) AllReadyH.nil
        go_simp
        refine hK.out _ _ hzS (fun hHeld => ?_)
        clear hK K
        refine wpAnyH_done (by kernel_rfl) ?_ _
        go_wp2_with fail
        go_meet
        exact ⟨rfl, hfin⟩
      · go_simp
        refine hK.out _ _ hAS (fun hHeld => ?_)
        clear hK K
        refine wpAnyH_ready (rs := [4]) (by kernel_rfl) (by simp) ?_
        refine AllReadyH.cons rfl (fun K hK => ?_) AllReadyH.nil
        go_simp
        refine hK.out _ _ hAS (fun hHeld => ?_)
        clear hK K
        refine wpAnyH_ready (rs := [7]) (by kernel_rfl) (by simp) ?_
        refine AllReadyH.cons rfl (fun K hK => ?_) AllReadyH.nil
        rw [if_pos (by kernel_rfl)]
        refine ca_append_run (v := .slice As s.S.length cs) _ _ _ rfl rfl rfl hap ?_
        go_simp
        refine hK.out _ _ h9S (fun hHeld => ?_)
        clear hK K
        refine wpAnyH_take (i := 8) (v := ?_) rfl (by kernel_rfl) (by kernel_rfl) (by kernel_rfl) (fun _ _ _ h => h) (Or.inl ⟨by rfl, ?_⟩) (by assumption) ?_
        rotate_left
        · (intro w hSw; (try dsimp only at hSw); go_simp; try with_reducible rfl)
        refine wpAnyH_take (i := 9) (v := ?_) rfl (by kernel_rfl) (by kernel_rfl) (by kernel_rfl) (fun _ _ _ h => h) (Or.inl ⟨by rfl, ?_⟩) (by assumption) ?_
        rotate_left
        · (intro w hSw; (try dsimp only at hSw); go_simp; try with_reducible rfl)
        refine wpAnyH_ready (rs := [10]) (by kernel_rfl) (by simp) ?_
        refine AllReadyH.cons rfl (fun K hK => ?_) AllReadyH.nil
        go_simp
        refine hK.out _ _ hzS (fun hHeld => ?_)
        clear hK K
        refine wpAnyH_done (by kernel_rfl) ?_ _
        go_wp2_with fail
        go_meet
        exact ⟨rfl, hfin⟩
  case rest =>
    obtain ⟨rfl, r5, vs5, hx, hst, k9, hr9⟩ := hcut
    clear hx5 k5 hst5 hx2 hb2 hb5 hg95 hrS
    obtain ⟨wd, hwd⟩ : ∃ wd : World, wd = wc := ⟨_, rfl⟩
    subst hwd
    have huse := cuse hx (by omega) (t1, t2) ht164 hti64 HV.out (by have := HLO.out; have := hst.size; omega)
    rw [HGC.out] at huse
    go_upto_region 9 with (first
      | (refine ldB rfl _ _ rfl k9 rfl Tryz.underlying48 rfl ti_size ?_)
      | (go_at_call 32; (with_reducible refine huse.mono ?_); rintro e w6 ⟨v6, rfl, r6, vt6, nk6, na6, AM6, hx6, hst6, hHas6⟩; obtain ⟨p0, p1, p2, A, n, c, rfl⟩ := hHas6.form; have kN := Bk.new w6 44 im0A)
      | (refine stB (ty := 44) (cells := #[.int .i64 p0, .int .i64 p1, .int .i64 p2, .slice A n c]) rfl _ _ rfl kN rfl rfl img_size rfl (by simp [Value.oneCell']) ?_; intro w7 k7 hg7 hs7))
    have hL7 := ((Lie.start w6).alloc im0A 44).set hg7 k7 (by omega) (by simp)
    have hb7 : Below w6.heap.size w6 w7 := hL7.bel
    have hx7 := hx6.nx hb7
    have hHas7 : HasIm w7 r6 K.ims K.tw K.th (t1, t2) (.agg #[.int .i64 p0, .int .i64 p1, .int .i64 p2, .slice A n c]) := hHas6.chg (R := fun _ => False) (only_below hb7) (fun e => e)
    have hst7 : Step r w r6 w7 := (hst.trans hst6).trans (Step.of_below hb7)
    have k97 := (hst6.bk k9 hr9).nx hb7
    have hcb7 := hx7.cb
    rw [HGC.out] at hcb7
    have c0 := hcb7.cell11'.1
    obtain ⟨d0, d1⟩ := k97.cell2
    obtain ⟨j, hj, sl, e1, e2, e3, e4, e5⟩ := hHas7
    obtain rfl : j = k := by have := HT1.out; simp only at e1; omega
    have hPl0 : ∀ W, Below w7.heap.size w7 W → Calls Tryz.prog 36 #[.pointer (some ⟨K.gs, 0, none⟩), .agg (tiA t1 t2)] W fun e w' => e = .returned (.tuple #[.agg (plA K.ims[j] K.tw K.th t2), .bool true]) ∧ Below W.heap.size W w' := fun W hW => by
      rw [← HT1.out]
      exact splace_in (hx7.nx hW).sto j hj t2 e2
    have HPL : Hid (plA K.ims[j] K.tw K.th t2 = rc_rectA (tlX K.ims[j].W K.tw t2) (tlY K.ims[j].W K.tw K.th t2) (min (tlX K.ims[j].W K.tw t2 + K.tw) K.ims[j].W) (min (tlY K.ims[j].W K.tw K.th t2 + K.th) K.ims[j].H)) := rfl
    rw [HPL.out] at hPl0
    obtain ⟨m, hm⟩ : ∃ m, K.ims[j] = m := ⟨_, rfl⟩
    have hE4 : tlB K.ims[j] K.tw K.th t2 = tlB m K.tw K.th t2 := by rw [hm]
    simp only at e2 e3 e4 e5
    simp only [hm] at hPl0 e3 e4 e2 HXT HYT HCK HX HY hcc ⊢
    obtain ⟨a, ha⟩ : ∃ a, tlX m.W K.tw t2 = a := ⟨_, rfl⟩
    obtain ⟨b, hb⟩ : ∃ b, tlY m.W K.tw K.th t2 = b := ⟨_, rfl⟩
    have h04 : tlB m K.tw K.th t2 = cropL m (tlX m.W K.tw t2) (tlY m.W K.tw K.th t2) (min (tlX m.W K.tw t2 + K.tw) m.W) (min (tlY m.W K.tw K.th t2 + K.th) m.H - tlY m.W K.tw K.th t2).toNat := rfl
    rw [h04] at e4
    simp only [ha, hb] at hPl0 e3 e4 HXT HYT
    obtain ⟨cc, hc⟩ : ∃ cc, min (a + K.tw) m.W = cc := ⟨_, rfl⟩
    obtain ⟨d, hd⟩ : ∃ d, min (b + K.th) m.H = d := ⟨_, rfl⟩
    simp only [hc, hd] at hPl0 e3 e4 HXT HYT
    obtain ⟨A', c', hsl, hnc, _, hrd, _⟩ := own_form e4
    subst hsl
    simp at e3
    obtain ⟨rfl, rfl, rfl, rfl, rfl, rfl⟩ := e3
    have HA := Lib.hid ha
    have HB := Lib.hid hb
    have HC := Lib.hid hc
    have HD := Lib.hid hd
    have HM := Lib.hid hm
    have HI9 := Lib.hid e2
    clear ha hb hc hd hm h04 hE4 HPL e1 e2 e5 hL7 hg7 hs7 kN hx6 hHas6 hst6 hx hst k9 hr9 huse hb7 hcb7 HT2
    have S0 : w7.drew.cell? ⟨gc, 0, none⟩ = some (.pointer (some ⟨K.gs, 0, none⟩)) ∧ w7.drew.cell? ⟨g9, 0, none⟩ = some (.int .i64 t1) ∧ w7.drew.cell? ⟨g9, 1, none⟩ = some (.int .i64 t2) := ⟨c0, d0, d1⟩
    have hS : ∀ W, Below w7.heap.size w7 W → W.cell? ⟨gc, 0, none⟩ = some (.pointer (some ⟨K.gs, 0, none⟩)) ∧ W.cell? ⟨g9, 0, none⟩ = some (.int .i64 t1) ∧ W.cell? ⟨g9, 1, none⟩ = some (.int .i64 t2) := fun W hW => by
      have h1 := (hx7.nx hW).cb
      rw [HGC.out] at h1
      exact ⟨h1.cell11'.1, (k97.nx hW).cell2⟩
    simp only [Act.put]
    go_cut [12] (fun p wx => ∃ g12, p = .pointer (some ⟨g12, 0, none⟩) ∧ w7.heap.size ≤ g12 ∧ Bk wx g12 59 (rc_rectA a b cc d) ∧ Below w7.heap.size w7 wx)
    case first =>
      go_region_held3 (fun w' => w'.cell? ⟨gc, 0, none⟩ = some (.pointer (some ⟨K.gs, 0, none⟩)) ∧ w'.cell? ⟨g9, 0, none⟩ = some (.int .i64 t1) ∧ w'.cell? ⟨g9, 1, none⟩ = some (.int .i64 t2))
        (first | exact S0 | exact hS _ hB8 | assumption | exact hS _ (by go_grown))
        (first
          | (go_at_call 36; (with_reducible refine (hPl0 _ (by go_grown)).mono ?_); rintro e w8 ⟨rfl, hb8⟩; have hB8 := below_then (w := w7) hb8 (by go_grown);
             (first
               | (have kN8 := (show Bk (w7.alloc (.cells (rc_rectA 0 0 0 0) 59)).drew w7.heap.size 59 (rc_rectA 0 0 0 0) from Bk.new w7 _ _).nx hb8; obtain ⟨z0, z1, z2, z3⟩ := kN8.cell4; have f0 := kN8.frozen 0; have f1 := kN8.frozen 1; have f2 := kN8.frozen 2; have f3 := kN8.frozen 3; have hz8 := kN8.lt)
               | (have kN8 := Bk.new w8 59 (rc_rectA 0 0 0 0); obtain ⟨z0, z1, z2, z3⟩ := kN8.cell4; have f0 := kN8.frozen 0; have f1 := kN8.frozen 1; have f2 := kN8.frozen 2; have f3 := kN8.frozen 3; have hz8 := hB8.size))))
      all_goals
        have hz88 := hB8.size
        have kR := kN8.set4 (.int .i64 a) (.int .i64 b) (.int .i64 cc) (.int .i64 d)
        go_wp2_with fail
        go_meet
        first
          | exact ⟨_, rfl, hz88, Bk.new w8 _ _, Below.alloc hB8 hz88 _⟩
          | exact ⟨_, rfl, Nat.le_refl _, kR, (((hB8.setCell (Nat.le_refl _) _).setCell (Nat.le_refl _) _).setCell (Nat.le_refl _) _).setCell (Nat.le_refl _) _⟩
    case rest =>
      obtain ⟨g12, rfl, hg12, kR, hbx⟩ := hcut
      obtain ⟨we, hwe⟩ : ∃ we : World, we = wc := ⟨_, rfl⟩
      subst hwe
      have k7e := k7.nx hbx
      have hwn : w6.heap.size < w7.heap.size := k7.lt
      obtain ⟨g11, hg11⟩ : ∃ g11, w6.heap.size = g11 := ⟨_, rfl⟩
      simp only [hg11] at k7 k7e hwn ⊢
      clear hg11 k7 hS S0 hPl0 c0 d0 d1
      obtain ⟨cn, hcn⟩ : ∃ cn : Nat, m.C = (cn : Nat) := ⟨m.C.toNat, by omega⟩
      have hmk := fun w => run_make1 (P := Tryz.prog) (t := 42) (e := 5) (z := .int .u8 0) (bytes := 1) Tryz.underlying42 u8_info rfl m.C cn hcn (by omega) (by omega) w
      have HCN := Lib.hid hcn
      have hcn4 : 1 ≤ cn ∧ cn ≤ 4 := by omega
      have hxa := HXT.out
      have hya := HYT.out
      obtain ⟨hf, hpl⟩ := ck_parts HCK.out
      obtain ⟨_, hw1, hw2, hh1, hh2, _⟩ := fitsC_ok hf
      have ha0 : 0 ≤ a ∧ a < cc := by
        have := HX.out
        refine ⟨?_, by omega⟩
        rw [← HA.out]
        have hg0 : grC m.W m.H K.tw K.th = 0 := grC_zero.2 ⟨⟨hw1, hw2⟩, ⟨hh1, hh2⟩, hx7.tws.1, hx7.tws.2⟩
        exact (tl_xy hg0 HI9.out).1.1
      have hb0 : 0 ≤ b ∧ b < d := by
        refine ⟨?_, by omega⟩
        rw [← HB.out]
        have hg0 : grC m.W m.H K.tw K.th = 0 := grC_zero.2 ⟨⟨hw1, hw2⟩, ⟨hh1, hh2⟩, hx7.tws.1, hx7.tws.2⟩
        exact (tl_xy hg0 HI9.out).2.1.1
      have hcc' : cc ≤ m.W := by rw [← HC.out]; omega
      have hdd' : d ≤ m.H := by rw [← HD.out]; omega
      have hsx : wrap64 (x - a) = x - a := IntWalk.wrap64_in _ ⟨by omega, by omega⟩
      have hsy : wrap64 (y - b) = y - b := IntWalk.wrap64_in _ ⟨by omega, by omega⟩
      have hck2 := crop_ck m a b cc d HCK.out ha0 hcc' hb0 hdd'
      have hAt : ∀ W, Below w7.heap.size w7 W → ∀ kk : Nat, kk < cn → Calls Tryz.prog 37 #[.agg #[.int .i64 (cc - a), .int .i64 (d - b), .int .i64 m.C, .slice A (cropL m a b cc (d - b).toNat).length c], .int .i64 (x - a), .int .i64 (y - b), .int .i64 (kk : Nat)] W fun e w' => e = .returned (.tuple #[.int .u8 (m.px.getD ((y * m.W + x) * m.C + (kk : Nat)).toNat 0), .bool true]) ∧ Below W.heap.size W w' := fun W hW kk hkk => by
        have h1 := iat_in ⟨cc - a, d - b, m.C, cropL m a b cc (d - b).toNat⟩ A c (x - a) (y - b) (kk : Nat) W hck2 ⟨by omega, by simp only; omega⟩ ⟨by omega, by simp only; omega⟩ ⟨by omega, by simp only; omega⟩ ((hrd.below' hW (Nat.le_refl _)).more hW.size)
        simp only at h1
        rw [crop_get m a b cc d x y (kk : Nat) HCK.out ha0 hcc' hb0 hdd' hxa hya ⟨by omega, by omega⟩] at h1
        exact h1
      clear hcn hxa hya hf hpl hw1 hw2 hh1 hh2 ha0 hb0 hcc' hdd' hck2 hrd hnc hcc
      generalize hpxf : (fun kk : Nat => m.px.getD ((y * m.W + x) * m.C + (kk : Nat)).toNat 0) = f
      have hAt2 : ∀ W, Below w7.heap.size w7 W → ∀ kk : Nat, kk < cn → Calls Tryz.prog 37 #[.agg #[.int .i64 (cc - a), .int .i64 (d - b), .int .i64 m.C, .slice A (cropL m a b cc (d - b).toNat).length c], .int .i64 (x - a), .int .i64 (y - b), .int .i64 (kk : Nat)] W fun e w' => e = .returned (.tuple #[.int .u8 (f kk), .bool true]) ∧ Below W.heap.size W w' := fun W hW kk hkk => by rw [← hpxf]; exact hAt W hW kk hkk
      have HPX := Lib.hid hpxf
      clear hpxf hAt
      generalize (cropL m a b cc (d - b).toNat).length = nL at *
      obtain ⟨_, _, d2, _⟩ := k7e.cell4
      obtain ⟨W1, hW1⟩ : ∃ W1, we.alloc (.cells (Array.replicate cn (.int .u8 0)) 5) = W1 := ⟨_, rfl⟩
      have hbW : Below we.heap.size we W1 := by rw [← hW1]; exact (Below.refl _ _).alloc (Nat.le_refl _) _
      have kW : Bk W1 we.heap.size 5 (rowP f cn 0).toArray := by rw [← hW1, rowP_zero]; exact Bk.new we _ _
      go_upto_region 11 with fail
      obtain ⟨g14, hg14⟩ : ∃ g14, we.heap.size = g14 := ⟨_, rfl⟩
      have hz14 : w7.heap.size ≤ g14 := by rw [← hg14]; exact hbx.size
      have hbx1 : Below w7.heap.size w7 W1 := hbx.trans (hbW.mono hbx.size)
      have k71 := k7e.nx hbW
      have kR1 := kR.nx hbW
      have hgl : g11 < g14 ∧ g12 < g14 := by have := k7e.lt; have := kR.lt; omega
      simp only [hg14] at kW hbW ⊢
      clear hg14 hW1 hmk k7e kR d2 hbx
      go_wp2_with fail
      go_loopw [66] (fun i wr => ∃ kk : Nat, kk ≤ cn ∧ i = .int .i64 kk ∧ Bk wr g14 5 (rowP f cn kk).toArray ∧ Below g14 W1 wr) (fun i _ => cn - (intOf i).toNat)
      case atStart => exact ⟨0, by omega, rfl, kW, Below.refl _ _⟩
      case round =>
        obtain ⟨kk, hkk, rfl, kg, hbr⟩ := hrel
        clear kW
        by_cases hlt : kk < cn
        · have k7r := k71.below hbr hgl.1
          have kRr := kR1.below hbr hgl.2
          obtain ⟨r0, r1, r2, r3⟩ := kRr.cell4
          have hA3 := hAt2 wr (hbx1.trans (hbr.mono hz14)) kk hlt
          clear r2 r3
          have hl9 : (rowP f cn kk).length = cn := by unfold rowP; simp
          obtain ⟨vq, hvq⟩ : ∃ vq, (rowP f cn kk).toArray[kk]? = some vq := ⟨_, by rw [List.getElem?_toArray]; exact List.getElem?_eq_getElem (by rw [hl9]; exact hlt)⟩
          have hltZ : (kk : Int) < (cn : Int) := by omega
          clear hl9
          go_wp2_with (first
            | (refine ldB rfl _ _ rfl k7r rfl Tryz.underlying44 rfl img_size ?_)
            | (go_at_call 37; (with_reducible refine hA3.mono ?_); rintro e w8 ⟨rfl, hb8⟩; have kg8 := kg.nx hb8; have c8 := (kg8.cell kk).trans hvq; have f8 := kg8.frozen kk))
          have kg9 := kg8.set kk (.int .u8 (f kk))
          rw [rowP_set f cn kk hlt] at kg9
          refine ⟨⟨kk + 1, by omega, by go_num, kg9, (hbr.trans (hb8.mono (by have := hbr.size; have := kg.lt; omega))).setCell (Nat.le_refl _) _⟩, by simp [intOf]; omega⟩
        · obtain rfl : kk = cn := by omega
          go_wp2_with fail
          go_returns
          have hxs : rowP f kk kk = pxV m x y := by
            rw [rowP_full, ← HPX.out]
            unfold pxV
            rw [show m.C.toNat = kk by have := HCN.out; omega]
          have hln : (pxV m x y).length = kk := by unfold pxV; simp; have := HCN.out; omega
          have hbF : Below w7.heap.size w7 wr := hbx1.trans (hbr.mono hz14)
          rw [hxs] at kg
          rw [HM.out]
          refine ⟨some ⟨g14, 0, none⟩, kk, by rw [hln]; rfl, ?_, r6, vt6, vs5, nk6, na6, AM6, ?_, hst7.trans (Step.of_below hbF)⟩
          · intro j hj
            exact ⟨g14, 0, rfl, kg.lt, by rw [Nat.zero_add, kg.cell]; simp [List.getElem?_eq_getElem hj]⟩
          · exact (hx7.nx hbF).more (by omega)
end
end Go.Proofs.YtahiaeaobbofbaaGreat
