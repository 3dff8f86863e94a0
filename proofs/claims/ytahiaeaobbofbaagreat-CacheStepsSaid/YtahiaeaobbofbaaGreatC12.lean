/- Several texts in one: The cache: store.New. The cache: cache.New. The cache: whether a tile is in a list. The cache: a pixel of an image in its tile. The cache: ok, Len, Stats, a tile is seen, Read of nothing. The cache: Stats; Read of nothing. -/
import Derived.Test.YtahiaeaobbofbaaGreatC9
import Derived.Deep.RegionWith
section
set_option linter.unusedVariables false
namespace Go.Proofs.YtahiaeaobbofbaaGreat
open Go.RowKit
theorem ii_app (W : World) (base k : Nat) (v : Value) (xs : List Value) (a b c : Int) (A : Option Addr) (n cp : Nat) (ho : W.ownsRow base 44 4 v k xs) (hb : base ≤ W.heap.size) (hk : k ≤ 100000) :
    ∃ v' w', (Builtin.append_ #[22, 22] 22 #[v, .slice (some ⟨W.heap.size, 0, none⟩) 1 1]).run Tryz.prog (W.alloc (.cells #[.int .i64 a, .int .i64 b, .int .i64 c, .slice A n cp] 44)) = .ok v' w' ∧ w'.ownsRow base 44 4 v' (k + 1) (xs ++ [.int .i64 a, .int .i64 b, .int .i64 c, .slice A n cp]) ∧ (W.alloc (.cells #[.int .i64 a, .int .i64 b, .int .i64 c, .slice A n cp] 44)).grownBy w' v.ownBlock ∧ (v'.ownBlock = v.ownBlock ∨ v'.ownBlock = some (W.heap.size + 1)) := by
  obtain ⟨i, hi', hz, hs0, hby⟩ := info_parts img_info
  obtain ⟨v', w', hr, h2, h3, _, h5⟩ := run_append_own_at (P := Tryz.prog) (W.alloc (.cells #[.int .i64 a, .int .i64 b, .int .i64 c, .slice A n cp] 44)) base 22 22 44 i _ 4 48 Tryz.underlying22 hi' hz hs0 hby rfl (by decide) v k xs (ho.alloc _) ⟨W.heap.size, 0, none⟩ 1 1 [.int .i64 a, .int .i64 b, .int .i64 c, .slice A n cp] rfl
    (fun j u hj => by rw [add0, World.cell?_alloc_new]; simpa using hj) (by simp [Value.oneCell']) (by simp [maxLen]; omega) (by omega) (by simp; omega)
  exact ⟨v', w', hr, h2, h3, by simpa using h5⟩
/-- A block of another type is written. -/
theorem ImsOwn.far {w w' : World} {lo : Nat} {v : Value} {ims : List Im} {g : Nat} {t : TypeId} {cs : Array Value} (h : ImsOwn w lo v ims) (hB : Bk w g t cs) (h1 : t ≠ 44) (h2 : t ≠ 5) (hs : ∀ i, i ≠ g → w'.heap[i]? = w.heap[i]?) : ImsOwn w' lo v ims := by
  have key : ∀ {e : TypeId} {b : Nat} {cur : Array Value}, w.heap[b]? = some (.cells cur e) → t ≠ e → b ≠ g := fun {e b cur} hc ht e2 => by
    subst e2
    have := hc.symm.trans hB
    injection this with this
    injection this with _ this
    exact ht this.symm
  obtain ⟨xs, a1, a2, a3⟩ := h
  refine ⟨xs, own_same a1 (fun b hb => by obtain ⟨cur, hc⟩ := own_tag a1 hb; exact hs b (key hc h1)), a2, fun i hi hi' => ?_⟩
  obtain ⟨s, e1, e2⟩ := a3 i hi hi'
  exact ⟨s, e1, own_same e2 (fun b hb => by obtain ⟨cur, hc⟩ := own_tag e2 hb; exact hs b (key hc h2))⟩
/-- What store.New checks. -/
def newC (ims : List Im) (tw th : Int) : Int := if imagesC ims ≠ 0 then imagesC ims else if tw < 1 ∨ tw > 4096 ∨ th < 1 ∨ th > 4096 then 10 else 0
def NewP (ims : List Im) (tw th : Int) (w : World) (e : Ending) (w' : World) : Prop :=
  Below w.heap.size w w' ∧ ((newC ims tw th ≠ 0 ∧ e = .returned (.tuple #[.pointer none, .int .i64 (newC ims tw th)])) ∨
    (newC ims tw th = 0 ∧ ∃ gs v, e = .returned (.tuple #[.pointer (some ⟨gs, 0, none⟩), .int .i64 0]) ∧ w.heap.size ≤ gs ∧ Bk w' gs 79 #[v, .int .i64 tw, .int .i64 th, .int .i64 0] ∧ ImsOwn w' w.heap.size v ims))
set_option maxRecDepth 100000 in
set_option maxHeartbeats 16000000 in
theorem snew (ims : List Im) (A : Option Addr) (n c lo : Nat) (tw th : Int) (w : World) (hn : ims.length = n) (hA : ImsAt w lo A ims) (hb : n ≤ 100000) (hpx : ∀ m ∈ ims, m.px.length ≤ 1000000000) :
    Calls Tryz.prog 5 #[.slice A n c, .int .i64 tw, .int .i64 th] w (NewP ims tw th w) := by
  have hof := of_ims ims A n c lo w hn hA hb hpx
  by_cases hck : imagesC ims = 0
  · have hof' : Calls Tryz.prog 27 #[.slice A n c] w fun e w' => ∃ v, e = .returned (.tuple #[.iface 101 v, .int .i64 0]) ∧ Below w.heap.size w w' := hof.mono fun e w' hq => by
      obtain ⟨q1, q2 | ⟨_, v, q3, _⟩⟩ := hq
      · exact absurd hck q2.1
      · exact ⟨v, q3, q1⟩
    clear hof
    by_cases hbad : tw < 1 ∨ tw > 4096 ∨ th < 1 ∨ th > 4096
    · have hz : newC ims tw th = 10 := by unfold newC; rw [if_neg (by simp [hck]), if_pos hbad]
      have hfin : ∀ w', Below w.heap.size w w' → NewP ims tw th w (.returned (.tuple #[.pointer none, .int .i64 10])) w' := fun w' hb => ⟨hb, .inl ⟨by rw [hz]; decide, by rw [hz]⟩⟩
      clear hz hck hpx hA
      go_enter Tryz.func5, Tryz.ntmps5
      go_upto_region 4 with (go_at_call 27; (with_reducible refine hof'.mono ?_); rintro e w1 ⟨v, rfl, hb1⟩)
      have hd : (decide (tw < 1) || decide (tw > 4096) || decide (th < 1) || decide (th > 4096)) = true := by
        simp only [Bool.or_eq_true, decide_eq_true_eq]; omega
      by_cases h1 : tw < 1
      · clear hbad hd
        go_wp2_with fail
        go_returns
        exact hfin _ hb1
      · by_cases h2 : tw > 4096
        · clear hbad hd
          go_wp2_with fail
          go_returns
          exact hfin _ hb1
        · by_cases h3 : th < 1
          · clear hbad hd
            go_wp2_with fail
            go_returns
            exact hfin _ hb1
          · have h4 : th > 4096 := by omega
            clear hbad hd
            go_wp2_with fail
            go_returns
            exact hfin _ hb1
    · have hz : newC ims tw th = 0 := by unfold newC; rw [if_neg (by simp [hck]), if_neg hbad]
      have HZ := Lib.hid hz
      have t1 : ¬ tw < 1 := by omega
      have t2 : ¬ tw > 4096 := by omega
      have t3 : ¬ th < 1 := by omega
      have t4 : ¬ th > 4096 := by omega
      clear hz hck hbad
      go_enter Tryz.func5, Tryz.ntmps5
      go_upto_region 6 with (go_at_call 27; (with_reducible refine hof'.mono ?_); rintro e w1 ⟨v, rfl, hb1⟩)
      have hb2 := hb1.alloc hb1.size (.cells #[.slice none 0 0, .int .i64 tw, .int .i64 th, .int .i64 0] 79)
      have kS := Bk.new w1 79 #[.slice none 0 0, .int .i64 tw, .int .i64 th, .int .i64 0]
      go_upto_region 7 with fail
      have hgs : w.heap.size ≤ w1.heap.size := hb1.size
      obtain ⟨gs, hgsE⟩ : ∃ gs, w1.heap.size = gs := ⟨_, rfl⟩
      generalize w1.alloc (.cells #[.slice none 0 0, .int .i64 tw, .int .i64 th, .int .i64 0] 79) = w2 at *
      simp only [hgsE] at kS hgs ⊢
      clear hgsE hof' t1 t2 t3 t4 hb1
      go_wp2_with fail
      go_loopw [41] (fun i wr => ∃ (k : Nat) (v : Value), k ≤ n ∧ i = .int .i64 k ∧ Bk wr gs 79 #[v, .int .i64 tw, .int .i64 th, .int .i64 0] ∧ ImsOwn wr w.heap.size v (ims.take k) ∧ Below w.heap.size w wr) (fun i _ => n - (intOf i).toNat)
      case atStart => exact ⟨0, _, by omega, rfl, kS, by simpa using ImsOwn.nil w2 w.heap.size, hb2⟩
      case round =>
        obtain ⟨k, v, hk, rfl, hks, hown, hbel⟩ := hrel
        clear kS hb2
        by_cases hlt : k < n
        · have hk2 : k < ims.length := by omega
          obtain ⟨b', o', Ai, ci, rfl, _, _, q0, q1, q2, q3, hci, hri⟩ := (hA.nx hbel (Nat.le_refl _)).get k hk2
          have hpl := hpx ims[k] (List.getElem_mem hk2)
          have HT := Lib.hid (List.take_succ_eq_append_getElem hk2)
          generalize ims[k] = m at *
          have hlt4 : (ims.take k).length = k := by simp; omega
          have HL4 := Lib.hid hlt4
          clear hlt4
          have hbw2 := hbel.size
          have hgw := hks.lt
          go_upto_region 10 with fail
          have hb1 : Below wr.heap.size wr (wr.alloc (.cells #[.int .i64 m.W, .int .i64 m.H, .int .i64 m.C, .slice Ai m.px.length ci] 44)) := (Below.refl _ _).alloc (Nat.le_refl _) _
          have kq := Bk.new wr 44 #[.int .i64 m.W, .int .i64 m.H, .int .i64 m.C, .slice Ai m.px.length ci]
          generalize wr.alloc (.cells #[.int .i64 m.W, .int .i64 m.H, .int .i64 m.C, .slice Ai m.px.length ci] 44) = w1 at *
          obtain ⟨d0, d1, d2, d3⟩ := kq.cell4
          have hr2 : Rd w1 w1.heap.size Ai (m.px.map (Value.int .u8)) := (hri.below hb1 (Nat.le_refl _)).rd
          have hCl := cloneu_any m.px Ai m.px.length ci w1 rfl hpl hr2 (Nat.le_refl _)
          have hks1 := hks.nx hb1
          have hz1 : wr.heap.size < w1.heap.size := kq.lt
          clear q0 q1 q2 q3 hri hr2 hks
          go_upto_region 11 with (go_at_call 28; (with_reducible refine hCl.mono ?_); rintro e w4 ⟨s4, rfl, ho4, hb4⟩; obtain ⟨A4, c4, rfl, _⟩ := own_form ho4; have kq4 := kq.nx hb4; obtain ⟨d40, d41, d42, d43⟩ := kq4.cell4; have f4 := kq4.frozen 3)
          have hz4 := hb4.size
          have ho5 := own_far ho4 ⟨wr.heap.size, 3, none⟩ (.slice A4 m.px.length c4) (fun g hg => by have := (ho4.lt g hg).1; show g ≠ wr.heap.size; intro e; omega)
          have kq5 := kq4.set 3 (.slice A4 m.px.length c4)
          have hb5 : Below wr.heap.size wr (w4.setCell ⟨wr.heap.size, 3, none⟩ (.slice A4 m.px.length c4)) := (hb1.trans (hb4.mono (by omega))).setCell (by simp) _
          have hvlt : ∀ b, v.ownBlock = some b → b < wr.heap.size := fun b hb => by obtain ⟨xs, h1, _⟩ := hown; exact (h1.lt b hb).2
          have hno5 := hown.nx hb5
          have hks5 := hks1.nx hb4
          have hks5 := hks5.far (p := ⟨wr.heap.size, 3, none⟩) (by simp; omega) (.slice A4 m.px.length c4)
          have hs5 : wr.heap.size < (w4.setCell ⟨wr.heap.size, 3, none⟩ (.slice A4 m.px.length c4)).heap.size := by simp [World.setCell]; omega
          clear d0 d1 d2 d3 d40 d41 d42 d43 f4 ho4 hb4 kq4 hCl kq hb1 hks1 hown
          generalize w4.setCell ⟨wr.heap.size, 3, none⟩ (.slice A4 m.px.length c4) = w5 at *
          obtain ⟨d0, d1, d2, d3⟩ := kq5.cell4
          have e0 := hks5.cell4.1
          have hb6 := hbel.trans (hb5.mono hbw2)
          have hb6s := hb6.size
          obtain ⟨xs5, hx50, hx51, hx52⟩ := hno5
          have hx5 := hx50
          rw [HL4.out] at hx5
          obtain ⟨A5, c5, rfl, _⟩ := own_form hx5
          obtain ⟨v9, w9, hap, hown9, hg9, hvo⟩ := ii_app w5.drew w.heap.size k _ _ m.W m.H m.C A4 m.px.length c4 hx5 hb6s (by omega)
          obtain ⟨A9, c9, rfl, _⟩ := own_form hown9
          obtain ⟨q, hqE⟩ : ∃ q, wr.heap.size = q := ⟨_, rfl⟩
          simp only [hqE] at *
          have hbA : Below w5.heap.size w5 (w5.drew.alloc (.cells #[.int .i64 m.W, .int .i64 m.H, .int .i64 m.C, .slice A4 m.px.length c4] 44)) := ((Below.refl w5.heap.size w5).drew).alloc (Nat.le_refl _) _
          have hne : ∀ g cs t, Bk w5 g t cs → t ≠ 44 → some g ≠ (Value.slice A5 k c5).ownBlock := fun g cs t hB ht e => by
            obtain ⟨cur, hc⟩ := own_tag hx5 e.symm
            have := hc.symm.trans hB
            injection this with this
            injection this with _ this
            exact ht this.symm
          have h9i : ∀ i, i < w5.heap.size → some i ≠ (Value.slice A5 k c5).ownBlock → w9.heap[i]? = w5.heap[i]? := fun i hi hn => (hg9.block i (by have := hbA.size; omega) hn).trans (hbA.block i hi)
          have hks9 : Bk w9 gs 79 _ := (h9i gs hks5.lt (hne gs _ _ hks5 (by decide))).trans hks5
          have kq5' : Bk w5 q 44 #[.int .i64 m.W, .int .i64 m.H, .int .i64 m.C, .slice A4 m.px.length c4] := kq5
          have hqne : some q ≠ (Value.slice A5 k c5).ownBlock := fun e => by have := hvlt q e.symm; omega
          have kq9 := (show Bk w9 q 44 _ from (h9i q kq5'.lt hqne).trans kq5')
          have h0S : (fun w'' : World => w''.cell? ⟨q, 0, none⟩ = some (.int .i64 m.W) ∧ w''.cell? ⟨q, 1, none⟩ = some (.int .i64 m.H) ∧ w''.cell? ⟨q, 2, none⟩ = some (.int .i64 m.C) ∧ w''.cell? ⟨q, 3, none⟩ = some (.slice A4 m.px.length c4)) w5.drew := ⟨d0, d1, d2, d3⟩
          have hAS : (fun w'' : World => w''.cell? ⟨q, 0, none⟩ = some (.int .i64 m.W) ∧ w''.cell? ⟨q, 1, none⟩ = some (.int .i64 m.H) ∧ w''.cell? ⟨q, 2, none⟩ = some (.int .i64 m.C) ∧ w''.cell? ⟨q, 3, none⟩ = some (.slice A4 m.px.length c4)) (w5.drew.alloc (.cells #[.int .i64 m.W, .int .i64 m.H, .int .i64 m.C, .slice A4 m.px.length c4] 44)) := (kq5'.nx hbA).cell4
          have eA : (w5.drew.alloc (.cells #[.int .i64 m.W, .int .i64 m.H, .int .i64 m.C, .slice A4 m.px.length c4] 44)).cell? ⟨gs, 0, none⟩ = some (.slice A5 k c5) := (hks5.nx hbA).cell4.1
          have h9S : (fun w'' : World => w''.cell? ⟨q, 0, none⟩ = some (.int .i64 m.W) ∧ w''.cell? ⟨q, 1, none⟩ = some (.int .i64 m.H) ∧ w''.cell? ⟨q, 2, none⟩ = some (.int .i64 m.C) ∧ w''.cell? ⟨q, 3, none⟩ = some (.slice A4 m.px.length c4)) w9 := kq9.cell4
          have e90 := hks9.cell4.1
          have eB : (w5.alloc (.cells #[.int .i64 m.W, .int .i64 m.H, .int .i64 m.C, .slice A4 m.px.length c4] 44)).cell? ⟨gs, 0, none⟩ = some (.slice A5 k c5) := eA
          have f9 := hks9.frozen 0
          have hks10 := hks9.set 0 (.slice A9 (k + 1) c9)
          simp only [List.setIfInBounds_toArray, List.set_cons_zero] at hks10
          have hzS : (fun w'' : World => w''.cell? ⟨q, 0, none⟩ = some (.int .i64 m.W) ∧ w''.cell? ⟨q, 1, none⟩ = some (.int .i64 m.H) ∧ w''.cell? ⟨q, 2, none⟩ = some (.int .i64 m.C) ∧ w''.cell? ⟨q, 3, none⟩ = some (.slice A4 m.px.length c4)) (w9.setCell ⟨gs, 0, none⟩ (.slice A9 (k + 1) c9)) := (kq9.far (p := ⟨gs, 0, none⟩) (by simp; omega) _).cell4
          have hno5 : ImsOwn w5 w.heap.size (.slice A5 k c5) (ims.take k) := ⟨xs5, hx50, hx51, hx52⟩
          have hgr9 : w5.grownBy w9 (Value.slice A5 k c5).ownBlock := ⟨hg9.os.trans hbA.os, hg9.tape.trans hbA.tape, hg9.output.trans hbA.output, Nat.le_trans hbA.size hg9.size, h9i⟩
          have ho5' : w5.ownsRow w.heap.size 5 1 (.slice A4 m.px.length c4) m.px.length (m.px.map (Value.int .u8)) := own_base ho5 (by omega)
          have hno9 : ImsOwn w9 w.heap.size (.slice A9 (k + 1) c9) (ims.take k ++ [m]) := ImsOwn.snoc hx50 hx51 hx52 ho5' hgr9 (by rw [HL4.out]; exact hown9)
          have hno10 := hno9.far hks9 (by decide) (by decide) (w' := w9.setCell ⟨gs, 0, none⟩ (.slice A9 (k + 1) c9)) (fun i hi => Below.heap_setCell w9 ⟨gs, 0, none⟩ _ i hi)
          rw [← HT.out] at hno10
          have hb10 : Below w.heap.size w (w9.setCell ⟨gs, 0, none⟩ (.slice A9 (k + 1) c9)) := by
            refine (hb6.trans ⟨hgr9.os, hgr9.tape, hgr9.output, hgr9.size, fun i hi => h9i i (by omega) (fun e => ?_)⟩).setCell hgs _
            have := (hx5.lt i e.symm).1
            omega
          clear hno9 hno5 ho5' hgr9 hx50 hx51 hx52 hown9 hg9 hvo hbA hne hqne hvlt kq5 kq5' kq9 hks9 hks5 hx5
          refine wp_region_held_drew (S := (fun w'' : World => w''.cell? ⟨q, 0, none⟩ = some (.int .i64 m.W) ∧ w''.cell? ⟨q, 1, none⟩ = some (.int .i64 m.H) ∧ w''.cell? ⟨q, 2, none⟩ = some (.int .i64 m.C) ∧ w''.cell? ⟨q, 3, none⟩ = some (.slice A4 m.px.length c4))) (by kernel_rfl) h0S (fun hHeld => ?_)
          refine wpAnyH_take (i := 0) (v := ?_) rfl (by kernel_rfl) (by kernel_rfl) (by kernel_rfl) (fun _ _ _ h => h) (Or.inl ⟨by rfl, ?_⟩) (by assumption) ?_
          rotate_left
          · (intro w hSw; (try dsimp only at hSw); go_simp; try with_reducible rfl)
          refine wpAnyH_take (i := 1) (v := ?_) rfl (by kernel_rfl) (by kernel_rfl) (by kernel_rfl) (fun _ _ _ h => h) (Or.inl ⟨by rfl, ?_⟩) (by assumption) ?_
          rotate_left
          · (intro w hSw; (try dsimp only at hSw); go_simp; try with_reducible rfl)
          refine wpAnyH_take (i := 2) (v := ?_) rfl (by kernel_rfl) (by kernel_rfl) (by kernel_rfl) (fun _ _ _ h => h) (Or.inl ⟨by rfl, ?_⟩) (by assumption) ?_
          rotate_left
          · (intro w hSw; (try dsimp only at hSw); go_simp; try with_reducible rfl)
          refine wpAnyH_take (i := 3) (v := ?_) rfl (by kernel_rfl) (by kernel_rfl) (by kernel_rfl) (fun _ _ _ h => h) (Or.inl ⟨by rfl, ?_⟩) (by assumption) ?_
          rotate_left
          · (intro w hSw; (try dsimp only at hSw); go_simp; try with_reducible rfl)
          refine wpAnyH_take (i := 5) (v := ?_) rfl (by kernel_rfl) (by kernel_rfl) (by kernel_rfl) (fun _ _ _ h => h) (Or.inl ⟨by rfl, ?_⟩) (by assumption) ?_
          rotate_left
          · (intro w hSw; (try dsimp only at hSw); go_simp; try with_reducible rfl)
          refine wpAnyH_ready (rs := [4, 6]) (by kernel_rfl) (by simp) ?_
          refine AllReadyH.cons rfl (fun K hK => ?_) (AllReadyH.cons rfl (fun K hK => ?_) AllReadyH.nil)
          · go_simp
            refine hK.out _ _ hHeld (fun hHeld => ?_)
            clear hK K
            refine wpAnyH_ready (rs := [6]) (by kernel_rfl) (by simp) ?_
            refine AllReadyH.cons rfl (fun K hK => ?_) AllReadyH.nil
            go_simp
            refine hK.out _ _ hAS (fun hHeld => ?_)
            clear hK K
            refine wpAnyH_ready (rs := [7]) (by kernel_rfl) (by simp) ?_
            refine AllReadyH.cons rfl (fun K hK => ?_) AllReadyH.nil
            rw [if_pos (by kernel_rfl)]
            refine ca_append_run (v := .slice A5 k c5) _ _ _ rfl rfl rfl hap ?_
            go_simp
            refine hK.out _ _ h9S (fun hHeld => ?_)
            clear hK K
            refine wpAnyH_take (i := 8) (v := ?_) rfl (by kernel_rfl) (by kernel_rfl) (by kernel_rfl) (fun _ _ _ h => h) (Or.inl ⟨by rfl, ?_⟩) (by assumption) ?_
            rotate_left
            · (intro w hSw; (try dsimp only at hSw); go_simp; try with_reducible rfl)
            refine wpAnyH_take (i := 9) (v := ?_) rfl (by kernel_rfl) (by kernel_rfl) (by kernel_rfl) (fun _ _ _ h => h) (Or.inl ⟨by rfl, ?_⟩) (by assumption) ?_
            rotate_left
            · (intro w hSw; (try dsimp only at hSw); go_simp; try with_reducible rfl)
            refine wpAnyH_ready (rs := [10]) (by kernel_rfl) (by simp) ?_
            refine AllReadyH.cons rfl (fun K hK => ?_) AllReadyH.nil
            go_simp
            refine hK.out _ _ hzS (fun hHeld => ?_)
            clear hK K
            refine wpAnyH_done (by kernel_rfl) ?_ _
            go_wp2_with fail
            exact ⟨⟨k + 1, _, by omega, by go_num, hks10, hno10, hb10⟩, by simp [intOf]; omega⟩
          · go_simp
            refine hK.out _ _ hAS (fun hHeld => ?_)
            clear hK K
            refine wpAnyH_ready (rs := [4]) (by kernel_rfl) (by simp) ?_
            refine AllReadyH.cons rfl (fun K hK => ?_) AllReadyH.nil
            go_simp
            refine hK.out _ _ hAS (fun hHeld => ?_)
            clear hK K
            refine wpAnyH_ready (rs := [7]) (by kernel_rfl) (by simp) ?_
            refine AllReadyH.cons rfl (fun K hK => ?_) AllReadyH.nil
            rw [if_pos (by kernel_rfl)]
            refine ca_append_run (v := .slice A5 k c5) _ _ _ rfl rfl rfl hap ?_
            go_simp
            refine hK.out _ _ h9S (fun hHeld => ?_)
            clear hK K
            refine wpAnyH_take (i := 8) (v := ?_) rfl (by kernel_rfl) (by kernel_rfl) (by kernel_rfl) (fun _ _ _ h => h) (Or.inl ⟨by rfl, ?_⟩) (by assumption) ?_
            rotate_left
            · (intro w hSw; (try dsimp only at hSw); go_simp; try with_reducible rfl)
            refine wpAnyH_take (i := 9) (v := ?_) rfl (by kernel_rfl) (by kernel_rfl) (by kernel_rfl) (fun _ _ _ h => h) (Or.inl ⟨by rfl, ?_⟩) (by assumption) ?_
            rotate_left
            · (intro w hSw; (try dsimp only at hSw); go_simp; try with_reducible rfl)
            refine wpAnyH_ready (rs := [10]) (by kernel_rfl) (by simp) ?_
            refine AllReadyH.cons rfl (fun K hK => ?_) AllReadyH.nil
            go_simp
            refine hK.out _ _ hzS (fun hHeld => ?_)
            clear hK K
            refine wpAnyH_done (by kernel_rfl) ?_ _
            go_wp2_with fail
            exact ⟨⟨k + 1, _, by omega, by go_num, hks10, hno10, hb10⟩, by simp [intOf]; omega⟩
        · obtain rfl : k = n := by omega
          rw [List.take_of_length_le (by omega)] at hown
          go_wp2_with fail
          go_returns
          exact ⟨hbel, .inr ⟨HZ.out, gs, v, rfl, hgs, hks, hown⟩⟩
  · have hz : newC ims tw th = imagesC ims := if_pos hck
    have hof' : Calls Tryz.prog 27 #[.slice A n c] w fun e w' => e = .returned (.tuple #[.nilIface, .int .i64 (imagesC ims)]) ∧ Below w.heap.size w w' := hof.mono fun e w' hq => by
      obtain ⟨q1, q2 | ⟨q2, _⟩⟩ := hq
      · exact ⟨q2.2, q1⟩
      · exact absurd q2 hck
    have hnz : (imagesC ims != 0) = true := by simpa using hck
    have hfin : ∀ w', Below w.heap.size w w' → NewP ims tw th w (.returned (.tuple #[.pointer none, .int .i64 (imagesC ims)])) w' := fun w' hb => ⟨hb, .inl ⟨by rw [hz]; exact hck, by rw [hz]⟩⟩
    clear hof hz hpx hA
    generalize imagesC ims = z at *
    go_enter Tryz.func5, Tryz.ntmps5
    go_wp2_with (go_at_call 27; (with_reducible refine hof'.mono ?_); rintro e w1 ⟨rfl, hb1⟩)
    go_returns
    exact hfin _ hb1
end Go.Proofs.YtahiaeaobbofbaaGreat
end
section
set_option linter.unusedVariables false
namespace Go.Proofs.YtahiaeaobbofbaaGreat
open Go.RowKit
theorem cnew_nil (most : Int) (w : World) : Calls Tryz.prog 6 #[.pointer none, .int .i64 most] w fun e w' => e = .returned (.tuple #[.pointer none, .int .i64 10]) ∧ w = w' := by
  go_enter Tryz.func6, Tryz.ntmps6
  go_wp2_with fail
  go_returns
  exact ⟨rfl, rfl⟩
theorem cnew_bad (a : Addr) (most : Int) (w : World) (hm : most < 1 ∨ most > 65536) : Calls Tryz.prog 6 #[.pointer (some a), .int .i64 most] w fun e w' => e = .returned (.tuple #[.pointer none, .int .i64 10]) ∧ w = w' := by
  by_cases h1 : most < 1
  · clear hm
    go_enter Tryz.func6, Tryz.ntmps6
    go_wp2_with fail
    go_returns
    exact ⟨rfl, rfl⟩
  · have h2 : most > 65536 := by omega
    clear hm
    go_enter Tryz.func6, Tryz.ntmps6
    go_wp2_with fail
    go_returns
    exact ⟨rfl, rfl⟩
def s00 : CS := ⟨0, [], [], 0, 0, 0, 0, [], 0⟩
set_option maxRecDepth 100000 in
set_option maxHeartbeats 16000000 in
theorem cnew_ok (gs : Nat) (most : Int) (w : World) (hm : 1 ≤ most ∧ most ≤ 65536) :
    Calls Tryz.prog 6 #[.pointer (some ⟨gs, 0, none⟩), .int .i64 most] w fun e w' => e = .returned (.tuple #[.pointer (some ⟨w.heap.size + 3, 0, none⟩), .int .i64 0]) ∧
      w' = (((w.alloc (.map #[] 0)).alloc (.map #[] 0)).alloc (.cells agZ 106)).alloc (.cells #[.pointer (some ⟨gs, 0, none⟩), .int .i64 most, .map (some w.heap.size), .slice none 0 0, .map (some (w.heap.size + 1)), .pointer (some ⟨w.heap.size + 2, 0, none⟩), .int .i64 0, .int .i64 0, .int .i64 0, .int .i64 0, .slice none 0 0] 41) := by
  have h1 : ¬ most < 1 := by omega
  have h2 : ¬ most > 65536 := by omega
  have hnew := fun w => agnew_any w
  have hmm := @run_makeMap Tryz.prog
  clear hm
  go_enter Tryz.func6, Tryz.ntmps6
  go_wp2_with (go_at_call 29; (with_reducible refine (hnew _).mono ?_); rintro e w1 ⟨rfl, rfl⟩)
  go_returns
  refine ⟨?_, ?_⟩
  all_goals simp
section
variable {w w' : World}
/-- A new cache. -/
theorem CaP.start {ims : List Im} {A : Option Addr} {n c gs lo : Nat} {tw th most : Int} (hS : Bk w gs 79 (soA A n c tw th 0)) (hI : ImsOwn w lo (.slice A n c) ims) (hlo : lo ≤ gs) (hn : ims.length = n) (hsm : n ≤ 100000)
    (hck : ∀ m ∈ ims, checkC m.W m.H m.C m.px.length = 0) (htw : (1 ≤ tw ∧ tw ≤ 4096) ∧ (1 ≤ th ∧ th ≤ 4096)) (hm : 1 ≤ most ∧ most ≤ 65536)
    (hw : w' = (((w.alloc (.map #[] 0)).alloc (.map #[] 0)).alloc (.cells agZ 106)).alloc (.cells #[.pointer (some ⟨gs, 0, none⟩), .int .i64 most, .map (some w.heap.size), .slice none 0 0, .map (some (w.heap.size + 1)), .pointer (some ⟨w.heap.size + 2, 0, none⟩), .int .i64 0, .int .i64 0, .int .i64 0, .int .i64 0, .slice none 0 0] 41)) :
    ∃ r, CaP ⟨ims, A, n, c, tw, th, gs, w.heap.size + 3, most, lo⟩ 0 s00 r w' w.heap.size (w.heap.size + 1) (w.heap.size + 2) (.slice none 0 0) (.slice none 0 0) 0 0 (fun _ => none) := by
  have hgs := hS.lt
  have b1 : Below w.heap.size w (w.alloc (.map #[] 0)) := (Below.refl _ _).alloc (Nat.le_refl _) _
  have b2 : Below (w.heap.size + 1) (w.alloc (.map #[] 0)) ((w.alloc (.map #[] 0)).alloc (.map #[] 0)) := (Below.refl _ _).alloc (by simp) _
  have b3 : Below (w.heap.size + 2) ((w.alloc (.map #[] 0)).alloc (.map #[] 0)) (((w.alloc (.map #[] 0)).alloc (.map #[] 0)).alloc (.cells agZ 106)) := (Below.refl _ _).alloc (by simp) _
  have b4 : Below (w.heap.size + 3) (((w.alloc (.map #[] 0)).alloc (.map #[] 0)).alloc (.cells agZ 106)) w' := by rw [hw]; exact (Below.refl _ _).alloc (by simp) _
  have hb : Below w.heap.size w w' := ((b1.trans (b2.mono (by omega))).trans (b3.mono (by omega))).trans (b4.mono (by omega))
  have hz : w'.heap.size = w.heap.size + 4 := by rw [hw]; simp
  have km : Gm Tryz.prog 48 tkey w' w.heap.size 0 (idxV []) := (gm_made tkey w Tryz.prog 48).same (((b2.trans (b3.mono (by omega))).trans (b4.mono (by omega))).block _ (by omega))
  have am : Gm Tryz.prog 3 ikey w' (w.heap.size + 1) 0 (fun _ => none) := by
    have := gm_made ikey (w.alloc (.map #[] 0)) Tryz.prog 3
    rw [show (w.alloc (.map #[] 0)).heap.size = w.heap.size + 1 by simp] at this
    exact this.same ((b3.trans (b4.mono (by omega))).block _ (by omega))
  have ka : Bk w' (w.heap.size + 2) 106 agZ := by
    have := Bk.new ((w.alloc (.map #[] 0)).alloc (.map #[] 0)) 106 agZ
    rw [show ((w.alloc (.map #[] 0)).alloc (.map #[] 0)).heap.size = w.heap.size + 2 by simp] at this
    exact (b4.block _ (by omega)).trans this
  have kc : Bk w' (w.heap.size + 3) 41 #[.pointer (some ⟨gs, 0, none⟩), .int .i64 most, .map (some w.heap.size), .slice none 0 0, .map (some (w.heap.size + 1)), .pointer (some ⟨w.heap.size + 2, 0, none⟩), .int .i64 0, .int .i64 0, .int .i64 0, .int .i64 0, .slice none 0 0] := by
    have := Bk.new (((w.alloc (.map #[] 0)).alloc (.map #[] 0)).alloc (.cells agZ 106)) 41 #[.pointer (some ⟨gs, 0, none⟩), .int .i64 most, .map (some w.heap.size), .slice none 0 0, .map (some (w.heap.size + 1)), .pointer (some ⟨w.heap.size + 2, 0, none⟩), .int .i64 0, .int .i64 0, .int .i64 0, .int .i64 0, .slice none 0 0]
    rw [show (((w.alloc (.map #[] 0)).alloc (.map #[] 0)).alloc (.cells agZ 106)).heap.size = w.heap.size + 3 by simp, ← hw] at this
    exact this
  let r : Nat → Nat := fun b => if b = w.heap.size + 3 then 1 else if b = gs then 2 else if b = w.heap.size then 3 else if b = w.heap.size + 1 then 4 else if b = w.heap.size + 2 then 7 else 0
  have rE : ∀ b, r b = if b = w.heap.size + 3 then 1 else if b = gs then 2 else if b = w.heap.size then 3 else if b = w.heap.size + 1 then 4 else if b = w.heap.size + 2 then 7 else 0 := fun _ => rfl
  have r0 : ∀ b, b < w.heap.size → b ≠ gs → r b = 0 := fun b hb hg => by simp only [r]; rw [if_neg (by omega), if_neg hg, if_neg (by omega), if_neg (by omega), if_neg (by omega)]
  have r7 : (fun b => r b = 7) = fun b => b = w.heap.size + 2 := by
    funext b
    apply propext
    simp only [r]
    constructor
    · intro h
      split at h
      · cases h
      · split at h
        · cases h
        · split at h
          · cases h
          · split at h
            · cases h
            · split at h
              · assumption
              · cases h
    · intro h
      rw [if_neg (by omega), if_neg (by omega), if_neg (by omega), if_neg (by omega), if_pos h]
  have hne : ∀ {e : TypeId} {b : Nat} {cur : Array Value}, w.heap[b]? = some (.cells cur e) → 79 ≠ e → b ≠ gs := fun {e b cur} hc ht e2 => by
    subst e2
    have := hc.symm.trans hS
    injection this with this
    injection this with _ this
    exact ht this.symm
  have him : ImsR w' r A ims := by
    obtain ⟨xs, a1, a2, a3⟩ := hI
    have rdr : ∀ {e : TypeId} {size k : Nat} {B : Option Addr} {cp : Nat} {ys : List Value}, w.ownsRow lo e size (.slice B k cp) k ys → 79 ≠ e → RdR w' r B ys := fun {e size k B cp ys} ho ht => by
      intro j hj
      obtain ⟨A', c', e1, _, _, hrd, _⟩ := own_form ho
      injection e1 with e1 e2 e3
      subst e1
      obtain ⟨b, o, e4, h5, h6⟩ := hrd j hj
      have hcur := own_tag ho (b := b) (by rw [e4]; rfl)
      obtain ⟨cur, hc⟩ := hcur
      exact ⟨b, o, e4, r0 b h5 (hne hc ht), by omega, (hb.cell (p := ⟨b, o + j, none⟩) h5).trans h6⟩
    rw [hn] at a1
    refine ⟨xs, rdr a1 (by decide), a2, fun i hi hi' => ?_⟩
    obtain ⟨s, e1, e2⟩ := a3 i hi hi'
    obtain ⟨Ai, ci, rfl, q1, _⟩ := own_form e2
    exact ⟨Ai, ci, e1, q1, rdr e2 (by decide)⟩
  refine ⟨r, ?_⟩
  exact {
    cb := kc, so := hS.nx hb, im := him, km := km, am := am, tr := World.ownsRow_nil _ _ _ _, sr := World.ownsRow_nil _ _ _ _,
    ag := by rw [r7]; exact ag_zero ka,
    rc := by rw [rE, if_pos rfl], rs := by rw [rE, if_neg (by show gs ≠ _; omega), if_pos rfl], rk := by rw [rE, if_neg (by omega), if_neg (by omega), if_pos rfl],
    ra := by rw [rE, if_neg (by omega), if_neg (by omega), if_neg (by omega), if_pos rfl],
    rt := fun b hb => (by cases hb), rv := fun b hb => (by cases hb), rg := by rw [rE, if_neg (by omega), if_neg (by omega), if_neg (by omega), if_neg (by omega), if_pos rfl],
    lt := fun b hr => by
      rcases Nat.lt_or_ge b w'.heap.size with h | h
      · exact h
      · refine absurd ?_ hr
        (simp only [r]; rw [if_neg (by omega), if_neg (by omega), if_neg (by omega), if_neg (by omega), if_neg (by omega)]),
    ge := fun b hr => by
      show lo ≤ b
      by_cases h : b < w.heap.size ∧ b ≠ gs
      · exact absurd (r0 b h.1 h.2) hr
      · (by_cases h2 : b = gs <;> omega),
    hit := fun k hk => (by cases hk), mis := fun z _ => rfl, len := hn, small := hsm, ck := hck, tws := htw, tv := fun t ht => (by cases ht), nd := List.nodup_nil,
    bk := ⟨by omega, by omega, by simp [s00], by simp [s00]⟩, bc := ⟨by simp [s00], by simp [s00], by simp [s00], by simp [s00], by simp [s00]⟩, bm := hm,
    bh := ⟨by simp [s00], by simp [s00]; omega⟩, bl := by simp [s00]; omega, kd := by simp [s00] }
end
end Go.Proofs.YtahiaeaobbofbaaGreat
end
section
set_option linter.unusedVariables false
namespace Go.Proofs.YtahiaeaobbofbaaGreat
open Go.RowKit
theorem eq2_bool (a b c d : Int) : decide ((a, b) = (c, d)) = ((a == c) && (b == d)) := by
  by_cases h1 : a = c <;> by_cases h2 : b = d <;> simp [h1, h2]
theorem eql_tile (a b c d : Int) (w : World) : (binOp .eql 48 (.agg (tiA a b)) (.agg (tiA c d))).run Tryz.prog w = .ok (.bool (decide ((a, b) = (c, d)))) w := by
  rw [eq2_bool]
  simp [go_sem, Tryz.underlying48]
  by_cases h1 : a = c <;> by_cases h2 : b = d <;> simp [h1, h2]
set_option maxHeartbeats 4000000 in
theorem tix_any (S : List (Int × Int)) (A : Option Addr) (n c B : Nat) (t : Int × Int) (w : World) (hn : S.length = n) (hsm : n ≤ 1000000) (hr : Rd w B A (encT S)) (hB : B ≤ w.heap.size) :
    Calls Tryz.prog 55 #[.slice A n c, .agg (tiA t.1 t.2)] w fun e w' => (∃ z : Int, e = .returned (.int .i64 z) ∧ decide (z ≥ 0) = decide (t ∈ S)) ∧ Below w.heap.size w w' := by
  obtain ⟨t1, t2⟩ := t
  simp only
  have hb1 := (Below.refl w.heap.size w).alloc (Nat.le_refl _) (.cells (tiA t1 t2) 48)
  have k0 := Bk.new w 48 (tiA t1 t2)
  go_enter Tryz.func55, Tryz.ntmps55
  go_upto_region 1 with fail
  generalize hw1 : w.alloc (.cells (tiA t1 t2) 48) = w1 at *
  go_wp2_with fail
  go_loopw [8] (fun i wr => ∃ k : Nat, k ≤ n ∧ i = .int .i64 k ∧ (t1, t2) ∉ S.take k ∧ Below w1.heap.size w1 wr) (fun i _ => n - (intOf i).toNat)
  case atStart => exact ⟨0, by omega, rfl, by simp, Below.refl _ _⟩
  case round =>
    obtain ⟨k, hk, rfl, hni, hbel⟩ := hrel
    by_cases hlt : k < n
    · have hk2 : k < S.length := by omega
      have hl := encT_len S
      obtain ⟨b, o, rfl, hbB, e0⟩ := hr (k * 2) (by omega)
      obtain ⟨b', o', e', _, e1⟩ := hr (k * 2 + 1) (by omega)
      injection e' with e'; injection e' with q1 q2
      subst q1; subst q2
      obtain ⟨g0, g1⟩ := encT_get S k hk2
      rw [List.getElem?_eq_getElem (by omega)] at g0 g1
      rw [Option.some.inj g0] at e0
      rw [Option.some.inj g1] at e1
      have HT := Lib.hid (List.take_succ_eq_append_getElem hk2)
      have hm : S[k] ∈ S := List.getElem_mem hk2
      generalize S[k] = s at *
      obtain ⟨s1, s2⟩ := s
      simp only at e0 e1
      have kr := k0.nx hbel
      obtain ⟨d0, d1⟩ := kr.cell2
      have f0 := (hbel.cell (p := ⟨b, o + k * 2, none⟩) (by have := hb1.size; show b < _; omega)).trans ((hb1.cell (p := ⟨b, o + k * 2, none⟩) (by show b < _; omega)).trans e0)
      have f1 := (hbel.cell (p := ⟨b, o + (k * 2 + 1), none⟩) (by have := hb1.size; show b < _; omega)).trans ((hb1.cell (p := ⟨b, o + (k * 2 + 1), none⟩) (by show b < _; omega)).trans e1)
      rw [show o + (k * 2 + 1) = o + k * 2 + 1 by omega] at f1
      have hE := fun w => eql_tile t1 t2 s1 s2 w
      by_cases hq : (t1, t2) = (s1, s2)
      · rw [decide_eq_true hq] at hE
        have HQ := Lib.hid hq
        have HM := Lib.hid hm
        have hz := hb1.size
        clear hq hm kr k0 hr e0 e1
        go_upto_region 4 with fail
        go_quiet ((fail))
        go_wp2_with fail
        go_returns
        refine ⟨⟨k, rfl, ?_⟩, hb1.trans ((below_drewN hbel _).mono hz)⟩
        have hmem := HM.out
        rw [← HQ.out] at hmem
        simp [hmem]
      · rw [decide_eq_false hq] at hE
        have HQ := Lib.hid hq
        clear hq hm kr k0 hr e0 e1
        go_upto_region 4 with fail
        go_quiet ((fail))
        go_wp2_with fail
        refine ⟨⟨k + 1, by omega, by go_num, ?_, below_drewN hbel _⟩, by simp [intOf]; omega⟩
        rw [HT.out]
        simp only [List.mem_append, List.mem_singleton, not_or]
        exact ⟨hni, HQ.out⟩
    · obtain rfl : k = n := by omega
      rw [List.take_of_length_le (by omega)] at hni
      go_wp2_with fail
      go_returns
      exact ⟨⟨-1, rfl, by simp [hni]⟩, hb1.trans (hbel.mono (by have := hb1.size; omega))⟩
theorem tcon_any (S : List (Int × Int)) (A : Option Addr) (n c B : Nat) (t : Int × Int) (w : World) (hn : S.length = n) (hsm : n ≤ 1000000) (hr : Rd w B A (encT S)) (hB : B ≤ w.heap.size) :
    Calls Tryz.prog 35 #[.slice A n c, .agg (tiA t.1 t.2)] w fun e w' => e = .returned (.bool (decide (t ∈ S))) ∧ Below w.heap.size w w' := by
  obtain ⟨t1, t2⟩ := t
  simp only
  have hb1 := (Below.refl w.heap.size w).alloc (Nat.le_refl _) (.cells (tiA t1 t2) 48)
  have k0 := Bk.new w 48 (tiA t1 t2)
  obtain ⟨d0, d1⟩ := k0.cell2
  have hI := tix_any S A n c B (t1, t2) (w.alloc (.cells (tiA t1 t2) 48)) hn hsm (hr.keep (fun p hp => hb1.cell (by omega))) (by have := hb1.size; omega)
  simp only at hI
  generalize decide ((t1, t2) ∈ S) = bb at *
  clear k0 hr
  go_enter Tryz.func35, Tryz.ntmps35
  go_upto_region 1 with fail
  generalize w.alloc (.cells (tiA t1 t2) 48) = w1 at *
  go_wp2_with (go_at_call 55; (with_reducible refine hI.mono ?_); rintro e w2 ⟨⟨z, rfl, hz⟩, hb2⟩)
  go_returns
  exact ⟨rfl, hb1.trans (hb2.mono hb1.size)⟩
end Go.Proofs.YtahiaeaobbofbaaGreat
end
section
set_option linter.unusedVariables false
namespace Go.Proofs.YtahiaeaobbofbaaGreat
open Go.RowKit
theorem tl_at {W H TW TH x y : Int} (h0 : grC W H TW TH = 0) (hx : 0 ≤ x ∧ x < W) (hy : 0 ≤ y ∧ y < H) :
    (0 ≤ tlI W TW TH x y ∧ tlI W TW TH x y < grN W TW * grN H TH) ∧ (tlX W TW (tlI W TW TH x y) ≤ x ∧ x < min (tlX W TW (tlI W TW TH x y) + TW) W) ∧ (tlY W TW TH (tlI W TW TH x y) ≤ y ∧ y < min (tlY W TW TH (tlI W TW TH x y) + TH) H) := by
  obtain ⟨hW, hH, hTW, hTH⟩ := grC_zero.1 h0
  have d1 := Int.mul_ediv_add_emod x TW
  have d2 := Int.mul_ediv_add_emod y TH
  have m1 := Int.emod_nonneg x (show TW ≠ 0 by omega)
  have m2 := Int.emod_lt_of_pos x (show 0 < TW by omega)
  have m3 := Int.emod_nonneg y (show TH ≠ 0 by omega)
  have m4 := Int.emod_lt_of_pos y (show 0 < TH by omega)
  have q1 : 0 ≤ x / TW := Int.ediv_nonneg (by omega) (by omega)
  have q2 : 0 ≤ y / TH := Int.ediv_nonneg (by omega) (by omega)
  have g1 : x / TW < grN W TW := by
    unfold grN
    refine Int.lt_of_add_one_le ?_
    refine (Int.le_ediv_iff_mul_le (by omega)).2 ?_
    rw [Int.add_mul, Int.one_mul, Int.mul_comm]
    omega
  have g2 : y / TH < grN H TH := by
    unfold grN
    refine Int.lt_of_add_one_le ?_
    refine (Int.le_ediv_iff_mul_le (by omega)).2 ?_
    rw [Int.add_mul, Int.one_mul, Int.mul_comm]
    omega
  have e1 : tlI W TW TH x y % grN W TW = x / TW := by
    unfold tlI
    rw [Int.add_comm, Int.add_mul_emod_self_right]
    exact Int.emod_eq_of_lt q1 g1
  have e2 : tlI W TW TH x y / grN W TW = y / TH := by
    unfold tlI
    rw [Int.add_comm, Int.add_mul_ediv_right _ _ (by omega), Int.ediv_eq_zero_of_lt q1 g1]
    omega
  have b1 : 0 ≤ y / TH * grN W TW := Int.mul_nonneg q2 (by omega)
  have b2 : y / TH * grN W TW ≤ (grN H TH - 1) * grN W TW := Int.mul_le_mul_of_nonneg_right (by omega) (by omega)
  rw [Int.sub_mul, Int.one_mul, Int.mul_comm (grN H TH)] at b2
  refine ⟨⟨by unfold tlI; omega, by unfold tlI; omega⟩, ?_, ?_⟩
  · unfold tlX
    rw [e1, Int.mul_comm]
    omega
  · unfold tlY
    rw [e2, Int.mul_comm]
    omega
theorem flat_getD {f : Nat → List Int} {L : Nat} : ∀ (k : Nat), (∀ j, j < k → (f j).length = L) → ∀ j p, j < k → p < L → ((List.range k).flatMap f).getD (j * L + p) 0 = (f j).getD p 0
  | 0, _, j, _, hj, _ => by omega
  | k + 1, h, j, p, hj, hp => by
    have hl : ((List.range k).flatMap f).length = k * L := by
      have hh : ∀ q, q ≤ k → ((List.range q).flatMap f).length = q * L := by
        intro q
        induction q with
        | zero => intro _; simp
        | succ q ih =>
          intro hq
          rw [List.range_succ, List.flatMap_append, List.length_append, ih (by omega)]
          simp only [List.flatMap_cons, List.flatMap_nil, List.append_nil]
          rw [h q (by omega), Nat.add_mul, Nat.one_mul]
      exact hh k (Nat.le_refl _)
    rw [List.range_succ, List.flatMap_append]
    simp only [List.flatMap_cons, List.flatMap_nil, List.append_nil]
    by_cases e : j < k
    · have hlt : j * L + p < k * L := by
        have : (j + 1) * L ≤ k * L := Nat.mul_le_mul_right L (by omega)
        rw [Nat.add_mul] at this
        omega
      have := flat_getD k (fun j hj => h j (by omega)) j p e hp
      rw [List.getD_eq_getElem?_getD, List.getElem?_append_left (by rw [hl]; exact hlt), ← List.getD_eq_getElem?_getD]
      exact this
    · obtain rfl : j = k := by omega
      rw [List.getD_eq_getElem?_getD, List.getElem?_append_right (by rw [hl]; omega), hl, ← List.getD_eq_getElem?_getD]
      congr 1
      omega
theorem flat_length {f : Nat → List Int} {L : Nat} (k : Nat) (h : ∀ j, j < k → (f j).length = L) : ((List.range k).flatMap f).length = k * L := by
  have hh : ∀ q, q ≤ k → ((List.range q).flatMap f).length = q * L := by
    intro q
    induction q with
    | zero => intro _; simp
    | succ q ih =>
      intro hq
      rw [List.range_succ, List.flatMap_append, List.length_append, ih (by omega)]
      simp only [List.flatMap_cons, List.flatMap_nil, List.append_nil]
      rw [h q (by omega), Nat.add_mul, Nat.one_mul]
  exact hh k (Nat.le_refl _)
/-- A tile's size and bytes. -/
theorem crop_ck (m : Im) (a b c d : Int) (hck : checkC m.W m.H m.C m.px.length = 0) (ha : 0 ≤ a ∧ a < c) (hc : c ≤ m.W) (hb : 0 ≤ b ∧ b < d) (hd : d ≤ m.H) :
    checkC (c - a) (d - b) m.C (cropL m a b c (d - b).toNat).length = 0 := by
  obtain ⟨hf, hl⟩ := ck_parts hck
  obtain ⟨hcc, hw1, hw2, hh1, hh2, hp⟩ := fitsC_ok hf
  have hlen : (cropL m a b c (d - b).toNat).length = (d - b).toNat * ((c - a) * m.C).toNat := flat_length _ (fun j hj => rowL_len m a b c j hck ha hc hb.1 (by omega))
  have hpr : (c - a) * (d - b) ≤ m.W * m.H := Int.mul_le_mul (by omega) (by omega) (by omega) (by omega)
  have hff : fitsC (c - a) (d - b) m.C = 0 := by
    unfold fitsC
    rw [if_neg (by omega), if_neg (by omega), if_neg (by omega)]
  unfold checkC
  rw [hff, if_neg]
  intro h
  refine h.2 ?_
  rw [hlen]
  have hnn : 0 ≤ (c - a) * m.C := Int.mul_nonneg (by omega) (by omega)
  push_cast
  rw [Int.toNat_of_nonneg (by omega), Int.toNat_of_nonneg hnn, ← Int.mul_assoc, Int.mul_comm (d - b)]
/-- A tile's pixel is the image's. -/
theorem crop_get (m : Im) (a b c d x y k : Int) (hck : checkC m.W m.H m.C m.px.length = 0) (ha : 0 ≤ a ∧ a < c) (hc : c ≤ m.W) (hb : 0 ≤ b ∧ b < d) (hd : d ≤ m.H) (hx : a ≤ x ∧ x < c) (hy : b ≤ y ∧ y < d) (hk : 0 ≤ k ∧ k < m.C) :
    (cropL m a b c (d - b).toNat).getD (((y - b) * (c - a) + (x - a)) * m.C + k).toNat 0 = m.px.getD ((y * m.W + x) * m.C + k).toNat 0 := by
  obtain ⟨hf, hl⟩ := ck_parts hck
  obtain ⟨hcc, hw1, hw2, hh1, hh2, hp⟩ := fitsC_ok hf
  obtain ⟨r1, r2, r3⟩ := row_bd (C := m.C) (by omega) ⟨hw1, hw2⟩ ⟨hh1, hh2⟩ ha hc (y := y) ⟨by omega, by omega⟩
  have hnn : 0 ≤ (x - a) * m.C := Int.mul_nonneg (by omega) (by omega)
  have hlt : (x - a) * m.C + k < (c - a) * m.C := by
    have : (x - a + 1) * m.C ≤ (c - a) * m.C := Int.mul_le_mul_of_nonneg_right (by omega) (by omega)
    rw [Int.add_mul, Int.one_mul] at this
    omega
  have hyy : 0 ≤ (y - b) * ((c - a) * m.C) := Int.mul_nonneg (by omega) (by omega)
  have e : (((y - b) * (c - a) + (x - a)) * m.C + k).toNat = (y - b).toNat * ((c - a) * m.C).toNat + ((x - a) * m.C + k).toNat := by
    have h1 : ((y - b) * (c - a) + (x - a)) * m.C + k = (y - b) * ((c - a) * m.C) + ((x - a) * m.C + k) := by rw [Int.add_mul, Int.mul_assoc]; omega
    have h2 : (((y - b).toNat * ((c - a) * m.C).toNat : Nat) : Int) = (y - b) * ((c - a) * m.C) := by
      push_cast
      rw [Int.toNat_of_nonneg (by omega), Int.toNat_of_nonneg (by omega)]
    rw [h1]
    omega
  rw [e]
  have hg := flat_getD (f := rowL m a b c) (L := ((c - a) * m.C).toNat) (d - b).toNat (fun j hj => rowL_len m a b c j hck ha hc hb.1 (by omega)) (y - b).toNat ((x - a) * m.C + k).toNat (by omega) (by omega)
  unfold cropL
  rw [hg]
  unfold rowL
  rw [List.getD_eq_getElem?_getD, List.getElem?_take_of_lt (by omega), List.getElem?_drop, ← List.getD_eq_getElem?_getD]
  congr 1
  rw [show b + ((y - b).toNat : Int) = y by omega]
  have h3 : (y * m.W + x) * m.C = (y * m.W + a) * m.C + (x - a) * m.C := by rw [← Int.add_mul]; congr 1; omega
  rw [h3]
  omega
end Go.Proofs.YtahiaeaobbofbaaGreat
end
section
set_option linter.unusedVariables false
namespace Go.Proofs.YtahiaeaobbofbaaGreat
open Go.RowKit
section
variable {r r' r'' : Nat → Nat} {w w' w'' : World} {K : SC} {U : Nat} {s : CS} {kb ab ga nk na : Nat} {vt vs : Value} {AM : Int → Option Value}
/-- A tile is put onto the list of the seen. -/
theorem CaP.seen (h : CaP K U s r w kb ab ga vt vs nk na AM) {t : Int × Int} {vs' : Value}
    (g : Chg r (fun q => q = 1 ∨ q = 6) w w') (cb' : Bk w' K.gc 41 (caA K s kb ab ga vt vs'))
    (sr' : w'.ownsRow 0 48 2 vs' (s.S.length + 1) (encT s.S ++ encT [t])) (ho : vs'.ownBlock = vs.ownBlock ∨ ∃ b, vs'.ownBlock = some b ∧ w.heap.size ≤ b) (hlo : K.lo ≤ w.heap.size) :
    ∃ r', CaP K (U + 1) { s with S := s.S ++ [t] } r' w' kb ab ga vt vs' nk na AM ∧ Step r w r' w' := by
  have hext : ∀ b, b < w.heap.size → (if vs'.ownBlock = some b then 6 else r b) = r b := fun b hb => by
    by_cases e : vs'.ownBlock = some b
    · rw [if_pos e]
      rcases ho with h1 | ⟨b', h1, h2⟩
      · exact (h.rv b (by rw [← h1]; exact e)).symm
      · rw [e] at h1; injection h1 with h1; omega
    · rw [if_neg e]
  have hz := g.size
  have hlt : ∀ b, r b ≠ 0 → b < w.heap.size := h.lt
  have hnew : ∀ b, vs'.ownBlock = some b → b < w'.heap.size := fun b hb => (sr'.lt b hb).2
  have hag : Ag (fun b => (if vs'.ownBlock = some b then 6 else r b) = 7) w' ga s.now (s.ks.map natI) := by
    have h1 := g.ag h.ag (fun b hb e => by rcases e with e | e <;> simp_all)
    have h2 : (fun b => (if vs'.ownBlock = some b then 6 else r b) = 7) = fun b => r b = 7 := by
      funext b
      apply propext
      constructor
      · intro e
        by_cases e2 : vs'.ownBlock = some b
        · rw [if_pos e2] at e; cases e
        · rw [if_neg e2] at e; exact e
      · intro e
        rw [hext b (hlt b (by omega))]; exact e
    rw [h2]; exact h1
  rw [← encT_app] at sr'
  obtain ⟨b1, b2, b3, b4⟩ := h.bk
  obtain ⟨c1, c2, c3, c4, c5⟩ := h.bc
  refine ⟨fun b => if vs'.ownBlock = some b then 6 else r b, ?_, ⟨⟨g.bel, fun i hi hF => g.out i hi (fun e => hF (by rcases e with e | e <;> (rw [e]; decide)))⟩, hext⟩⟩
  exact {
    cb := cb', so := g.bk h.so (by rw [h.rs]; decide), im := h.im.step g (by decide) hext,
    km := g.gm h.km (by rw [h.rk]; decide), am := g.gm h.am (by rw [h.ra]; decide), sr := by simpa using sr', tr := g.own h.tr (fun b hb => by rw [h.rt b hb]; decide), ag := hag,
    rc := by rw [hext _ h.cb.lt]; exact h.rc, rs := by rw [hext _ h.so.lt]; exact h.rs, rk := by rw [hext _ (hlt kb (by rw [h.rk]; decide))]; exact h.rk, ra := by rw [hext _ (hlt ab (by rw [h.ra]; decide))]; exact h.ra,
    rv := fun b hb => by rw [if_pos hb], rt := fun b hb => by rw [hext b (hlt b (by rw [h.rt b hb]; decide))]; exact h.rt b hb, rg := by rw [hext _ (hlt ga (by rw [h.rg]; decide))]; exact h.rg,
    lt := fun b hr => by
      by_cases e : vs'.ownBlock = some b
      · exact hnew b e
      · rw [if_neg e] at hr; exact Nat.lt_of_lt_of_le (hlt b hr) hz,
    ge := fun b hr => by
      by_cases hl : b < w.heap.size
      · rw [hext b hl] at hr; exact h.ge b hr
      · omega,
    hit := fun k hk => by
      obtain ⟨h1, v, h2, h3⟩ := h.hit k hk
      exact ⟨h1, v, h2, h3.step g (by decide) hext⟩,
    mis := h.mis, len := h.len, small := h.small, ck := h.ck, tws := h.tws, tv := h.tv, nd := h.nd,
    bk := ⟨by omega, by omega, by simp; omega, by simp; omega⟩,
    bc := ⟨by simp; omega, by simp; omega, by simp; omega, by simp; omega, by simp; omega⟩,
    bm := h.bm, bh := h.bh, bl := h.bl, kd := h.kd }
theorem cok (h : CaP K U s r w kb ab ga vt vs nk na AM) : Calls Tryz.prog 30 #[.pointer (some ⟨K.gc, 0, none⟩)] w fun e w' => e = .returned (.bool true) ∧ w = w' := by
  obtain ⟨c0, c1, c2, c3, c4, c5, c6, c7, c8, c9, c10⟩ := h.cb.cell11'
  clear c1 c2 c3 c4 c5 c6 c7 c8 c9 c10
  go_enter Tryz.func30, Tryz.ntmps30
  go_wp2_with fail
  go_returns
  exact ⟨rfl, rfl⟩
theorem clen (h : CaP K U s r w kb ab ga vt vs nk na AM) : Calls Tryz.prog 9 #[.pointer (some ⟨K.gc, 0, none⟩)] w fun e w' => e = .returned (.int .i64 (s.ks.length : Nat)) ∧ w = w' := by
  have hok := cok h
  have hl := h.ag.len
  rw [List.length_map] at hl
  obtain ⟨c0, c1, c2, c3, c4, c5, c6, c7, c8, c9, c10⟩ := h.cb.cell11'
  clear c0 c1 c2 c3 c4 c6 c7 c8 c9 c10
  generalize s.ks.length = L at *
  go_enter Tryz.func9, Tryz.ntmps9
  go_wp2_with (first
    | (go_at_call 30; (with_reducible refine hok.mono ?_); rintro e w1 ⟨rfl, rfl⟩)
    | (go_at_call 33; (with_reducible refine hl.mono ?_); rintro e w1 ⟨rfl, rfl⟩))
  go_returns
  exact ⟨rfl, rfl⟩
abbrev stV (s : CS) : Array Value := #[.int .i64 s.hits, .int .i64 s.loads, .int .i64 s.drops, .int .i64 s.high]
theorem st_size : (Tryz.prog.info? 39).map (fun i => (i.size, i.zero)) = some (4, some (.agg #[.int .i64 0, .int .i64 0, .int .i64 0, .int .i64 0])) := by kernel_rfl
end
end Go.Proofs.YtahiaeaobbofbaaGreat
end
section
set_option linter.unusedVariables false
namespace Go.Proofs.YtahiaeaobbofbaaGreat
open Go.RowKit
section
variable {r r' r'' : Nat → Nat} {w w' w'' : World} {K : SC} {U : Nat} {s : CS} {kb ab ga nk na : Nat} {vt vs : Value} {AM : Int → Option Value}
theorem stz_size : (Tryz.prog.info? 39).map (·.size) = some 4 := by kernel_rfl
set_option maxRecDepth 100000 in
set_option maxHeartbeats 4000000 in
theorem cstats (h : CaP K U s r w kb ab ga vt vs nk na AM) : Calls Tryz.prog 8 #[.pointer (some ⟨K.gc, 0, none⟩)] w fun e w' => e = .returned (.agg (stV s)) ∧ Below w.heap.size w w' := by
  have hb1 := (Below.refl w.heap.size w).alloc (Nat.le_refl _) (.cells #[.int .i64 0, .int .i64 0, .int .i64 0, .int .i64 0] 39)
  have k2 := Bk.new w 39 #[.int .i64 0, .int .i64 0, .int .i64 0, .int .i64 0]
  have hx := h.nx hb1
  have hok := cok hx
  obtain ⟨c0, c1, c2, c3, c4, c5, c6, c7, c8, c9, c10⟩ := hx.cb.cell11'
  clear c0 c1 c2 c3 c4 c5 c10 hx h
  obtain ⟨hh, l, d, g, e0, e1, e2, e3, e4⟩ : ∃ hh l d g : Int, stV s = #[.int .i64 hh, .int .i64 l, .int .i64 d, .int .i64 g] ∧ s.hits = hh ∧ s.loads = l ∧ s.drops = d ∧ s.high = g := ⟨_, _, _, _, rfl, rfl, rfl, rfl, rfl⟩
  rw [e0]
  rw [e1] at c6
  rw [e2] at c7
  rw [e3] at c8
  rw [e4] at c9
  clear e0 e1 e2 e3 e4
  go_enter Tryz.func8, Tryz.ntmps8
  go_upto_region 3 with (go_at_call 30; (with_reducible refine hok.mono ?_); rintro e w1 ⟨rfl, rfl⟩)
  generalize w.alloc (.cells #[.int .i64 0, .int .i64 0, .int .i64 0, .int .i64 0] 39) = w1 at hb1 k2 hok c6 c7 c8 c9 ⊢
  go_wp2_with (refine stB (ty := 39) (cells := #[.int .i64 hh, .int .i64 l, .int .i64 d, .int .i64 g]) rfl _ _ rfl k2 rfl rfl stz_size rfl (by simp [Value.oneCell']) ?_; intro w3 k3 hg3 hs3)
  have hb3 : Below w.heap.size w w3 := hb1.trans ⟨hg3.os, hg3.tape, hg3.output, hg3.size, fun i hi => hg3.block i (by have := hb1.size; omega) (fun e => by injection e with e; omega)⟩
  refine bodyPost_ret (res_cell rfl k3 rfl Tryz.underlying39 rfl stz_size) rfl ?_
  exact ⟨rfl, hb3⟩
set_option maxRecDepth 100000 in
set_option maxHeartbeats 4000000 in
theorem cread_no (h : CaP K U s r w kb ab ga vt vs nk na AM) (k x y : Int) (hno : ∀ j : Nat, (j : Int) = k → ∀ hj : j < K.ims.length, ¬ (0 ≤ x ∧ x < K.ims[j].W ∧ 0 ≤ y ∧ y < K.ims[j].H)) :
    Calls Tryz.prog 11 #[.pointer (some ⟨K.gc, 0, none⟩), .int .i64 k, .int .i64 x, .int .i64 y] w fun e w' => e = .returned (.slice none 0 0) ∧ Below w.heap.size w w' := by
  have hok := cok h
  have hti := stile_no h.sto k x y hno
  obtain ⟨c0, c1, c2, c3, c4, c5, c6, c7, c8, c9, c10⟩ := h.cb.cell11'
  clear c1 c2 c3 c4 c5 c6 c7 c8 c9 c10 h hno
  go_enter Tryz.func11, Tryz.ntmps11
  go_upto_region 4 with (first
    | (go_at_call 30; (with_reducible refine hok.mono ?_); rintro e w1 ⟨rfl, rfl⟩)
    | (go_at_call 17; (with_reducible refine hti.mono ?_); rintro e w1 ⟨rfl, hb1⟩; have kN := Bk.new w1 48 (tiA 0 0))
    | (refine stB (ty := 48) (cells := tiA 0 0) rfl _ _ rfl kN rfl rfl ti_size rfl (by simp [Value.oneCell']) ?_; intro w2 k2 hg2 hs2))
  have hL := ((Lie.start w1).alloc (tiA 0 0) 48).set hg2 k2 (by omega) (by simp)
  go_wp2_with fail
  go_returns
  exact ⟨rfl, hb1.trans (hL.bel.mono hb1.size)⟩
end
end Go.Proofs.YtahiaeaobbofbaaGreat
end
