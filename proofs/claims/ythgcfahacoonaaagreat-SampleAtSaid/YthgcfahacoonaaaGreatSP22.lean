/- The reference's pyramid. -/
import Derived.Test.YthgcfahacoonaaaGreatS20
import Derived.Test.YthgcfahacoonaaaGreatSS4
set_option linter.unusedVariables false
namespace Go.Proofs.YthgcfahacoonaaaGreat
open Go.RowKit
/-- An image whose bytes are its own, or lie below B. -/
def ImP (w : World) (lo B : Nat) (cs : List Value) (m : Im) : Prop := ImOwn w lo cs m ∨ ∃ (A : Option Addr) (c : Nat), cs = [.int .i64 m.W, .int .i64 m.H, .int .i64 m.C, .slice A m.px.length c] ∧ m.px.length ≤ c ∧ Rd w B A (m.px.map (Value.int .u8))
def PyRow (w : World) (lo B : Nat) (v : Value) (ims : List Im) : Prop := ∃ xs : List (List Value), w.ownsRow lo 24 4 v ims.length xs.flatten ∧ xs.length = ims.length ∧ ∀ (i : Nat) (h : i < ims.length) (h' : i < xs.length), ImP w lo B xs[i] ims[i]
section
variable {w w' : World} {lo B : Nat} {v : Value} {ims : List Im} {m : Im} {cs : List Value}
theorem ImP.nx (h : ImP w lo B cs m) (hb : Below w.heap.size w w') (hB : B ≤ w.heap.size) : ImP w' lo B cs m := by
  rcases h with ⟨s, e, ho⟩ | ⟨A, c, e, hc, hr⟩
  · exact .inl ⟨s, e, own_below ho hb (Nat.le_refl _)⟩
  · exact .inr ⟨A, c, e, hc, hr.below' hb hB⟩
theorem PyRow.nx (h : PyRow w lo B v ims) (hb : Below w.heap.size w w') (hB : B ≤ w.heap.size) : PyRow w' lo B v ims := by
  obtain ⟨xs, h1, h2, h3⟩ := h
  exact ⟨xs, own_below h1 hb (Nat.le_refl _), h2, fun i a b => (h3 i a b).nx hb hB⟩
theorem ImP.at (h : ImP w lo B cs m) (hB : B ≤ w.heap.size) : ImAt w 0 cs m := by
  rcases h with h | ⟨A, c, e, hc, hr⟩
  · exact h.at.less (Nat.zero_le _)
  · exact ⟨A, c, e, hc, (hr.more hB).rdl⟩
theorem PyRow.form (h : PyRow w lo B v ims) (hB : B ≤ w.heap.size) : ∃ A c, v = .slice A ims.length c ∧ ims.length ≤ c ∧ c ≤ maxLen ∧ ImsAt w 0 A ims := by
  obtain ⟨xs, h1, h2, h3⟩ := h
  obtain ⟨A, c, rfl, hc, hm, _⟩ := own_form h1
  exact ⟨A, c, rfl, hc, hm, xs, (RdL.of_own h1).less (Nat.zero_le _), h2, fun i a b => (h3 i a b).at hB⟩
theorem ImP.gb (h : ImP w lo B cs m) (hg : w.grownBy w' v.ownBlock) {b n : Nat} {xs : List Value} (hv : w.ownsRow b 24 4 v n xs) (hb : B ≤ b) (hB : B ≤ w.heap.size) : ImP w' lo B cs m := by
  rcases h with ⟨s, e, ho⟩ | ⟨A, c, e, hc, hr⟩
  · exact .inl ⟨s, e, own_gbr ho hg (own_ne ho hv (by decide))⟩
  · exact .inr ⟨A, c, e, hc, hr.grown hg hB fun g hg' => by have := own_ge hv g hg'; omega⟩
theorem PyRow.snoc {v' s : Value} {xs : List (List Value)} (hlo : B ≤ lo) (hB : B ≤ w.heap.size) (h1 : w.ownsRow lo 24 4 v ims.length xs.flatten) (h2 : xs.length = ims.length) (h3 : ∀ (i : Nat) (h : i < ims.length) (h' : i < xs.length), ImP w lo B xs[i] ims[i])
    (ho : w.ownsRow lo 5 1 s m.px.length (m.px.map (Value.int .u8))) (hg : w.grownBy w' v.ownBlock)
    (hv : w'.ownsRow lo 24 4 v' (ims.length + 1) (xs.flatten ++ [.int .i64 m.W, .int .i64 m.H, .int .i64 m.C, s])) : PyRow w' lo B v' (ims ++ [m]) := by
  refine ⟨xs ++ [[.int .i64 m.W, .int .i64 m.H, .int .i64 m.C, s]], ?_, by simp [h2], ?_⟩
  · simpa using hv
  · intro i hi hi'
    by_cases hlt : i < ims.length
    · rw [List.getElem_append_left (by omega), List.getElem_append_left hlt]
      exact (h3 i hlt (by omega)).gb hg h1 hlo hB
    · have hil : i = ims.length := by simp at hi; omega
      subst hil
      refine .inl ⟨s, ?_, ?_⟩
      · rw [List.getElem_append_right (by omega), List.getElem_append_right (Nat.le_refl _)]; simp [h2]
      · rw [List.getElem_append_right (Nat.le_refl _)]; simp
        exact own_gbr ho hg (own_ne ho h1 (by decide))
/-- The row of one image. -/
theorem PyRow.one {A : Option Addr} {cp : Nat} (hcp : m.px.length ≤ cp) (hr : Rd w B A (m.px.map (Value.int .u8))) (hB : B ≤ w.heap.size) (hlo : lo ≤ w.heap.size) : PyRow (w.alloc (.cells #[.int .i64 m.W, .int .i64 m.H, .int .i64 m.C, .slice A m.px.length cp] 24)) lo B (.slice (some ⟨w.heap.size, 0, none⟩) 1 1) [m] := by
  refine ⟨[[.int .i64 m.W, .int .i64 m.H, .int .i64 m.C, .slice A m.px.length cp]], ⟨rfl, .inr ⟨w.heap.size, 1, _, rfl, hlo, Bk.new w _ _, Nat.le_refl _, by simp [maxLen], rfl, rfl⟩⟩, rfl, ?_⟩
  intro i h h'
  have : i = 0 := by simp at h; omega
  subst this
  exact .inr ⟨A, cp, rfl, hcp, hr.alloc hB _⟩
end
/-- What the pyramid answers. -/
def PyrP (m : Im) (nn : Int) (w : World) (e : Ending) (w' : World) : Prop := Below w.heap.size w w' ∧ ((∃ z, z ≠ 0 ∧ e = .returned (.tuple #[.slice none 0 0, .int .i64 z])) ∨ (ImR m ∧ 0 ≤ nn ∧ nn ≤ 15 ∧ ∃ A c, e = .returned (.tuple #[.slice A (pyrU nn.toNat m).length c, .int .i64 0]) ∧ (pyrU nn.toNat m).length ≤ c ∧ c ≤ maxLen ∧ ImsAt w' 0 A (pyrU nn.toNat m)))
set_option maxRecDepth 100000 in
set_option maxHeartbeats 16000000 in
theorem rpyr_any (m : Im) (A : Option Addr) (cp : Nat) (nn : Int) (w : World) {B : Nat} (hr : Rd w B A (m.px.map (Value.int .u8))) (hB : B ≤ w.heap.size) (hcp : m.px.length ≤ cp) (hby : ∀ j, 0 ≤ m.px.getD j 0 ∧ m.px.getD j 0 ≤ 255) :
    Calls Tryz.prog 6 #[.agg #[.int .i64 m.W, .int .i64 m.H, .int .i64 m.C, .slice A m.px.length cp], .int .i64 nn] w (PyrP m nn w) := by
  have HBY := Lib.hid hby
  clear hby
  have hIC := fun w => ircheck_any m.W m.H m.C A m.px.length cp w
  obtain ⟨ck, hck⟩ : ∃ ck, checkC m.W m.H m.C m.px.length = ck := ⟨_, rfl⟩
  simp only [hck] at hIC
  have HCK := Lib.hid hck
  clear hck
  go_enter Tryz.func6, Tryz.ntmps6
  have hk0 := Bk.new w 24 #[.int .i64 m.W, .int .i64 m.H, .int .i64 m.C, .slice A m.px.length cp]
  have hb0 : Below w.heap.size w (w.alloc (.cells #[.int .i64 m.W, .int .i64 m.H, .int .i64 m.C, .slice A m.px.length cp] 24)) := (Below.refl _ _).alloc (Nat.le_refl _) _
  by_cases hck : ck = 0
  · have hcb : (ck != 0) = false := by simpa using hck
    have hR : ImR m := ⟨by rw [HCK.out, hck], HBY.out⟩
    have HCZ := Lib.hid hck
    clear hck
    go_wp2_with fail
    refine (hIC _).mono ?_
    rintro e w2 ⟨rfl, hb2⟩
    have hk2 := hk0.nx hb2
    have hb3 := hb0.trans (hb2.mono hb0.size)
    have hz3 := hb3.size
    have hs2 := hb2.size
    simp only [World.size_alloc] at hs2
    clear hb2 hk0 hb0 hIC
    by_cases hn : 0 ≤ nn ∧ nn ≤ 15
    · have g1 : decide (nn < 0) = false := by simp; omega
      have g2 : decide (nn > 15) = false := by simp; omega
      have g3 : decide (15 < nn) = false := by simp; omega
      obtain ⟨d0, d1, d2, d3⟩ := hk2.cell4
      have hP1 := PyRow.one (lo := w.heap.size) hcp (hr.below' hb3 hB) (Nat.le_trans hB hz3) hz3
      obtain ⟨N, hN⟩ : ∃ N : Nat, nn = N := ⟨nn.toNat, by omega⟩
      subst hN
      have HCM := Lib.hid hcp
      have HRR := Lib.hid hr
      clear hr hcp
      have hN15 : N ≤ 15 := by omega
      have hBw : B ≤ w.heap.size := hB
      clear hn g1 g2 g3
      have g1 : decide ((N : Int) < 0) = false := by simp
      have g2 : decide ((N : Int) > 15) = false := by simp; omega
      have g3 : decide (15 < (N : Int)) = false := by simp; omega
      go_wp2_with fail
      go_loopw [7, 8] (fun v i wr => ∃ (k : Nat) (pre : List Im) (last : Im), i = .int .i64 k ∧ k ≤ N ∧ pre.length = k ∧ pyrU N m = pre ++ pyrU (N - k) last ∧ ImR last ∧ PyRow wr w.heap.size B v (pre ++ [last]) ∧ Below w.heap.size w wr) (fun _ i _ => N - (intOf i).toNat)
      case atStart =>
        refine ⟨0, [], m, rfl, by omega, rfl, by simp, hR, ?_, ?_⟩
        · exact hP1
        · exact hb3.alloc hz3 _
      case round =>
        obtain ⟨k, pre, last, rfl, hk, hpl, hpy, hRl, hrow, hbel⟩ := hrel
        have HPY := Lib.hid hpy
        have HRL := Lib.hid hRl
        have HPL := Lib.hid hpl
        clear hpy hRl hpl
        have hsz := hbel.size
        have hlen : (pre ++ [last]).length = k + 1 := by simp [HPL.out]
        have hf := hrow.form (Nat.le_trans hB hsz)
        rw [hlen] at hf
        obtain ⟨A1, c1, rfl, hlc, hmx, hat⟩ := hf
        by_cases hlt : k < N
        · obtain ⟨b, o, Ai, ci, rfl, _, hbw, q0, q1, q2, q3, hci, hri⟩ := hat.get k (by omega)
          have hel : (pre ++ [last])[k]'(by omega) = last := by
            rw [List.getElem_append_right (by rw [HPL.out]; exact Nat.le_refl _)]; simp
          rw [hel] at q0 q1 q2 q3 hci hri
          obtain ⟨W, H, C, hW, hH, hC, hWb, hHb, hCb, hpp, hnn⟩ := HRL.out.nat
          have hm1 : wrap64 (last.W * last.H) = last.W * last.H := by
            rw [hW, hH, ← Int.natCast_mul]; exact IntWalk.wrap64_in _ ⟨by omega, by omega⟩
          have HW := Lib.hid hW
          have HH := Lib.hid hH
          clear hW hH hC hWb hHb hCb hpp hnn hel
          have hl1 : ((k + 1 : Nat) : Int) - 1 = k := by omega
          have hw1 : wrap64 (((k + 1 : Nat) : Int) - 1) = k := by rw [hl1]; exact IntWalk.wrap64_in (k : Int) ⟨by omega, by omega⟩
          go_upto_region 11 with fail
          have hb1 : Below wr.heap.size wr (wr.alloc (.cells #[.int .i64 last.W, .int .i64 last.H, .int .i64 last.C, .slice Ai last.px.length ci] 24)) := (Below.refl _ _).alloc (Nat.le_refl _) _
          have kq := Bk.new wr 24 #[.int .i64 last.W, .int .i64 last.H, .int .i64 last.C, .slice Ai last.px.length ci]
          have hz1 : wr.heap.size < (wr.alloc (.cells #[.int .i64 last.W, .int .i64 last.H, .int .i64 last.C, .slice Ai last.px.length ci] 24)).heap.size := by simp
          generalize wr.alloc (.cells #[.int .i64 last.W, .int .i64 last.H, .int .i64 last.C, .slice Ai last.px.length ci] 24) = w1 at *
          obtain ⟨e0, e1, e2, e3⟩ := kq.cell4
          clear q0 q1 q2 q3
          have hrow1 := hrow.nx hb1 (Nat.le_trans hB hsz)
          have hbel1 := hbel.trans (hb1.mono hsz)
          by_cases h1 : last.W * last.H = 1
          · have hpx : pyrU N m = pre ++ [last] := by
              rw [HPY.out, show N - k = (N - k - 1) + 1 by omega]
              unfold pyrU
              rw [if_pos h1]
            have HPX := Lib.hid hpx
            have hq : (last.W * last.H == 1) = true := by rw [h1]; rfl
            have hq2 : (wrap64 (last.W * last.H) == 1) = true := by rw [hm1]; exact hq
            clear hpx h1 hm1
            go_wp2_with fail
            go_returns
            have hat1 := hat.nx hb1 (Nat.le_refl _)
            rw [← HPX.out] at hat1 hlen
            refine ⟨hbel1, .inr ⟨hR, by omega, by omega, some ⟨b, o, none⟩, c1, ?_, ?_, hmx, ?_⟩⟩
            · rw [Int.toNat_natCast, hlen]; rfl
            · rw [Int.toNat_natCast, hlen]; exact hlc
            · rw [Int.toNat_natCast]; exact hat1
          · have hpx : pyrU N m = (pre ++ [last]) ++ pyrU (N - (k + 1)) (halfIm last) := by
              rw [HPY.out, show N - k = (N - (k + 1)) + 1 by omega]
              conv => lhs; unfold pyrU
              rw [if_neg h1]; simp
            have HPX := Lib.hid hpx
            have hq : (last.W * last.H == 1) = false := by simpa using h1
            have hHf := fun w' hr' hB' => rhalf_im last Ai ci w' (B := w'.heap.size) HRL.out hr' hB' hci
            have hq2 : (wrap64 (last.W * last.H) == 1) = false := by rw [hm1]; exact hq
            clear hpx h1 hm1
            go_wp2_with fail
            refine (hHf _ (hri.below hb1 (Nat.le_refl _)).rd (Nat.le_refl _)).mono ?_
            rintro e w3 ⟨s3, rfl, ho3, hb3'⟩
            have hrow3 := hrow1.nx hb3' (by omega)
            have hbel3 := hbel1.trans (hb3'.mono (by omega))
            have hz3' := hb3'.size
            obtain ⟨xs3, hx0, hx1, hx2⟩ := hrow3
            have hx5 := hx0
            rw [hlen] at hx5
            have hsz3 : w.heap.size ≤ w3.heap.size := by omega
            clear hb1 hb3' kq e0 e1 e2 e3 hrow hrow1 hri hat hbel hbel1
            obtain ⟨A3, c3, rfl, _⟩ := own_form ho3
            have HHL := Lib.hid (halfIm_ok HRL.out).1
            generalize halfIm last = hl at *
            go_wp2_with (at_builtin; go_loud (refine app1o rfl _ _ _ rfl Tryz.underlying32 img_info rfl (by omega) hx5 rfl rfl hbel3 (Nat.le_refl _) hsz3 rfl (by simp [Value.oneCell']) (by omega) (by omega) ?_); intro v' w7 ho7 hb7 hs7 hg7 _)
            have ho3' := own_base ho3 (show w.heap.size ≤ w1.heap.size by omega)
            have hno8 : PyRow w7 w.heap.size B v' ((pre ++ [last]) ++ [hl]) := PyRow.snoc hB (by omega) hx0 hx1 hx2 ho3' hg7 (by rw [hlen]; exact ho7)
            exact ⟨⟨k + 1, pre ++ [last], hl, by go_num, by omega, hlen, HPX.out, HHL.out, hno8, hb7⟩, by simp [intOf]; omega⟩
        · obtain rfl : k = N := by omega
          have hpx : pyrU k m = pre ++ [last] := by
            rw [HPY.out, Nat.sub_self]; rfl
          have HPX := Lib.hid hpx
          clear hpx
          go_wp2_with fail
          go_returns
          rw [← HPX.out] at hat hlen
          refine ⟨hbel, .inr ⟨hR, by omega, by omega, A1, c1, ?_, ?_, hmx, ?_⟩⟩
          · rw [Int.toNat_natCast, hlen]; rfl
          · rw [Int.toNat_natCast, hlen]; exact hlc
          · rw [Int.toNat_natCast]; exact hat
    · by_cases hn0 : nn < 0
      · have g1 : decide (nn < 0) = true := by simp; omega
        have HN := Lib.hid hn0
        clear hn hn0
        go_wp2_with fail
        go_returns
        exact ⟨hb3, .inl ⟨10, by decide, rfl⟩⟩
      · have g1 : decide (nn < 0) = false := by simp; omega
        have g2 : decide (nn > 15) = true := by simp; omega
        have g3 : decide (15 < nn) = true := by simp; omega
        have HN := Lib.hid hn0
        clear hn hn0
        go_wp2_with fail
        go_returns
        exact ⟨hb3, .inl ⟨10, by decide, rfl⟩⟩
  · have hcb : (ck != 0) = true := by simpa using hck
    have HCZ := Lib.hid hck
    clear hck
    go_wp2_with (go_at_call 19; (with_reducible refine (hIC _).mono ?_); rintro e w2 ⟨rfl, hb2⟩)
    go_returns
    exact ⟨hb0.trans (hb2.mono hb0.size), .inl ⟨ck, HCZ.out, rfl⟩⟩
end Go.Proofs.YthgcfahacoonaaaGreat
