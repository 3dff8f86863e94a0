/- Several texts in one: A text as commands: words.Lines. A text as commands: the reference's words of a line. A text as commands: the reference's lines. -/
import Derived.Test.YtgohbkkeppknoaaGreatDoorCmdAllZz3
section
set_option linter.unusedVariables false
namespace Go.Proofs.YtgohbkkeppknoaaGreatDoor
open Go.RowKit
theorem tokL_snoc (L : List (List UInt8)) (l : List UInt8) : tokL (L ++ [l]) = (tokL L).bind fun D => (tokR l []).map fun w => D ++ [w] := by
  rw [tokL_app]
  cases tokL L with
  | none => rfl
  | some D => simp only [Option.bind_some, tokL]; cases tokR l [] <;> rfl
theorem tokL_bad (L M : List (List UInt8)) (l : List UInt8) (h : tokR l [] = none) : tokL (L ++ l :: M) = none := by
  rw [tokL_app]
  cases tokL L with
  | none => rfl
  | some D => simp only [Option.bind_some, tokL, h, Option.map_none]
theorem full_app (D : List (List (List UInt8))) (w : List (List UInt8)) : full (D ++ [w]) = if w = [] then full D else full D ++ [w] := by
  unfold full
  rw [List.filter_append]
  cases w with
  | nil => simp
  | cons a b => simp
theorem spl_len (l cur : List UInt8) : (splN l cur).length ≤ l.length + 1 := by
  induction l generalizing cur with
  | nil => simp [splN]
  | cons b r ih =>
    unfold splN
    split
    · have := ih []; simp only [List.length_cons]; omega
    · have := ih (cur ++ [b]); simp only [List.length_cons]; omega
theorem tokL_len : ∀ (L : List (List UInt8)) (D : List (List (List UInt8))), tokL L = some D → D.length = L.length
  | [], D, h => by simp [tokL] at h; simp [← h]
  | l :: L, D, h => by
    rw [tokL] at h
    cases h1 : tokR l [] with
    | none => rw [h1] at h; cases h
    | some w =>
      rw [h1] at h
      cases h2 : tokL L with
      | none => rw [h2] at h; cases h
      | some E =>
        rw [h2] at h
        have := tokL_len L E h2
        simp at h
        simp [← h, this]
theorem full_len (D : List (List (List UInt8))) : (full D).length ≤ D.length := List.length_filter_le _ _
/-- What stands between two lines. -/
structure LnP (S : ByteArray) (i : Nat) (D : List (List (List UInt8))) : Prop where
  ex : ∃ L Dall, splN (bl S) [] = L ++ (if i ≤ S.size then splN ((bl S).drop i) [] else []) ∧ tokL L = some Dall ∧ D = full Dall ∧ L.length ≤ i
theorem LnP.start (S : ByteArray) : LnP S 0 [] := ⟨[], [], by simp, rfl, rfl, by simp⟩
theorem LnP.bad {S : ByteArray} {i : Nat} {D : List (List (List UInt8))} (h : LnP S i D) (hi : i ≤ S.size) (ht : tokR (lnO ((bl S).drop i)) [] = none) : tokT (bl S) = none := by
  obtain ⟨L, Da, h1, h2, h3, h4⟩ := h.ex
  unfold tokT
  rw [h1, if_pos hi]
  rcases hq : nxO ((bl S).drop i) with _ | ⟨b, q⟩
  · rw [spl_end hq]; exact tokL_bad _ _ _ ht
  · rw [spl_more hq]; exact tokL_bad _ _ _ ht
theorem LnP.next {S : ByteArray} {i q : Nat} {D : List (List (List UInt8))} {ws : List (List UInt8)} (h : LnP S i D) (hi : i ≤ S.size) (ht : tokR (lnO ((bl S).drop i)) [] = some ws) (hq : q ≤ S.size) (hd : (bl S).drop q = nxO ((bl S).drop i)) (hiq : i ≤ q) : LnP S (q + 1) (if ws = [] then D else D ++ [ws]) := by
  obtain ⟨L, Da, h1, h2, h3, h4⟩ := h.ex
  rw [if_pos hi] at h1
  refine ⟨L ++ [lnO ((bl S).drop i)], Da ++ [ws], ?_, by rw [tokL_snoc, h2, ht]; rfl, by rw [full_app, h3], by simp; omega⟩
  rcases hn : nxO ((bl S).drop i) with _ | ⟨b, r⟩
  · rw [hn] at hd
    have hz : ¬ q + 1 ≤ S.size := by
      rw [List.drop_eq_nil_iff, bl_len] at hd; omega
    rw [if_neg hz, h1, spl_end hn]; simp
  · rw [hn] at hd
    have hz : q < (bl S).length := by
      rcases Nat.lt_or_ge q (bl S).length with h5 | h5
      · exact h5
      · rw [List.drop_eq_nil_of_le h5] at hd; cases hd
    have hr : (bl S).drop (q + 1) = r := by rw [List.drop_eq_getElem_cons hz] at hd; injection hd
    rw [bl_len] at hz
    rw [if_pos (by omega), h1, spl_more hn, hr]; simp
theorem LnP.done {S : ByteArray} {i : Nat} {D : List (List (List UInt8))} (h : LnP S i D) (hi : ¬ i ≤ S.size) : ∃ Da, tokT (bl S) = some Da ∧ D = full Da := by
  obtain ⟨L, Da, h1, h2, h3, h4⟩ := h.ex
  rw [if_neg hi, List.append_nil] at h1
  exact ⟨Da, by unfold tokT; rw [h1]; exact h2, h3⟩
theorem LnP.len {S : ByteArray} {i : Nat} {D : List (List (List UInt8))} (h : LnP S i D) : D.length ≤ i := by
  obtain ⟨L, Da, h1, h2, rfl, h4⟩ := h.ex
  have h5 := full_len Da
  have h6 := tokL_len L Da h2
  omega
theorem drop_le {S : ByteArray} {i q : Nat} (hi : i ≤ S.size) (hq : q ≤ S.size) (h : (bl S).drop q = nxO ((bl S).drop i)) : i ≤ q := by
  have h1 := congrArg List.length h
  rw [List.length_drop, bl_len] at h1
  have h2 : (nxO ((bl S).drop i)).length ≤ ((bl S).drop i).length := (List.dropWhile_sublist _).length_le
  rw [List.length_drop, bl_len] at h2
  omega
/-- What a text's lines are told as. -/
def LinesR (t : TypeId) (S : ByteArray) (B : Nat) (e : Ending) (w' : World) : Prop := ∃ (A : Option Addr) (m c : Nat) (z : Int), e = .returned (.tuple #[.slice A m c, .int .i64 z, .int .i64 (linC (bl S))]) ∧ LinesAt t w' B (.slice A m c) (linL (bl S))
set_option maxRecDepth 100000 in
set_option maxHeartbeats 16000000 in
theorem lines_any (S : ByteArray) (hS : S.size ≤ 9223372036854775807) (w : World) : Calls Tryz.prog 42 #[.string S] w fun e w' => LinesR 88 S w.heap.size e w' ∧ Below w.heap.size w w' := by
  by_cases hbig : 65536 < S.size
  · have hC : Hid (linC (bl S) = 30 ∧ linL (bl S) = []) := by
      show _ ∧ _
      unfold linC linL
      rw [bl_len, if_pos hbig, if_pos hbig]; exact ⟨rfl, rfl⟩
    have hb : (S.size : Int) > 65536 := by omega
    clear hbig
    go_enter Tryz.func42, Tryz.ntmps42
    go_wp2_with fail
    go_returns
    exact ⟨⟨none, 0, 0, 0, by rw [hC.out.1]; rfl, by rw [hC.out.2]; exact LinesAt.nil _ _ _⟩, Below.refl _ _⟩
  have hS2 : S.size ≤ 1000000 := by omega
  have hb : ¬ (S.size : Int) > 65536 := by omega
  have HBIG := Lib.hid hbig
  have hL0 := (Lie.start w).alloc (scA S 0 0 none 0 0 0) 136
  have hK0 : Bk _ w.heap.size 136 (scA S 0 0 none 0 0 0) := hL0.k 0 (by simp)
  have hb0 := hL0.bel
  have hS63 : S.size ≤ 65536 := by omega
  obtain ⟨g, hg⟩ : ∃ g, w.heap.size = g := ⟨_, rfl⟩
  have HG := Lib.hid hg
  simp only [hg] at hK0 hb0 ⊢
  clear hbig hS hL0
  go_enter Tryz.func42, Tryz.ntmps42
  go_wp2_with fail
  have HC := Lib.hid (show ¬ 65536 < (bl S).length by rw [bl_len]; exact HBIG.out)
  go_loopw [15] (fun _ wr => ∃ (i nn m c : Nat) (A : Option Addr) (v : Int) (D : List (List (List UInt8))), i ≤ S.size + 1 ∧ nn ≤ i ∧ Hid (LnP S i D) ∧ Bk wr g 136 (scA S i nn A m c v) ∧ LinesAt 88 wr g (.slice A m c) D ∧ Below g w wr) (fun _ wr => S.size + 1 - (intOf ((wr.cell? ⟨g, 1, none⟩).getD undef)).toNat)
  case atStart => exact ⟨0, 0, 0, 0, none, 0, [], by omega, by omega, LnP.start S, hK0, LinesAt.nil _ _ _, hb0⟩
  case round =>
    clear hK0 hb0
    obtain ⟨i, nn, m, c, A, v, D, hi, hnn, hLn, hKr, hLr, hbr⟩ := hrel
    obtain ⟨wq, rfl⟩ : ∃ wq : World, wq = wr := ⟨_, rfl⟩
    obtain ⟨c0, c1, c2, c3, c4⟩ := hKr.cell5s
    have f2 := hKr.frozen 2
    have HM0 := Lib.hid c1
    have hDl := hLn.out.len
    by_cases hlt : i ≤ S.size
    · have hlt' : (i : Int) ≤ (S.size : Int) := by omega
      have hK2 := hKr.set 2 (.int .i64 ((nn : Int) + 1))
      simp only [List.setIfInBounds_toArray, List.set_cons_zero, List.set_cons_succ] at hK2
      have hL2 := hLr.gb (gb_set1 wq ⟨g, 2, none⟩ (.int .i64 ((nn : Int) + 1))) hKr (by decide) (by decide)
      have hb2 := hbr.setCell (p := ⟨g, 2, none⟩) (Nat.le_refl _) (.int .i64 ((nn : Int) + 1))
      have hLi := line_any S hS2 i hlt g ((nn : Int) + 1) A m c v g D (by omega) _ hK2 hL2 (Nat.le_refl _)
      have hg2 := hK2.lt
      clear hKr hLr hbr hK2 hL2
      go_upto_region 7 with fail
      generalize wq.setCell ⟨g, 2, none⟩ (.int .i64 ((nn : Int) + 1)) = w2 at *
      clear c0 c1 c2 c3 c4 f2
      go_wp2_with fail
      refine Calls.mono (show Calls _ _ _ _ _ from hLi) ?_
      rintro e w3 ⟨hb3, hR⟩
      rcases hR with ⟨hno, rfl, cs, hKc, q, hcq⟩ | ⟨ws, hsm, rfl, q, A', m', c', v', hq, hd, hK3, hL3⟩
      · have hT := LnP.bad hLn.out hlt hno
        have hR : Hid (linC (bl S) = 21 ∧ linL (bl S) = []) := by
          show _ ∧ _
          unfold linC linL
          rw [if_neg HC.out, if_neg HC.out, hT]; exact ⟨rfl, rfl⟩
        have hcx := (hKc.cell 1).trans hcq
        have q1 := fun (d : Nat) (os : Array Obj) => cell_regrown hcx d os
        have hbw := hb2.trans hb3
        clear hT hcx hcq
        go_upto_region 8 with fail
        refine wp_region_quiet_below (by kernel_rfl) (by kernel_rfl) ?_
        repeat (first
          | go_big_quiet_step (fail)
          | quiet_step (fail))
        refine wpQuiet_nil ?_
        intro _ hw'
        obtain ⟨⟨d9, os⟩, hw''⟩ := hw'
        subst hw''
        have hbx := below_regrown w3 d9 os
        have hz := hKc.lt
        clear q1
        generalize Go.Sort.grow (redrawn w3 d9) os = wx at *
        go_wp2_with fail
        go_returns
        exact ⟨⟨none, 0, 0, _, by rw [hR.out.1]; rfl, by rw [hR.out.2]; exact LinesAt.nil _ _ _⟩, hbw.trans (hbx.mono (by omega))⟩
      · have hiq := drop_le hlt hq hd
        have hN := LnP.next hLn.out hlt hsm hq hd hiq
        obtain ⟨x0, x1, x2, x3, x4⟩ := hK3.cell5s
        have fx := hK3.frozen 1
        have hKA := hK3.set 1 (.int .i64 ((q : Int) + 1))
        simp only [List.setIfInBounds_toArray, List.set_cons_zero, List.set_cons_succ] at hKA
        have hLA := hL3.gb (gb_set1 w3 ⟨g, 1, none⟩ (.int .i64 ((q : Int) + 1))) hK3 (by decide) (by decide)
        have hbA := (hb2.trans hb3).setCell (p := ⟨g, 1, none⟩) (Nat.le_refl _) (.int .i64 ((q : Int) + 1))
        go_wp2_with fail
        refine ⟨⟨q + 1, nn + 1, m', c', A', v', _, by omega, by omega, hN, hKA, hLA, hbA⟩, ?_⟩
        rw [HM0.out, hKA.cell5s.2.1]
        simp [intOf]
        omega
    · obtain ⟨Da, hT, hDa⟩ := hLn.out.done hlt
      obtain ⟨hDm, hmc⟩ := own_slice hLr
      have hlt' : ¬ (i : Int) ≤ (S.size : Int) := by omega
      by_cases h4 : 4096 < m
      · have hR : Hid (linC (bl S) = 30 ∧ linL (bl S) = []) := by
          show _ ∧ _
          unfold linC linL
          rw [if_neg HC.out, if_neg HC.out, hT]
          simp only
          rw [← hDa, hDm, if_pos h4, if_pos h4]; exact ⟨rfl, rfl⟩
        have h4' : (m : Int) > 4096 := by omega
        have q4 := fun (d : Nat) (os : Array Obj) => cell_regrown c4 d os
        have hz := hKr.lt
        clear h4 hT hDa hDm
        go_upto_region 11 with fail
        refine wp_region_quiet_below (by kernel_rfl) (by kernel_rfl) ?_
        repeat (first
          | go_big_quiet_step (fail)
          | quiet_step (fail))
        refine wpQuiet_nil ?_
        intro _ hw'
        obtain ⟨⟨d9, os⟩, hw''⟩ := hw'
        subst hw''
        have hbx := below_regrown wq d9 os
        clear q4
        generalize Go.Sort.grow (redrawn wq d9) os = wx at *
        go_wp2_with fail
        go_returns
        exact ⟨⟨none, 0, 0, _, by rw [hR.out.1]; rfl, by rw [hR.out.2]; exact LinesAt.nil _ _ _⟩, hbr.trans (hbx.mono (by omega))⟩
      · have hR : Hid (linC (bl S) = 0 ∧ linL (bl S) = D) := by
          show _ ∧ _
          unfold linC linL
          rw [if_neg HC.out, if_neg HC.out, hT]
          simp only
          rw [← hDa, hDm, if_neg h4, if_neg h4]; exact ⟨rfl, rfl⟩
        have h4' : ¬ (m : Int) > 4096 := by omega
        clear h4 hT hDa hDm
        go_wp2_with fail
        go_returns
        exact ⟨⟨A, m, c, 0, by rw [hR.out.1]; rfl, by rw [hR.out.2]; exact hLr⟩, hbr⟩
end Go.Proofs.YtgohbkkeppknoaaGreatDoor
end
section
set_option linter.unusedVariables false
namespace Go.Proofs.YtgohbkkeppknoaaGreatDoor
open Go.RowKit
/-- What a line's words are told as. -/
def WordsR (S : ByteArray) (B : Nat) (e : Ending) (w' : World) : Prop := (tokR (bl S) [] = none ∧ ∃ z : Nat, e = .returned (.tuple #[.slice none 0 0, .int .i64 z])) ∨ ∃ (ws : List (List UInt8)) (v : Value), tokR (bl S) [] = some ws ∧ e = .returned (.tuple #[v, .int .i64 (-1)]) ∧ w'.ownsRow B 9 1 v ws.length (ws.map strV)
theorem tok_35 {r cur : List UInt8} : tokR (35 :: r) cur = some (fl cur) := by simp [tokR]
theorem tok_bl {b : UInt8} {r cur : List UInt8} (h : isBl b = true) : tokR (b :: r) cur = (tokR r []).map (fl cur ++ ·) := by simp [tokR, (bl_ten h).2.1, h]
theorem tok_mk {b : UInt8} {r cur : List UInt8} (h : isMk b = true) : tokR (b :: r) cur = tokR r (cur ++ [b]) := by simp [tokR, (mk_ten h).2.1, (mk_ten h).2.2, h]
theorem tok_no {b : UInt8} {r cur : List UInt8} (h1 : b ≠ 35) (h2 : isBl b = false) (h3 : isMk b = false) : tokR (b :: r) cur = none := by simp [tokR, h1, h2, h3]
theorem map_app (acc x : List (List UInt8)) (o : Option (List (List UInt8))) : (o.map (x ++ ·)).map (acc ++ ·) = o.map ((acc ++ x) ++ ·) := by cases o <;> simp
set_option maxRecDepth 100000 in
set_option maxHeartbeats 16000000 in
theorem rwords_any (S : ByteArray) (hS : S.size ≤ 1000000) (w : World) : Calls Tryz.prog 82 #[.string S] w fun e w' => WordsR S w.heap.size e w' ∧ Below w.heap.size w w' := by
  have hBk := fun b w' => rblank_any b w'
  go_enter Tryz.func82, Tryz.ntmps82
  go_wp2_with fail
  go_loopw [4, 5, 6] (fun v cv iv wr => ∃ (i : Nat) (acc : List (List UInt8)) (cur : List UInt8), i ≤ S.size ∧ acc.length ≤ i ∧ cur.length ≤ i ∧ iv = .int .i64 i ∧ cv = strV cur ∧ Hid (tokR (bl S) [] = (tokR ((bl S).drop i) cur).map (acc ++ ·)) ∧ wr.ownsRow w.heap.size 9 1 v acc.length (acc.map strV) ∧ Below w.heap.size w wr) (fun _ _ iv _ => S.size - (intOf iv).toNat)
  case atStart => exact ⟨0, [], [], by omega, by simp, by simp, rfl, rfl, by show _ = _; simp, World.ownsRow_nil _ _ _ _, Below.refl _ _⟩
  case round =>
    obtain ⟨i, acc, cur, hi, hac, hcl, rfl, rfl, hT, hown, hbr⟩ := hrel
    obtain ⟨wq, rfl⟩ : ∃ wq : World, wq = wr := ⟨_, rfl⟩
    obtain ⟨Av, cv, rfl, hcv, _⟩ := own_form hown
    have hqz := hbr.size
    by_cases hlt : i < S.size
    · have hlt' : (i : Int) < (S.size : Int) := by omega
      have hil : i < (bl S).length := by rw [bl_len]; exact hlt
      have hix := str_ix S i hlt
      have hdr : (bl S).drop i = (bl S)[i] :: (bl S).drop (i + 1) := List.drop_eq_getElem_cons hil
      have hbe : (bl S)[i] = S[i]'hlt := bl_get S i hlt
      have hcut := str_cut S i (i + 1) (by omega) (by omega)
      rw [hdr, Nat.add_sub_cancel_left] at hcut
      rw [hbe] at hcut hdr
      obtain ⟨b, hb⟩ : ∃ b, S[i]'hlt = b := ⟨_, rfl⟩
      rw [hb] at hix hcut hdr
      have h35 := is35_any b
      rw [show ((i + 1 : Nat) : Int) = (i : Int) + 1 by omega] at hcut
      have HDR := Lib.hid hdr
      have hsl : (⟨((b :: (bl S).drop (i + 1)).take 1).toArray⟩ : ByteArray) = ⟨#[b]⟩ := rfl
      rw [hsl] at hcut
      clear hb hbe hdr hil hsl
      by_cases hb35 : b = 35
      · rw [show (b == 35) = true by simpa using hb35] at h35
        clear hcut
        have hTe : tokR (bl S) [] = some (acc ++ fl cur) := by rw [hT.out, HDR.out, hb35, tok_35]; rfl
        by_cases hce : cur = []
        · subst hce
          rw [show acc ++ fl [] = acc by simp [fl]] at hTe
          have HTE := Lib.hid hTe
          clear hTe hT HDR
          go_wp2_with fail
          go_returns
          exact ⟨Or.inr ⟨acc, _, HTE.out, rfl, hown⟩, hbr⟩
        · rw [show acc ++ fl cur = acc ++ [cur] by simp [fl, hce]] at hTe
          have HTE := Lib.hid hTe
          obtain ⟨V, HV, hem⟩ : ∃ V, strV cur = .string V ∧ V.toList.isEmpty = false := ⟨_, rfl, bl_ne (by rw [bl_mk]; exact hce)⟩
          have HVV := Lib.hid HV
          simp only [HV]
          clear hTe hT HDR hce HV
          go_wp2_with (at_builtin; refine app1 rfl _ _ _ rfl Tryz.underlying22 str_info rfl Nat.one_pos rfl rfl hown hbr (Nat.le_refl _) hqz rfl (by simp [Value.oneCell']) (by omega) (by omega) ?_; intro v9 w9 hown9 hb9 hlt9 hg9 _)
          go_returns
          exact ⟨Or.inr ⟨acc ++ [cur], _, HTE.out, rfl, by rw [List.length_append, List.map_append, List.map_cons, List.map_nil, HVV.out]; exact hown9⟩, hb9⟩
      · rw [show (b == 35) = false by simpa using hb35] at h35
        have hBb := hBk b
        cases hbl : isBl b with
        | true =>
          rw [hbl] at hBb
          have hTe : tokR (bl S) [] = (tokR ((bl S).drop (i + 1)) []).map ((acc ++ fl cur) ++ ·) := by rw [hT.out, HDR.out, tok_bl hbl, map_app]
          clear hcut hbl hb35 HDR hT
          by_cases hce : cur = []
          · subst hce
            rw [show acc ++ fl [] = acc by simp [fl]] at hTe
            have HTE := Lib.hid hTe
            clear hTe
            go_wp2_with (go_at_call 140; (with_reducible refine (hBb _).mono ?_); rintro e w2 ⟨rfl, rfl⟩)
            exact ⟨⟨i + 1, acc, [], by omega, by omega, by simp, by go_num, rfl, HTE.out, hown, hbr⟩, by simp [intOf]; omega⟩
          · rw [show acc ++ fl cur = acc ++ [cur] by simp [fl, hce]] at hTe
            have HTE := Lib.hid hTe
            obtain ⟨V, HV, hem⟩ : ∃ V, strV cur = .string V ∧ V.toList.isEmpty = false := ⟨_, rfl, bl_ne (by rw [bl_mk]; exact hce)⟩
            have HVV := Lib.hid HV
            simp only [HV]
            clear hTe hce HV
            go_wp2_with (first
              | (go_at_call 140; (with_reducible refine (hBb _).mono ?_); rintro e w2 ⟨rfl, rfl⟩)
              | (at_builtin; refine app1 rfl _ _ _ rfl Tryz.underlying22 str_info rfl Nat.one_pos rfl rfl hown hbr (Nat.le_refl _) hqz rfl (by simp [Value.oneCell']) (by omega) (by omega) ?_; intro v9 w9 hown9 hb9 hlt9 hg9 _))
            exact ⟨⟨i + 1, acc ++ [cur], [], by omega, by simp; omega, by simp, by go_num, rfl, HTE.out, by rw [List.length_append, List.map_append, List.map_cons, List.map_nil, HVV.out]; exact hown9, hb9⟩, by simp [intOf]; omega⟩
        | false =>
          rw [hbl] at hBb
          cases hmk : isMk b with
          | true =>
            have hTe : tokR (bl S) [] = (tokR ((bl S).drop (i + 1)) (cur ++ [b])).map (acc ++ ·) := by rw [hT.out, HDR.out, tok_mk hmk]
            have hr : 33 ≤ b.toNat ∧ b.toNat ≤ 126 := by
              unfold isMk at hmk
              simp only [Bool.and_eq_true, decide_eq_true_eq] at hmk
              exact hmk.1
            have g1 : ¬ (b.toNat : Int) < 33 := by omega
            have g2 : ¬ (b.toNat : Int) > 126 := by omega
            have happ : (⟨cur.toArray⟩ : ByteArray) ++ ⟨#[b]⟩ = ⟨(cur ++ [b]).toArray⟩ := str_app cur [b]
            have hsz : (⟨cur.toArray⟩ : ByteArray).size ≤ 1000000 := by rw [str_size]; omega
            have HTE := Lib.hid hTe
            have HAP := Lib.hid happ
            have hcs : strV cur = .string ⟨cur.toArray⟩ := rfl
            rw [hcs]
            clear hTe hT HDR hmk hbl hb35 hr happ hcs
            generalize (⟨cur.toArray⟩ : ByteArray) = CB at *
            go_wp2_with (go_at_call 140; (with_reducible refine (hBb _).mono ?_); rintro e w2 ⟨rfl, rfl⟩)
            exact ⟨⟨i + 1, acc, cur ++ [b], by omega, by omega, by simp; omega, by go_num, by rw [HAP.out], HTE.out, hown, hbr⟩, by simp [intOf]; omega⟩
          | false =>
            have hTe : tokR (bl S) [] = none := by rw [hT.out, HDR.out, tok_no hb35 hbl hmk, Option.map_none]
            have hr : b.toNat < 33 ∨ (33 ≤ b.toNat ∧ 126 < b.toNat) := by
              rcases Nat.lt_or_ge b.toNat 33 with h | h
              · exact .inl h
              · refine .inr ⟨h, ?_⟩
                rcases Nat.lt_or_ge 126 b.toNat with h2 | h2
                · exact h2
                · have : isMk b = true := by unfold isMk; simp [h, h2, hb35]
                  rw [hmk] at this; cases this
            have HTE := Lib.hid hTe
            clear hTe hT HDR hmk hbl hb35 hcut
            rcases hr with h | ⟨h, h2⟩
            · have g1 : (b.toNat : Int) < 33 := by omega
              clear h
              go_wp2_with (go_at_call 140; (with_reducible refine (hBb _).mono ?_); rintro e w2 ⟨rfl, rfl⟩)
              go_returns
              exact ⟨Or.inl ⟨HTE.out, i, rfl⟩, (hbr.mono (Nat.le_refl _))⟩
            · have g1 : ¬ (b.toNat : Int) < 33 := by omega
              have g2 : (b.toNat : Int) > 126 := by omega
              clear h h2
              go_wp2_with (go_at_call 140; (with_reducible refine (hBb _).mono ?_); rintro e w2 ⟨rfl, rfl⟩)
              go_returns
              exact ⟨Or.inl ⟨HTE.out, i, rfl⟩, (hbr.mono (Nat.le_refl _))⟩
    · obtain rfl : i = S.size := by omega
      have hTe : tokR (bl S) [] = some (acc ++ fl cur) := by rw [hT.out, List.drop_eq_nil_of_le (by rw [bl_len]; exact Nat.le_refl _)]; rfl
      by_cases hce : cur = []
      · subst hce
        rw [show acc ++ fl [] = acc by simp [fl]] at hTe
        have HTE := Lib.hid hTe
        clear hTe hT
        go_wp2_with fail
        go_returns
        exact ⟨Or.inr ⟨acc, _, HTE.out, rfl, hown⟩, hbr⟩
      · rw [show acc ++ fl cur = acc ++ [cur] by simp [fl, hce]] at hTe
        have HTE := Lib.hid hTe
        obtain ⟨V, HV, hem⟩ : ∃ V, strV cur = .string V ∧ V.toList.isEmpty = false := ⟨_, rfl, bl_ne (by rw [bl_mk]; exact hce)⟩
        have HVV := Lib.hid HV
        simp only [HV]
        clear hTe hT hce HV
        go_wp2_with (at_builtin; refine app1 rfl _ _ _ rfl Tryz.underlying22 str_info rfl Nat.one_pos rfl rfl hown hbr (Nat.le_refl _) hqz rfl (by simp [Value.oneCell']) (by omega) (by omega) ?_; intro v9 w9 hown9 hb9 hlt9 hg9 _)
        go_returns
        exact ⟨Or.inr ⟨acc ++ [cur], _, HTE.out, rfl, by rw [List.length_append, List.map_append, List.map_cons, List.map_nil, HVV.out]; exact hown9⟩, hb9⟩
end Go.Proofs.YtgohbkkeppknoaaGreatDoor
end
section
set_option linter.unusedVariables false
namespace Go.Proofs.YtgohbkkeppknoaaGreatDoor
open Go.RowKit
theorem ln_pre : ∀ (pre rest : List UInt8), (∀ b ∈ pre, b ≠ 10) → (rest = [] ∨ ∃ r, rest = 10 :: r) → lnO (pre ++ rest) = pre ∧ nxO (pre ++ rest) = rest
  | [], rest, _, hr => by
    rcases hr with rfl | ⟨r, rfl⟩
    · exact ⟨rfl, rfl⟩
    · exact ⟨by simp [lnO], by simp [nxO]⟩
  | b :: p, rest, h, hr => by
    have h1 : b ≠ 10 := h b (by simp)
    have ih := ln_pre p rest (fun x hx => h x (by simp [hx])) hr
    rw [List.cons_append, ln_cons h1, nx_cons h1, ih.1, ih.2]
    exact ⟨rfl, rfl⟩
theorem rli_info : (Tryz.prog.info? 92).map (fun i => (i.zero, i.size, i.bytes)) = some (some (.agg #[.int .i64 0, .slice none 0 0]), 2, 32) := by kernel_rfl
/-- The part of a line that was gone through. -/
structure PrO (S : ByteArray) (f i : Nat) : Prop where
  ex : ∃ pre, (bl S).drop f = pre ++ (bl S).drop i ∧ (∀ b ∈ pre, b ≠ 10) ∧ pre.length = i - f
theorem PrO.start (S : ByteArray) (f : Nat) : PrO S f f := ⟨[], by simp, by simp, by simp⟩
theorem PrO.step {S : ByteArray} {f i : Nat} (h : PrO S f i) (hf : f ≤ i) (hi : i < S.size) (hb : S[i]'hi ≠ 10) : PrO S f (i + 1) := by
  obtain ⟨pre, h1, h2, h3⟩ := h.ex
  have hl : i < (bl S).length := by rw [bl_len]; exact hi
  refine ⟨pre ++ [S[i]'hi], ?_, ?_, by simp [h3]; omega⟩
  · rw [h1, List.drop_eq_getElem_cons hl, bl_get S i hi]; simp
  · intro b hb2
    rcases List.mem_append.1 hb2 with h4 | h4
    · exact h2 b h4
    · rw [List.mem_singleton.1 h4]; exact hb
theorem PrO.fin {S : ByteArray} {f i : Nat} (h : PrO S f i) (hr : (bl S).drop i = [] ∨ ∃ r, (bl S).drop i = 10 :: r) : lnO ((bl S).drop f) = ((bl S).drop f).take (i - f) ∧ nxO ((bl S).drop f) = (bl S).drop i := by
  obtain ⟨pre, h1, h2, h3⟩ := h.ex
  have h4 := ln_pre pre _ h2 hr
  rw [h1, h4.1, h4.2, ← h3]
  exact ⟨by simp, rfl⟩
set_option maxRecDepth 100000 in
set_option maxHeartbeats 16000000 in
theorem rlines_any (S : ByteArray) (hS : S.size ≤ 9223372036854775807) (w : World) : Calls Tryz.prog 43 #[.string S] w fun e w' => LinesR 92 S w.heap.size e w' ∧ Below w.heap.size w w' := by
  by_cases hbig : 65536 < S.size
  · have hC : Hid (linC (bl S) = 30 ∧ linL (bl S) = []) := by
      show _ ∧ _
      unfold linC linL
      rw [bl_len, if_pos hbig, if_pos hbig]; exact ⟨rfl, rfl⟩
    have hb : (S.size : Int) > 65536 := by omega
    clear hbig
    go_enter Tryz.func43, Tryz.ntmps43
    go_wp2_with fail
    go_returns
    exact ⟨⟨none, 0, 0, 0, by rw [hC.out.1]; rfl, by rw [hC.out.2]; exact LinesAt.nil _ _ _⟩, Below.refl _ _⟩
  have hS2 : S.size ≤ 1000000 := by omega
  have hb : ¬ (S.size : Int) > 65536 := by omega
  have HC := Lib.hid (show ¬ 65536 < (bl S).length by rw [bl_len]; exact hbig)
  have hS63 : S.size ≤ 65536 := by omega
  clear hbig hS
  go_enter Tryz.func43, Tryz.ntmps43
  go_wp2_with fail
  go_loopw [5, 6, 7, 8, 9] (fun ov vv fv nv iv wr => ∃ (i f nn m c : Nat) (A : Option Addr) (o : Int) (D : List (List (List UInt8))), i ≤ S.size + 1 ∧ f ≤ i ∧ nn ≤ f ∧ Hid (i = S.size + 1 → f = i) ∧ iv = .int .i64 i ∧ fv = .int .i64 f ∧ nv = .int .i64 nn ∧ vv = .int .i64 o ∧ ov = .slice A m c ∧ Hid ((o < 0 ∧ D.length ≤ 4096) ∨ (0 ≤ o ∧ 4096 < D.length)) ∧ Hid (LnP S f D) ∧ Hid (PrO S f i) ∧ LinesAt 92 wr w.heap.size (.slice A m c) D ∧ Below w.heap.size w wr) (fun _ _ _ _ iv _ => S.size + 1 - (intOf iv).toNat)
  case atStart => exact ⟨0, 0, 0, 0, 0, none, -1, [], by omega, by omega, by omega, fun h => absurd h (by omega), rfl, rfl, rfl, rfl, rfl, .inl ⟨by omega, by simp⟩, LnP.start S, PrO.start S 0, LinesAt.nil _ _ _, Below.refl _ _⟩
  case round =>
    obtain ⟨i, f, nn, m, c, A, o, D, hi, hfi, hnn, hif, rfl, rfl, rfl, rfl, rfl, hov, hLn, hPr, hLr, hbr⟩ := hrel
    obtain ⟨wq, rfl⟩ : ∃ wq : World, wq = wr := ⟨_, rfl⟩
    obtain ⟨hDm, hmc⟩ := own_slice hLr
    subst hDm
    have hDl := hLn.out.len
    have hqz := hbr.size
    by_cases hle : i ≤ S.size
    · have hle' : (i : Int) ≤ (S.size : Int) := by omega
      by_cases hgo : ∃ h : i < S.size, S[i]'h ≠ 10
      · obtain ⟨hlt, hb10⟩ := hgo
        have hP2 := PrO.step hPr.out hfi hlt hb10
        have hix := str_ix S i hlt
        have hnl := isNl_any (S[i]'hlt)
        rw [show isNl (S[i]'hlt) = true by simp [isNl, hb10]] at hnl
        have hlt' : (i : Int) < (S.size : Int) := by omega
        have HP2 := Lib.hid hP2
        generalize S[i]'hlt = b at *
        clear hb10 hP2
        go_wp2_with fail
        exact ⟨⟨i + 1, f, nn, D.length, c, A, o, D, by omega, by omega, hnn, fun h => absurd h (by omega), by go_num, rfl, rfl, rfl, rfl, hov, hLn, HP2, hLr, hbr⟩, by simp [intOf]; omega⟩
      · have hdr : (bl S).drop i = [] ∨ ∃ r, (bl S).drop i = 10 :: r := by
          by_cases hlt : i < S.size
          · right
            have h10 : S[i]'hlt = 10 := by
              by_cases h : S[i]'hlt = 10
              · exact h
              · exact absurd ⟨hlt, h⟩ hgo
            have hl : i < (bl S).length := by rw [bl_len]; exact hlt
            exact ⟨_, by rw [List.drop_eq_getElem_cons hl, bl_get S i hlt, h10]⟩
          · exact .inl (List.drop_eq_nil_of_le (by rw [bl_len]; omega))
        have hF := PrO.fin hPr.out hdr
        have hcut := str_cut S f i hfi hle
        rw [← hF.1] at hcut
        obtain ⟨T, hT⟩ : ∃ T : ByteArray, ⟨(lnO ((bl S).drop f)).toArray⟩ = T := ⟨_, rfl⟩
        have hTb : bl T = lnO ((bl S).drop f) := by rw [← hT, bl_mk]
        have hTs : T.size ≤ 1000000 := by
          rw [← bl_len, hTb, hF.1, List.length_take, List.length_drop, bl_len]; omega
        rw [hT] at hcut
        have hW := fun w' => rwords_any T hTs w'
        have HF := Lib.hid hF
        have HTB := Lib.hid hTb
        have hsplit : (∃ h : i < S.size, S[i]'h = 10) ∨ ¬ i < S.size := by
          by_cases hlt : i < S.size
          · left
            refine ⟨hlt, ?_⟩
            by_cases h : S[i]'hlt = 10
            · exact h
            · exact absurd ⟨hlt, h⟩ hgo
          · exact .inr hlt
        clear hgo hdr hF hT hTb
        rcases hsplit with ⟨hlt, h10⟩ | hlt
        case' inl =>
          have hix := str_ix S i hlt
          rw [h10] at hix
          have hlt' : (i : Int) < (S.size : Int) := by omega
        case' inr =>
          have hlt' : ¬ (i : Int) < (S.size : Int) := by omega
        all_goals
          go_wp2_with fail
          refine (hW _).mono ?_
          rintro e w2 ⟨hR, hb2⟩
          have hbw := hbr.trans (hb2.mono hqz)
          have hL2 := hLr.nx hb2
          have hz2 := hb2.size
          rcases hR with ⟨hno, z, rfl⟩ | ⟨ws, v, hsm, rfl, hown⟩
          · have hT2 := LnP.bad hLn.out (by omega) (by rw [← HTB.out]; exact hno)
            have hR : Hid (linC (bl S) = 21 ∧ linL (bl S) = []) := by
              show _ ∧ _
              unfold linC linL
              rw [if_neg HC.out, if_neg HC.out, hT2]; exact ⟨rfl, rfl⟩
            clear hT2 hno
            go_wp2_with fail
            go_returns
            exact ⟨⟨none, 0, 0, _, by rw [hR.out.1]; rfl, by rw [hR.out.2]; exact LinesAt.nil _ _ _⟩, hbw⟩
          rw [HTB.out] at hsm
          have hN := LnP.next hLn.out (by omega) hsm hle (HF.out.2.symm) hfi
          obtain ⟨Av, cv, rfl, hcv, _⟩ := own_form hown
          by_cases hwe : ws = []
          · subst hwe
            rw [if_pos rfl] at hN
            have HN := Lib.hid hN
            rcases hov.out with ⟨ho, hd4⟩ | ⟨ho, hd4⟩
            · have h4 : ¬ (D.length : Int) > 4096 := by omega
              clear hN hsm hown hd4
              go_wp2_with fail
              exact ⟨⟨i + 1, i + 1, nn + 1, D.length, c, A, o, D, by omega, by omega, by omega, fun h => rfl, by go_num, by go_num, by go_num, rfl, rfl, hov, HN, PrO.start S (i + 1), hL2, hbw⟩, by simp [intOf]; omega⟩
            · have h4 : (D.length : Int) > 4096 := by omega
              have ho2 : ¬ o < 0 := by omega
              clear hN hsm hown hd4 ho
              go_wp2_with fail
              exact ⟨⟨i + 1, i + 1, nn + 1, D.length, c, A, o, D, by omega, by omega, by omega, fun h => rfl, by go_num, by go_num, by go_num, rfl, rfl, hov, HN, PrO.start S (i + 1), hL2, hbw⟩, by simp [intOf]; omega⟩
          rw [if_neg hwe] at hN
          have HN := Lib.hid hN
          have hRl := (RowS.of_own hown rfl rfl).mono (show w.heap.size ≤ wq.heap.size from hqz)
          obtain ⟨xs, h1, h2, h3⟩ := hL2
          obtain ⟨al, hal⟩ : ∃ al, ws.length = al := ⟨_, rfl⟩
          have hal0 : (al : Int) > 0 := by
            have : ws.length ≠ 0 := fun e => hwe (List.length_eq_zero_iff.1 e)
            omega
          have hcva : ws.length ≤ cv := hcv
          simp only [hal] at hcv ⊢
          have HAL := Lib.hid hal
          have hDl2 : D.length ≤ 1000000 := by omega
          have hzw : w.heap.size ≤ w2.heap.size := hbw.size
          clear hN hsm hwe hal hown
          rcases hov.out with ⟨ho, hd4⟩ | ⟨ho, hd4⟩
          · by_cases h4 : D.length = 4096
            · have h4b : (D.length : Int) + 1 > 4096 := by omega
              have HB := Lib.hid (show 4096 < (D ++ [ws]).length by rw [List.length_append, List.length_singleton]; omega)
              clear h4
              go_wp2_with (at_builtin; refine app1 (cs := #[.int .i64 ((nn : Int) + 1), .slice Av al cv]) rfl _ _ _ rfl Tryz.underlying89 rli_info rfl (by decide) rfl rfl h1 (Below.refl w.heap.size w2) (Nat.le_refl _) hzw rfl (by simp [Value.oneCell']) (by omega) (by omega) ?_; intro v9 w9 hown9 hb9 hlt9 hg9 _; obtain ⟨A9, c9, rfl, hc9, _⟩ := own_form hown9)
              have hLA := LinesAt.app (t := 92) (ws := ws) (nj := (nn : Int) + 1) (A := Av) (c := cv) h1 h2 h3 (by decide) hg9 (by rw [HAL.out]; exact hown9) hcva hRl
              exact ⟨⟨i + 1, i + 1, nn + 1, D.length + 1, c9, A9, f, D ++ [ws], by omega, by omega, by omega, fun h => rfl, by go_num, by go_num, by go_num, rfl, rfl, .inr ⟨by omega, HB.out⟩, HN, PrO.start S (i + 1), hLA, hbw.trans hb9⟩, by simp [intOf]; omega⟩
            · have h4b : ¬ (D.length : Int) + 1 > 4096 := by omega
              go_wp2_with (at_builtin; refine app1 (cs := #[.int .i64 ((nn : Int) + 1), .slice Av al cv]) rfl _ _ _ rfl Tryz.underlying89 rli_info rfl (by decide) rfl rfl h1 (Below.refl w.heap.size w2) (Nat.le_refl _) hzw rfl (by simp [Value.oneCell']) (by omega) (by omega) ?_; intro v9 w9 hown9 hb9 hlt9 hg9 _; obtain ⟨A9, c9, rfl, hc9, _⟩ := own_form hown9)
              have hLA := LinesAt.app (t := 92) (ws := ws) (nj := (nn : Int) + 1) (A := Av) (c := cv) h1 h2 h3 (by decide) hg9 (by rw [HAL.out]; exact hown9) hcva hRl
              exact ⟨⟨i + 1, i + 1, nn + 1, D.length + 1, c9, A9, o, D ++ [ws], by omega, by omega, by omega, fun h => rfl, by go_num, by go_num, by go_num, rfl, rfl, .inl ⟨ho, by rw [List.length_append, List.length_singleton]; omega⟩, HN, PrO.start S (i + 1), hLA, hbw.trans hb9⟩, by simp [intOf]; omega⟩
          · have h4b : (D.length : Int) + 1 > 4096 := by omega
            have ho2 : ¬ o < 0 := by omega
            go_wp2_with (at_builtin; refine app1 (cs := #[.int .i64 ((nn : Int) + 1), .slice Av al cv]) rfl _ _ _ rfl Tryz.underlying89 rli_info rfl (by decide) rfl rfl h1 (Below.refl w.heap.size w2) (Nat.le_refl _) hzw rfl (by simp [Value.oneCell']) (by omega) (by omega) ?_; intro v9 w9 hown9 hb9 hlt9 hg9 _; obtain ⟨A9, c9, rfl, hc9, _⟩ := own_form hown9)
            have hLA := LinesAt.app (t := 92) (ws := ws) (nj := (nn : Int) + 1) (A := Av) (c := cv) h1 h2 h3 (by decide) hg9 (by rw [HAL.out]; exact hown9) hcva hRl
            exact ⟨⟨i + 1, i + 1, nn + 1, D.length + 1, c9, A9, o, D ++ [ws], by omega, by omega, by omega, fun h => rfl, by go_num, by go_num, by go_num, rfl, rfl, .inr ⟨ho, by rw [List.length_append, List.length_singleton]; omega⟩, HN, PrO.start S (i + 1), hLA, hbw.trans hb9⟩, by simp [intOf]; omega⟩
    · obtain rfl : i = S.size + 1 := by omega
      have hf : f = S.size + 1 := hif.out rfl
      subst hf
      obtain ⟨Da, hT, hDa⟩ := hLn.out.done (by omega)
      have hle' : ¬ (((S.size + 1 : Nat) : Int) ≤ (S.size : Int)) := by omega
      have hle2 : ¬ ((S.size : Int) + 1 ≤ (S.size : Int)) := by omega
      rcases hov.out with ⟨ho, hd4⟩ | ⟨ho, hd4⟩
      · have hR : Hid (linC (bl S) = 0 ∧ linL (bl S) = D) := by
          show _ ∧ _
          unfold linC linL
          rw [if_neg HC.out, if_neg HC.out, hT]
          simp only
          rw [← hDa, if_neg (by omega), if_neg (by omega)]; exact ⟨rfl, rfl⟩
        have ho2 : ¬ o ≥ 0 := by omega
        clear hT hDa hd4
        go_wp2_with fail
        go_returns
        exact ⟨⟨A, D.length, c, 0, by rw [hR.out.1]; rfl, by rw [hR.out.2]; exact hLr⟩, hbr⟩
      · have hR : Hid (linC (bl S) = 30 ∧ linL (bl S) = []) := by
          show _ ∧ _
          unfold linC linL
          rw [if_neg HC.out, if_neg HC.out, hT]
          simp only
          rw [← hDa, if_pos (by omega), if_pos (by omega)]; exact ⟨rfl, rfl⟩
        have ho2 : o ≥ 0 := by omega
        clear hT hDa hd4 ho
        go_wp2_with fail
        go_returns
        exact ⟨⟨none, 0, 0, _, by rw [hR.out.1]; rfl, by rw [hR.out.2]; exact LinesAt.nil _ _ _⟩, hbr⟩
end Go.Proofs.YtgohbkkeppknoaaGreatDoor
end
