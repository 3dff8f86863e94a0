/- Several texts in one: A text as commands: the scanner's line, walked. -/
import Derived.Test.YtgohbkkeppknoaaGreatDoorCmdAllZz2
import Derived.Deep.RegionHeld3
section
set_option linter.unusedVariables false
namespace Go.Proofs.YtgohbkkeppknoaaGreatDoor
open Go.RowKit
theorem own_lt' {w : World} {base n size : Nat} {e : TypeId} {v : Value} {xs : List Value} (h : w.ownsRow base e size v n xs) : ∀ b, v.ownBlock = some b → b < w.heap.size := fun b hb => (h.lt b hb).2
theorem own_slice {w : World} {t : TypeId} {B : Nat} {Ao : Option Addr} {m c : Nat} {D : List (List (List UInt8))} (h : LinesAt t w B (.slice Ao m c) D) : D.length = m ∧ m ≤ c := by
  obtain ⟨xs, h1, _⟩ := h
  rcases h1.2 with ⟨h2, h3⟩ | ⟨g, cap, cur, hv, _, _, hn, _⟩
  · injection h2 with _ h2 h4; omega
  · injection hv with _ h2 h4; omega
theorem keepL {w w2 : World} {g : Nat} {x y : Value} (h1 : w.cell? ⟨g, 1, none⟩ = some x) (h2 : w.cell? ⟨g, 2, none⟩ = some y) (hg : g < w.heap.size) (hb : Below w.heap.size w w2) : (w2.cell? ⟨g, 1, none⟩ = some x ∧ w2.cell? ⟨g, 2, none⟩ = some y) ∧ Below w.heap.size w w2 :=
  ⟨⟨(hb.cell (p := ⟨g, 1, none⟩) hg).trans h1, (hb.cell (p := ⟨g, 2, none⟩) hg).trans h2⟩, hb⟩
theorem li_info2 : (Tryz.prog.info? 88).map (fun i => (i.zero, i.size, i.bytes)) = some (some (.agg #[.int .i64 0, .slice none 0 0]), 2, 32) := by kernel_rfl
theorem li_app (W : World) (base k : Nat) (v : Value) (xs : List Value) (a : Int) (A : Option Addr) (n c : Nat) (ho : W.ownsRow base 88 2 v k xs) (hb : base ≤ W.heap.size) (hk : k ≤ 1000000) :
    ∃ v' w', (Builtin.append_ #[84, 84] 84 #[v, .slice (some ⟨W.heap.size, 0, none⟩) 1 1]).run Tryz.prog (W.alloc (.cells #[.int .i64 a, .slice A n c] 88)) = .ok v' w' ∧ w'.ownsRow base 88 2 v' (k + 1) (xs ++ [.int .i64 a, .slice A n c]) ∧ (W.alloc (.cells #[.int .i64 a, .slice A n c] 88)).grownBy w' v.ownBlock ∧ (v'.ownBlock = v.ownBlock ∨ v'.ownBlock = some (W.heap.size + 1)) := by
  obtain ⟨i, hi', hz, hs0, hby⟩ := info_parts li_info2
  obtain ⟨v', w', hr, h2, h3, _, h5⟩ := run_append_own_at (P := Tryz.prog) (W.alloc (.cells #[.int .i64 a, .slice A n c] 88)) base 84 84 88 i _ 2 32 Tryz.underlying84 hi' hz hs0 hby rfl (by decide) v k xs (ho.alloc _) ⟨W.heap.size, 0, none⟩ 1 1 [.int .i64 a, .slice A n c] rfl
    (fun j u hj => by rw [add0, World.cell?_alloc_new]; simpa using hj) (by simp [Value.oneCell']) (by simp [maxLen]; omega) (by omega) (by simp; omega)
  exact ⟨v', w', hr, h2, h3, by simpa using h5⟩
theorem li_append_run {P : Program} {o : Oper} {a : Act} {K : Act → World → Prop} {Q : Exit → Act → World → Prop} {w w' : World} {v v' sl : Value} (s x : Operand) (t : TypeId)
    (ho : o.op = .call { callee := .builtin .append, args := #[s, x], argTypes := #[t, t] }) (hs : a.eval s = v) (hx : a.eval x = sl)
    (hr : (Builtin.append_ #[t, t] o.type #[v, sl]).run P w = .ok v' w') (hK : K (a.put o.dst v') w') : Oper.wp P o a w K Q := by
  unfold Oper.wp execOp
  simp only [ho, resolve, invoke, builtin, Sem.run_bind, Sem.run_pure, Result.andThen_ok, List.map_toArray, List.map_cons, List.map_nil, hs, hx, hr]
  exact hK
theorem RowS.mono {w : World} {B B' : Nat} {A : Option Addr} {ws : List (List UInt8)} (h : RowS w B A ws) (hB : B' ≤ B) : RowS w B' A ws := by
  rcases h with h | ⟨b, o, cs, rfl, h1, h2, h3⟩
  · exact .inl h
  · exact .inr ⟨b, o, cs, rfl, by omega, h2, h3⟩
/-- What the line's end lays in memory. -/
theorem line_end {S : ByteArray} {q : Nat} {n : Int} {Ao : Option Addr} {m c : Nat} {v : Int} {B g gl : Nat} {D : List (List (List UInt8))} {Al : Option Addr} {cl : Nat} {acc : List (List UInt8)} {wx : World} (hD : D.length ≤ 1000000)
    (kg : Bk wx g 136 (scA S q n Ao m c v)) (kl : Bk wx gl 88 #[.int .i64 n, .slice Al acc.length cl]) (hL : LinesAt 88 wx B (.slice Ao m c) D) (hr : RowS wx B Al acc) (hc : acc.length ≤ cl) (hB : B ≤ wx.heap.size) (hBg : B ≤ g) (hBl : gl ≠ g)
    (hgl : ∀ b, (Value.slice Ao m c).ownBlock = some b → b ≠ gl) :
    ∃ A9 c9 w9, (Builtin.append_ #[84, 84] 84 #[.slice Ao m c, .slice (some ⟨wx.heap.size, 0, none⟩) 1 1]).run Tryz.prog (wx.drew.alloc (.cells #[.int .i64 n, .slice Al acc.length cl] 88)) = .ok (.slice A9 (m + 1) c9) w9 ∧
      Bk w9 g 136 (scA S q n Ao m c v) ∧ Bk w9 gl 88 #[.int .i64 n, .slice Al acc.length cl] ∧ Bk (w9.setCell ⟨g, 3, none⟩ (.slice A9 (m + 1) c9)) g 136 (scA S q n A9 (m + 1) c9 v) ∧ Bk (w9.setCell ⟨g, 3, none⟩ (.slice A9 (m + 1) c9)) gl 88 #[.int .i64 n, .slice Al acc.length cl] ∧
      LinesAt 88 (w9.setCell ⟨g, 3, none⟩ (.slice A9 (m + 1) c9)) B (.slice A9 (m + 1) c9) (D ++ [acc]) ∧ Below B wx (w9.setCell ⟨g, 3, none⟩ (.slice A9 (m + 1) c9)) := by
  obtain ⟨hDm, hmc⟩ := own_slice hL
  have hbA : Below wx.heap.size wx (wx.drew.alloc (.cells #[.int .i64 n, .slice Al acc.length cl] 88)) := ((Below.refl wx.heap.size wx).drew).alloc (Nat.le_refl _) _
  have hLA := hL.nx hbA
  obtain ⟨xs, h1, h2, h3⟩ := hL
  obtain ⟨v9, w9, hap, hown9, hg99, hvo⟩ := li_app wx.drew B D.length _ xs n Al acc.length cl h1 hB hD
  obtain ⟨A9, c9, rfl, _⟩ := own_form hown9
  have kgA := kg.nx hbA
  have klA := kl.nx hbA
  have hne1 : some g ≠ (Value.slice Ao m c).ownBlock := fun e => kg.ne_own h1 (by decide) g e.symm rfl
  have hne2 : some gl ≠ (Value.slice Ao m c).ownBlock := fun e => hgl gl e.symm rfl
  have kg9 := kgA.grown hg99 hne1
  have kl9 := klA.grown hg99 hne2
  have h1A := own_below h1 hbA (Nat.le_refl _)
  have hl9 : LinesAt 88 w9 B (.slice A9 (D.length + 1) c9) (D ++ [acc]) := LinesAt.app h1A h2 (fun j hj => by obtain ⟨nj, A, c, a1, a2, a3, a4⟩ := h3 j hj; exact ⟨nj, A, c, a1, a2, a3, a4.nx hbA⟩) (by decide) hg99 hown9 hc (hr.nx hbA)
  rw [hDm] at hl9 hap
  have kgs := kg9.set 3 (.slice A9 (m + 1) c9)
  simp only [List.setIfInBounds_toArray, List.set_cons_zero, List.set_cons_succ] at kgs
  have hb9 : Below B wx w9 := (hbA.mono hB).grown hg99 (by have := hbA.size; omega) (fun k hk => own_ge h1 k hk)
  refine ⟨A9, c9, w9, hap, kg9, kl9, kgs, kl9.far (p := ⟨g, 3, none⟩) hBl _, ?_, hb9.setCell (p := ⟨g, 3, none⟩) hBg _⟩
  exact hl9.gb (gb_set1 w9 ⟨g, 3, none⟩ _) kg9 (by decide) (by decide)
/-- What a line comes to. -/
def LineR (S : ByteArray) (p g : Nat) (n : Int) (B : Nat) (D : List (List (List UInt8))) (e : Ending) (w' : World) : Prop := (tokR (lnO ((bl S).drop p)) [] = none ∧ e = .returned (.bool false) ∧ ∃ cs, Bk w' g 136 cs ∧ ∃ q : Nat, cs[1]? = some (.int .i64 q)) ∨ ∃ ws, tokR (lnO ((bl S).drop p)) [] = some ws ∧ e = .returned (.bool true) ∧ ∃ (q : Nat) (A' : Option Addr) (m' c' : Nat) (v' : Int), q ≤ S.size ∧ (bl S).drop q = nxO ((bl S).drop p) ∧ Bk w' g 136 (scA S q n A' m' c' v') ∧ LinesAt 88 w' B (.slice A' m' c') (if ws = [] then D else D ++ [ws])
abbrev li0 : Array Value := #[.int .i64 0, .slice none 0 0]
set_option maxRecDepth 100000 in
set_option maxHeartbeats 16000000 in
theorem line_any (S : ByteArray) (hS : S.size ≤ 1000000) (p : Nat) (hp : p ≤ S.size) (g : Nat) (n : Int) (Ao : Option Addr) (m c : Nat) (v : Int) (B : Nat) (D : List (List (List UInt8))) (hD : D.length ≤ 1000000) (w : World) (hK : Bk w g 136 (scA S p n Ao m c v)) (hL : LinesAt 88 w B (.slice Ao m c) D) (hB : B ≤ g) :
    Calls Tryz.prog 81 #[.pointer (some ⟨g, 0, none⟩)] w fun e w' => Below B w w' ∧ LineR S p g n B D e w' := by
  obtain ⟨c0, c1, c2, c3, c4⟩ := hK.cell5s
  have hlt := hK.lt
  go_enter Tryz.func81, Tryz.ntmps81
  go_upto_region 1 with fail
  have hnew := Bk.new w 88 li0
  go_region_held3 (fun w' => (w'.cell? ⟨g, 1, none⟩ = some (.int .i64 p) ∧ w'.cell? ⟨g, 2, none⟩ = some (.int .i64 n)) ∧ Below w.heap.size w w')
    ((refine keepL c1 c2 hlt ?_; go_grown))
    (fail)
  rename_i hHeld
  clear hHeld
  have hL1 := ((Lie.start w).alloc #[.int .i64 n, .slice none 0 0] 88).drew
  have hKl : Bk _ w.heap.size 88 #[.int .i64 n, .slice none 0 0] := hL1.k 0 (by simp)
  have hK1 : Bk _ g 136 (scA S p n Ao m c v) := hK.nx hL1.bel
  have hg1 : w.grownBy _ (some g) := gb_of_below hL1.bel
  have hz1 : w.heap.size + 1 ≤ ((w.alloc (.cells #[.int .i64 n, .slice none 0 0] 88)).drew).heap.size := by simp
  obtain ⟨gl, hgl⟩ : ∃ gl, w.heap.size = gl := ⟨_, rfl⟩
  have HGL := Lib.hid hgl
  simp only [hgl] at hKl hlt hz1 ⊢
  clear hL1 hnew c0 c1 c2 c3 c4 hgl
  generalize (w.alloc (.cells #[.int .i64 n, .slice none 0 0] 88)).drew = w1 at *
  go_wp2_with fail
  go_loopw [5] (fun _ wr => ∃ (P : Nat) (acc : List (List UInt8)) (vl : Value), P ≤ S.size ∧ acc.length ≤ P ∧ Hid (tokR (lnO ((bl S).drop p)) [] = (tokR (lnO ((bl S).drop P)) []).map (acc ++ ·) ∧ nxO ((bl S).drop P) = nxO ((bl S).drop p)) ∧ Bk wr g 136 (scA S P n Ao m c v) ∧ Bk wr gl 88 #[.int .i64 n, vl] ∧ wr.ownsRow (gl + 1) 9 1 vl acc.length (acc.map strV) ∧ gl + 1 ≤ wr.heap.size ∧ w.grownBy wr (some g)) (fun _ wr => S.size - (intOf ((wr.cell? ⟨g, 1, none⟩).getD undef)).toNat)
  case atStart => exact ⟨p, [], _, hp, by simp, ⟨by simp, rfl⟩, hK1, hKl, World.ownsRow_nil _ _ _ _, hz1, hg1⟩
  case round =>
    clear hK1 hKl hg1 hz1
    obtain ⟨P, acc, vl, hP, hacc, hInv, hKr, hKlr, hown, hzr, hgr⟩ := hrel
    obtain ⟨wq, rfl⟩ : ∃ wq : World, wq = wr := ⟨_, rfl⟩
    have hBl := blanks_any S hS P hP g n Ao m c v wq hKr
    have hsk := skP_le S P hP
    have hnx := tok_next S P hP
    have hls := tok_last S P hP
    have hsp := span_le isMk ((bl S).drop (skP S P))
    rw [List.length_drop, bl_len] at hsp
    have hWd := fun w2 hK2 => word_any S hS (skP S P) hsk.2 g n Ao m c v w2 hK2
    obtain ⟨q, hq⟩ : ∃ q, skP S P = q := ⟨_, rfl⟩
    simp only [hq] at hBl hsk hnx hls hsp hWd
    obtain ⟨wd, hwd⟩ : ∃ wd, ((bl S).drop q).takeWhile isMk = wd := ⟨_, rfl⟩
    have hspl : spanM isMk ((bl S).drop q) = wd.length := by rw [← hwd]; rfl
    simp only [hwd, hspl] at hWd hnx hls hsp
    have hm0 : wq.cell? ⟨g, 1, none⟩ = some (.int .i64 P) := hKr.cell5s.2.1
    have HM0 := Lib.hid hm0
    clear hq hwd hspl hm0
    by_cases hwe : wd = []
    · subst hwe
      have hlast := hls rfl
      clear hnx hls
      go_upto_region 6 with (first
        | (go_at_call 138; (with_reducible refine hBl.mono ?_); rintro e w2 ⟨rfl, hK2, hg2⟩)
        | (go_at_call 139; (with_reducible refine (hWd _ hK2).mono ?_); rintro e w3 ⟨rfl, hK3, hg3⟩))
      simp only [List.length_nil, Nat.add_zero] at hK3
      have hgr3 : w.grownBy w3 (some g) := gb_trans (gb_trans hgr hg2 (fun _ e => .inl e)) hg3 (fun _ e => .inl e)
      have hKl3 := (hKlr.grown hg2 (by intro e; injection e with e; omega)).grown hg3 (by intro e; injection e with e; omega)
      have hown3 := own_gb50 (own_gb50 hown hg2 (fun b hb e => by have := own_ge hown b hb; injection e with e; omega)) hg3 (fun b hb e => by have := own_ge hown b hb; injection e with e; omega)
      have hL3 := hL.gb hgr3 hK (by decide) (by decide)
      have hb3 : Below B w w3 := below_of_gb (Below.refl B w) hgr3 hB (by have := HGL.out; omega)
      have hz3 : gl + 1 ≤ w3.heap.size := by have := hg2.size; have := hg3.size; omega
      clear hBl hWd hKr hKlr hown hgr hg2 hg3 hK2 hsp hzr
      obtain ⟨c0, c1, c2, c3, c4⟩ := hK3.cell5s
      have q0 := fun (d : Nat) (os : Array Obj) => cell_regrown c0 d os
      have q1 := fun (d : Nat) (os : Array Obj) => cell_regrown c1 d os
      clear c0 c1 c2 c3 c4
      obtain ⟨Al, cl, rfl, hcl, _⟩ := own_form hown3
      have hRl := (RowS.of_own hown3 rfl rfl).mono (show B ≤ gl + 1 by omega)
      have hHGL := HGL.out
      have hgood : ((bl S)[q]? = none ∨ (bl S)[q]? = some 10) → ∀ wx : World, Below w3.heap.size w3 wx → True := fun _ _ _ => trivial
      by_cases hbad : ∃ b, (bl S)[q]? = some b ∧ b ≠ 10
      · obtain ⟨b, hb, hb10⟩ := hbad
        obtain ⟨hql, hqb⟩ := List.getElem?_eq_some_iff.1 hb
        have hql2 : q < S.size := by rw [bl_len] at hql; exact hql
        have hix := str_ix S q hql2
        rw [show S[q]'hql2 = b from hqb] at hix
        have hnl := isNl_any b
        rw [show isNl b = true by simp [isNl, hb10]] at hnl
        have hlt' : (q : Int) < (S.size : Int) := by omega
        have hno := hlast.2 b hb hb10
        clear hlast hgood
        refine wp_region_quiet_below (by kernel_rfl) (by kernel_rfl) ?_
        repeat (first
          | go_big_quiet_step (fail)
          | quiet_step (fail))
        refine wpQuiet_nil ?_
        intro _ hw'
        obtain ⟨⟨d9, os⟩, hw''⟩ := hw'
        subst hw''
        have hbx := below_regrown w3 d9 os
        have hKx := hK3.nx hbx
        clear q0 q1
        generalize Go.Sort.grow (redrawn w3 d9) os = wx at *
        go_wp2_with fail
        go_returns
        refine ⟨hb3.trans (hbx.mono (by omega)), Or.inl ⟨?_, rfl, _, hKx, q, rfl⟩⟩
        rw [hInv.out.1, hno]; rfl
      · have hgo := hlast.1 (by
          cases hq : (bl S)[q]? with
          | none => exact .inl rfl
          | some b => exact .inr (by by_cases h10 : b = 10; rw [h10]; exact absurd ⟨b, hq, h10⟩ hbad))
        have hsplit : (q < S.size ∧ (bl S)[q]? = some 10) ∨ ¬ q < S.size := by
          by_cases hql : q < S.size
          · left
            refine ⟨hql, ?_⟩
            cases hq : (bl S)[q]? with
            | none => rw [List.getElem?_eq_none_iff, bl_len] at hq; omega
            | some b => by_cases h10 : b = 10; rw [h10]; exact absurd ⟨b, hq, h10⟩ hbad
          · exact .inr hql
        clear hlast hgood hbad
        rcases hsplit with ⟨hql, hq10⟩ | hql
        case' inl =>
          have hix := str_ix S q hql
          rw [show S[q]'hql = 10 from (by obtain ⟨h1, h2⟩ := List.getElem?_eq_some_iff.1 hq10; exact h2)] at hix
          have hlt' : (q : Int) < (S.size : Int) := by omega
        case' inr =>
          have hlt' : ¬ (q : Int) < (S.size : Int) := by omega
        all_goals
          refine wp_region_quiet_below (by kernel_rfl) (by kernel_rfl) ?_
          repeat (first
            | go_big_quiet_step (fail)
            | quiet_step (fail))
          refine wpQuiet_nil ?_
          intro _ hw'
          obtain ⟨⟨d9, os⟩, hw''⟩ := hw'
          subst hw''
          have hbx := below_regrown w3 d9 os
          have kg := hK3.nx hbx
          have kl := hKl3.nx hbx
          have hLx := hL3.nx hbx
          have hRx := hRl.nx hbx
          have hbB := hb3.trans (hbx.mono (by omega))
          have hzx : gl + 1 ≤ (Go.Sort.grow (redrawn w3 d9) os).heap.size := Nat.le_trans hz3 hbx.size
          have hgne : ∀ b, (Value.slice Ao m c).ownBlock = some b → b ≠ gl := fun b hb => by
            obtain ⟨xs, h1, _⟩ := hL
            have := own_lt' h1 b hb
            omega
          clear q0 q1 hK3 hKl3 hL3 hRl hb3 hz3 hbx hown3
          generalize Go.Sort.grow (redrawn w3 d9) os = wx at *
          obtain ⟨c0, c1, c2, c3, c4⟩ := kg.cell5s
          obtain ⟨k0, k1⟩ := kl.cell2
          by_cases hae : acc = []
          · subst hae
            have e4 := kg.frozen 4
            by_cases hm4 : (m : Int) = 4097
            · have hmb : ((m : Int) == 4097) = true := beq_iff_eq.2 hm4
              clear hm4
              go_wp2_with fail
              go_returns
              exact ⟨hbB, Or.inr ⟨[], by rw [hInv.out.1, hgo.1]; simp, rfl, q, Ao, m, c, v, hsk.2, by rw [hgo.2, hInv.out.2], kg, hLx⟩⟩
            · have hmb : ((m : Int) == 4097) = false := beq_eq_false_iff_ne.2 hm4
              clear hm4
              go_wp2_with fail
              go_returns
              exact ⟨hbB, Or.inr ⟨[], by rw [hInv.out.1, hgo.1]; simp, rfl, q, Ao, m, c, v, hsk.2, by rw [hgo.2, hInv.out.2], kg, hLx⟩⟩
          obtain ⟨al, hal⟩ : ∃ al, acc.length = al := ⟨_, rfl⟩
          have hal0 : (al : Int) > 0 := by
            have : acc.length ≠ 0 := fun e => hae (List.length_eq_zero_iff.1 e)
            omega
          have hal1 : 0 < al := by omega
          obtain ⟨A9, c9, w9, hap, kg9, kl9, kgs, kls, hls9, hbs9⟩ := line_end hD kg kl hLx hRx hcl (by omega) hB (by omega) hgne
          simp only [hal] at kl k0 k1 hap kl9 kls ⊢
          have HAL := Lib.hid hal
          have hbz := hbB.trans hbs9
          have hbA : Below wx.heap.size wx (wx.drew.alloc (.cells #[.int .i64 n, .slice Al al cl] 88)) := ((Below.refl wx.heap.size wx).drew).alloc (Nat.le_refl _) _
          have h0S : (fun w'' : World => w''.cell? ⟨gl, 0, none⟩ = some (.int .i64 n) ∧ w''.cell? ⟨gl, 1, none⟩ = some (.slice Al al cl)) wx.drew := kl.cell2
          have hAS : (fun w'' : World => w''.cell? ⟨gl, 0, none⟩ = some (.int .i64 n) ∧ w''.cell? ⟨gl, 1, none⟩ = some (.slice Al al cl)) (wx.drew.alloc (.cells #[.int .i64 n, .slice Al al cl] 88)) := (kl.nx hbA).cell2
          have h9S : (fun w'' : World => w''.cell? ⟨gl, 0, none⟩ = some (.int .i64 n) ∧ w''.cell? ⟨gl, 1, none⟩ = some (.slice Al al cl)) w9 := kl9.cell2
          have hzS : (fun w'' : World => w''.cell? ⟨gl, 0, none⟩ = some (.int .i64 n) ∧ w''.cell? ⟨gl, 1, none⟩ = some (.slice Al al cl)) (w9.setCell ⟨g, 3, none⟩ (.slice A9 (m + 1) c9)) := kls.cell2
          have eA : (wx.drew.alloc (.cells #[.int .i64 n, .slice Al al cl] 88)).cell? ⟨g, 3, none⟩ = some (.slice Ao m c) := (kg.nx hbA).cell5s.2.2.2.1
          have eB : (wx.alloc (.cells #[.int .i64 n, .slice Al al cl] 88)).cell? ⟨g, 3, none⟩ = some (.slice Ao m c) := eA
          have e93 := kg9.cell5s.2.2.2.1
          have f93 := kg9.frozen 3
          clear hal hbs9 hbA kg kl kg9 kl9 hLx hRx hbB
          go_upto_region 9 with fail
          refine wp_region_held_drew (S := (fun w'' : World => w''.cell? ⟨gl, 0, none⟩ = some (.int .i64 n) ∧ w''.cell? ⟨gl, 1, none⟩ = some (.slice Al al cl))) (by kernel_rfl) h0S (fun hHeld => ?_)
          refine wpAnyH_take (i := 0) (v := ?_) rfl (by kernel_rfl) (by kernel_rfl) (by kernel_rfl) (fun _ _ _ h => h) (Or.inl ⟨by rfl, ?_⟩) (by assumption) ?_
          rotate_left
          · (intro w hSw; (try dsimp only at hSw); go_simp; try with_reducible rfl)
          refine wpAnyH_take (i := 1) (v := ?_) rfl (by kernel_rfl) (by kernel_rfl) (by kernel_rfl) (fun _ _ _ h => h) (Or.inl ⟨by rfl, ?_⟩) (by assumption) ?_
          rotate_left
          · (intro w hSw; (try dsimp only at hSw); go_simp; try with_reducible rfl)
          refine wpAnyH_take (i := 2) (v := ?_) rfl (by kernel_rfl) (by kernel_rfl) (by kernel_rfl) (fun _ _ _ h => h) (Or.inl ⟨by rfl, ?_⟩) (by assumption) ?_
          rotate_left
          · (intro w hSw; (try dsimp only at hSw); go_simp; try with_reducible rfl)
          refine wpAnyH_take (i := 3) (v := ?_) rfl (by kernel_rfl) (by kernel_rfl) (by kernel_rfl) (fun _ _ _ h => h) (Or.inl ⟨by rfl, ?_⟩) (by assumption) ?_
          rotate_left
          · (intro w hSw; (try dsimp only at hSw); go_simp; try with_reducible rfl)
          refine wpAnyH_take (i := 5) (v := ?_) rfl (by kernel_rfl) (by kernel_rfl) (by kernel_rfl) (fun _ _ _ h => h) (Or.inl ⟨by rfl, ?_⟩) (by assumption) ?_
          rotate_left
          · (intro w hSw; (try dsimp only at hSw); go_simp; try with_reducible rfl)
          refine wpAnyH_ready (rs := [4, 6]) (by kernel_rfl) (by simp) ?_
          refine AllReadyH.cons rfl (fun K hK => ?_) (AllReadyH.cons rfl (fun K hK => ?_) AllReadyH.nil)
          · go_simp
            refine hK.out _ _ hHeld (fun hHeld => ?_)
            clear hK K
            refine wpAnyH_ready (rs := [6]) (by kernel_rfl) (by simp) ?_
            refine AllReadyH.cons rfl (fun K hK => ?_) AllReadyH.nil
            go_simp
            refine hK.out _ _ hAS (fun hHeld => ?_)
            clear hK K
            refine wpAnyH_ready (rs := [7]) (by kernel_rfl) (by simp) ?_
            refine AllReadyH.cons rfl (fun K hK => ?_) AllReadyH.nil
            rw [if_pos (by kernel_rfl)]
            refine li_append_run (v := .slice Ao m c) _ _ _ rfl rfl rfl hap ?_
            go_simp
            refine hK.out _ _ h9S (fun hHeld => ?_)
            clear hK K
            refine wpAnyH_take (i := 8) (v := ?_) rfl (by kernel_rfl) (by kernel_rfl) (by kernel_rfl) (fun _ _ _ h => h) (Or.inl ⟨by rfl, ?_⟩) (by assumption) ?_
            rotate_left
            · (intro w hSw; (try dsimp only at hSw); go_simp; try with_reducible rfl)
            refine wpAnyH_take (i := 9) (v := ?_) rfl (by kernel_rfl) (by kernel_rfl) (by kernel_rfl) (fun _ _ _ h => h) (Or.inl ⟨by rfl, ?_⟩) (by assumption) ?_
            rotate_left
            · (intro w hSw; (try dsimp only at hSw); go_simp; try with_reducible rfl)
            refine wpAnyH_ready (rs := [10]) (by kernel_rfl) (by simp) ?_
            refine AllReadyH.cons rfl (fun K hK => ?_) AllReadyH.nil
            go_simp
            refine hK.out _ _ hzS (fun hHeld => ?_)
            clear hK K
            refine wpAnyH_done (by kernel_rfl) ?_ _
            generalize w9.setCell ⟨g, 3, none⟩ (.slice A9 (m + 1) c9) = wz at *
            obtain ⟨x0, x1, x2, x3, x4⟩ := kgs.cell5s
            obtain ⟨y0, y1⟩ := kls.cell2
            obtain ⟨M, hM⟩ : ∃ M, m + 1 = M := ⟨_, rfl⟩
            simp only [hM] at *
            have e4 := kgs.frozen 4
            by_cases hm4 : (M : Int) = 4097
            · have hmb : ((M : Int) == 4097) = true := beq_iff_eq.2 hm4
              have kg5 := kgs.set 4 (.int .i64 p)
              simp only [List.setIfInBounds_toArray, List.set_cons_zero, List.set_cons_succ] at kg5
              have hL5 := hls9.gb (gb_set1 wz ⟨g, 4, none⟩ (.int .i64 p)) kgs (by decide) (by decide)
              have hb5 := hbz.setCell (p := ⟨g, 4, none⟩) hB (.int .i64 p)
              clear hm4
              go_wp2_with fail
              go_returns
              exact ⟨hb5, Or.inr ⟨acc, by rw [hInv.out.1, hgo.1]; simp, rfl, q, A9, M, c9, p, hsk.2, by rw [hgo.2, hInv.out.2], kg5, by rw [if_neg hae]; exact hL5⟩⟩
            · have hmb : ((M : Int) == 4097) = false := beq_eq_false_iff_ne.2 hm4
              clear hm4
              go_wp2_with fail
              go_returns
              exact ⟨hbz, Or.inr ⟨acc, by rw [hInv.out.1, hgo.1]; simp, rfl, q, A9, M, c9, v, hsk.2, by rw [hgo.2, hInv.out.2], kgs, by rw [if_neg hae]; exact hls9⟩⟩
          · go_simp
            refine hK.out _ _ hAS (fun hHeld => ?_)
            clear hK K
            refine wpAnyH_ready (rs := [4]) (by kernel_rfl) (by simp) ?_
            refine AllReadyH.cons rfl (fun K hK => ?_) AllReadyH.nil
            go_simp
            refine hK.out _ _ hAS (fun hHeld => ?_)
            clear hK K
            refine wpAnyH_ready (rs := [7]) (by kernel_rfl) (by simp) ?_
            refine AllReadyH.cons rfl (fun K hK => ?_) AllReadyH.nil
            rw [if_pos (by kernel_rfl)]
            refine li_append_run (v := .slice Ao m c) _ _ _ rfl rfl rfl hap ?_
            go_simp
            refine hK.out _ _ h9S (fun hHeld => ?_)
            clear hK K
            refine wpAnyH_take (i := 8) (v := ?_) rfl (by kernel_rfl) (by kernel_rfl) (by kernel_rfl) (fun _ _ _ h => h) (Or.inl ⟨by rfl, ?_⟩) (by assumption) ?_
            rotate_left
            · (intro w hSw; (try dsimp only at hSw); go_simp; try with_reducible rfl)
            refine wpAnyH_take (i := 9) (v := ?_) rfl (by kernel_rfl) (by kernel_rfl) (by kernel_rfl) (fun _ _ _ h => h) (Or.inl ⟨by rfl, ?_⟩) (by assumption) ?_
            rotate_left
            · (intro w hSw; (try dsimp only at hSw); go_simp; try with_reducible rfl)
            refine wpAnyH_ready (rs := [10]) (by kernel_rfl) (by simp) ?_
            refine AllReadyH.cons rfl (fun K hK => ?_) AllReadyH.nil
            go_simp
            refine hK.out _ _ hzS (fun hHeld => ?_)
            clear hK K
            refine wpAnyH_done (by kernel_rfl) ?_ _
            generalize w9.setCell ⟨g, 3, none⟩ (.slice A9 (m + 1) c9) = wz at *
            obtain ⟨x0, x1, x2, x3, x4⟩ := kgs.cell5s
            obtain ⟨y0, y1⟩ := kls.cell2
            obtain ⟨M, hM⟩ : ∃ M, m + 1 = M := ⟨_, rfl⟩
            simp only [hM] at *
            have e4 := kgs.frozen 4
            by_cases hm4 : (M : Int) = 4097
            · have hmb : ((M : Int) == 4097) = true := beq_iff_eq.2 hm4
              have kg5 := kgs.set 4 (.int .i64 p)
              simp only [List.setIfInBounds_toArray, List.set_cons_zero, List.set_cons_succ] at kg5
              have hL5 := hls9.gb (gb_set1 wz ⟨g, 4, none⟩ (.int .i64 p)) kgs (by decide) (by decide)
              have hb5 := hbz.setCell (p := ⟨g, 4, none⟩) hB (.int .i64 p)
              clear hm4
              go_wp2_with fail
              go_returns
              exact ⟨hb5, Or.inr ⟨acc, by rw [hInv.out.1, hgo.1]; simp, rfl, q, A9, M, c9, p, hsk.2, by rw [hgo.2, hInv.out.2], kg5, by rw [if_neg hae]; exact hL5⟩⟩
            · have hmb : ((M : Int) == 4097) = false := beq_eq_false_iff_ne.2 hm4
              clear hm4
              go_wp2_with fail
              go_returns
              exact ⟨hbz, Or.inr ⟨acc, by rw [hInv.out.1, hgo.1]; simp, rfl, q, A9, M, c9, v, hsk.2, by rw [hgo.2, hInv.out.2], kgs, by rw [if_neg hae]; exact hls9⟩⟩
    · have hnext := hnx wd rfl hwe
      have hwl : 1 ≤ wd.length := by cases wd with | nil => exact absurd rfl hwe | cons a b => simp
      obtain ⟨V, HV, hem⟩ : ∃ V, strV wd = .string V ∧ V.toList.isEmpty = false := ⟨_, rfl, bl_ne (by rw [bl_mk]; exact hwe)⟩
      have HNX := Lib.hid hnext
      have HVV := Lib.hid HV
      rw [HV] at hWd
      clear hnx hls hnext hwe HV
      go_upto_region 5 with (first
        | (go_at_call 138; (with_reducible refine hBl.mono ?_); rintro e w2 ⟨rfl, hK2, hg2⟩)
        | (go_at_call 139; (with_reducible refine (hWd _ hK2).mono ?_); rintro e w3 ⟨rfl, hK3, hg3⟩))
      have hgr3 : w.grownBy w3 (some g) := gb_trans (gb_trans hgr hg2 (fun _ e => .inl e)) hg3 (fun _ e => .inl e)
      have hKl3 := (hKlr.grown hg2 (by intro e; injection e with e; omega)).grown hg3 (by intro e; injection e with e; omega)
      have hown3 := own_gb50 (own_gb50 hown hg2 (fun b hb e => by have := own_ge hown b hb; injection e with e; omega)) hg3 (fun b hb e => by have := own_ge hown b hb; injection e with e; omega)
      have hz3 : gl + 1 ≤ w3.heap.size := by have := hg2.size; have := hg3.size; omega
      obtain ⟨k0, k1⟩ := hKl3.cell2
      have hacl : acc.length ≤ 1000000 := by omega
      have hHGL := HGL.out
      clear hBl hWd hKr hKlr hown hgr hg2 hg3 hK2 hzr
      go_wp2_with (at_builtin; refine app1 rfl _ _ _ rfl Tryz.underlying22 str_info rfl Nat.one_pos rfl rfl hown3 (Below.refl (gl + 1) w3) (Nat.le_refl _) hz3 rfl (by simp [Value.oneCell']) (by omega) (by omega) ?_; intro v9 w9 hown9 hb9 hlt9 hg9 _; obtain ⟨A9, c9, rfl, hc9, _⟩ := own_form hown9; have hKl9 := hKl3.below hb9 (by omega); have hK9 := hK3.below hb9 (by omega); have f9 := hKl9.frozen 1; obtain ⟨z0, z1⟩ := hKl9.cell2)
      obtain ⟨v9, hv9⟩ : ∃ v9, (Value.slice A9 (acc.length + 1) c9) = v9 := ⟨_, rfl⟩
      simp only [hv9] at hown9 ⊢
      have hKA := hKl9.set 1 v9
      simp only [List.setIfInBounds_toArray, List.set_cons_zero, List.set_cons_succ] at hKA
      have hKG := hK9.far (p := ⟨gl, 1, none⟩) (by show g ≠ gl; omega) v9
      have hOw := own_far hown9 ⟨gl, 1, none⟩ v9 (fun b hb e => by have := own_ge hown9 b hb; simp only at e; omega)
      have hGB := gb_setCell (gb_below hgr3 hb9 (by omega)) (p := ⟨gl, 1, none⟩) (.inr (by show w.heap.size ≤ gl; omega)) v9
      refine ⟨⟨q + wd.length, acc ++ [wd], v9, by omega, by rw [List.length_append]; simp; omega, ?_, hKG, hKA, ?_, ?_, hGB⟩, ?_⟩
      · refine ⟨?_, ?_⟩
        · rw [hInv.out.1, HNX.out.1]
          cases tokR (lnO ((bl S).drop (q + wd.length))) [] <;> simp
        · rw [HNX.out.2, hInv.out.2]
      · rw [List.length_append, List.map_append, List.map_cons, List.map_nil, HVV.out]; exact hOw
      · simp; omega
      · rw [HM0.out, hKG.cell5s.2.1]
        simp [intOf]
        omega
end Go.Proofs.YtgohbkkeppknoaaGreatDoor
end
