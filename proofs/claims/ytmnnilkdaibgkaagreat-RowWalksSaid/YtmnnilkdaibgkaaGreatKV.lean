/- Several texts in one: row: New, of a transform of any kind. row: Rest, all that is left. The chapter's example of rows. -/
import Derived.Test.YtmnnilkdaibgkaaGreatKU
import Derived.Test.YtmnnilkdaibgkaaGreatKT
import Derived.Test.YtmnnilkdaibgkaaGreatXI
import Derived.Test.YtmnnilkdaibgkaaGreatKG
import Derived.Test.YtmnnilkdaibgkaaGreatApp
import Derived.Test.YtmnnilkdaibgkaaGreatK9
import Derived.Test.YtmnnilkdaibgkaaGreatK3
section
set_option linter.unusedVariables false
namespace Go.Proofs.YtmnnilkdaibgkaaGreat
open Go.RowKit
/-- New's code. -/
def rwC (k : Int) (l : List Int) (W H y : Int) : Int := if xC k l W H ≠ 0 then xC k l W H else if 0 ≤ y ∧ y < H then 0 else 11
/-- What New answers. -/
def RwR (k : Int) (l : List Int) (W H y : Int) (w w' : World) (p : Option Addr) : Prop :=
  (rwC k l W H y ≠ 0 → p = none) ∧ (rwC k l W H y = 0 → ∃ C g RS, p = some ⟨g, 0, none⟩ ∧ w.heap.size ≤ C ∧ C ≤ w'.heap.size ∧ RwFn w.heap.size C g W RS (fun x => xF k l x y 1) (fun x => xG k l x y 1) ∧ RS 0 w')
theorem rwnew_any (k : Int) (l : List Int) (A : Option Addr) (n cp : Nat) (W H y : Int) (w : World) (hl : l.length = n) (hcp : n ≤ cp) (hcm : cp ≤ maxLen) (hr : Rd w w.heap.size A (l.map (Value.int .i64))) :
    Calls Tryz.prog 4 #[xfV k A n cp, .int .i64 W, .int .i64 H, .int .i64 y] w fun e w' => ∃ p, e = .returned (.tuple #[.pointer p, .int .i64 (rwC k l W H y)]) ∧ RwR k l W H y w w' p ∧ Below w.heap.size w w' := by
  have hX := fun (w' : World) (hb : Below w.heap.size w w') => xcheck_any k A n cp W H _ _ _ _ w' ((newIs_any k l A n cp W H w hl hcp hcm hr).nx hb)
  by_cases hC : xC k l W H = 0
  · by_cases hy : 0 ≤ y ∧ y < H
    · have hz : rwC k l W H y = 0 := by unfold rwC; rw [if_neg (by simpa using hC), if_pos hy]
      have hX0 := hX
      rw [hC] at hX0
      obtain ⟨hk, hs, hx⟩ := xC_zero hC
      obtain ⟨hW, hH⟩ := szH_iff.1 hs
      have hin := fun (x : Int) (x0 : 0 ≤ x) (x1 : x < W) => in_plain (k := k) (l := l) (x := x) (y := y) (d := 1) hC (rightH_iff.2 ⟨⟨by omega, by omega⟩, ⟨by omega, by omega⟩, by omega, by omega⟩) (by omega) (by omega) (by omega) (by omega)
      have hri := fun (x : Int) (x0 : 0 ≤ x) (x1 : x < W) => (rightH_iff.2 ⟨⟨by omega, by omega⟩, ⟨by omega, by omega⟩, by omega, by omega⟩ : rightH x y 1 = true)
      simp only [RwR, hz]
      by_cases h1 : k = 1
      · subst h1
        have hN := rwnew_A 1 A n cp W H y (fun q w2 => w.heap.size ≤ q ∧ Bk w2 q 120 (ddT (afU l) (dtA l) 0 y)) w hy hX0 (fun w' hb => rwalk_A A n cp W H y _ w' (fun w2 hb2 =>
          (dnew_any l A n cp 0 y w2 hl (hr.below (hb.trans (hb2.mono hb.size))) (Nat.le_trans hb.size hb2.size) hx ⟨by omega, by omega⟩ ⟨by omega, by omega⟩).mono (fun e w3 ⟨g, h1, h2, h3, h4⟩ => ⟨g, h1, ⟨Nat.le_trans (Nat.le_trans hb.size hb2.size) h2, h3⟩, h4⟩)))
        refine hN.mono ?_
        rintro e w' ⟨q, w2, rfl, ⟨hq, hk2⟩, rfl, hb⟩
        obtain ⟨hok, hd⟩ := afC_zero.1 hx
        obtain ⟨ou, ov, d0, d1⟩ := afU_ok hok
        have hne : q ≠ w2.heap.size := Nat.ne_of_lt hk2.lt
        refine ⟨_, rfl, ⟨fun h => absurd rfl h, fun _ => ⟨w2.heap.size + 1, w2.heap.size, _, rfl, Nat.le_succ_of_le hb.size, by simp, rwfn_A w.heap.size (w2.heap.size + 1) w2.heap.size q W (fun x w => Bk w q 120 (ddT (afU l) (dtA l) x y) ∧ w2.heap.size + 1 ≤ w.heap.size) _ _ hq hb.size (Nat.lt_succ_of_lt hk2.lt) (Nat.lt_succ_self _) hne hW (fun x w h => h.2) (fun x w w' h hb => ⟨h.1.below hb (Nat.lt_succ_of_lt hk2.lt), Nat.le_trans h.2 hb.size⟩) (fun x w w' h hg => ⟨bk_gb h.1 hg hne, Nat.le_trans h.2 hg.size⟩) ?_ ?_, ⟨Bk.new w2 _ _, hk2.alloc _, by simp⟩⟩⟩, hb.alloc hb.size _⟩
        · intro x w' hI x0 x1
          refine (dwnext_any (afU l) (dtA l) x y q w' hI.1 ⟨ou, ov, hd, ⟨d0, d1⟩, x0, by omega, by omega, by omega⟩).mono ?_
          rintro e w3 ⟨rfl, h2, h3⟩
          refine ⟨?_, ⟨h2, Nat.le_trans hI.2 h3.size⟩, h3⟩
          show _ = Ending.returned (.tuple #[.int .i64 (afX l x y 1), .int .i64 (afY l x y 1), .bool true])
          unfold afX afY
          rw [if_pos (hri x x0 x1), if_pos (hri x x0 x1)]
        · intro x m w' hI x0 m0 m1
          exact (dwskip_any (afU l) (dtA l) x y m q w' hI.1 ⟨ou, ov, hd, ⟨d0, d1⟩, x0, by omega, by omega, by omega⟩ ⟨m0, by omega⟩).mono (fun e w3 ⟨h1, h2, h3⟩ => ⟨h1, ⟨h2, Nat.le_trans hI.2 h3.size⟩, h3⟩)
      · by_cases h2 : k = 2
        · subst h2
          have hh : hdC l W H 0 y = 0 := hdC_zero.2 ⟨hx, inH_iff.2 ⟨by omega, by omega⟩, inH_iff.2 ⟨by omega, by omega⟩⟩
          have hN := rwnew_H 2 A n cp W H y (fun q w2 => w.heap.size ≤ q ∧ Bk w2 q 132 (wkT (adK (cf l) 9) 0 y)) w hy hX0 (fun w' hb => rwalk_H A n cp W H y _ w' (fun w2 hb2 =>
            (hdnew_any l A n cp W H 0 y w2 hl (hr.below (hb.trans (hb2.mono hb.size))) (Nat.le_trans hb.size hb2.size) hcp).mono (fun e w3 ⟨p, h1, h2, h4⟩ => by
              obtain ⟨g, rfl, h5, h6⟩ := h2.2 hh
              rw [hh] at h1
              exact ⟨g, h1, ⟨Nat.le_trans (Nat.le_trans hb.size hb2.size) h5, h6⟩, h4⟩)))
          refine hN.mono ?_
          rintro e w' ⟨q, w2, rfl, ⟨hq, hk2⟩, rfl, hb⟩
          have had := adOk (newC_zero.1 hx).ok
          have hne : q ≠ w2.heap.size := Nat.ne_of_lt hk2.lt
          refine ⟨_, rfl, ⟨fun h => absurd rfl h, fun _ => ⟨w2.heap.size + 1, w2.heap.size, _, rfl, Nat.le_succ_of_le hb.size, by simp, rwfn_H w.heap.size (w2.heap.size + 1) w2.heap.size q W (fun x w => Bk w q 132 (wkT (adK (cf l) 9) x y) ∧ w2.heap.size + 1 ≤ w.heap.size) _ _ hq hb.size (Nat.lt_succ_of_lt hk2.lt) (Nat.lt_succ_self _) hne hW (fun x w h => h.2) (fun x w w' h hb => ⟨h.1.below hb (Nat.lt_succ_of_lt hk2.lt), Nat.le_trans h.2 hb.size⟩) (fun x w w' h hg => ⟨bk_gb h.1 hg hne, Nat.le_trans h.2 hg.size⟩) ?_ ?_, ⟨Bk.new w2 _ _, hk2.alloc _, by simp⟩⟩⟩, hb.alloc hb.size _⟩
          · intro x w' hI x0 x1
            exact (snext_any (adK (cf l) 9) q x y w' hI.1 ⟨had, by omega, by omega, by omega, by omega⟩ (by omega) (hin x x0 x1).1).mono (fun e w3 ⟨h1, h2, h3⟩ => ⟨h1, ⟨h2, Nat.le_trans hI.2 h3.size⟩, h3⟩)
          · intro x m w' hI x0 m0 m1
            exact (skip_yes (adK (cf l) 9) q x y m w' hI.1 ⟨had, by omega, by omega, by omega, by omega⟩ m0 (by omega)).mono (fun e w3 ⟨h1, h2, h3⟩ => ⟨h1, ⟨h2, Nat.le_trans hI.2 h3.size⟩, h3⟩)
        · have hMp := newMp_any k l A n cp W H w hl hcp hcm hr
          rw [hC] at hMp
          have hN := rwnew_P k A n cp W H y (fun q w3 => w.heap.size ≤ q ∧ ∃ (p : Option Addr) (w1 w2 : World), MapFn w1.heap.size w2.heap.size w2 p (xF k l) (xG k l) (xE k l) ∧ w2.heap.size ≤ q ∧ Bk w3 q 72 #[.pointer p, .int .i64 0, .int .i64 y] ∧ Agr w1.heap.size w2.heap.size w2 w3) w hy hX0 (fun w' hb => (rwalk_P k A n cp W H y (fun p w1 w2 => MapFn w1.heap.size w2.heap.size w2 p (xF k l) (xG k l) (xE k l)) w' h1 h2 (fun w2 hb2 =>
            (hMp w2 (hb.trans (hb2.mono hb.size))).mono (fun e w3 ⟨p, e1, _, e3, e4⟩ => ⟨p, e1, (e3 rfl).1, e4⟩))).mono (fun e w3 ⟨q, e1, ⟨p, w1, w2, e2, e3, e4, e5, e6⟩, e7⟩ => by
              refine ⟨q, e1, ⟨by have := hb.size; omega, p, w1, w2, e2, by omega, ?_, ?_⟩, e7⟩
              · rw [e5, e6]; exact Bk.new w2 _ _
              · rw [e6]; exact Agr.nx (wm := w2) (w := w2) ⟨Nat.le_refl _, fun i _ _ => rfl⟩ ((Below.refl _ _).alloc (Nat.le_refl _) _)))
          refine hN.mono ?_
          rintro e w' ⟨q, w3, rfl, ⟨hq, p, w1, w2, hM, hq2, hk2, hA⟩, rfl, hb⟩
          have hne : q ≠ w3.heap.size := Nat.ne_of_lt hk2.lt
          have hAg : w2.heap.size ≤ w3.heap.size := hA.1
          refine ⟨_, rfl, ⟨fun h => absurd rfl h, fun _ => ⟨w3.heap.size + 1, w3.heap.size, _, rfl, Nat.le_succ_of_le hb.size, by simp, rwfn_P w.heap.size (w3.heap.size + 1) w3.heap.size q W (fun x w => Bk w q 72 #[.pointer p, .int .i64 x, .int .i64 y] ∧ Agr w1.heap.size w2.heap.size w2 w ∧ w3.heap.size + 1 ≤ w.heap.size) _ _ hq hb.size (Nat.lt_succ_of_lt hk2.lt) (Nat.lt_succ_self _) hne hW (fun x w h => h.2.2) (fun x w w' h hb => ⟨h.1.below hb (Nat.lt_succ_of_lt hk2.lt), h.2.1.nxC hb (Nat.le_trans hAg (Nat.le_succ _)), Nat.le_trans h.2.2 hb.size⟩) (fun x w w' h hg => ⟨bk_gb h.1 hg hne, h.2.1.gb hg hAg, Nat.le_trans h.2.2 hg.size⟩) ?_ ?_, ⟨Bk.new w3 _ _, hk2.alloc _, hA.nx ((Below.refl _ _).alloc (Nat.le_refl _) _), by simp⟩⟩⟩, hb.alloc hb.size _⟩
          · intro x w' hI x0 x1
            refine (pnext_any _ _ q w2 p x y (xF k l x y 1) (xG k l x y 1) w' hI.1 ⟨x0, by omega⟩ hI.2.1 (fun w4 h4 => ?_)).mono ?_
            · have h5 := hM w4 h4.1 h4.2 x y 1
              rw [(hin x x0 x1).1] at h5
              exact h5
            · rintro e w5 ⟨rfl, h6, h7⟩
              exact ⟨rfl, ⟨h6, hI.2.1.gb h7 hq2, Nat.le_trans hI.2.2 h7.size⟩, h7⟩
          · intro x m w' hI x0 m0 m1
            refine (pskip_any q p x y m w' hI.1 ⟨x0, by omega⟩ ⟨m0, by omega⟩).mono ?_
            rintro e w5 ⟨rfl, h6, h7⟩
            exact ⟨rfl, ⟨h6, hI.2.1.gb h7 hq2, Nat.le_trans hI.2.2 h7.size⟩, h7⟩
    · have hz : rwC k l W H y = 11 := by unfold rwC; rw [if_neg (by simpa using hC), if_neg hy]
      rw [hC] at hX
      simp only [RwR, hz]
      refine (rwnew_far k A n cp W H y w (by omega) hX).mono ?_
      rintro e w' ⟨rfl, hb⟩
      exact ⟨none, rfl, ⟨fun _ => rfl, fun h => absurd h (by decide)⟩, hb⟩
  · have hz : rwC k l W H y = xC k l W H := by unfold rwC; rw [if_pos hC]
    simp only [RwR, hz]
    refine (rwnew_bad k A n cp W H y (xC k l W H) w hC hX).mono ?_
    rintro e w' ⟨rfl, hb⟩
    exact ⟨none, rfl, ⟨fun _ => rfl, fun h => absurd h hC⟩, hb⟩
end Go.Proofs.YtmnnilkdaibgkaaGreat
end
section
set_option linter.unusedVariables false
namespace Go.Proofs.YtmnnilkdaibgkaaGreat
open Go.RowKit
theorem i64_info36 : (Tryz.prog.info? 2).map (fun i => (i.zero, i.size, i.bytes)) = some (some (.int .i64 0), 1, 8) := by kernel_rfl
def rwL (F : Int → Int) (n : Nat) : List Value := (List.range n).map (fun i => .int .i64 (F (i : Nat)))
theorem rwL_succ (F : Int → Int) (n : Nat) : rwL F (n + 1) = rwL F n ++ (#[.int .i64 (F (n : Nat))] : Array Value).toList := by
  unfold rwL; rw [List.range_succ, List.map_append]; rfl
def slen : Value → Nat
  | .slice _ n _ => n
  | _ => 0
theorem slen_own {w : World} {base : Nat} {e : TypeId} {size n : Nat} {v : Value} {xs : List Value} (h : w.ownsRow base e size v n xs) : slen v = n := by
  obtain ⟨A, c, rfl, _⟩ := own_form h
  rfl
theorem own_gbr {w w' : World} {base : Nat} {e : TypeId} {size n : Nat} {v : Value} {xs : List Value} {row : Option Nat} (h : w.ownsRow base e size v n xs) (hg : w.grownBy w' row) (hne : ∀ b, v.ownBlock = some b → some b ≠ row) : w'.ownsRow base e size v n xs := by
  refine ⟨h.1, ?_⟩
  rcases h.2 with h2 | ⟨g, cap, cur, hv, hg2, hh, r⟩
  · exact .inl h2
  · exact .inr ⟨g, cap, cur, hv, hg2, by rw [hg.block g (Bk.lt hh) (hne g (by rw [hv]; rfl))]; exact hh, r⟩
/-- app1, the owner first. -/
theorem app1o {P : Program} {ops : Array Oper} {rest : List Oper} {o : Oper} {a : Act} {Q : Exit → Act → World → Prop} (hgd : o.guard = none) (s x : Operand) (t : TypeId)
    (ho : o.op = .call { callee := .builtin .append, args := #[s, x], argTypes := #[t, t] })
    {e : TypeId} {z : Value} {size bytes : Nat} (ht : P.underlying t = some (.slice e)) (hi : (P.info? e).map (fun i => (i.zero, i.size, i.bytes)) = some (some z, size, bytes)) (hzs : z.cells.size = size) (hsz : 0 < size)
    {w W : World} {B base n : Nat} {v : Value} {xs : List Value} {cs : Array Value} (hown : w.ownsRow base e size v n xs) (hs : a.eval s = v) (hx : a.eval x = .slice (some ⟨w.heap.size, 0, none⟩) 1 1)
    (hbel : Below B W w) (hB : B ≤ base) (hbase : base ≤ w.heap.size) (hcs : cs.size = size) (h1 : ∀ u ∈ cs.toList, u.oneCell' = true)
    (hbytes : (n + 1) * bytes ≤ 140737488355328) (h63 : n + 1 ≤ 9223372036854775807)
    (h : ∀ v' w', w'.ownsRow base e size v' (n + 1) (xs ++ cs.toList) → Below B W w' → w.heap.size < w'.heap.size → w.grownBy w' v.ownBlock → (v'.ownBlock = v.ownBlock ∨ v'.ownBlock = some (w.heap.size + 1)) → wpList P ops Q rest (a.put o.dst v') w') :
    wpList P ops Q (o :: rest) a (w.alloc (.cells cs e)) := app1 hgd s x t ho ht hi hzs hsz hs hx hown hbel hB hbase hcs h1 hbytes h63 h
set_option maxRecDepth 100000 in
set_option maxHeartbeats 4000000 in
theorem rwrest_nil (w : World) : Calls Tryz.prog 7 #[.pointer none] w fun e w' => e = .returned (.tuple #[.slice none 0 0, .slice none 0 0]) ∧ Below w.heap.size w w' := by
  go_enter Tryz.func7, Tryz.ntmps7
  go_wp2_with (go_at_call 6; (with_reducible refine (rwnext_nil _).mono ?_); rintro e w1 ⟨rfl, hb1⟩)
  go_loopw [4, 5, 6, 7, 8] (fun u v _ _ b wr => u = .slice none 0 0 ∧ v = .slice none 0 0 ∧ b = .bool false ∧ Below w.heap.size w wr) (fun _ _ _ _ _ _ => 0)
  case atStart => exact ⟨rfl, rfl, rfl, hb1⟩
  case round =>
    obtain ⟨rfl, rfl, rfl, hb⟩ := hrel
    go_wp2_with fail
    go_returns
    exact ⟨rfl, hb⟩
set_option maxRecDepth 100000 in
set_option maxHeartbeats 8000000 in
theorem rwrest_any (B C g : Nat) (W : Int) (RS : Int → World → Prop) (F G : Int → Int) (w : World) (h : RwFn B C g W RS F G) (hr : RS 0 w) (hW : 1 ≤ W ∧ W ≤ 32768) (hBC : B ≤ C) :
    Calls Tryz.prog 7 #[.pointer (some ⟨g, 0, none⟩)] w fun e w' => ∃ u v, e = .returned (.tuple #[u, v]) ∧ w'.ownsRow w.heap.size 2 1 u W.toNat (rwL F W.toNat) ∧ w'.ownsRow w.heap.size 2 1 v W.toNat (rwL G W.toNat) ∧ Below B w w' := by
  obtain ⟨h1, h2, h3, _⟩ := h
  have hC := (h1 0 w hr).1
  obtain ⟨W0, W1⟩ := hW
  have hN0 := h3 0 w hr (by omega) (by omega)
  go_enter Tryz.func7, Tryz.ntmps7
  go_wp2_with (go_at_call 6; (with_reducible refine hN0.mono ?_); rintro e w1 ⟨rfl, hr1, hb1, ho1⟩)
  go_loopw [4, 5, 6, 7, 8] (fun u v p q b wr => ∃ j : Nat, (j : Int) ≤ W ∧ wr.ownsRow w.heap.size 2 1 u j (rwL F j) ∧ wr.ownsRow w.heap.size 2 1 v j (rwL G j) ∧ (∀ b, u.ownBlock = some b → some b ≠ v.ownBlock) ∧ Below B w wr ∧ (((j : Int) < W ∧ p = .int .i64 (F (j : Nat)) ∧ q = .int .i64 (G (j : Nat)) ∧ b = .bool true ∧ RS ((j : Nat) + 1) wr) ∨ ((j : Int) = W ∧ p = .int .i64 0 ∧ q = .int .i64 0 ∧ b = .bool false))) (fun u _ _ _ _ _ => W.toNat - slen u)
  case atStart =>
    exact ⟨0, by omega, World.ownsRow_nil _ _ _ _, World.ownsRow_nil _ _ _ _, (fun b hb => by cases hb), hb1, .inl ⟨by omega, rfl, rfl, rfl, hr1⟩⟩
  case round =>
    clear hN0 hr hr1 hb1 ho1
    obtain ⟨j, hj, hu, hv, hd, hb, hc⟩ := hrel
    have hwB := hb.size
    rcases hc with ⟨hlt, rfl, rfl, rfl, hS⟩ | ⟨he, rfl, rfl, rfl⟩
    · have hBw : B ≤ w.heap.size := Nat.le_trans hBC hC
      have hbl := hb.size
      have hul := hu.lt
      have hvl := hv.lt
      have hsl := slen_own hu
      go_upto_region 4 with (first
        | (at_builtin; refine app1o rfl _ _ _ rfl Tryz.underlying22 i64_info36 rfl (by omega) hu rfl rfl hb hBw hwB rfl ints1 (by omega) (by omega) ?_; intro u' w5 hu' hb5 hs5 hg5 ho5)
        | (at_builtin; refine app1o rfl _ _ _ rfl Tryz.underlying22 i64_info36 rfl (by omega) (own_gbr hv hg5 (fun b h e => hd b e.symm h.symm)) rfl rfl hb5 hBw hb5.size rfl ints1 (by omega) (by omega) ?_; intro v' w6 hv' hb6 hs6 hg6 ho6))
      have hu6 := own_gbr hu' hg6 (fun b hb e => by
        rcases ho5 with ho | ho
        · exact hd b (by rw [← ho]; exact hb) e
        · rw [hb] at ho; injection ho with ho; have := (hvl b e.symm).2; omega)
      have hd6 : ∀ b, u'.ownBlock = some b → some b ≠ v'.ownBlock := fun b hb e => by
        have hlt5 := (hu'.lt b hb).2
        rcases ho6 with ho | ho
        · rw [ho] at e
          rcases ho5 with ho2 | ho2
          · exact hd b (by rw [← ho2]; exact hb) e
          · rw [hb] at ho2; injection ho2 with ho2; have := (hvl b e.symm).2; omega
        · rw [ho] at e; injection e with e; omega
      have hS6 : RS ((j : Nat) + 1) w6 := h2 _ _ _ hS (((Below.refl C wr).grown hg5 (Nat.le_trans hC hbl) (fun k hk => Nat.le_trans hC (hul k hk).1)).grown hg6 (Nat.le_trans hC (Nat.le_trans hbl (Nat.le_of_lt hs5))) (fun k hk => Nat.le_trans hC (hvl k hk).1))
      rw [← rwL_succ] at hu6 hv'
      have hsl' := slen_own hu6
      clear hu hv hd hb hu' hb5 hg5 hg6 ho5 ho6 hS hul hvl
      by_cases hl2 : (j : Int) + 1 < W
      · have hN := h3 _ _ hS6 (by omega) hl2
        go_wp2_with (go_at_call 6; (with_reducible refine hN.mono ?_); rintro e w7 ⟨rfl, hr7, hb7, ho7⟩)
        refine ⟨⟨j + 1, by omega, own_oth hu6 ho7 hC, own_oth hv' ho7 hC, hd6, hb6.trans hb7, .inl ⟨by omega, ?_, ?_, rfl, ?_⟩⟩, by omega⟩
        · rw [Int.natCast_succ]
        · rw [Int.natCast_succ]
        · rw [Int.natCast_succ]; exact hr7
      · have he : (j : Int) + 1 = W := by omega
        obtain ⟨_, fn, fs, hk⟩ := h1 _ _ hS6
        have hN := rwnext_end g _ W fn fs w6 hk (by omega)
        go_wp2_with (go_at_call 6; (with_reducible refine hN.mono ?_); rintro e w7 ⟨rfl, nn, rfl⟩)
        refine ⟨⟨j + 1, by omega, hu6, hv', hd6, below_drewN hb6 nn, .inr ⟨by omega, rfl, rfl, rfl⟩⟩, by omega⟩
    · go_wp2_with fail
      go_returns
      have e : W.toNat = j := by omega
      rw [e]
      exact ⟨_, _, rfl, hu, hv, hb⟩
end Go.Proofs.YtmnnilkdaibgkaaGreat
end
section
set_option linter.unusedVariables false
namespace Go.Proofs.YtmnnilkdaibgkaaGreat
open Go.RowKit
def uniL : List Int := [65536, 0, 0, 0, 65536, 0]
theorem uni_c : rwC 1 uniL 3 2 1 = 0 := by decide +kernel
theorem uni_x : rwL (fun x => xF 1 uniL x 1 1) 3 = [.int .i64 0, .int .i64 65536, .int .i64 131072] := by
  have h0 : xF 1 uniL (0 : Nat) 1 1 = 0 := by decide +kernel
  have h1 : xF 1 uniL (1 : Nat) 1 1 = 65536 := by decide +kernel
  have h2 : xF 1 uniL (2 : Nat) 1 1 = 131072 := by decide +kernel
  rw [rwL_succ, rwL_succ, rwL_succ]
  show [Value.int .i64 (xF 1 uniL (0 : Nat) 1 1), .int .i64 (xF 1 uniL (1 : Nat) 1 1), .int .i64 (xF 1 uniL (2 : Nat) 1 1)] = _
  rw [h0, h1, h2]
theorem uni_y : rwL (fun x => xG 1 uniL x 1 1) 3 = [.int .i64 65536, .int .i64 65536, .int .i64 65536] := by
  have h0 : xG 1 uniL (0 : Nat) 1 1 = 65536 := by decide +kernel
  have h1 : xG 1 uniL (1 : Nat) 1 1 = 65536 := by decide +kernel
  have h2 : xG 1 uniL (2 : Nat) 1 1 = 65536 := by decide +kernel
  rw [rwL_succ, rwL_succ, rwL_succ]
  show [Value.int .i64 (xG 1 uniL (0 : Nat) 1 1), .int .i64 (xG 1 uniL (1 : Nat) 1 1), .int .i64 (xG 1 uniL (2 : Nat) 1 1)] = _
  rw [h0, h1, h2]
set_option maxRecDepth 100000 in
set_option maxHeartbeats 4000000 in
theorem alive36 (w : World) : Calls Tryz.prog 10 #[] w fun e w' => e = .returned (.bool true) ∧ Below w.heap.size w w' := by
  have hWh := whole_yes 3 2 w (by decide)
  have hNew := fun (w1 : World) (b : Nat) (hk : Bk w1 b 2 #[.int .i64 65536, .int .i64 0, .int .i64 0, .int .i64 0, .int .i64 65536, .int .i64 0]) => rwnew_any 1 uniL (some ⟨b, 0, none⟩) 6 6 3 2 1 w1 rfl (Nat.le_refl _) (by decide) (Bk.rdl (l := uniL.map (Value.int .i64)) hk)
  simp only [RwR, uni_c] at hNew
  go_enter Tryz.func10, Tryz.ntmps10
  go_wp2_with (first
    | (go_at_call 20; (with_reducible refine hWh.mono ?_); rintro e w1 ⟨b, rfl, hb, hbl⟩)
    | (go_at_call 4; (with_reducible refine (hNew _ b hb).mono ?_); rintro e w2 ⟨p, rfl, ⟨_, hR⟩, hb2⟩))
  obtain ⟨C, g, RS, rfl, hBC, hCs, hF, h0⟩ := hR trivial
  have hRe := rwrest_any w1.heap.size C g 3 RS _ _ w2 hF h0 (by omega) hBC
  rw [show (3 : Int).toNat = 3 from rfl, uni_x, uni_y] at hRe
  clear hNew hR hF h0
  go_upto_region 3 with (go_at_call 7; (with_reducible refine hRe.mono ?_); rintro e w3 ⟨u, v, rfl, hu, hv, hb3⟩; obtain ⟨A, c, rfl, hc, _, hA, _⟩ := own_form hu; obtain ⟨A', c', rfl, hc', _, hA', _⟩ := own_form hv)
  obtain ⟨b1, o1, rfl, _, c1⟩ := hA.get 2 (by simp)
  obtain ⟨b2, o2, rfl, _, c2⟩ := hA'.get 0 (by simp)
  simp only [List.getElem_cons_succ, List.getElem_cons_zero] at c1 c2
  rw [Nat.add_zero] at c2
  go_wp2_with fail
  go_returns
  exact ⟨rfl, hbl.trans ((hb2.trans hb3).mono hbl.size)⟩
end Go.Proofs.YtmnnilkdaibgkaaGreat
end
