/- Several texts in one: The cache's law: what it tells of itself is what the reference has. The cache's law: nobody made one. The cache's law: its steps, opened. The cache's law: a cache, the reference's list, and what was read, side by side. -/
import Derived.Test.YtahiaeaobbofbaaGreatD9
import Derived.Test.YtahiaeaobbofbaaGreatC19
import Derived.Lib.QuietBelow
import Derived.Deep.QuietTactic
section
set_option linter.unusedVariables false
namespace Go.Proofs.YtahiaeaobbofbaaGreat
open Go.RowKit
section
variable {r r' r'' : Nat → Nat} {w w' w'' : World} {K : SC} {U : Nat} {s : CS} {kb ab ga nk na : Nat} {vt vs : Value} {AM : Int → Option Value}
set_option maxRecDepth 100000 in
set_option maxHeartbeats 16000000 in
theorem told_any (h : CaP K U s r w kb ab ga vt vs nk na AM) (hU : U ≤ 60000) (A AS : Option Addr) (c cS : Nat) (hr : Rd w w.heap.size A (encT (hand s))) (hS : Rd w w.heap.size AS (encT s.S)) :
    Calls Tryz.prog 22 #[.pointer (some ⟨K.gc, 0, none⟩), .agg (caM K.most (.slice A (hand s).length c) s.hits s.loads s.drops s.high), .slice AS s.S.length cS] w fun e w' => e = .returned (.bool true) ∧ Below w.heap.size w w' := by
  have hL := (Lie.start w).alloc (caM K.most (.slice A (hand s).length c) s.hits s.loads s.drops s.high) 55
  have hx := h.nx hL.bel
  have k0 : Bk _ w.heap.size 55 (caM K.most (.slice A (hand s).length c) s.hits s.loads s.drops s.high) := hL.k 0 (by simp)
  have hb0 := hL.bel
  have hr0 := (hr.below' hb0 (Nat.le_refl _)).more hb0.size
  have hS0 := (hS.below' hb0 (Nat.le_refl _)).more hb0.size
  obtain ⟨w1, hw1⟩ : ∃ w1, w.alloc (.cells (caM K.most (.slice A (hand s).length c) s.hits s.loads s.drops s.high) 55) = w1 := ⟨_, rfl⟩
  rw [hw1] at hx k0 hb0 hr0 hS0
  have HW1 := Lib.hid hw1
  have hkT : ∀ k ∈ s.ks, k < s.T.length := fun k hk => (h.hit k hk).1
  have hst := fun (W : World) (hW : Below w1.heap.size w1 W) => cstats (hx.nx hW)
  have hln := fun (W : World) (hW : Below w1.heap.size w1 W) => clen (hx.nx hW)
  have hha := fun (W : World) (hW : Below w1.heap.size w1 W) (k : Nat) (hk : k ∈ s.ks) (h1 : k < s.T.length) => chas_yes (hx.nx hW) (by omega) k hk h1
  have hal := fun (W : World) (hW : Below w1.heap.size w1 W) => call_any (hx.nx hW) (by omega)
  have hse := fun (W : World) (hW : Below w1.heap.size w1 W) => cseen (hx.nx hW) (by omega)
  have hgt : ∀ (k : Nat) (hk : k < s.ks.length), ∃ h1 : s.ks[k] < s.T.length, (hand s)[k]'(by rw [hand_len]; exact hk) = s.T[s.ks[k]] := fun k hk => by
    refine ⟨hkT _ (List.getElem_mem hk), ?_⟩
    simp only [hand_eq, List.getElem_map]
    exact gT_get _
  have hmost : ¬ ((s.ks.length : Int) > K.most) := by have := h.bl; omega
  have hks : s.ks.length ≤ 65536 := by have := h.bl; have := h.bm; omega
  have hSl : s.S.length ≤ 60000 := by have := h.bk; omega
  have hhl := hand_len s
  rw [hhl] at k0 ⊢
  rw [hhl] at HW1
  have HHL := Lib.hid hhl
  clear hhl hw1 h hx hr hS hL
  have HHA := Lib.hid hha
  have HGT := Lib.hid hgt
  clear hha hgt hkT
  obtain ⟨sh, sl, sd, sg, e1, e2, e3, e4⟩ : ∃ a b c d : Int, s.hits = a ∧ s.loads = b ∧ s.drops = c ∧ s.high = d := ⟨_, _, _, _, rfl, rfl, rfl, rfl⟩
  simp only [stV] at hst
  rw [e1, e2, e3, e4] at k0 HW1 ⊢
  simp only [e1, e2, e3, e4] at hst
  clear e1 e2 e3 e4
  obtain ⟨g0, hg0⟩ : ∃ g0, w.heap.size = g0 := ⟨_, rfl⟩
  rw [hg0] at k0
  have HG0 := Lib.hid hg0
  clear hg0
  have hb1 := Below.refl w1.heap.size w1
  go_enter Tryz.func22, Tryz.ntmps22
  go_upto_region 1 with fail
  simp only [HW1.out, HG0.out]
  go_upto_region 2 with (go_at_call 8; (with_reducible refine (hst _ hb1).mono ?_); rintro e w2 ⟨rfl, hb2⟩)
  have kN := Bk.new w2 39 #[.int .i64 sh, .int .i64 sl, .int .i64 sd, .int .i64 sg]
  have hb3 : Below w1.heap.size w1 (w2.alloc (.cells #[.int .i64 sh, .int .i64 sl, .int .i64 sd, .int .i64 sg] 39)) := (hb2.mono (Nat.le_refl _)).alloc hb2.size _
  obtain ⟨w3, hw3⟩ : ∃ w3, w2.alloc (.cells #[.int .i64 sh, .int .i64 sl, .int .i64 sd, .int .i64 sg] 39) = w3 := ⟨_, rfl⟩
  rw [hw3] at kN hb3 ⊢
  have k03 := k0.nx hb3
  have x0 := fun (n : Nat) (os : Array Obj) => cell_regrown (k03.cell6'.1) n os
  have x1 := fun (n : Nat) (os : Array Obj) => cell_regrown (k03.cell6'.2.1) n os
  have x2 := fun (n : Nat) (os : Array Obj) => cell_regrown (k03.cell6'.2.2.1) n os
  have x3 := fun (n : Nat) (os : Array Obj) => cell_regrown (k03.cell6'.2.2.2.1) n os
  have x4 := fun (n : Nat) (os : Array Obj) => cell_regrown (k03.cell6'.2.2.2.2.1) n os
  have x5 := fun (n : Nat) (os : Array Obj) => cell_regrown (k03.cell6'.2.2.2.2.2) n os
  have y0 := fun (n : Nat) (os : Array Obj) => cell_regrown (kN.cell4.1) n os
  have y1 := fun (n : Nat) (os : Array Obj) => cell_regrown (kN.cell4.2.1) n os
  have y2 := fun (n : Nat) (os : Array Obj) => cell_regrown (kN.cell4.2.2.1) n os
  have y3 := fun (n : Nat) (os : Array Obj) => cell_regrown (kN.cell4.2.2.2) n os
  have hln3 : ∀ (n : Nat) (os : Array Obj), Calls Tryz.prog 9 #[.pointer (some ⟨K.gc, 0, none⟩)] (Go.Sort.grow (redrawn w3 n) os) fun e w' => e = .returned (.int .i64 (s.ks.length : Nat)) ∧ Below (Go.Sort.grow (redrawn w3 n) os).heap.size (Go.Sort.grow (redrawn w3 n) os) w' := fun n os =>
    (hln _ (hb3.trans ((below_regrown w3 n os).mono hb3.size))).mono fun e w' ⟨q1, q2⟩ => ⟨q1, q2 ▸ Below.refl _ _⟩
  clear hw3 hst hln hb2
  refine wp_region_quiet_below (by kernel_rfl) (by kernel_rfl) ?_
  repeat (first
    | go_big_quiet_step (with_reducible exact quiet_below (hln3 _ _))
    | quiet_step (with_reducible exact quiet_below (hln3 _ _)))
  refine wpQuiet_nil ?_
  intro _ hw'
  obtain ⟨⟨d9, os⟩, hw''⟩ := hw'
  subst hw''
  have hbx := below_regrown w3 d9 os
  have k04 := k03.nx hbx
  have hb4 := hb3.trans (hbx.mono hb3.size)
  clear x0 x1 x2 x3 x4 x5 y0 y1 y2 y3 hln3 kN k03 hb3 hbx
  generalize Go.Sort.grow (redrawn w3 d9) os = w4 at *
  obtain ⟨_, x1, _⟩ := k04.cell6'
  go_wp2_with fail
  go_loopw [57] (fun i wr => ∃ k : Nat, k ≤ s.ks.length ∧ i = .int .i64 k ∧ Below w4.heap.size w4 wr) (fun i _ => s.ks.length - (intOf i).toNat)
  case atStart => exact ⟨0, by omega, rfl, Below.refl _ _⟩
  case round =>
    obtain ⟨k, hk, rfl, hb5⟩ := hrel
    have hbel := hb4.trans (hb5.mono hb4.size)
    by_cases hlt : k < s.ks.length
    · obtain ⟨h1, hgk⟩ := HGT.out k hlt
      obtain ⟨b, o, rfl, hbb, t0, t1⟩ := rd_tile (hr0.below' hbel (Nat.le_refl _)) k (by rw [HHL.out]; exact hlt)
      rw [hgk] at t0 t1
      have hHas := fun (W : World) (hW : Below w1.heap.size w1 W) => HHA.out W hW s.ks[k] (List.getElem_mem hlt) h1
      obtain ⟨⟨s1, s2⟩, hs⟩ : ∃ z, s.T[s.ks[k]] = z := ⟨_, rfl⟩
      rw [hs] at t0 t1
      simp only [hs] at hHas
      dsimp only at t0 t1
      have hbA : Below w1.heap.size w1 (wr.alloc (.cells #[.int .i64 s1, .int .i64 s2] 48)) := hbel.alloc hbel.size _
      have hHas2 := hHas _ hbA
      have kT := Bk.new wr 48 #[.int .i64 s1, .int .i64 s2]
      clear hs hgk hHas
      go_wp2_with (first
        | (refine ldB rfl _ _ rfl kT rfl Tryz.underlying48 rfl ti_size ?_)
        | (go_at_call 45; (with_reducible refine hHas2.mono ?_); rintro e w6 ⟨rfl, hb6⟩))
      exact ⟨⟨k + 1, by omega, by go_num, hb5.trans (((Below.refl _ wr).alloc (Nat.le_refl _) _ |>.trans (hb6.mono (by simp))).mono hb5.size)⟩, by simp [intOf]; omega⟩
    · obtain rfl : k = s.ks.length := by omega
      have k05 := k04.nx hb5
      obtain ⟨_, x1, _⟩ := k05.cell6'
      clear HHA HGT hlt k04
      go_upto_region 10 with fail
      have hg0 : g0 < wr.heap.size := k05.lt
      have hbd := hbel.drew
      have hS : ∀ W, Below wr.heap.size wr W → W.cell? ⟨g0, 1, none⟩ = some (.slice A s.ks.length c) := fun W hW => (hW.cell hg0).trans x1
      have S0 : wr.drew.cell? ⟨g0, 1, none⟩ = some (.slice A s.ks.length c) := x1
      have hal1 := hal _ hbd
      have hHL : (hand s).length = s.ks.length := HHL.out
      have HHL2 := Lib.hid hHL
      clear hHL hal x1 hmost hb5 hb4
      go_region_held3 (fun W => W.cell? ⟨g0, 1, none⟩ = some (.slice A s.ks.length c))
        (first | exact S0 | exact S5 | exact S6 | exact S7 | exact S8 | assumption)
        (first
          | (go_at_call 47; (with_reducible refine hal1.mono ?_); rintro e w5 ⟨v5, rfl, ho5, hb5⟩; rw [HHL2.out] at ho5; obtain ⟨A5, c5, rfl, _⟩ := own_form ho5; have hB5 := hbd.trans (hb5.mono hbd.size); have S5 := hS _ ((Below.refl _ wr).drew.trans (hb5.mono (by simp)));
             have hSa := rsame_t (hand s) A5 A s.ks.length c5 c w5 HHL2.out (Rd.of_own ho5) (hr0.below' hB5 (Nat.le_refl _)) (Nat.le_refl _) hB5.size (by omega))
          | (go_at_call 46; (with_reducible refine hSa.mono ?_); rintro e w6 ⟨rfl, hb6⟩; have hB6 := hB5.trans (hb6.mono hB5.size); have S6 := hS _ (((Below.refl _ wr).drew.trans (hb5.mono (by simp))).trans (hb6.mono (Nat.le_trans (by simp) hb5.size)));
             have hse6 := hse _ hB6)
          | (go_at_call 12; (with_reducible refine hse6.mono ?_); rintro e w7 ⟨v7, rfl, ho7, hb7⟩; obtain ⟨A7, c7, rfl, _⟩ := own_form ho7; have hB7 := hB6.trans (hb7.mono hB6.size); have S7 := hS _ ((((Below.refl _ wr).drew.trans (hb5.mono (by simp))).trans (hb6.mono (Nat.le_trans (by simp) hb5.size))).trans (hb7.mono (Nat.le_trans (Nat.le_trans (by simp) hb5.size) hb6.size)));
             have hSb := rsame_t s.S A7 AS s.S.length c7 cS w7 rfl (Rd.of_own ho7) (hS0.below' hB7 (Nat.le_refl _)) (Nat.le_refl _) hB7.size (by omega))
          | (go_at_call 46; (with_reducible refine hSb.mono ?_); rintro e w8 ⟨rfl, hb8⟩; have hB8 := hB7.trans (hb8.mono hB7.size); have S8 := hS _ (((((Below.refl _ wr).drew.trans (hb5.mono (by simp))).trans (hb6.mono (Nat.le_trans (by simp) hb5.size))).trans (hb7.mono (Nat.le_trans (Nat.le_trans (by simp) hb5.size) hb6.size))).trans (hb8.mono (Nat.le_trans (Nat.le_trans (Nat.le_trans (by simp) hb5.size) hb6.size) hb7.size)))))
      go_wp2_with fail
      go_returns
      exact ⟨rfl, hb0.trans (hB8.mono hb0.size)⟩
end
end Go.Proofs.YtahiaeaobbofbaaGreat
end
section
set_option linter.unusedVariables false
namespace Go.Proofs.YtahiaeaobbofbaaGreat
open Go.RowKit
def BadC (w : World) (p : Value) : Prop := ∀ W, Below w.heap.size w W → Calls Tryz.prog 30 #[p] W fun e w' => e = .returned (.bool false) ∧ W = w'
theorem BadC.nx {w w' : World} {p : Value} (h : BadC w p) (hb : Below w.heap.size w w') : BadC w' p := fun W hW => h W (hb.trans (hW.mono hb.size))
theorem bad_nil (w : World) : BadC w (.pointer none) := fun W _ => by
  go_enter Tryz.func30, Tryz.ntmps30
  go_wp2
  go_returns
  exact ⟨rfl, rfl⟩
abbrev caZ : Array Value := #[.pointer none, .int .i64 0, .map none, .slice none 0 0, .map none, .pointer none, .int .i64 0, .int .i64 0, .int .i64 0, .int .i64 0, .slice none 0 0]
theorem bad_zero {w : World} {g : Nat} (k : Bk w g 41 caZ) : BadC w (.pointer (some ⟨g, 0, none⟩)) := fun W hW => by
  obtain ⟨c0, c1, c2, c3, c4, c5, c6, c7, c8, c9, c10⟩ := (k.nx hW).cell11'
  clear c1 c2 c3 c4 c5 c6 c7 c8 c9 c10 k
  go_enter Tryz.func30, Tryz.ntmps30
  go_wp2
  go_returns
  exact ⟨rfl, rfl⟩
theorem bad_get {w : World} {p : Value} (h : BadC w p) (a b : Int) : Calls Tryz.prog 7 #[p, .agg (tiA a b)] w fun e w' => e = .returned (.tuple #[.agg im0A, .int .i64 10]) ∧ Below w.heap.size w w' := by
  have hL := ((Lie.start w).alloc (tiA a b) 48).alloc im0A 44
  simp only [World.size_alloc] at hL
  have hok := h _ hL.bel
  have k1 : Bk _ (w.heap.size + 1) 44 im0A := hL.k 0 (by simp)
  have hb := hL.bel
  clear h hL
  go_enter Tryz.func7, Tryz.ntmps7
  go_wp2_with (first
    | (go_at_call 30; (with_reducible refine hok.mono ?_); rintro e w1 ⟨rfl, rfl⟩)
    | (refine stB (ty := 44) (cells := im0A) rfl _ _ rfl k1 rfl rfl img_size rfl (by simp [Value.oneCell']) ?_; intro w' hK' hg' _))
  refine bodyPost_ret (res_cell_tmp rfl hK' rfl Tryz.underlying44 rfl img_size) rfl ?_
  exact ⟨rfl, below_of_gb hb hg' (by omega) hb.size⟩
theorem bad_len {w : World} {p : Value} (h : BadC w p) : Calls Tryz.prog 9 #[p] w fun e w' => e = .returned (.int .i64 0) ∧ w = w' := by
  have hok := h _ (Below.refl _ _)
  clear h
  go_enter Tryz.func9, Tryz.ntmps9
  go_wp2_with (go_at_call 30; (with_reducible refine hok.mono ?_); rintro e w1 ⟨rfl, rfl⟩)
  go_returns
  exact ⟨rfl, rfl⟩
theorem bad_levels {w : World} {p : Value} (h : BadC w p) : Calls Tryz.prog 10 #[p] w fun e w' => e = .returned (.int .i64 0) ∧ w = w' := by
  have hok := h _ (Below.refl _ _)
  clear h
  go_enter Tryz.func10, Tryz.ntmps10
  go_wp2_with (go_at_call 30; (with_reducible refine hok.mono ?_); rintro e w1 ⟨rfl, rfl⟩)
  go_returns
  exact ⟨rfl, rfl⟩
theorem bad_seen {w : World} {p : Value} (h : BadC w p) : Calls Tryz.prog 12 #[p] w fun e w' => e = .returned (.slice none 0 0) ∧ w = w' := by
  have hok := h _ (Below.refl _ _)
  clear h
  go_enter Tryz.func12, Tryz.ntmps12
  go_wp2_with (go_at_call 30; (with_reducible refine hok.mono ?_); rintro e w1 ⟨rfl, rfl⟩)
  go_returns
  exact ⟨rfl, rfl⟩
theorem bad_read {w : World} {p : Value} (h : BadC w p) (a b c : Int) : Calls Tryz.prog 11 #[p, .int .i64 a, .int .i64 b, .int .i64 c] w fun e w' => e = .returned (.slice none 0 0) ∧ w = w' := by
  have hok := h _ (Below.refl _ _)
  clear h
  go_enter Tryz.func11, Tryz.ntmps11
  go_wp2_with (go_at_call 30; (with_reducible refine hok.mono ?_); rintro e w1 ⟨rfl, rfl⟩)
  go_returns
  exact ⟨rfl, rfl⟩
theorem bad_stats {w : World} {p : Value} (h : BadC w p) : Calls Tryz.prog 8 #[p] w fun e w' => e = .returned (.agg #[.int .i64 0, .int .i64 0, .int .i64 0, .int .i64 0]) ∧ Below w.heap.size w w' := by
  have hL := (Lie.start w).alloc #[.int .i64 0, .int .i64 0, .int .i64 0, .int .i64 0] 39
  have hok := h _ hL.bel
  have k1 : Bk _ w.heap.size 39 #[.int .i64 0, .int .i64 0, .int .i64 0, .int .i64 0] := hL.k 0 (by simp)
  have hb := hL.bel
  clear h hL
  go_enter Tryz.func8, Tryz.ntmps8
  go_wp2_with (first
    | (go_at_call 30; (with_reducible refine hok.mono ?_); rintro e w1 ⟨rfl, rfl⟩)
    | (refine stB (ty := 39) (cells := #[.int .i64 0, .int .i64 0, .int .i64 0, .int .i64 0]) rfl _ _ rfl k1 rfl rfl stz_size rfl (by simp [Value.oneCell']) ?_; intro w' hK' hg' _))
  refine bodyPost_ret (res_cell rfl hK' rfl Tryz.underlying39 rfl stz_size) rfl ?_
  exact ⟨rfl, below_of_gb hb hg' (by omega) hb.size⟩
end Go.Proofs.YtahiaeaobbofbaaGreat
end
section
set_option linter.unusedVariables false
namespace Go.Proofs.YtahiaeaobbofbaaGreat
open Go.RowKit
theorem co_st42 : Tryz.prog.cellsOf 57 = 5 := by kernel_rfl
theorem co_ti42 : Tryz.prog.cellsOf 48 = 2 := by kernel_rfl
abbrev St5 := Int × Int × Int × Int × Int
def St5.cells (t : St5) : List Value := [.int .i64 t.1, .int .i64 t.2.1, .int .i64 t.2.2.1, .int .i64 t.2.2.2.1, .int .i64 t.2.2.2.2]
def enc5 (l : List St5) : List Value := l.flatMap St5.cells
def St5.Ok (t : St5) : Prop := R64 t.1 ∧ R64 t.2.1 ∧ R64 t.2.2.1 ∧ R64 t.2.2.2.1 ∧ R64 t.2.2.2.2
set_option maxRecDepth 100000 in
theorem open_st42 {w : World} {cs : List Value} (h : Rv Tryz.prog w 57 cs) : ∃ t : St5, cs = t.cells ∧ t.Ok := by
  obtain ⟨hl, hf⟩ := rv_struct Tryz.underlying57 h
  rw [co_st42] at hl
  match cs, hl with
  | [v0, v1, v2, v3, v4], _ =>
    have g0 : Rv Tryz.prog w 3 (([v0, v1, v2, v3, v4].drop 0).take (Tryz.prog.cellsOf 3)) := hf 0 _ rfl
    have g1 : Rv Tryz.prog w 48 (([v0, v1, v2, v3, v4].drop 1).take (Tryz.prog.cellsOf 48)) := hf 1 _ rfl
    have g2 : Rv Tryz.prog w 3 (([v0, v1, v2, v3, v4].drop 3).take (Tryz.prog.cellsOf 3)) := hf 2 _ rfl
    have g3 : Rv Tryz.prog w 3 (([v0, v1, v2, v3, v4].drop 4).take (Tryz.prog.cellsOf 3)) := hf 3 _ rfl
    rw [co_int42] at g0 g2 g3
    rw [co_ti42] at g1
    obtain ⟨_, hf2⟩ := rv_struct Tryz.underlying48 g1
    have q0 : Rv Tryz.prog w 3 (([v1, v2].drop 0).take (Tryz.prog.cellsOf 3)) := hf2 0 _ rfl
    have q1 : Rv Tryz.prog w 3 (([v1, v2].drop 1).take (Tryz.prog.cellsOf 3)) := hf2 1 _ rfl
    rw [co_int42] at q0 q1
    obtain ⟨a, e0, k0⟩ := rv_int Tryz.underlying3 g0
    obtain ⟨b, e1, k1⟩ := rv_int Tryz.underlying3 q0
    obtain ⟨c, e2, k2⟩ := rv_int Tryz.underlying3 q1
    obtain ⟨d, e3, k3⟩ := rv_int Tryz.underlying3 g2
    obtain ⟨e, e4, k4⟩ := rv_int Tryz.underlying3 g3
    simp at e0 e1 e2 e3 e4
    subst e0 e1 e2 e3 e4
    exact ⟨(a, b, c, d, e), rfl, wf_i64 k0, wf_i64 k1, wf_i64 k2, wf_i64 k3, wf_i64 k4⟩
theorem sts_of {w : World} : ∀ xs : List (List Value), (∀ x ∈ xs, x.length = 5 ∧ Rv Tryz.prog w 57 x) → ∃ ps : List St5, xs.length = ps.length ∧ xs.flatten = enc5 ps ∧ ∀ t ∈ ps, t.Ok
  | [], _ => ⟨[], rfl, rfl, by simp⟩
  | x :: xs, h => by
    obtain ⟨ps, h1, h2, h3⟩ := sts_of xs (fun y hy => h y (by simp [hy]))
    obtain ⟨t, ht, hk⟩ := open_st42 (h x (by simp)).2
    refine ⟨t :: ps, by simp [h1], ?_, ?_⟩
    · rw [List.flatten_cons, h2, ht]; rfl
    · intro y hy
      rcases List.mem_cons.1 hy with rfl | hy
      · exact hk
      · exact h3 y hy
theorem open_sts {w : World} {A : Option Addr} {n c : Nat} (h : Rv Tryz.prog w 25 [.slice A n c]) : n ≤ c ∧ c ≤ maxLen ∧ ∃ ps : List St5, ps.length = n ∧ Rd w w.heap.size A (enc5 ps) ∧ ∀ t ∈ ps, t.Ok := by
  obtain ⟨A', n', c', xs, e, h1, h2, h3, h4, h5⟩ := rv_rows Tryz.underlying25 co_st42 (by omega) h
  simp at e
  obtain ⟨rfl, rfl, rfl⟩ := e
  obtain ⟨ps, g1, g2, g3⟩ := sts_of xs h4
  rw [g2] at h5
  exact ⟨h1, h2, ps, by omega, h5, g3⟩
theorem enc5_get : ∀ (l : List St5) (k : Nat) (hk : k < l.length) (j : Nat), j < 5 → (enc5 l)[k * 5 + j]? = l[k].cells[j]?
  | [], _, h, _, _ => absurd h (by simp)
  | a :: l, 0, _, j, hj => by
    show (a.cells ++ enc5 l)[0 * 5 + j]? = _
    rw [Nat.zero_mul, Nat.zero_add, List.getElem?_append_left (by simpa [St5.cells] using hj)]; rfl
  | a :: l, k + 1, h, j, hj => by
    have h1 := enc5_get l k (by simpa using h) j hj
    show (a.cells ++ enc5 l)[(k + 1) * 5 + j]? = _
    rw [List.getElem?_append_right (by simp [St5.cells]; omega), show (k + 1) * 5 + j - a.cells.length = k * 5 + j by simp [St5.cells]; omega]
    simpa using h1
theorem rd_st5 {w : World} {B : Nat} {A : Option Addr} {ps : List St5} (h : Rd w B A (enc5 ps)) (k : Nat) (hk : k < ps.length) : ∃ b o, A = some ⟨b, o, none⟩ ∧ b < B ∧ w.cell? ⟨b, o + k * 5, none⟩ = some (.int .i64 ps[k].1) ∧ w.cell? ⟨b, o + k * 5 + 1, none⟩ = some (.int .i64 ps[k].2.1) ∧ w.cell? ⟨b, o + k * 5 + 2, none⟩ = some (.int .i64 ps[k].2.2.1) ∧ w.cell? ⟨b, o + k * 5 + 3, none⟩ = some (.int .i64 ps[k].2.2.2.1) ∧ w.cell? ⟨b, o + k * 5 + 4, none⟩ = some (.int .i64 ps[k].2.2.2.2) := by
  have hg : ∀ j v, j < 5 → ps[k].cells[j]? = some v → ∃ b o, A = some ⟨b, o, none⟩ ∧ b < B ∧ w.cell? ⟨b, o + k * 5 + j, none⟩ = some v := fun j v hj hv => by
    have h1 := enc5_get ps k hk j hj
    rw [hv] at h1
    have hlt : k * 5 + j < (enc5 ps).length := by
      rcases Nat.lt_or_ge (k * 5 + j) (enc5 ps).length with h | h
      · exact h
      · rw [List.getElem?_eq_none h] at h1; cases h1
    obtain ⟨b, o, rfl, hb, hc⟩ := h.get _ hlt
    rw [List.getElem?_eq_getElem hlt] at h1
    injection h1 with h1
    exact ⟨b, o, rfl, hb, by rw [Nat.add_assoc, hc, h1]⟩
  obtain ⟨b, o, rfl, hb, c0⟩ := hg 0 _ (by omega) rfl
  obtain ⟨b1, o1, e1, _, c1⟩ := hg 1 _ (by omega) rfl
  obtain ⟨b2, o2, e2, _, c2⟩ := hg 2 _ (by omega) rfl
  obtain ⟨b3, o3, e3, _, c3⟩ := hg 3 _ (by omega) rfl
  obtain ⟨b4, o4, e4, _, c4⟩ := hg 4 _ (by omega) rfl
  injection e1 with e1; injection e1 with e11 e12; subst e11; subst e12
  injection e2 with e2; injection e2 with e21 e22; subst e21; subst e22
  injection e3 with e3; injection e3 with e31 e32; subst e31; subst e32
  injection e4 with e4; injection e4 with e41 e42; subst e41; subst e42
  exact ⟨b, o, rfl, hb, c0, c1, c2, c3, c4⟩
end Go.Proofs.YtahiaeaobbofbaaGreat
end
section
set_option linter.unusedVariables false
namespace Go.Proofs.YtahiaeaobbofbaaGreat
open Go.RowKit
theorem HasIm.loc {ims : List Im} {tw th : Int} {t : Int × Int} {v : Value} {r6 : Nat → Nat} {w6 w7 : World} {g : Nat} {cs : Array Value} {ty : TypeId} (h : HasIm w6 r6 ims tw th t v) (kg : w6.heap[g]? = some (.cells cs ty)) (hty : ty ≠ 5) (hgr : w6.grownBy w7 (some g)) : HasIm w7 r6 ims tw th t v := by
  obtain ⟨j, hj, sl, e1, e2, e3, e4, e5⟩ := h
  refine ⟨j, hj, sl, e1, e2, e3, own_same e4 (fun b hb => hgr.block b (e4.lt b hb).2 (fun e => ?_)), e5⟩
  injection e with e
  subst e
  obtain ⟨cur, hc⟩ := own_tag e4 hb
  have := hc.symm.trans kg
  injection this with this
  injection this with _ this
  exact hty this.symm
/-- A block of no role changes, that came behind the images and holds no bytes. -/
theorem CaP.loc {K : SC} {U : Nat} {s : CS} {r r1 : Nat → Nat} {w w1 w' : World} {kb ab ga nk na g : Nat} {vt vs : Value} {AM : Int → Option Value} {cs : Array Value} {ty : TypeId} (h : CaP K U s r w kb ab ga vt vs nk na AM) (him : ImsR w1 r1 K.A K.ims) (hs : Step r1 w1 r w)
    (kg : w.heap[g]? = some (.cells cs ty)) (hty : ty ≠ 5) (hg : w1.heap.size ≤ g) (hr : r g = 0) (hgr : w.grownBy w' (some g)) : CaP K U s r w' kb ab ga vt vs nk na AM ∧ Step r1 w1 r w' := by
  have hB : Below 0 w w' := ⟨hgr.os, hgr.tape, hgr.output, hgr.size, fun i hi => by omega⟩
  have c : Chg r (fun q => q = 0) w w' := ⟨hB, fun i hi hn => hgr.block i hi (fun e => hn (by injection e with e; rw [e]; exact hr))⟩
  have hst : Step r1 w1 r w' := ⟨⟨hs.chg.bel.trans hB, fun i hi hn => (hgr.block i (Nat.lt_of_lt_of_le hi hs.size) (fun e => by injection e with e; omega)).trans (hs.chg.out i hi hn)⟩, hs.ext⟩
  refine ⟨?_, hst⟩
  exact { h with
    cb := c.bk h.cb (by rw [h.rc]; decide), so := c.bk h.so (by rw [h.rs]; decide), im := him.step hst.chg (by simp) hst.ext,
    km := c.gm h.km (by rw [h.rk]; decide), am := c.gm h.am (by rw [h.ra]; decide), tr := c.own h.tr (fun b hb => by rw [h.rt b hb]; decide), sr := c.own h.sr (fun b hb => by rw [h.rv b hb]; decide),
    ag := c.ag h.ag (fun b hb => by rw [hb]; decide),
    lt := fun b hr => Nat.lt_of_lt_of_le (h.lt b hr) hgr.size,
    hit := fun k hk => by obtain ⟨h1, v, h2, h3⟩ := h.hit k hk; exact ⟨h1, v, h2, h3.loc kg hty hgr⟩ }
structure SpK where
  K : SC
  W0 : World
  W1 : World
  r1 : Nat → Nat
  g : Nat
structure Sp (O : SpK) (U : Nat) (vS : Value) (s : CS) (ms : MS) (Sn : List (Int × Int)) (A : Option Addr) (c : Nat) (w : World) : Prop where
  ca : ∃ r kb ab ga vt vs nk na AM, CaP O.K U s r w kb ab ga vt vs nk na AM ∧ r O.g = 0 ∧ RdR w r A (encT ms.L) ∧ (∀ b, vS.ownBlock = some b → r b = 0) ∧ Step O.r1 O.W1 r w
  im : ImsR O.W1 O.r1 O.K.A O.K.ims
  g1 : O.W1.heap.size ≤ O.g
  m : Bk w O.g 55 (caM O.K.most (.slice A ms.L.length c) ms.hits ms.loads ms.drops ms.high)
  sn : w.ownsRow (O.g + 1) 48 2 vS Sn.length (encT Sn)
  al : ∀ a, A = some a → a.block < w.heap.size
  ne : ∀ a, A = some a → O.g < a.block ∧ ∀ b, vS.ownBlock = some b → a.block ≠ b
  bel : Below O.W0.heap.size O.W0 w
  hg : O.W0.heap.size ≤ O.g
  lo : O.W0.heap.size ≤ O.K.lo
  low : O.K.lo ≤ w.heap.size
section
variable {O : SpK} {w w' wr : World} {U : Nat} {vS : Value} {s s' : CS} {ms ms' : MS} {Sn : List (Int × Int)} {A A' : Option Addr} {c c' : Nat}
theorem Sp.nx (h : Sp O U vS s ms Sn A c w) (hb : Below w.heap.size w w') : Sp O U vS s ms Sn A c w' := by
  obtain ⟨r, kb, ab, ga, vt, vs, nk, na, AM, h1, h2, h3, h4, h5⟩ := h.ca
  exact ⟨⟨r, kb, ab, ga, vt, vs, nk, na, AM, h1.nx hb, h2, h3.chg (R := fun _ => False) (only_below hb) (fun e => e), h4, h5.trans (Step.of_below hb)⟩, h.im, h.g1, h.m.nx hb, own_below h.sn hb (Nat.le_refl _), fun a ha => Nat.lt_of_lt_of_le (h.al a ha) hb.size, h.ne, h.bel.trans (hb.mono h.bel.size), h.hg, h.lo, Nat.le_trans h.low hb.size⟩
theorem Sp.more (h : Sp O U vS s ms Sn A c w) {V : Nat} (hV : U ≤ V) : Sp O V vS s ms Sn A c w := by
  obtain ⟨r, kb, ab, ga, vt, vs, nk, na, AM, h1, h2, h3, h4⟩ := h.ca
  exact { h with ca := ⟨r, kb, ab, ga, vt, vs, nk, na, AM, h1.more hV, h2, h3, h4⟩ }
/-- The cache has gone on by a step of its own. -/
theorem Sp.go (h : Sp O U vS s ms Sn A c w) {V : Nat} {r r' : Nat → Nat} {kb ab ga nk na : Nat} {vt vs : Value} {AM : Int → Option Value} (hr0 : r O.g = 0) (hrd : RdR w r A (encT ms.L)) (hrs : ∀ b, vS.ownBlock = some b → r b = 0) (h0 : Step O.r1 O.W1 r w) (hge : ∀ b, r b ≠ 0 → O.K.lo ≤ b)
    (h' : CaP O.K V s' r' w' kb ab ga vt vs nk na AM) (hs : Step r w r' w') : Sp O V vS s' ms Sn A c w' := by
  have hgw := h.m.lt
  refine ⟨⟨r', kb, ab, ga, vt, vs, nk, na, AM, h', (hs.ext O.g hgw).trans hr0, hrd.step hs.chg (by simp) (fun b hb => hs.ext b hb), fun b hb => ?_, h0.trans hs⟩, h.im, h.g1, hs.bk h.m hr0, ?_, fun a ha => Nat.lt_of_lt_of_le (h.al a ha) hs.size, h.ne, ?_, h.hg, h.lo, Nat.le_trans h.low hs.size⟩
  · exact (hs.ext b (h.sn.lt b hb).2).trans (hrs b hb)
  · exact hs.chg.own h.sn (fun b hb => by rw [hrs b hb]; simp)
  · exact hs.below h.bel h.bel.size (fun b hb => Nat.le_trans h.lo (hge b hb))
theorem Sp.get (h : Sp O U vS s ms Sn A c wr) (ty : TypeId) (cs : Array Value) (hU : U ≤ 60000) (t : Int × Int) (hv : VT O.K.ims O.K.tw O.K.th t) :
    Calls Tryz.prog 7 #[.pointer (some ⟨O.K.gc, 0, none⟩), .agg (tiA t.1 t.2)] (wr.alloc (.cells cs ty)) fun e w' => ∃ (j : Nat) (hj : j < O.K.ims.length) (Ap : Option Addr) (cp B : Nat), t.1 = j ∧ e = .returned (.tuple #[tlV O.K.ims[j] O.K.tw O.K.th t.2 Ap cp, .int .i64 0]) ∧ wr.heap.size < B ∧ B ≤ w'.heap.size ∧
      w'.ownsRow B 5 1 (.slice Ap (tlB O.K.ims[j] O.K.tw O.K.th t.2).length cp) (tlB O.K.ims[j] O.K.tw O.K.th t.2).length ((tlB O.K.ims[j] O.K.tw O.K.th t.2).map (Value.int .u8)) ∧ ∀ w'', Below B w' w'' → Sp O (U + 5) vS (useS O.K s t) ms Sn A c w'' ∧ Bk w'' wr.heap.size ty cs := by
  have hb : Below wr.heap.size wr (wr.alloc (.cells cs ty)) := (Below.refl _ _).alloc (Nat.le_refl _) _
  have hA := h.nx hb
  obtain ⟨r, kb, ab, ga, vt, vs, nk, na, AM, h1, h2, h3, h4, h5⟩ := h.ca
  have h1A := h1.nx hb
  obtain ⟨q1, q2⟩ := h1.vt64 hv
  refine (cgetP h1A (by omega) t q1 q2 hv hA.low).mono ?_
  rintro e w' ⟨j, hj, Ap, cp, B, r', vt', nk', na', AM', e1, e2, e3, e4, e5, e6⟩
  refine ⟨j, hj, Ap, cp, B, e1, e2, by simp at e3; omega, e4, e5, fun w'' hw => ?_⟩
  obtain ⟨p1, p2⟩ := e6 w'' hw
  exact ⟨hA.go h2 (h3.chg (R := fun _ => False) (only_below hb) (fun e => e)) h4 (h5.trans (Step.of_below hb)) h1.ge p1 p2, p2.bk (Bk.new wr ty cs) (h1.fresh _ (Nat.le_refl _))⟩
theorem Sp.get_no (h : Sp O U vS s ms Sn A c w) (t : Int × Int) (hv : ¬ VT O.K.ims O.K.tw O.K.th t) :
    Calls Tryz.prog 7 #[.pointer (some ⟨O.K.gc, 0, none⟩), .agg (tiA t.1 t.2)] w fun e w' => e = .returned (.tuple #[.agg im0A, .int .i64 11]) ∧ Below w.heap.size w w' := by
  obtain ⟨r, kb, ab, ga, vt, vs, nk, na, AM, h1, h2, h3, h4⟩ := h.ca
  exact cget_no h1 t hv
theorem Sp.read_in (h : Sp O U vS s ms Sn A c wr) (ty : TypeId) (cs : Array Value) (hU : U ≤ 60000) (k : Nat) (hk : k < O.K.ims.length) (x y : Int) (hx : 0 ≤ x ∧ x < O.K.ims[k].W) (hy : 0 ≤ y ∧ y < O.K.ims[k].H) :
    Calls Tryz.prog 11 #[.pointer (some ⟨O.K.gc, 0, none⟩), .int .i64 k, .int .i64 x, .int .i64 y] (wr.alloc (.cells cs ty)) fun e w' => ∃ Ap cp, e = .returned (.slice Ap (pxV O.K.ims[k] x y).length cp) ∧ Rd w' w'.heap.size Ap (pxV O.K.ims[k] x y) ∧ Sp O (U + 6) vS (rdS O.K s (k, tlI O.K.ims[k].W O.K.tw O.K.th x y)) ms Sn A c w' ∧ Bk w' wr.heap.size ty cs := by
  have hb : Below wr.heap.size wr (wr.alloc (.cells cs ty)) := (Below.refl _ _).alloc (Nat.le_refl _) _
  have hA := h.nx hb
  obtain ⟨r, kb, ab, ga, vt, vs, nk, na, AM, h1, h2, h3, h4, h5⟩ := h.ca
  refine (cread_in (h1.nx hb) (by omega) k hk x y hx hy hA.low).mono ?_
  rintro e w' ⟨Ap, cp, e1, e2, r', vt', vs', nk', na', AM', e3, e4⟩
  exact ⟨Ap, cp, e1, e2, hA.go h2 (h3.chg (R := fun _ => False) (only_below hb) (fun e => e)) h4 (h5.trans (Step.of_below hb)) h1.ge e3 e4, e4.bk (Bk.new wr ty cs) (h1.fresh _ (Nat.le_refl _))⟩
theorem Sp.read_no (h : Sp O U vS s ms Sn A c w) (j x y : Int) (hno : ∀ i : Nat, (i : Int) = j → ∀ hj : i < O.K.ims.length, ¬ (0 ≤ x ∧ x < O.K.ims[i].W ∧ 0 ≤ y ∧ y < O.K.ims[i].H)) :
    Calls Tryz.prog 11 #[.pointer (some ⟨O.K.gc, 0, none⟩), .int .i64 j, .int .i64 x, .int .i64 y] w fun e w' => e = .returned (.slice none 0 0) ∧ Below w.heap.size w w' := by
  obtain ⟨r, kb, ab, ga, vt, vs, nk, na, AM, h1, h2, h3, h4⟩ := h.ca
  exact cread_no h1 j x y hno
theorem Sp.mark (h : Sp O U vS s ms Sn A c w) : Calls Tryz.prog 21 #[.pointer (some ⟨O.K.gc, 0, none⟩)] w fun e w' => e = .returned (.tuple #[]) ∧ Sp O U (.slice none 0 0) { s with S := [] } ms [] A c w' := by
  obtain ⟨r, kb, ab, ga, vt, vs, nk, na, AM, h1, h2, h3, h4, h5⟩ := h.ca
  refine (cmark h1).mono ?_
  rintro e w' ⟨rfl, q1, q2⟩
  have h9 := h.go h2 h3 h4 h5 h1.ge q1 q2
  obtain ⟨r', kb', ab', ga', vt', vs', nk', na', AM', g1, g2, g3, g4, g5⟩ := h9.ca
  exact ⟨rfl, { h9 with ca := ⟨r', kb', ab', ga', vt', vs', nk', na', AM', g1, g2, g3, (fun b hb => by cases hb), g5⟩, sn := World.ownsRow_nil _ _ _ _, ne := fun a ha => ⟨(h9.ne a ha).1, fun b hb => by cases hb⟩ }⟩
/-- The reference's cache is written. -/
theorem Sp.put {w1 w2 : World} (h : Sp O U vS s ms Sn A c w) (hb : Below w.heap.size w w1) (hr : RdL w1 w.heap.size A' (encT ms'.L)) (hgr : w1.grownBy w2 (some O.g))
    (hk : Bk w2 O.g 55 (caM O.K.most (.slice A' ms'.L.length c') ms'.hits ms'.loads ms'.drops ms'.high)) (hA0 : A' ≠ none) (hL : ms'.L ≠ []) : Sp O U vS s ms' Sn A' c' w2 := by
  have h1 := h.nx hb
  have hgw := h.m.lt
  obtain ⟨r0, kb0, ab0, ga0, vt0, vs0, nk0, na0, AM0, e1, e2, e3, e4, e5⟩ := h.ca
  obtain ⟨g1, g2, g3, g4, g5⟩ : CaP O.K U s r0 w1 kb0 ab0 ga0 vt0 vs0 nk0 na0 AM0 ∧ r0 O.g = 0 ∧ RdR w1 r0 A (encT ms.L) ∧ (∀ b, vS.ownBlock = some b → r0 b = 0) ∧ Step O.r1 O.W1 r0 w1 := ⟨e1.nx hb, e2, e3.chg (R := fun _ => False) (only_below hb) (fun e => e), e4, e5.trans (Step.of_below hb)⟩
  obtain ⟨q1, q2⟩ := g1.loc h.im g5 h1.m (by decide) h.g1 g2 hgr
  have hbk : ∀ a, A' = some a → w.heap.size ≤ a.block ∧ a.block < w1.heap.size := fun a ha => by
    obtain ⟨b, o, eb, hb1, hb2, _⟩ := hr 0 (by
      cases hl : ms'.L with
      | nil => exact absurd hl hL
      | cons x l => simp [encT])
    rw [ha] at eb
    injection eb with eb
    rw [eb]; exact ⟨hb1, hb2⟩
  have hrd : RdR w2 r0 A' (encT ms'.L) := fun k hk => by
    obtain ⟨b, o, rfl, hb1, hb2, hc⟩ := hr k hk
    refine ⟨b, o, rfl, e1.fresh b hb1, Nat.lt_of_lt_of_le hb2 hgr.size, ?_⟩
    exact hgr.cell hc (fun e => by injection e with e; simp at e; omega)
  refine ⟨⟨r0, kb0, ab0, ga0, vt0, vs0, nk0, na0, AM0, q1, g2, hrd, g4, q2⟩, h.im, h.g1, hk, ?_, fun a ha => Nat.lt_of_lt_of_le (hbk a ha).2 hgr.size, fun a ha => ⟨by have := (hbk a ha).1; omega, fun b hb => ?_⟩, below_of_gb h1.bel hgr h.hg h1.bel.size, h.hg, h.lo, Nat.le_trans h1.low hgr.size⟩
  · exact h1.sn.kept hgr (.inr (fun e => by have := (h1.sn.lt _ e).1; omega))
  · have h5 := (h.sn.lt b hb).2
    have h6 := (hbk a ha).1
    omega
/-- What was read is noted. -/
theorem Sp.note {w2 : World} {vS' : Value} {t : Int × Int} (h : Sp O U vS s ms Sn A c w) (w1 : World) (hb : Below w.heap.size w w1) (hgr : w1.grownBy w2 vS.ownBlock) (ho : w2.ownsRow (O.g + 1) 48 2 vS' (Sn.length + 1) (encT Sn ++ encT [t])) (hv : vS'.ownBlock = vS.ownBlock ∨ ∃ b, vS'.ownBlock = some b ∧ w1.heap.size ≤ b) : Sp O U vS' s ms (Sn ++ [t]) A c w2 := by
  have h1 := h.nx hb
  obtain ⟨r0, kb0, ab0, ga0, vt0, vs0, nk0, na0, AM0, g1, g2, g3, g4, g5⟩ := h1.ca
  have hsn : w2.ownsRow (O.g + 1) 48 2 vS' (Sn ++ [t]).length (encT (Sn ++ [t])) := by
    rw [encT_app, List.length_append]; exact ho
  have hlt := h1.m.lt
  have hne' : ∀ a, A = some a → O.g < a.block ∧ ∀ b, vS'.ownBlock = some b → a.block ≠ b := fun a ha => ⟨(h.ne a ha).1, fun b hb' => by
    rcases hv with e | ⟨b', e, hb''⟩
    · exact (h.ne a ha).2 b (e ▸ hb')
    · rw [hb'] at e; injection e with e
      have := h1.al a ha; omega⟩
  have hr0 : ∀ b, vS'.ownBlock = some b → r0 b = 0 := fun b hb' => by
    rcases hv with e | ⟨b', e, hb''⟩
    · exact g4 b (e ▸ hb')
    · rw [hb'] at e; injection e with e
      exact g1.fresh b (by omega)
  cases hvs : vS.ownBlock with
  | none =>
    rw [hvs] at hgr
    have hb2 : Below w1.heap.size w1 w2 := ⟨hgr.os, hgr.tape, hgr.output, hgr.size, fun i hi => hgr.block i hi (by simp)⟩
    have h2 := h1.nx hb2
    exact ⟨⟨r0, kb0, ab0, ga0, vt0, vs0, nk0, na0, AM0, g1.nx hb2, g2, g3.chg (R := fun _ => False) (only_below hb2) (fun e => e), hr0, g5.trans (Step.of_below hb2)⟩, h.im, h.g1, h2.m, hsn, h2.al, hne', h2.bel, h.hg, h.lo, h2.low⟩
  | some b0 =>
    rw [hvs] at hgr
    obtain ⟨cur, hcur⟩ := own_tag h1.sn hvs
    have hb0 := (h1.sn.lt b0 hvs).1
    obtain ⟨q1, q2⟩ := g1.loc h.im g5 hcur (by decide) (by have := h.g1; omega) (g4 b0 hvs) hgr
    have hrd : RdR w2 r0 A (encT ms.L) := fun k hk => by
      obtain ⟨b, o, e, hb1, hb2, hc⟩ := g3 k hk
      refine ⟨b, o, e, hb1, Nat.lt_of_lt_of_le hb2 hgr.size, hgr.cell hc (fun e' => ?_)⟩
      injection e' with e'
      exact (h.ne _ e).2 b0 hvs e'
    exact ⟨⟨r0, kb0, ab0, ga0, vt0, vs0, nk0, na0, AM0, q1, g2, hrd, hr0, q2⟩, h.im, h.g1, h1.m.grown hgr (fun e => by injection e with e; omega), hsn, fun a ha => Nat.lt_of_lt_of_le (h1.al a ha) hgr.size, hne', below_of_gb h1.bel hgr (by have := h.hg; omega) h1.bel.size, h.hg, h.lo, Nat.le_trans h1.low hgr.size⟩
end
end Go.Proofs.YtahiaeaobbofbaaGreat
end
