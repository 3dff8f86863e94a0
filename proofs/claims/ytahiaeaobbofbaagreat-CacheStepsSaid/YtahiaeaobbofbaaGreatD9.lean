/- Several texts in one: The cache: Get, with what it answers. The cache: what there is not. The cache: what it tells of itself. The cache: what is not, and all of it. The cache: All, Seen. The cache and its reference: a tile used, told alike. -/
import Derived.Test.YtahiaeaobbofbaaGreatC19
import Derived.Deep.RegionWith
import Derived.Test.YtahiaeaobbofbaaGreatD1
import Derived.Test.YtahiaeaobbofbaaGreatGD
import Derived.Deep.QuietTactic
import Derived.Test.YtahiaeaobbofbaaGreatSS2
section
set_option linter.unusedVariables false
namespace Go.Proofs.YtahiaeaobbofbaaGreat
open Go.RowKit
section
variable {r r' r'' : Nat → Nat} {w w' w'' : World} {K : SC} {U : Nat} {s : CS} {kb ab ga nk na : Nat} {vt vs : Value} {AM : Int → Option Value}
/-- The image of a tile, its bytes in A. -/
def tlV (m : Im) (tw th i : Int) (A : Option Addr) (c : Nat) : Value := .agg #[.int .i64 (min (tlX m.W tw i + tw) m.W - tlX m.W tw i), .int .i64 (min (tlY m.W tw th i + th) m.H - tlY m.W tw th i), .int .i64 m.C, .slice A (tlB m tw th i).length c]
def GetP (K : SC) (U : Nat) (s : CS) (r : Nat → Nat) (w : World) (kb ab ga : Nat) (vs : Value) (t : Int × Int) (e : Ending) (w' : World) : Prop :=
  ∃ (j : Nat) (hj : j < K.ims.length) (A : Option Addr) (c B : Nat) (r' : Nat → Nat) (vt' : Value) (nk' na' : Nat) (AM' : Int → Option Value), t.1 = j ∧ e = .returned (.tuple #[tlV K.ims[j] K.tw K.th t.2 A c, .int .i64 0]) ∧ w.heap.size ≤ B ∧ B ≤ w'.heap.size ∧
    w'.ownsRow B 5 1 (.slice A (tlB K.ims[j] K.tw K.th t.2).length c) (tlB K.ims[j] K.tw K.th t.2).length ((tlB K.ims[j] K.tw K.th t.2).map (Value.int .u8)) ∧
    ∀ w'', Below B w' w'' → CaP K (U + 5) (useS K s t) r' w'' kb ab ga vt' vs nk' na' AM' ∧ Step r w r' w''
set_option maxRecDepth 100000 in
set_option maxHeartbeats 16000000 in
theorem cgetP (h : CaP K U s r w kb ab ga vt vs nk na AM) (hU : U ≤ 70000) (t : Int × Int) (h1 : R64 t.1) (h2 : R64 t.2) (hv : VT K.ims K.tw K.th t) (hlo : K.lo ≤ w.heap.size) :
    Calls Tryz.prog 7 #[.pointer (some ⟨K.gc, 0, none⟩), .agg (tiA t.1 t.2)] w (GetP K U s r w kb ab ga vs t) := by
  have hL := ((Lie.start w).alloc (tiA t.1 t.2) 48).alloc im0A 44
  simp only [World.size_alloc] at hL
  have hx1 := h.nx hL.bel
  have hok := cok hx1
  have his := cis_in hx1 t hv
  have k0 : Bk _ w.heap.size 48 (tiA t.1 t.2) := hL.k 1 (by simp)
  have k1 : Bk _ (w.heap.size + 1) 44 im0A := hL.k 0 (by simp)
  have hfr : ∀ b, w.heap.size ≤ b → r b = 0 := h.fresh
  have hgcw : K.gc < w.heap.size := h.cb.lt
  have hzL : K.lo ≤ ((w.alloc (.cells (tiA t.1 t.2) 48)).alloc (.cells im0A 44)).heap.size := by simp; omega
  have huse : ∀ W, Below ((w.alloc (.cells (tiA t.1 t.2) 48)).alloc (.cells im0A 44)).heap.size ((w.alloc (.cells (tiA t.1 t.2) 48)).alloc (.cells im0A 44)) W → Calls Tryz.prog 32 #[.pointer (some ⟨K.gc, 0, none⟩), .agg (tiA t.1 t.2)] W (UseP K U s r W kb ab ga vs t) := fun W hW =>
    cuse (hx1.nx hW) (by omega) t h1 h2 hv (by have := hW.size; omega)
  have H := Lib.hid h
  obtain ⟨t1, t2⟩ := t
  simp only at *
  have hLB := hL.bel
  clear h hx1 hlo h1 h2 hv
  go_enter Tryz.func7, Tryz.ntmps7
  go_upto_region 6 with (first
    | (go_at_call 30; (with_reducible refine hok.mono ?_); rintro e w1 ⟨rfl, rfl⟩)
    | (refine ldB rfl _ _ rfl k0 rfl Tryz.underlying48 rfl ti_size ?_)
    | (go_at_call 31; (with_reducible refine his.mono ?_); rintro e w2 ⟨rfl, hb2⟩; have k02 := k0.nx hb2)
    | (refine ldB rfl _ _ rfl k02 rfl Tryz.underlying48 rfl ti_size ?_)
    | (go_at_call 32; (with_reducible refine (huse _ hb2).mono ?_); rintro e w6 ⟨v6, rfl, r6, vt6, nk6, na6, AM6, hx6, hst6, hHas6⟩; obtain ⟨p0, p1, p2, A, n, c, rfl⟩ := hHas6.form; have kN := Bk.new w6 44 im0A)
    | (refine stB (ty := 44) (cells := #[.int .i64 p0, .int .i64 p1, .int .i64 p2, .slice A n c]) rfl _ _ rfl kN rfl rfl img_size rfl (by simp [Value.oneCell']) ?_; intro w7 k7 hg7 hs7))
  have hL7 := ((Lie.start w6).alloc im0A 44).set hg7 k7 (by omega) (by simp)
  have hb7 : Below w6.heap.size w6 w7 := hL7.bel
  have hz2 : w.heap.size + 1 < w2.heap.size := by have := hb2.size; simp at this; omega
  have k12 := k1.nx hb2
  have hstL : Step r w r w2 := Step.of_below (hLB.trans (hb2.mono hLB.size))
  have hst06 : Step r w r6 w6 := hstL.trans hst6
  have hr1 : r6 (w.heap.size + 1) = 0 := (hst6.ext _ hz2).trans (hfr _ (by omega))
  have k17 := (hst6.bk k12 (hfr _ (by omega))).nx hb7
  have hwn : w6.heap.size < w7.heap.size := k7.lt
  have hz6 := hst6.size
  obtain ⟨j, hj, sl, e1, e2, e3, e4, e5⟩ := hHas6
  simp only at e1 e2 e3 e4 e5
  have hck := hx6.ck K.ims[j] (List.getElem_mem hj)
  have k16 := hst6.bk k12 (hfr _ (by omega))
  obtain ⟨hf, hpl⟩ := ck_parts hck
  obtain ⟨hcc, hw1, hw2, hh1, hh2, hpp⟩ := fitsC_ok hf
  obtain ⟨⟨x0, x1⟩, ⟨y0, y1⟩, _⟩ := tl_xy (grC_zero.2 ⟨⟨hw1, hw2⟩, ⟨hh1, hh2⟩, hx6.tws.1, hx6.tws.2⟩) e2
  have htw := hx6.tws
  have hck2 := crop_ck K.ims[j] (tlX K.ims[j].W K.tw t2) (tlY K.ims[j].W K.tw K.th t2) (min (tlX K.ims[j].W K.tw t2 + K.tw) K.ims[j].W) (min (tlY K.ims[j].W K.tw K.th t2 + K.th) K.ims[j].H) hck ⟨x0, by omega⟩ (by omega) ⟨y0, by omega⟩ (by omega)
  have hlen : (tlB K.ims[j] K.tw K.th t2).length ≤ 1000000000 := by
    obtain ⟨f1, f2⟩ := ck_parts hck2
    obtain ⟨g1, g2, g3, g4, g5, g6⟩ := fitsC_ok f1
    have : (min (tlX K.ims[j].W K.tw t2 + K.tw) K.ims[j].W - tlX K.ims[j].W K.tw t2) * (min (tlY K.ims[j].W K.tw K.th t2 + K.th) K.ims[j].H - tlY K.ims[j].W K.tw K.th t2) * K.ims[j].C ≤ 4194304 * 4 := Int.mul_le_mul g6 (by omega) (by omega) (by omega)
    show (cropL _ _ _ _ _).length ≤ _
    omega
  obtain ⟨A', c', hsl, _, _, hrd, _⟩ := own_form e4
  subst hsl
  simp at e3
  obtain ⟨E0, E1, E2, rfl, rfl, rfl⟩ := e3
  have HE0 := Lib.hid E0
  have HE1 := Lib.hid E1
  have HE2 := Lib.hid E2
  have HT1 := Lib.hid e1
  clear E0 E1 E2
  clear e1 e2 e4 e5 hck hf hpl hcc hw1 hw2 hh1 hh2 hpp x0 x1 y0 y1 htw hck2 hok his huse k0 k1 k02 k12 hL hL7 hg7 kN hs7
  obtain ⟨d0, d1, d2, d3⟩ := k7.cell4
  obtain ⟨l, hlb⟩ : ∃ l, tlB K.ims[j] K.tw K.th t2 = l := ⟨_, rfl⟩
  rw [hlb] at hlen hrd
  have HLB := Lib.hid hlb
  simp only [hlb] at d3 k7 ⊢
  clear hlb
  have hCl := cloneu_any l A l.length c w7 rfl hlen (hrd.below hb7) (by omega)
  obtain ⟨g6, hg6⟩ : ∃ g6, w6.heap.size = g6 := ⟨_, rfl⟩
  have hg6w : w.heap.size + 1 < g6 := by omega
  simp only [hg6] at k7 d0 d1 d2 d3 hwn ⊢
  have HG6 := Lib.hid hg6
  clear hg6 hrd
  go_upto_region 7 with (go_at_call 28; (with_reducible refine hCl.mono ?_); rintro e w8 ⟨s8, rfl, ho8, hb8⟩; obtain ⟨A8, c8, rfl, _⟩ := own_form ho8; have k78 := k7.nx hb8; obtain ⟨z0, z1, z2, z3⟩ := k78.cell4; have f3 := k78.frozen 3)
  have k79 := k78.set 3 (.slice A8 l.length c8)
  simp only [List.setIfInBounds_toArray, List.set_cons_zero, List.set_cons_succ] at k79
  have hb9 : Below w6.heap.size w6 (w8.setCell ⟨g6, 3, none⟩ (.slice A8 l.length c8)) := (hb7.trans (hb8.mono hb7.size)).setCell (by have := HG6.out; simp; omega) _
  have k19 := (k17.nx hb8).far (p := ⟨g6, 3, none⟩) (by simp; omega) (.slice A8 l.length c8)
  have ho9 := own_far (own_base ho8 (by have := hb7.size; omega) : w8.ownsRow w6.heap.size _ _ _ _ _) ⟨g6, 3, none⟩ (.slice A8 l.length c8) (fun q hq e => by have := (ho8.lt q hq).1; simp at e; omega)
  clear z0 z1 z2 z3 f3 k78 d0 d1 d2 d3 k7 hb8 ho8 k17 hCl
  generalize w8.setCell ⟨g6, 3, none⟩ (.slice A8 l.length c8) = w9 at *
  have hx9 := hx6.nx hb9
  have hst9 := hst06.trans (Step.of_below hb9)
  go_wp2_with (first
    | (refine ldB rfl _ _ rfl k79 rfl Tryz.underlying44 rfl img_size ?_)
    | (refine stB (ty := 44) (cells := #[.int .i64 p0, .int .i64 p1, .int .i64 p2, .slice A8 l.length c8]) rfl _ _ rfl k19 rfl rfl img_size rfl (by simp [Value.oneCell']) ?_; intro wB kB hgB hsB))
  refine bodyPost_ret (res_cell_tmp rfl kB rfl Tryz.underlying44 rfl img_size) rfl ?_
  have hB6 : w6.heap.size ≤ wB.heap.size := by have := hb9.size; omega
  refine ⟨j, hj, A8, c8, w6.heap.size, r6, vt6, nk6, na6, AM6, HT1.out, ?_, hst06.size, hB6, ?_, ?_⟩
  · unfold tlV
    rw [HLB.out, ← HE0.out, ← HE1.out, ← HE2.out]
    rfl
  · rw [HLB.out]
    exact (own_base ho9 (Nat.le_refl _)).kept hgB (.inr (fun e => by have := (ho9.lt _ e).1; omega))
  · intro w'' hw
    obtain ⟨q1, q2⟩ := H.out.local' hx6 hst06 k16 (by omega) hr1 (grown_setRow w6 (w.heap.size + 1) #[.int .i64 p0, .int .i64 p1, .int .i64 p2, .slice A8 l.length c8]) (by simp)
    have kS : Bk (w6.setRow (w.heap.size + 1) #[.int .i64 p0, .int .i64 p1, .int .i64 p2, .slice A8 l.length c8]) (w.heap.size + 1) 44 #[.int .i64 p0, .int .i64 p1, .int .i64 p2, .slice A8 l.length c8] := Bk_setRow k16 _
    have gS := grown_setRow w6 (w.heap.size + 1) #[.int .i64 p0, .int .i64 p1, .int .i64 p2, .slice A8 l.length c8]
    have hbS : Below (w6.setRow (w.heap.size + 1) #[.int .i64 p0, .int .i64 p1, .int .i64 p2, .slice A8 l.length c8]).heap.size (w6.setRow (w.heap.size + 1) #[.int .i64 p0, .int .i64 p1, .int .i64 p2, .slice A8 l.length c8]) w'' := by
      refine ⟨hw.os.trans (hgB.os.trans hb9.os), hw.tape.trans (hgB.tape.trans hb9.tape), hw.output.trans (hgB.output.trans hb9.output), by have := hw.size; simp; omega, fun i hi => ?_⟩
      have hi6 : i < w6.heap.size := by simpa using hi
      by_cases e : i = w.heap.size + 1
      · subst e
        exact (hw.block _ hi6).trans (kB.trans kS.symm)
      · exact (hw.block i hi6).trans ((hgB.block i (by have := hb9.size; omega) (fun h => e (Option.some.inj h))).trans ((hb9.block i hi6).trans (gS.block i hi6 (fun h => e (Option.some.inj h))).symm))
    exact ⟨q1.nx hbS, q2.trans (Step.of_below hbS)⟩
end
end Go.Proofs.YtahiaeaobbofbaaGreat
end
section
set_option linter.unusedVariables false
namespace Go.Proofs.YtahiaeaobbofbaaGreat
open Go.RowKit
theorem gcols_bad (W H TW TH : Int) (w : World) (h0 : grC W H TW TH ≠ 0) : Calls Tryz.prog 66 #[grV W H TW TH] w fun e w' => e = .returned (.int .i64 0) ∧ Below w.heap.size w w' := by
  have hL := (Lie.start w).alloc (grA W H TW TH) 97
  have hK : Bk (w.alloc (.cells (grA W H TW TH) 97)) w.heap.size 97 (grA W H TW TH) := hL.k 0 (by simp)
  have hR := fun w' => gright_any W H TW TH w'
  rw [show (grC W H TW TH == 0) = false by simpa using h0] at hR
  have hb0 := hL.bel
  clear h0 hL
  go_enter Tryz.func66, Tryz.ntmps66
  go_wp2_with (first
    | (refine ldB rfl _ _ rfl hK rfl Tryz.underlying97 rfl gr_size ?_)
    | (go_at_call 63; (with_reducible refine (hR _).mono ?_); rintro e w1 ⟨rfl, hb1⟩))
  go_returns
  exact ⟨rfl, hb0.trans (hb1.mono hb0.size)⟩
theorem grows_bad (W H TW TH : Int) (w : World) (h0 : grC W H TW TH ≠ 0) : Calls Tryz.prog 91 #[grV W H TW TH] w fun e w' => e = .returned (.int .i64 0) ∧ Below w.heap.size w w' := by
  have hL := (Lie.start w).alloc (grA W H TW TH) 97
  have hK : Bk (w.alloc (.cells (grA W H TW TH) 97)) w.heap.size 97 (grA W H TW TH) := hL.k 0 (by simp)
  have hR := fun w' => gright_any W H TW TH w'
  rw [show (grC W H TW TH == 0) = false by simpa using h0] at hR
  have hb0 := hL.bel
  clear h0 hL
  go_enter Tryz.func91, Tryz.ntmps91
  go_wp2_with (first
    | (refine ldB rfl _ _ rfl hK rfl Tryz.underlying97 rfl gr_size ?_)
    | (go_at_call 63; (with_reducible refine (hR _).mono ?_); rintro e w1 ⟨rfl, hb1⟩))
  go_returns
  exact ⟨rfl, hb0.trans (hb1.mono hb0.size)⟩
theorem gcount_bad (W H TW TH : Int) (w : World) (h0 : grC W H TW TH ≠ 0) : Calls Tryz.prog 77 #[grV W H TW TH] w fun e w' => e = .returned (.int .i64 0) ∧ Below w.heap.size w w' := by
  have hL := (Lie.start w).alloc (grA W H TW TH) 97
  have hK : Bk (w.alloc (.cells (grA W H TW TH) 97)) w.heap.size 97 (grA W H TW TH) := hL.k 0 (by simp)
  have hC := fun w' => gcols_bad W H TW TH w' h0
  have hR := fun w' => grows_bad W H TW TH w' h0
  clear h0
  go_enter Tryz.func77, Tryz.ntmps77
  go_wp2_with fail
  generalize hw1 : w.alloc (.cells (grA W H TW TH) 97) = w1 at *
  clear hw1
  refine wp_region_quiet_below (by kernel_rfl) (by kernel_rfl) ?_
  repeat (first
    | (refine wpQuiet_load rfl _ _ rfl hK rfl Tryz.underlying97 rfl gr_size ?_; simp only [Act.put, List.setIfInBounds_toArray, List.set_cons_zero, List.set_cons_succ])
    | go_big_quiet_step ((first | with_reducible exact quiet_below (hC _) | with_reducible exact quiet_below (hR _)))
    | quiet_step ((first | with_reducible exact quiet_below (hC _) | with_reducible exact quiet_below (hR _))))
  refine wpQuiet_nil ?_
  intro _ hw'
  obtain ⟨⟨dd, os⟩, hw''⟩ := hw'
  subst hw''
  have hbx := below_regrown w1 dd os
  generalize Go.Sort.grow (redrawn w1 dd) os = wx at *
  have hb := (hL.nx hbx).bel
  clear hC hR
  go_wp2_with fail
  go_returns
  exact ⟨rfl, hb⟩
theorem gtile_no (W H TW TH i z : Int) (w : World) (hN : ∀ w', Calls Tryz.prog 77 #[grV W H TW TH] w' fun e w'' => e = .returned (.int .i64 z) ∧ Below w'.heap.size w' w'') (hi : i < 0 ∨ z ≤ i) :
    Calls Tryz.prog 56 #[grV W H TW TH, .int .i64 i] w fun e w' => e = .returned (.tuple #[rc_rect4 0 0 0 0, .bool false]) ∧ Below w.heap.size w w' := by
  have hL := ((Lie.start w).alloc (grA W H TW TH) 97).alloc (rc_rectA 0 0 0 0) 59
  simp only [World.size_alloc] at hL
  have hK : Bk _ w.heap.size 97 (grA W H TW TH) := hL.k 1 (by simp)
  have kR : Bk _ (w.heap.size + 1) 59 (rc_rectA 0 0 0 0) := hL.k 0 (by simp)
  obtain ⟨c0, c1, c2, c3⟩ := hK.cell4
  rcases (show i < 0 ∨ (¬ i < 0 ∧ i ≥ z) by omega) with h | ⟨h, h'⟩
  · have hb := hL.bel
    clear hi hN
    go_enter Tryz.func56, Tryz.ntmps56
    go_wp2_with (refine stB (ty := 59) (cells := rc_rectA 0 0 0 0) rfl _ _ rfl kR rfl rfl rc_rect_size rfl (by simp [Value.oneCell']) ?_; intro w' hK' hg' _)
    refine bodyPost_ret (res_cell_tmp rfl hK' rfl Tryz.underlying59 rfl rc_rect_size) rfl ?_
    exact ⟨rfl, below_of_gb hb hg' (by omega) hb.size⟩
  · clear hi
    go_enter Tryz.func56, Tryz.ntmps56
    go_wp2_with (first
      | (refine ldB rfl _ _ rfl hK rfl Tryz.underlying97 rfl gr_size ?_)
      | (go_at_call 77; (with_reducible refine (hN _).mono ?_); rintro e w1 ⟨rfl, hb1⟩; have hL1 := hL.nx hb1; have kR1 := kR.nx hb1)
      | (refine stB (ty := 59) (cells := rc_rectA 0 0 0 0) rfl _ _ rfl kR1 rfl rfl rc_rect_size rfl (by simp [Value.oneCell']) ?_; intro w' hK' hg' _))
    refine bodyPost_ret (res_cell_tmp rfl hK' rfl Tryz.underlying59 rfl rc_rect_size) rfl ?_
    have hb := hL1.bel
    exact ⟨rfl, below_of_gb hb hg' (by omega) hb.size⟩
section
variable {r r' r'' : Nat → Nat} {w w' w'' : World} {K : SC} {U : Nat} {s : CS} {kb ab ga nk na : Nat} {vt vs : Value} {AM : Int → Option Value}
theorem splace_no {lo gs n c : Nat} {A : Option Addr} {tw th cnt : Int} {ims : List Im} (h : Sto lo w gs A n c tw th cnt ims) (k i : Int) (hno : ¬ VT ims tw th (k, i)) :
    Calls Tryz.prog 36 #[.pointer (some ⟨gs, 0, none⟩), .agg (tiA k i)] w fun e w' => e = .returned (.tuple #[rc_rect4 0 0 0 0, .bool false]) ∧ Below w.heap.size w w' := by
  have hL := ((Lie.start w).alloc (tiA k i) 48).alloc (rc_rectA 0 0 0 0) 59
  simp only [World.size_alloc] at hL
  have hsz : w.heap.size ≤ ((w.alloc (.cells (tiA k i) 48)).alloc (.cells (rc_rectA 0 0 0 0) 59)).heap.size := by simp; omega
  have hs := h.nx hL.bel
  obtain ⟨X, Y, TW, TH, hG, hT⟩ : ∃ X Y TW TH : Int, (∀ (d : Nat) (os : Array Obj), Calls Tryz.prog 43 #[.pointer (some ⟨gs, 0, none⟩), .int .i64 k] (Go.Sort.grow (redrawn ((w.alloc (.cells (tiA k i) 48)).alloc (.cells (rc_rectA 0 0 0 0) 59)) d) os) fun e w' => e = .returned (grV X Y TW TH) ∧ Below (Go.Sort.grow (redrawn ((w.alloc (.cells (tiA k i) 48)).alloc (.cells (rc_rectA 0 0 0 0) 59)) d) os).heap.size (Go.Sort.grow (redrawn ((w.alloc (.cells (tiA k i) 48)).alloc (.cells (rc_rectA 0 0 0 0) 59)) d) os) w') ∧
      (∀ w', Calls Tryz.prog 56 #[grV X Y TW TH, .int .i64 i] w' fun e w'' => e = .returned (.tuple #[rc_rect4 0 0 0 0, .bool false]) ∧ Below w'.heap.size w' w'') := by
    by_cases hk : 0 ≤ k ∧ k < n
    · obtain ⟨j, rfl⟩ : ∃ j : Nat, k = j := ⟨k.toNat, by omega⟩
      have hj : j < ims.length := by have := h.len; omega
      refine ⟨ims[j].W, ims[j].H, tw, th, fun d os => sgrid_in (hs.nx (below_regrown _ d os)) j hj, fun w' => gtile_no ims[j].W ims[j].H tw th i _ w' (fun w'' => gcount_any ims[j].W ims[j].H tw th w'' (h.gr j hj)) ?_⟩
      apply Classical.byContradiction
      intro e
      exact hno ⟨j, hj, rfl, by simp only; omega, by simp only; omega⟩
    · refine ⟨0, 0, 0, 0, fun d os => sgrid_out (hs.nx (below_regrown _ d os)) k hk, fun w' => gtile_no 0 0 0 0 i 0 w' (fun w'' => gcount_bad 0 0 0 0 w'' (by decide)) (by omega)⟩
  have k0 : Bk _ w.heap.size 48 (tiA k i) := hL.k 1 (by simp)
  obtain ⟨c0, c1⟩ := k0.cell2
  have r0 := fun (n : Nat) (os : Array Obj) => cell_regrown c0 n os
  have r1 := fun (n : Nat) (os : Array Obj) => cell_regrown c1 n os
  clear hs h hno k0 c0 c1
  go_enter Tryz.func36, Tryz.ntmps36
  go_upto_region 1 with fail
  generalize (w.alloc (.cells (tiA k i) 48)).alloc (.cells (rc_rectA 0 0 0 0) 59) = w1 at *
  refine wp_region_quiet_tail 9 (by kernel_rfl) (by kernel_rfl) ?_
  simp only [List.take_succ_cons, List.take_zero, List.drop_succ_cons, List.drop_zero]
  repeat (first
    | go_big_quiet_step ((first | with_reducible exact quiet_below (hG _ _) | with_reducible exact quiet_below (hT _)))
    | quiet_step ((first | with_reducible exact quiet_below (hG _ _) | with_reducible exact quiet_below (hT _))))
  refine wpQuiet_nil ?_
  intro _ hw'
  obtain ⟨⟨d9, os⟩, hw''⟩ := hw'
  subst hw''
  have hLy := hL.nx (below_regrown w1 d9 os)
  have kR : Bk (Go.Sort.grow (redrawn w1 d9) os) (w.heap.size + 1) 59 (rc_rectA 0 0 0 0) := hLy.k 0 (by simp)
  clear r0 r1 hL hG hT
  generalize Go.Sort.grow (redrawn w1 d9) os = wy at *
  have hb := hLy.bel
  go_wp2_with (refine stB (ty := 59) (cells := rc_rectA 0 0 0 0) rfl _ _ rfl kR rfl rfl rc_rect_size rfl (by simp [Value.oneCell']) ?_; intro w' hK' hg' _)
  refine bodyPost_ret (res_cell_tmp rfl hK' rfl Tryz.underlying59 rfl rc_rect_size) rfl ?_
  exact ⟨rfl, below_of_gb hb hg' (by omega) hb.size⟩
end
end Go.Proofs.YtahiaeaobbofbaaGreat
end
section
set_option linter.unusedVariables false
namespace Go.Proofs.YtahiaeaobbofbaaGreat
open Go.RowKit
section
variable {r r' r'' : Nat → Nat} {w w' w'' : World} {K : SC} {U : Nat} {s : CS} {kb ab ga nk na : Nat} {vt vs : Value} {AM : Int → Option Value}
theorem CaP.vt64 (h : CaP K U s r w kb ab ga vt vs nk na AM) {t : Int × Int} (hv : VT K.ims K.tw K.th t) : R64 t.1 ∧ R64 t.2 := by
  obtain ⟨j, hj, h1, h2, h3⟩ := hv
  have hck := h.ck K.ims[j] (List.getElem_mem hj)
  obtain ⟨hf, hpl⟩ := ck_parts hck
  obtain ⟨hcc, hw1, hw2, hh1, hh2, hpp⟩ := fitsC_ok hf
  obtain ⟨g1, g2⟩ := h.tws
  have hjn := h.len
  have hjs := h.small
  have a1 : grN K.ims[j].W K.tw ≤ 40000 := by unfold grN; exact Int.le_trans (Int.ediv_le_self _ (by omega)) (by omega)
  have a2 : grN K.ims[j].H K.th ≤ 40000 := by unfold grN; exact Int.le_trans (Int.ediv_le_self _ (by omega)) (by omega)
  have a4 : 0 ≤ grN K.ims[j].H K.th := by unfold grN; exact Int.ediv_nonneg (by omega) (by omega)
  have a5 : grN K.ims[j].W K.tw * grN K.ims[j].H K.th ≤ 40000 * 40000 := Int.mul_le_mul a1 a2 a4 (by omega)
  refine ⟨⟨by omega, by omega⟩, ⟨by omega, by omega⟩⟩
def hand (s : CS) : List (Int × Int) := s.ks.map fun k => s.T.getD k (0, 0)
theorem idxOf_get {l : List (Int × Int)} (hn : l.Nodup) {k : Nat} (hk : k < l.length) : l.idxOf l[k] = k := hn.idxOf_getElem k hk
set_option maxRecDepth 100000 in
set_option maxHeartbeats 4000000 in
theorem chas_yes (h : CaP K U s r w kb ab ga vt vs nk na AM) (hU : U ≤ 70000) (k : Nat) (hk : k ∈ s.ks) (hkT : k < s.T.length) :
    Calls Tryz.prog 45 #[.pointer (some ⟨K.gc, 0, none⟩), .agg (tiA s.T[k].1 s.T[k].2)] w fun e w' => e = .returned (.bool true) ∧ Below w.heap.size w w' := by
  obtain ⟨h1, h2⟩ := h.vt64 (h.tv _ (List.getElem_mem hkT))
  have hix := idxOf_get h.nd hkT
  have hmem : s.T[k] ∈ s.T := List.getElem_mem hkT
  obtain ⟨t, ht⟩ : ∃ t, s.T[k] = t := ⟨_, rfl⟩
  rw [ht] at h1 h2 hix hmem ⊢
  obtain ⟨l, hl⟩ := tile_key t h1 h2
  have hL := (Lie.start w).alloc (tiA t.1 t.2) 48
  have hb := hL.bel
  have hx := h.nx hb
  have k0 : Bk _ w.heap.size 48 (tiA t.1 t.2) := hL.k 0 (by simp)
  have hlk : ∀ q, (Instr.lookup 34 (.map (some kb)) (.agg (tiA t.1 t.2)) true).run Tryz.prog ((w.alloc (.cells (tiA t.1 t.2) 48)).drewN q) = .ok (.tuple #[.int .i64 (k : Nat), .bool true]) ((w.alloc (.cells (tiA t.1 t.2) 48)).drewN q) := fun q => by
    have := (hx.km.same (w' := (w.alloc (.cells (tiA t.1 t.2) 48)).drewN q) rfl).look (Maps.Keyed.of_law tile_law) Tryz.underlying34 (zero_int _) hl
    rw [show idxV s.T t = some (.int .i64 (k : Nat)) from by unfold idxV; rw [if_pos hmem, hix]] at this
    exact this
  have hHa := fun q => (hx.nx (below_drewN (Below.refl _ _) q)).ag.has (k := natI k) (by have := hx.bk; unfold natI; constructor <;> omega)
  rw [decide_eq_true (List.mem_map.2 ⟨k, hk, rfl⟩)] at hHa
  change ∀ q, Calls _ _ #[.pointer (some ⟨ga, 0, none⟩), .int .i64 (k : Nat)] _ _ at hHa
  have hok := cok hx
  obtain ⟨c0, c1, c2, c3, c4, c5, c6, c7, c8, c9, c10⟩ := hx.cb.cell11'
  obtain ⟨d0, d1⟩ := k0.cell2
  clear hx h hl hmem hix hk ht k0 c0 c1 c3 c4 c6 c7 c8 c9 c10 h1 h2
  obtain ⟨t1, t2⟩ := t
  simp only at *
  go_enter Tryz.func45, Tryz.ntmps45
  go_upto_region 3 with (go_at_call 30; (with_reducible refine hok.mono ?_); rintro e w1 ⟨rfl, rfl⟩)
  go_quiet ((fail))
  go_wp2_with (go_at_call 69; (with_reducible refine (hHa _).mono ?_); rintro e w1 ⟨rfl, rfl⟩)
  go_returns
  exact ⟨rfl, below_drewN hb _⟩
theorem CaP.mark (h : CaP K U s r w kb ab ga vt vs nk na AM) (g : Chg r (fun q => q = 1) w w') (cb' : Bk w' K.gc 41 (caA K s kb ab ga vt (.slice none 0 0))) :
    CaP K U { s with S := [] } r w' kb ab ga vt (.slice none 0 0) nk na AM ∧ Step r w r w' := by
  obtain ⟨b1, b2, b3, b4⟩ := h.bk
  refine ⟨?_, ⟨⟨g.bel, fun i hi hF => g.out i hi (fun e => hF (by rw [e]; decide))⟩, fun _ _ => rfl⟩⟩
  exact { h with
    cb := cb', so := g.bk h.so (by rw [h.rs]; decide), im := h.im.chg g (by decide), km := g.gm h.km (by rw [h.rk]; decide), am := g.gm h.am (by rw [h.ra]; decide), tr := g.own h.tr (fun b hb => by rw [h.rt b hb]; decide),
    sr := World.ownsRow_nil _ _ _ _, ag := g.ag h.ag (fun b hb e => by rw [hb] at e; cases e),
    rv := fun b hb => (by cases hb), lt := fun b hr => Nat.lt_of_lt_of_le (h.lt b hr) g.size,
    hit := fun k hk => by obtain ⟨h1, v, h2, h3⟩ := h.hit k hk; exact ⟨h1, v, h2, h3.chg g (by decide)⟩,
    bk := ⟨b1, b2, b3, Nat.zero_le _⟩ }
theorem cmark (h : CaP K U s r w kb ab ga vt vs nk na AM) : Calls Tryz.prog 21 #[.pointer (some ⟨K.gc, 0, none⟩)] w fun e w' => e = .returned (.tuple #[]) ∧ CaP K U { s with S := [] } r w' kb ab ga vt (.slice none 0 0) nk na AM ∧ Step r w r w' := by
  have hok := cok h
  obtain ⟨c0, c1, c2, c3, c4, c5, c6, c7, c8, c9, c10⟩ := h.cb.cell11'
  have f10 := h.cb.frozen 10
  have hcb := h.cb.set 10 (.slice none 0 0)
  simp only [List.setIfInBounds_toArray, List.set_cons_zero, List.set_cons_succ] at hcb
  have hfin := h.mark ⟨((Below.refl 0 w).setCell (p := ⟨K.gc, 10, none⟩) (Nat.zero_le _) (.slice none 0 0)), fun i hi hn => Below.heap_setCell w ⟨K.gc, 10, none⟩ _ i (fun e => hn (by rw [e]; exact h.rc))⟩ hcb
  clear c0 c1 c2 c3 c4 c5 c6 c7 c8 c9 h hcb
  go_enter Tryz.func21, Tryz.ntmps21
  go_wp2_with (go_at_call 30; (with_reducible refine hok.mono ?_); rintro e w1 ⟨rfl, rfl⟩)
  go_returns
  exact ⟨rfl, hfin⟩
end
end Go.Proofs.YtahiaeaobbofbaaGreat
end
section
set_option linter.unusedVariables false
namespace Go.Proofs.YtahiaeaobbofbaaGreat
open Go.RowKit
section
variable {r r' r'' : Nat → Nat} {w w' w'' : World} {K : SC} {U : Nat} {s : CS} {kb ab ga nk na : Nat} {vt vs : Value} {AM : Int → Option Value}
set_option maxRecDepth 100000 in
set_option maxHeartbeats 16000000 in
theorem cis_no (h : CaP K U s r w kb ab ga vt vs nk na AM) (t : Int × Int) (hv : ¬ VT K.ims K.tw K.th t) :
    Calls Tryz.prog 31 #[.pointer (some ⟨K.gc, 0, none⟩), .agg (tiA t.1 t.2)] w fun e w' => e = .returned (.bool false) ∧ Below w.heap.size w w' := by
  obtain ⟨t1, t2⟩ := t
  simp only
  have hb1 := (Below.refl w.heap.size w).alloc (Nat.le_refl _) (.cells (tiA t1 t2) 48)
  have k0 := Bk.new w 48 (tiA t1 t2)
  have hx1 := h.nx hb1
  have hPl0 : ∀ W, Below (w.alloc (.cells (tiA t1 t2) 48)).heap.size (w.alloc (.cells (tiA t1 t2) 48)) W → Calls Tryz.prog 36 #[.pointer (some ⟨K.gs, 0, none⟩), .agg (tiA t1 t2)] W fun e w' => e = .returned (.tuple #[.agg (rc_rectA 0 0 0 0), .bool false]) ∧ Below W.heap.size W w' := fun W hW =>
    splace_no (hx1.nx hW).sto t1 t2 hv
  have HX1 := Lib.hid hx1
  have c0 := hx1.cb.cell11'.1
  obtain ⟨d0, d1⟩ := k0.cell2
  have hg9 : w.heap.size < (w.alloc (.cells (tiA t1 t2) 48)).heap.size := by simp
  have hgc : K.gc < w.heap.size := h.cb.lt
  clear h hx1 hv
  go_enter Tryz.func31, Tryz.ntmps31
  go_upto_region 1 with fail
  generalize w.alloc (.cells (tiA t1 t2) 48) = w7 at *
  obtain ⟨g9, hg9E⟩ : ∃ g9, w.heap.size = g9 := ⟨_, rfl⟩
  have hS : ∀ W, Below w7.heap.size w7 W → W.cell? ⟨K.gc, 0, none⟩ = some (.pointer (some ⟨K.gs, 0, none⟩)) ∧ W.cell? ⟨w.heap.size, 0, none⟩ = some (.int .i64 t1) ∧ W.cell? ⟨w.heap.size, 1, none⟩ = some (.int .i64 t2) := fun W hW =>
    ⟨(HX1.out.nx hW).cb.cell11'.1, (k0.nx hW).cell2⟩
  have S0 : w7.drew.cell? ⟨K.gc, 0, none⟩ = some (.pointer (some ⟨K.gs, 0, none⟩)) ∧ w7.drew.cell? ⟨w.heap.size, 0, none⟩ = some (.int .i64 t1) ∧ w7.drew.cell? ⟨w.heap.size, 1, none⟩ = some (.int .i64 t2) := ⟨c0, d0, d1⟩
  clear c0 d0 d1 hg9E k0
  go_region_held3 (fun w' => w'.cell? ⟨K.gc, 0, none⟩ = some (.pointer (some ⟨K.gs, 0, none⟩)) ∧ w'.cell? ⟨w.heap.size, 0, none⟩ = some (.int .i64 t1) ∧ w'.cell? ⟨w.heap.size, 1, none⟩ = some (.int .i64 t2))
        (first | exact S0 | exact hS _ hB8 | assumption | exact hS _ (by go_grown))
        (first
          | (go_at_call 36; (with_reducible refine (hPl0 _ (by go_grown)).mono ?_); rintro e w8 ⟨rfl, hb8⟩; have hB8 := below_then (w := w7) hb8 (by go_grown);
             (first
               | (have kN8 := (show Bk (w7.alloc (.cells (rc_rectA 0 0 0 0) 59)).drew w7.heap.size 59 (rc_rectA 0 0 0 0) from Bk.new w7 _ _).nx hb8; obtain ⟨z0, z1, z2, z3⟩ := kN8.cell4; have f0 := kN8.frozen 0; have f1 := kN8.frozen 1; have f2 := kN8.frozen 2; have f3 := kN8.frozen 3; have hz8 := kN8.lt)
               | (have kN8 := Bk.new w8 59 (rc_rectA 0 0 0 0); obtain ⟨z0, z1, z2, z3⟩ := kN8.cell4; have f0 := kN8.frozen 0; have f1 := kN8.frozen 1; have f2 := kN8.frozen 2; have f3 := kN8.frozen 3; have hz8 := hB8.size))))
  all_goals
    have hz88 := hB8.size
    have hbW : Below w.heap.size w w8 := hb1.trans (hB8.mono (by omega))
    have hz9 : w.heap.size ≤ w8.heap.size := hbW.size
    go_wp2_with fail
    go_returns
    first
      | exact ⟨rfl, Below.alloc hbW hz9 _⟩
      | exact ⟨rfl, (((hbW.setCell (by simp; omega) _).setCell (by simp; omega) _).setCell (by simp; omega) _).setCell (by simp; omega) _⟩
set_option maxRecDepth 100000 in
set_option maxHeartbeats 16000000 in
theorem cget_no (h : CaP K U s r w kb ab ga vt vs nk na AM) (t : Int × Int) (hv : ¬ VT K.ims K.tw K.th t) :
    Calls Tryz.prog 7 #[.pointer (some ⟨K.gc, 0, none⟩), .agg (tiA t.1 t.2)] w fun e w' => e = .returned (.tuple #[.agg im0A, .int .i64 11]) ∧ Below w.heap.size w w' := by
  have hL := ((Lie.start w).alloc (tiA t.1 t.2) 48).alloc im0A 44
  simp only [World.size_alloc] at hL
  have hx1 := h.nx hL.bel
  have hok := cok hx1
  have his := cis_no hx1 t hv
  have k0 : Bk _ w.heap.size 48 (tiA t.1 t.2) := hL.k 1 (by simp)
  have k1 : Bk _ (w.heap.size + 1) 44 im0A := hL.k 0 (by simp)
  have hb := hL.bel
  obtain ⟨t1, t2⟩ := t
  simp only at *
  obtain ⟨gc, hgc⟩ : ∃ gc, K.gc = gc := ⟨_, rfl⟩
  rw [hgc] at hok his ⊢
  clear h hx1 hv hgc hL
  go_enter Tryz.func7, Tryz.ntmps7
  go_wp2_with (first
    | (go_at_call 30; (with_reducible refine hok.mono ?_); rintro e w1 ⟨rfl, rfl⟩)
    | (refine ldB rfl _ _ rfl k0 rfl Tryz.underlying48 rfl ti_size ?_)
    | (go_at_call 31; (with_reducible refine his.mono ?_); rintro e w2 ⟨rfl, hb2⟩; have k12 := k1.nx hb2; have hb02 := hb.trans (hb2.mono hb.size))
    | (refine stB (ty := 44) (cells := im0A) rfl _ _ rfl k12 rfl rfl img_size rfl (by simp [Value.oneCell']) ?_; intro w' hK' hg' _))
  refine bodyPost_ret (res_cell_tmp rfl hK' rfl Tryz.underlying44 rfl img_size) rfl ?_
  exact ⟨rfl, below_of_gb hb02 hg' (by omega) hb02.size⟩
theorem clevels (h : CaP K U s r w kb ab ga vt vs nk na AM) : Calls Tryz.prog 10 #[.pointer (some ⟨K.gc, 0, none⟩)] w fun e w' => e = .returned (.int .i64 (K.n : Nat)) ∧ Below w.heap.size w w' := by
  have hok := cok h
  have hl := slevels_any h.sto
  obtain ⟨c0, c1, c2, c3, c4, c5, c6, c7, c8, c9, c10⟩ := h.cb.cell11'
  have hb := Below.refl w.heap.size w
  clear c1 c2 c3 c4 c5 c6 c7 c8 c9 c10 h
  go_enter Tryz.func10, Tryz.ntmps10
  go_wp2_with (first
    | (go_at_call 30; (with_reducible refine hok.mono ?_); rintro e w1 ⟨rfl, rfl⟩)
    | (go_at_call 34; (with_reducible refine hl.mono ?_); rintro e w1 ⟨rfl, rfl⟩))
  go_returns
  exact ⟨rfl, hb⟩
theorem schan_any (h : CaP K U s r w kb ab ga vt vs nk na AM) (h0 : 0 < K.ims.length) : Calls Tryz.prog 49 #[.pointer (some ⟨K.gs, 0, none⟩)] w fun e w' => e = .returned (.int .i64 K.ims[0].C) ∧ w = w' := by
  have hs := h.sto
  have hI := sis_any hs 0
  have hn : (0 : Int) < (K.n : Int) := by have := h.len; omega
  have hn0 : 0 < K.n := by have := h.len; omega
  rw [show decide (0 ≤ (0 : Int) ∧ (0 : Int) < K.n) = true from decide_eq_true ⟨by omega, hn⟩] at hI
  have c0 := hs.k.cell4.1
  obtain ⟨b, o, Ai, ci, hA, _, hbw, q0, q1, q2, q3, hci, hri⟩ := hs.im.get 0 h0
  simp only [Nat.zero_mul, Nat.add_zero] at q2
  generalize K.ims[0].C = C at *
  rw [hA] at c0
  clear hs h hA q0 q1 q3 hri hci
  go_enter Tryz.func49, Tryz.ntmps49
  go_wp2_with (go_at_call 67; (with_reducible refine hI.mono ?_); rintro e w1 ⟨rfl, rfl⟩)
  go_returns
  exact ⟨rfl, rfl⟩
theorem cchannels (h : CaP K U s r w kb ab ga vt vs nk na AM) (h0 : 0 < K.ims.length) : Calls Tryz.prog 24 #[.pointer (some ⟨K.gc, 0, none⟩)] w fun e w' => e = .returned (.int .i64 K.ims[0].C) ∧ Below w.heap.size w w' := by
  have hok := cok h
  have hl := schan_any h h0
  obtain ⟨c0, c1, c2, c3, c4, c5, c6, c7, c8, c9, c10⟩ := h.cb.cell11'
  have hb := Below.refl w.heap.size w
  clear c1 c2 c3 c4 c5 c6 c7 c8 c9 c10 h
  generalize K.ims[0].C = C at *
  go_enter Tryz.func24, Tryz.ntmps24
  go_wp2_with (first
    | (go_at_call 30; (with_reducible refine hok.mono ?_); rintro e w1 ⟨rfl, rfl⟩)
    | (go_at_call 49; (with_reducible refine hl.mono ?_); rintro e w1 ⟨rfl, rfl⟩))
  go_returns
  exact ⟨rfl, hb⟩
theorem csize0 (h : CaP K U s r w kb ab ga vt vs nk na AM) (h0 : 0 < K.ims.length) : Calls Tryz.prog 23 #[.pointer (some ⟨K.gc, 0, none⟩), .int .i64 0] w fun e w' => e = .returned (.tuple #[.int .i64 K.ims[0].W, .int .i64 K.ims[0].H]) ∧ Below w.heap.size w w' := by
  have hok := cok h
  have hl : Calls Tryz.prog 48 #[.pointer (some ⟨K.gs, 0, none⟩), .int .i64 0] w fun e w' => e = .returned (.tuple #[.int .i64 K.ims[0].W, .int .i64 K.ims[0].H]) ∧ Below w.heap.size w w' := ssize_in h.sto 0 h0
  obtain ⟨c0, c1, c2, c3, c4, c5, c6, c7, c8, c9, c10⟩ := h.cb.cell11'
  clear c1 c2 c3 c4 c5 c6 c7 c8 c9 c10 h
  generalize K.ims[0].W = C at *
  generalize K.ims[0].H = D at *
  go_enter Tryz.func23, Tryz.ntmps23
  go_wp2_with (first
    | (go_at_call 30; (with_reducible refine hok.mono ?_); rintro e w1 ⟨rfl, rfl⟩)
    | (go_at_call 48; (with_reducible refine hl.mono ?_); rintro e w1 ⟨rfl, hb⟩))
  go_returns
  exact ⟨rfl, hb⟩
theorem sfetched (h : CaP K U s r w kb ab ga vt vs nk na AM) : Calls Tryz.prog 25 #[.pointer (some ⟨K.gs, 0, none⟩)] w fun e w' => e = .returned (.int .i64 s.cnt) ∧ Below w.heap.size w w' := by
  have c3 := h.so.cell4.2.2.2
  have hb := Below.refl w.heap.size w
  clear h
  go_enter Tryz.func25, Tryz.ntmps25
  go_wp2
  go_returns
  exact ⟨rfl, hb⟩
end
end Go.Proofs.YtahiaeaobbofbaaGreat
end
section
set_option linter.unusedVariables false
namespace Go.Proofs.YtahiaeaobbofbaaGreat
open Go.RowKit
theorem Ag.all' {F : Nat → Prop} {w : World} {g : Nat} {now : Int} {m : List Int} (h : Ag F w g now m) (hn : now ≤ 1000000) : Calls Tryz.prog 70 #[.pointer (some ⟨g, 0, none⟩)] w (OwnI m w) := by
  obtain ⟨A, n, c, cnt, mv, a, K, W, s, M, Fh, hH, hp, hS, rfl, hFh, hM, _, _, hnn⟩ := h.ex
  exact all_walk hH hS (by omega)
theorem encT_one (S : List (Int × Int)) : ∀ u ∈ encT S, u.oneCell' = true := by
  intro u hu
  unfold encT at hu
  obtain ⟨t, _, h⟩ := List.mem_flatMap.1 hu
  rcases List.mem_cons.1 h with rfl | h
  · rfl
  · rcases List.mem_cons.1 h with rfl | h
    · rfl
    · simp at h
theorem eql_tis (a : Addr) (n cp : Nat) : ∀ w, (binOp .eql 35 (.slice (some a) n cp) (.slice none 0 0)).run Tryz.prog w = .ok (.bool false) w := fun w => by
  unfold binOp
  simp [run_equal_slice_nil w 35 48 _ _ _ Tryz.underlying35]
theorem eql_tin (n cp : Nat) : ∀ w, (binOp .eql 35 (.slice none n cp) (.slice none 0 0)).run Tryz.prog w = .ok (.bool true) w := fun w => by
  unfold binOp
  simp [run_equal_slice_nil w 35 48 _ _ _ Tryz.underlying35]
set_option maxRecDepth 100000 in
set_option maxHeartbeats 4000000 in
theorem clonet_any (S : List (Int × Int)) (A : Option Addr) (n cp : Nat) (w : World) {B : Nat} (hl : S.length = n) (hn : n ≤ 1000000) (hr : Rd w B A (encT S)) (hB : B ≤ w.heap.size) :
    Calls Tryz.prog 38 #[.slice A n cp] w (OwnT S w) := by
  cases A with
  | none =>
    have h0 : S = [] := by
      cases S with
      | nil => rfl
      | cons a r => obtain ⟨b, o, e, _⟩ := hr.get 0 (by simp [encT]); cases e
    subst h0
    have hq := eql_tin n cp
    go_enter Tryz.func38, Tryz.ntmps38
    go_wp2_with fail
    go_returns
    exact ⟨_, rfl, World.ownsRow_nil _ _ _ _, Below.refl _ _⟩
  | some a =>
    have hb0 := (Below.refl w.heap.size w).alloc (Nat.le_refl _) (.cells #[] 48)
    have hown0 : (w.alloc (.cells #[] 48)).ownsRow w.heap.size 48 2 (.slice (some ⟨w.heap.size, 0, none⟩) 0 0) 0 [] :=
      ⟨rfl, .inr ⟨w.heap.size, 0, #[], rfl, Nat.le_refl _, Bk.new w 48 #[], Nat.le_refl _, by decide, rfl, rfl⟩⟩
    have hr1 := hr.alloc hB (.cells #[] 48)
    have HLn := Lib.hid hl
    have hq := eql_tis a n cp
    have h1 := encT_one S
    have hel := encT_len S
    have HEL := Lib.hid hel
    clear hl hel
    go_enter Tryz.func38, Tryz.ntmps38
    go_wp2_with (at_builtin; refine appR rfl _ _ _ rfl Tryz.underlying35 ti_info rfl (by omega) rfl rfl hown0 hb0 (Nat.le_refl _) (by simp) hr1 (by rw [HEL.out, HLn.out]) h1 (by omega) (by omega) ?_; intro v1 w1 hown1 hb1 _ _ _)
    go_returns
    rw [Nat.zero_add, List.nil_append] at hown1
    exact ⟨_, rfl, by rw [HLn.out]; exact hown1, hb1⟩
section
variable {r r' r'' : Nat → Nat} {w w' w'' : World} {K : SC} {U : Nat} {s : CS} {kb ab ga nk na : Nat} {vt vs : Value} {AM : Int → Option Value}
theorem cseen (h : CaP K U s r w kb ab ga vt vs nk na AM) (hU : U ≤ 70000) : Calls Tryz.prog 12 #[.pointer (some ⟨K.gc, 0, none⟩)] w (OwnT s.S w) := by
  have hok := cok h
  obtain ⟨A, c, hvs, _⟩ := own_form h.sr
  have hr := h.sr
  rw [hvs] at hr
  have hcl := clonet_any s.S A s.S.length c w rfl (by have := h.bk; omega) (Rd.of_own hr) (Nat.le_refl _)
  obtain ⟨c0, c1, c2, c3, c4, c5, c6, c7, c8, c9, c10⟩ := h.cb.cell11'
  rw [hvs] at c10
  clear c0 c1 c2 c3 c4 c5 c6 c7 c8 c9 h hr hvs
  go_enter Tryz.func12, Tryz.ntmps12
  go_wp2_with (first
    | (go_at_call 30; (with_reducible refine hok.mono ?_); rintro e w1 ⟨rfl, rfl⟩)
    | (go_at_call 38; (with_reducible refine hcl.mono ?_); rintro e w1 ⟨v, rfl, ho, hb⟩))
  go_returns
  exact ⟨_, rfl, ho, hb⟩
theorem hand_take (s : CS) (k : Nat) (hk : k < s.ks.length) : (hand s).take (k + 1) = (hand s).take k ++ [s.T.getD s.ks[k] (0, 0)] := by
  unfold hand
  rw [List.take_succ_eq_append_getElem (by simpa using hk)]
  simp
theorem hand_len (s : CS) : (hand s).length = s.ks.length := by unfold hand; simp
set_option maxRecDepth 100000 in
set_option maxHeartbeats 8000000 in
theorem call_any (h : CaP K U s r w kb ab ga vt vs nk na AM) (hU : U ≤ 70000) : Calls Tryz.prog 47 #[.pointer (some ⟨K.gc, 0, none⟩)] w (OwnT (hand s) w) := by
  have hok := cok h
  have hAll := h.ag.all' (by have := h.bc; omega)
  obtain ⟨A, ct, hvt, _⟩ := own_form h.tr
  have hr := h.tr
  rw [hvt] at hr
  have hrt := Rd.of_own hr
  obtain ⟨c0, c1, c2, c3, c4, c5, c6, c7, c8, c9, c10⟩ := h.cb.cell11'
  rw [hvt] at c3
  have hgc := h.cb.lt
  have hkT : ∀ k ∈ s.ks, k < s.T.length := fun k hk => (h.hit k hk).1
  have hTn : s.T.length ≤ 70000 := by have := h.bk; omega
  have hks : s.ks.length ≤ 65536 := by have := h.bl; have := h.bm; omega
  have hht := hand_take s
  have hhl := hand_len s
  clear c0 c1 c2 c4 c6 c7 c8 c9 c10 h hr hvt
  generalize K.gc = gc at *
  generalize hH : hand s = H at *
  have HH := Lib.hid hH
  clear hH
  go_enter Tryz.func47, Tryz.ntmps47
  go_upto_region 5 with (first
    | (go_at_call 30; (with_reducible refine hok.mono ?_); rintro e w1 ⟨rfl, rfl⟩)
    | (go_at_call 70; (with_reducible refine hAll.mono ?_); rintro e w1 ⟨v1, rfl, ho1, hb1⟩; obtain ⟨A1, c1, rfl, _⟩ := own_form ho1))
  have hr1 := Rd.of_own ho1
  have hgw : gc < w1.heap.size := Nat.lt_of_lt_of_le hgc hb1.size
  have c3' := (hb1.cell (p := ⟨gc, 3, none⟩) hgc).trans c3
  have hrt1 := (hrt.below' hb1 (Nat.le_refl _))
  go_wp2_with fail
  go_loopw [3, 15] (fun v i wr => ∃ k : Nat, k ≤ s.ks.length ∧ i = .int .i64 k ∧ wr.ownsRow w1.heap.size 48 2 v (H.take k).length (encT (H.take k)) ∧ Below w1.heap.size w1 wr) (fun _ i _ => s.ks.length - (intOf i).toNat)
  case atStart => exact ⟨0, by omega, rfl, by simpa [encT] using World.ownsRow_nil _ _ _ _, Below.refl _ _⟩
  case round =>
    obtain ⟨k, hk, rfl, hown, hbel⟩ := hrel
    by_cases hlt : k < s.ks.length
    · obtain ⟨b, o, rfl, hbb, e0⟩ := (hr1.below' hbel (Nat.le_refl _)).get k (by simpa using hlt)
      simp only [List.getElem_map] at e0
      have hq := hkT _ (List.getElem_mem hlt)
      have hsn := Lib.hid (hht k hlt)
      have hl3 : (H.take k).length ≤ k := by simp; omega
      generalize s.ks[k] = q at *
      change _ = some (Value.int .i64 (q : Nat)) at e0
      obtain ⟨b2, o2, rfl, hb2, t0, t1⟩ := rd_tile (hrt1.below' hbel hb1.size) q hq
      have hgd : s.T.getD q (0, 0) = s.T[q] := by rw [List.getD_eq_getElem?_getD, List.getElem?_eq_getElem hq]; rfl
      obtain ⟨⟨s1, s2⟩, hs⟩ : ∃ z, s.T[q] = z := ⟨_, rfl⟩
      rw [hs] at t0 t1 hgd
      rw [hgd] at hsn
      dsimp only at t0 t1
      clear hgd hs
      have hbw := hbel.size
      have c3r := (hbel.cell (p := ⟨gc, 3, none⟩) hgw).trans c3'
      generalize hL : H.take k = L at *
      clear hL
      go_wp2_with (at_builtin; refine app1 rfl _ _ _ rfl Tryz.underlying35 ti_info rfl (by omega) rfl rfl hown hbel (Nat.le_refl _) hbw rfl (by simp [Value.oneCell']) (by omega) (by omega) ?_; intro v' w' hown' hbel' _ _ _; clear hown)
      have hfin : w'.ownsRow w1.heap.size 48 2 v' (H.take (k + 1)).length (encT (H.take (k + 1))) := by
        rw [hsn.out, List.length_append, encT_app]
        exact hown'
      first
        | exact ⟨⟨k + 1, by omega, by go_num, hfin, hbel'⟩, by simp [intOf]; omega⟩
        | exact ⟨⟨k + 1, by omega, by go_num, hfin⟩, by simp [intOf]; omega⟩
    · obtain rfl : k = s.ks.length := by omega
      rw [List.take_of_length_le (by omega)] at hown
      go_wp2_with fail
      go_returns
      exact ⟨_, rfl, own_base hown hb1.size, hb1.trans (hbel.mono hb1.size)⟩
end
end Go.Proofs.YtahiaeaobbofbaaGreat
end
section
set_option linter.unusedVariables false
namespace Go.Proofs.YtahiaeaobbofbaaGreat
open Go.RowKit
def gT (T : List (Int × Int)) (q : Nat) : Int × Int := T.getD q (0, 0)
theorem gT_get {T : List (Int × Int)} {q : Nat} (h : q < T.length) : gT T q = T[q] := by unfold gT; rw [List.getD_eq_getElem?_getD, List.getElem?_eq_getElem h]; rfl
theorem gT_inj {T : List (Int × Int)} (hn : T.Nodup) {p q : Nat} (hp : p < T.length) (hq : q < T.length) : gT T p = gT T q ↔ p = q := by
  constructor
  · intro h
    rw [gT_get hp, gT_get hq] at h
    have h1 := idxOf_get hn hp
    rw [h, idxOf_get hn hq] at h1
    exact h1.symm
  · rintro rfl; rfl
theorem wo_map {T : List (Int × Int)} (hn : T.Nodup) {ks : List Nat} (hk : ∀ q ∈ ks, q < T.length) {k : Nat} (hkT : k < T.length) : woT (ks.map (gT T)) (gT T k) = (ks.filter (· ≠ k)).map (gT T) := by
  unfold woT
  induction ks with
  | nil => rfl
  | cons a l ih =>
    have ha := hk a (by simp)
    have ih2 := ih (fun q hq => hk q (by simp [hq]))
    simp only [List.map_cons, List.filter_cons]
    by_cases e : a = k
    · subst e
      simp only [ne_eq, not_true_eq_false, decide_false, Bool.false_eq_true, if_false]
      exact ih2
    · have e2 : gT T a ≠ gT T k := fun h => e ((gT_inj hn ha hkT).1 h)
      rw [if_pos (decide_eq_true e2), if_pos (decide_eq_true e), List.map_cons, ih2]
def msOf (s : CS) : MS := ⟨hand s, s.hits, s.loads, s.drops, s.high⟩
theorem hand_eq (s : CS) : hand s = s.ks.map (gT s.T) := rfl
theorem addT_nodup {T : List (Int × Int)} (hn : T.Nodup) (t : Int × Int) : (addT T t).Nodup := by
  unfold addT
  split
  · exact hn
  · rename_i h
    exact List.nodup_append.2 ⟨hn, by simp, fun a ha b hb => by rw [List.mem_singleton.1 hb]; exact fun e => h (e ▸ ha)⟩
theorem addT_memM (T : List (Int × Int)) (t : Int × Int) : t ∈ addT T t := by
  unfold addT; split
  · assumption
  · simp
theorem addT_getM {T : List (Int × Int)} (t : Int × Int) {q : Nat} (h : q < T.length) : gT (addT T t) q = gT T q := by
  unfold addT gT
  split
  · rfl
  · rw [List.getD_eq_getElem?_getD, List.getD_eq_getElem?_getD, List.getElem?_append_left h]
theorem addT_len (T : List (Int × Int)) (t : Int × Int) : T.length ≤ (addT T t).length := by
  unfold addT; split
  · exact Nat.le_refl _
  · simp
theorem idx_get (T : List (Int × Int)) {t : Int × Int} (h : t ∈ T) : ∃ hk : T.idxOf t < T.length, gT T (T.idxOf t) = t := by
  have hk : T.idxOf t < T.length := List.idxOf_lt_length_of_mem h
  exact ⟨hk, by rw [gT_get hk]; exact List.getElem_idxOf hk⟩
theorem use_ms' (K : SC) (s : CS) (t : Int × Int) (hnd : s.T.Nodup) (hkd : s.ks.Nodup) (hkT : ∀ k ∈ s.ks, k < s.T.length) (hm : 1 ≤ K.most) (hl : (s.ks.length : Int) ≤ K.most) : msOf (useS K s t) = useM K.most (msOf s) t := by
  have hnd2 := addT_nodup hnd t
  obtain ⟨hkl, hkt⟩ := idx_get (addT s.T t) (addT_memM s.T t)
  have hkT2 : ∀ k ∈ s.ks, k < (addT s.T t).length := fun k hk => Nat.lt_of_lt_of_le (hkT k hk) (addT_len _ _)
  have hmap : ∀ l : List Nat, (∀ k ∈ l, k ∈ s.ks) → l.map (gT s.T) = l.map (gT (addT s.T t)) := fun l hl => List.map_congr_left fun k hk => (addT_getM t (hkT k (hl k hk))).symm
  obtain ⟨k, hk⟩ : ∃ k, (addT s.T t).idxOf t = k := ⟨_, rfl⟩
  rw [hk] at hkl hkt
  have hmem : t ∈ hand s ↔ k ∈ s.ks := by
    rw [hand_eq, hmap s.ks (fun _ h => h)]
    constructor
    · intro h
      obtain ⟨q, hq, e⟩ := List.mem_map.1 h
      rw [← (gT_inj hnd2 (hkT2 q hq) hkl).1 (e.trans hkt.symm)]; exact hq
    · intro h
      exact List.mem_map.2 ⟨k, h, hkt⟩
  have hlen : (hand s).length = s.ks.length := hand_len s
  have hfil : ∀ l : List Nat, (∀ q ∈ l, q ∈ s.ks) → woT (l.map (gT s.T)) t = (l.filter (· ≠ k)).map (gT (addT s.T t)) := fun l hl => by
    rw [hmap l hl]
    have := wo_map hnd2 (ks := l) (fun q hq => hkT2 q (hl q hq)) hkl
    rw [hkt] at this
    exact this
  have happ : ∀ l : List Nat, (l.filter (· ≠ k) ++ [k]).map (gT (addT s.T t)) = (l.filter (· ≠ k)).map (gT (addT s.T t)) ++ [t] := fun l => by
    rw [List.map_append, List.map_singleton, hkt]
  unfold useS useM msOf
  simp only [hk]
  by_cases h1 : k ∈ s.ks
  · rw [if_pos h1, if_pos (hmem.2 h1)]
    simp only [hand_eq]
    rw [happ, hfil s.ks (fun _ h => h)]
    simp
  · rw [if_neg h1, if_neg (fun h => h1 (hmem.1 h))]
    by_cases h2 : (s.ks.length : Int) < K.most
    · have hr : roomS K { s with T := addT s.T t } = { s with T := addT s.T t } := if_pos h2
      rw [hr, hlen, if_neg (by omega)]
      simp only [hand_eq]
      rw [happ, hfil s.ks (fun _ h => h)]
      simp
    · have hr : roomS K { s with T := addT s.T t } = { { s with T := addT s.T t } with ks := s.ks.tail, drops := s.drops + 1 } := if_neg h2
      rw [hr, hlen, if_pos (by omega)]
      simp only [hand_eq]
      have htl : woT (s.ks.map (gT s.T)) ((s.ks.map (gT s.T)).headD (0, 0)) = s.ks.tail.map (gT s.T) := by
        cases hks : s.ks with
        | nil => rw [hks] at h2; simp at h2; omega
        | cons a l =>
          rw [hks] at hkd hkT
          have ha := hkT a (by simp)
          have e := wo_map hnd (ks := a :: l) (fun q hq => hkT q hq) ha
          simp only [List.map_cons, List.headD_cons, List.tail_cons] at e ⊢
          rw [e]
          have : (a :: l).filter (· ≠ a) = l := by
            rw [List.filter_cons, if_neg (by simp), List.filter_eq_self]
            intro x hx
            simp
            rintro rfl
            exact (List.nodup_cons.1 hkd).1 hx
          rw [this]
      rw [htl, happ, hfil s.ks.tail (fun q hq => List.mem_of_mem_tail hq)]
      simp
theorem CaP.use_ms {r : Nat → Nat} {w : World} {K : SC} {U : Nat} {s : CS} {kb ab ga nk na : Nat} {vt vs : Value} {AM : Int → Option Value} (h : CaP K U s r w kb ab ga vt vs nk na AM) (t : Int × Int) : msOf (useS K s t) = useM K.most (msOf s) t :=
  use_ms' K s t h.nd h.kd (fun k hk => (h.hit k hk).1) h.bm.1 h.bl
end Go.Proofs.YtahiaeaobbofbaaGreat
end
