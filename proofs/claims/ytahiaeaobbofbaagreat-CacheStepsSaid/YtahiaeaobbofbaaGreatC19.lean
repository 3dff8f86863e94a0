/- Several texts in one: The cache's law: few images; what the reference checks. The cache: whether a tile is one. The cache: Get. The cache's law: its example. The cache's law: its parameters. The cache's law: a pixel's bytes in the image itself. -/
import Derived.Test.YtahiaeaobbofbaaGreatCA18
import Derived.Test.YtahiaeaobbofbaaGreatSS8
import Derived.Test.YtahiaeaobbofbaaGreatSS9
import Derived.Deep.RegionWith
section
set_option linter.unusedVariables false
namespace Go.Proofs.YtahiaeaobbofbaaGreat
open Go.RowKit
def fewB6 (ims : List Im) : Bool := ims.all fun m => decide ((m.px.length : Int) ≤ 2000)
theorem few_snoc6 {ims : List Im} {k : Nat} (hk : k < ims.length) : fewB6 (ims.drop k) = (decide ((ims[k].px.length : Int) ≤ 2000) && fewB6 (ims.drop (k + 1))) := by
  rw [List.drop_eq_getElem_cons hk]; rfl
set_option maxRecDepth 100000 in
set_option maxHeartbeats 4000000 in
theorem few_any6 (ims : List Im) (A : Option Addr) (n c lo : Nat) (w : World) (hn : ims.length = n) (hA : ImsAt w lo A ims) (hnb : n ≤ 9223372036854775807) :
    Calls Tryz.prog 4 #[.slice A n c] w fun e w' => e = .returned (.bool (fewB6 ims && decide ((n : Int) ≤ 6))) ∧ Below w.heap.size w w' := by
  go_enter Tryz.func4, Tryz.ntmps4
  go_wp2_with fail
  go_loopw [7] (fun i wr => ∃ k : Nat, k ≤ n ∧ i = .int .i64 k ∧ Below w.heap.size w wr ∧ fewB6 ims = fewB6 (ims.drop k)) (fun i _ => n - (intOf i).toNat)
  case atStart => exact ⟨0, by omega, rfl, Below.refl _ _, by simp⟩
  case round =>
    obtain ⟨k, hk, rfl, hbel, hdr⟩ := hrel
    have HD := Lib.hid hdr
    clear hdr
    by_cases hlt : k < n
    · have hk2 : k < ims.length := by omega
      have HS := Lib.hid (few_snoc6 hk2)
      obtain ⟨b, o, Ai, ci, rfl, _, hbw', q0, q1, q2, q3, hci, hri⟩ := (hA.nx hbel (Nat.le_refl _)).get k hk2
      generalize ims[k] = m at *
      have hbw2 := hbel.size
      have hF := fun w => fewi_any m Ai ci 2000 w
      cases hq : decide ((m.px.length : Int) ≤ 2000) with
      | true =>
        rw [hq] at hF HS
        clear hq
        go_wp2_with (go_at_call 26; (with_reducible refine (hF _).mono ?_); rintro e w2 ⟨rfl, hb2⟩)
        exact ⟨⟨k + 1, by omega, by go_num, hbel.trans (((Below.refl _ _).alloc (Nat.le_refl _) _).trans (hb2.mono (by simp)) |>.mono hbw2), by rw [HD.out, HS.out]; rfl⟩, by simp [intOf]; omega⟩
      | false =>
        rw [hq] at hF HS
        clear hq
        go_wp2_with (go_at_call 26; (with_reducible refine (hF _).mono ?_); rintro e w2 ⟨rfl, hb2⟩)
        go_returns
        exact ⟨ret_bool (by rw [HD.out, HS.out]; rfl), hbel.trans (((Below.refl _ _).alloc (Nat.le_refl _) _).trans (hb2.mono (by simp)) |>.mono hbw2)⟩
    · obtain rfl : k = n := by omega
      have hz := HD.out
      rw [List.drop_of_length_le (by omega)] at hz
      have HZ := Lib.hid hz
      clear hz hlt
      go_wp2_with fail
      go_returns
      exact ⟨ret_bool (by rw [HZ.out]; simp [fewB6]), hbel⟩
end Go.Proofs.YtahiaeaobbofbaaGreat
end
section
set_option linter.unusedVariables false
namespace Go.Proofs.YtahiaeaobbofbaaGreat
open Go.RowKit
section
variable {r r' r'' : Nat → Nat} {w w' w'' : World} {K : SC} {U : Nat} {s : CS} {kb ab ga nk na : Nat} {vt vs : Value} {AM : Int → Option Value}
set_option maxRecDepth 100000 in
set_option maxHeartbeats 16000000 in
theorem cis_in (h : CaP K U s r w kb ab ga vt vs nk na AM) (t : Int × Int) (hv : VT K.ims K.tw K.th t) :
    Calls Tryz.prog 31 #[.pointer (some ⟨K.gc, 0, none⟩), .agg (tiA t.1 t.2)] w fun e w' => e = .returned (.bool true) ∧ Below w.heap.size w w' := by
  obtain ⟨j, hj, ht1, hi0, hi1⟩ := hv
  obtain ⟨t1, t2⟩ := t
  simp only at ht1 hi0 hi1 ⊢
  have hb1 := (Below.refl w.heap.size w).alloc (Nat.le_refl _) (.cells (tiA t1 t2) 48)
  have k0 := Bk.new w 48 (tiA t1 t2)
  have hx1 := h.nx hb1
  have hgr := h.sto.gr j hj
  obtain ⟨PA, hPA⟩ : ∃ PA, plA K.ims[j] K.tw K.th t2 = PA := ⟨_, rfl⟩
  have HPL : Hid (plA K.ims[j] K.tw K.th t2 = rc_rectA (tlX K.ims[j].W K.tw t2) (tlY K.ims[j].W K.tw K.th t2) (min (tlX K.ims[j].W K.tw t2 + K.tw) K.ims[j].W) (min (tlY K.ims[j].W K.tw K.th t2 + K.th) K.ims[j].H)) := rfl
  have hPl0 : ∀ W, Below (w.alloc (.cells (tiA t1 t2) 48)).heap.size (w.alloc (.cells (tiA t1 t2) 48)) W → Calls Tryz.prog 36 #[.pointer (some ⟨K.gs, 0, none⟩), .agg (tiA t1 t2)] W fun e w' => e = .returned (.tuple #[.agg (plA K.ims[j] K.tw K.th t2), .bool true]) ∧ Below W.heap.size W w' := fun W hW => by
    rw [ht1]
    exact splace_in (hx1.nx hW).sto j hj t2 ⟨hi0, hi1⟩
  rw [HPL.out] at hPl0
  clear hPA HPL
  generalize tlX K.ims[j].W K.tw t2 = a at *
  generalize tlY K.ims[j].W K.tw K.th t2 = b at *
  generalize min (a + K.tw) K.ims[j].W = cc at *
  generalize min (b + K.th) K.ims[j].H = d at *
  have HX1 := Lib.hid hx1
  have c0 := hx1.cb.cell11'.1
  obtain ⟨d0, d1⟩ := k0.cell2
  have hg9 : w.heap.size < (w.alloc (.cells (tiA t1 t2) 48)).heap.size := by simp
  have hgc : K.gc < w.heap.size := h.cb.lt
  clear h hgr hx1 ht1 hi0 hi1
  go_enter Tryz.func31, Tryz.ntmps31
  go_upto_region 1 with fail
  generalize w.alloc (.cells (tiA t1 t2) 48) = w7 at *
  obtain ⟨g9, hg9E⟩ : ∃ g9, w.heap.size = g9 := ⟨_, rfl⟩
  have hS : ∀ W, Below w7.heap.size w7 W → W.cell? ⟨K.gc, 0, none⟩ = some (.pointer (some ⟨K.gs, 0, none⟩)) ∧ W.cell? ⟨w.heap.size, 0, none⟩ = some (.int .i64 t1) ∧ W.cell? ⟨w.heap.size, 1, none⟩ = some (.int .i64 t2) := fun W hW =>
    ⟨(HX1.out.nx hW).cb.cell11'.1, (k0.nx hW).cell2⟩
  have S0 : w7.drew.cell? ⟨K.gc, 0, none⟩ = some (.pointer (some ⟨K.gs, 0, none⟩)) ∧ w7.drew.cell? ⟨w.heap.size, 0, none⟩ = some (.int .i64 t1) ∧ w7.drew.cell? ⟨w.heap.size, 1, none⟩ = some (.int .i64 t2) := ⟨c0, d0, d1⟩
  clear c0 d0 d1 hg9E k0
  go_region_held3 (fun w' => w'.cell? ⟨K.gc, 0, none⟩ = some (.pointer (some ⟨K.gs, 0, none⟩)) ∧ w'.cell? ⟨w.heap.size, 0, none⟩ = some (.int .i64 t1) ∧ w'.cell? ⟨w.heap.size, 1, none⟩ = some (.int .i64 t2))
        (first | exact S0 | exact hS _ hB8 | assumption | exact hS _ (by go_grown))
        (first
          | (go_at_call 36; (with_reducible refine (hPl0 _ (by go_grown)).mono ?_); rintro e w8 ⟨rfl, hb8⟩; have hB8 := below_then (w := w7) hb8 (by go_grown);
             (first
               | (have kN8 := (show Bk (w7.alloc (.cells (rc_rectA 0 0 0 0) 59)).drew w7.heap.size 59 (rc_rectA 0 0 0 0) from Bk.new w7 _ _).nx hb8; obtain ⟨z0, z1, z2, z3⟩ := kN8.cell4; have f0 := kN8.frozen 0; have f1 := kN8.frozen 1; have f2 := kN8.frozen 2; have f3 := kN8.frozen 3; have hz8 := kN8.lt)
               | (have kN8 := Bk.new w8 59 (rc_rectA 0 0 0 0); obtain ⟨z0, z1, z2, z3⟩ := kN8.cell4; have f0 := kN8.frozen 0; have f1 := kN8.frozen 1; have f2 := kN8.frozen 2; have f3 := kN8.frozen 3; have hz8 := hB8.size))))
  all_goals
    have hz88 := hB8.size
    have hbW : Below w.heap.size w w8 := hb1.trans (hB8.mono (by omega))
    have hz9 : w.heap.size ≤ w8.heap.size := hbW.size
    go_wp2_with fail
    go_returns
    first
      | exact ⟨rfl, Below.alloc hbW hz9 _⟩
      | exact ⟨rfl, (((hbW.setCell (by simp; omega) _).setCell (by simp; omega) _).setCell (by simp; omega) _).setCell (by simp; omega) _⟩
end
end Go.Proofs.YtahiaeaobbofbaaGreat
end
section
set_option linter.unusedVariables false
namespace Go.Proofs.YtahiaeaobbofbaaGreat
open Go.RowKit
section
variable {r r' r'' : Nat → Nat} {w w' w'' : World} {K : SC} {U : Nat} {s : CS} {kb ab ga nk na : Nat} {vt vs : Value} {AM : Int → Option Value}
set_option maxRecDepth 100000 in
set_option maxHeartbeats 16000000 in
theorem cget (h : CaP K U s r w kb ab ga vt vs nk na AM) (hU : U ≤ 70000) (t : Int × Int) (h1 : R64 t.1) (h2 : R64 t.2) (hv : VT K.ims K.tw K.th t) (hlo : K.lo ≤ w.heap.size) :
    Calls Tryz.prog 7 #[.pointer (some ⟨K.gc, 0, none⟩), .agg (tiA t.1 t.2)] w fun e w' => ∃ v, e = .returned (.tuple #[v, .int .i64 0]) ∧ ∃ r' vt' nk' na' AM', CaP K (U + 5) (useS K s t) r' w' kb ab ga vt' vs nk' na' AM' ∧ Step r w r' w' := by
  have hL := ((Lie.start w).alloc (tiA t.1 t.2) 48).alloc im0A 44
  simp only [World.size_alloc] at hL
  have hx1 := h.nx hL.bel
  have hok := cok hx1
  have his := cis_in hx1 t hv
  have k0 : Bk _ w.heap.size 48 (tiA t.1 t.2) := hL.k 1 (by simp)
  have k1 : Bk _ (w.heap.size + 1) 44 im0A := hL.k 0 (by simp)
  have hfr : ∀ b, w.heap.size ≤ b → r b = 0 := h.fresh
  have hgcw : K.gc < w.heap.size := h.cb.lt
  have hzL : K.lo ≤ ((w.alloc (.cells (tiA t.1 t.2) 48)).alloc (.cells im0A 44)).heap.size := by simp; omega
  have huse : ∀ W, Below ((w.alloc (.cells (tiA t.1 t.2) 48)).alloc (.cells im0A 44)).heap.size ((w.alloc (.cells (tiA t.1 t.2) 48)).alloc (.cells im0A 44)) W → Calls Tryz.prog 32 #[.pointer (some ⟨K.gc, 0, none⟩), .agg (tiA t.1 t.2)] W (UseP K U s r W kb ab ga vs t) := fun W hW =>
    cuse (hx1.nx hW) (by omega) t h1 h2 hv (by have := hW.size; omega)
  have H := Lib.hid h
  obtain ⟨t1, t2⟩ := t
  simp only at *
  have hLB := hL.bel
  clear h hx1 hlo h1 h2 hv
  go_enter Tryz.func7, Tryz.ntmps7
  go_upto_region 6 with (first
    | (go_at_call 30; (with_reducible refine hok.mono ?_); rintro e w1 ⟨rfl, rfl⟩)
    | (refine ldB rfl _ _ rfl k0 rfl Tryz.underlying48 rfl ti_size ?_)
    | (go_at_call 31; (with_reducible refine his.mono ?_); rintro e w2 ⟨rfl, hb2⟩; have k02 := k0.nx hb2)
    | (refine ldB rfl _ _ rfl k02 rfl Tryz.underlying48 rfl ti_size ?_)
    | (go_at_call 32; (with_reducible refine (huse _ hb2).mono ?_); rintro e w6 ⟨v6, rfl, r6, vt6, nk6, na6, AM6, hx6, hst6, hHas6⟩; obtain ⟨p0, p1, p2, A, n, c, rfl⟩ := hHas6.form; have kN := Bk.new w6 44 im0A)
    | (refine stB (ty := 44) (cells := #[.int .i64 p0, .int .i64 p1, .int .i64 p2, .slice A n c]) rfl _ _ rfl kN rfl rfl img_size rfl (by simp [Value.oneCell']) ?_; intro w7 k7 hg7 hs7))
  have hL7 := ((Lie.start w6).alloc im0A 44).set hg7 k7 (by omega) (by simp)
  have hb7 : Below w6.heap.size w6 w7 := hL7.bel
  have hz2 : w.heap.size + 1 < w2.heap.size := by have := hb2.size; simp at this; omega
  have k12 := k1.nx hb2
  have hstL : Step r w r w2 := Step.of_below (hLB.trans (hb2.mono hLB.size))
  have hst06 : Step r w r6 w6 := hstL.trans hst6
  have hr1 : r6 (w.heap.size + 1) = 0 := (hst6.ext _ hz2).trans (hfr _ (by omega))
  have k17 := (hst6.bk k12 (hfr _ (by omega))).nx hb7
  have hwn : w6.heap.size < w7.heap.size := k7.lt
  have hz6 := hst6.size
  obtain ⟨j, hj, sl, e1, e2, e3, e4, e5⟩ := hHas6
  simp only at e1 e2 e3 e4 e5
  have hck := hx6.ck K.ims[j] (List.getElem_mem hj)
  obtain ⟨hf, hpl⟩ := ck_parts hck
  obtain ⟨hcc, hw1, hw2, hh1, hh2, hpp⟩ := fitsC_ok hf
  obtain ⟨⟨x0, x1⟩, ⟨y0, y1⟩, _⟩ := tl_xy (grC_zero.2 ⟨⟨hw1, hw2⟩, ⟨hh1, hh2⟩, hx6.tws.1, hx6.tws.2⟩) e2
  have htw := hx6.tws
  have hck2 := crop_ck K.ims[j] (tlX K.ims[j].W K.tw t2) (tlY K.ims[j].W K.tw K.th t2) (min (tlX K.ims[j].W K.tw t2 + K.tw) K.ims[j].W) (min (tlY K.ims[j].W K.tw K.th t2 + K.th) K.ims[j].H) hck ⟨x0, by omega⟩ (by omega) ⟨y0, by omega⟩ (by omega)
  have hlen : (tlB K.ims[j] K.tw K.th t2).length ≤ 1000000000 := by
    obtain ⟨f1, f2⟩ := ck_parts hck2
    obtain ⟨g1, g2, g3, g4, g5, g6⟩ := fitsC_ok f1
    have : (min (tlX K.ims[j].W K.tw t2 + K.tw) K.ims[j].W - tlX K.ims[j].W K.tw t2) * (min (tlY K.ims[j].W K.tw K.th t2 + K.th) K.ims[j].H - tlY K.ims[j].W K.tw K.th t2) * K.ims[j].C ≤ 4194304 * 4 := Int.mul_le_mul g6 (by omega) (by omega) (by omega)
    show (cropL _ _ _ _ _).length ≤ _
    omega
  obtain ⟨A', c', hsl, _, _, hrd, _⟩ := own_form e4
  subst hsl
  simp at e3
  obtain ⟨_, _, _, rfl, rfl, rfl⟩ := e3
  clear e1 e2 e4 e5 hck hf hpl hcc hw1 hw2 hh1 hh2 hpp x0 x1 y0 y1 htw hck2 hok his huse k0 k1 k02 k12 hL hL7 hg7 kN hs7
  obtain ⟨d0, d1, d2, d3⟩ := k7.cell4
  generalize tlB K.ims[j] K.tw K.th t2 = l at *
  have hCl := cloneu_any l A l.length c w7 rfl hlen (hrd.below hb7) (by omega)
  obtain ⟨g6, hg6⟩ : ∃ g6, w6.heap.size = g6 := ⟨_, rfl⟩
  have hg6w : w.heap.size + 1 < g6 := by omega
  simp only [hg6] at k7 d0 d1 d2 d3 hwn ⊢
  have HG6 := Lib.hid hg6
  clear hg6 hrd
  go_upto_region 7 with (go_at_call 28; (with_reducible refine hCl.mono ?_); rintro e w8 ⟨s8, rfl, ho8, hb8⟩; obtain ⟨A8, c8, rfl, _⟩ := own_form ho8; have k78 := k7.nx hb8; obtain ⟨z0, z1, z2, z3⟩ := k78.cell4; have f3 := k78.frozen 3)
  have k79 := k78.set 3 (.slice A8 l.length c8)
  simp only [List.setIfInBounds_toArray, List.set_cons_zero, List.set_cons_succ] at k79
  have hb9 : Below w6.heap.size w6 (w8.setCell ⟨g6, 3, none⟩ (.slice A8 l.length c8)) := (hb7.trans (hb8.mono hb7.size)).setCell (by have := HG6.out; simp; omega) _
  have k19 := (k17.nx hb8).far (p := ⟨g6, 3, none⟩) (by simp; omega) (.slice A8 l.length c8)
  clear z0 z1 z2 z3 f3 k78 d0 d1 d2 d3 k7 hb8 ho8 k17 hCl
  generalize w8.setCell ⟨g6, 3, none⟩ (.slice A8 l.length c8) = w9 at *
  have hx9 := hx6.nx hb9
  have hst9 := hst06.trans (Step.of_below hb9)
  go_wp2_with (first
    | (refine ldB rfl _ _ rfl k79 rfl Tryz.underlying44 rfl img_size ?_)
    | (refine stB (ty := 44) (cells := #[.int .i64 p0, .int .i64 p1, .int .i64 p2, .slice A8 l.length c8]) rfl _ _ rfl k19 rfl rfl img_size rfl (by simp [Value.oneCell']) ?_; intro wB kB hgB hsB))
  refine bodyPost_ret (res_cell_tmp rfl kB rfl Tryz.underlying44 rfl img_size) rfl ?_
  obtain ⟨q1, q2⟩ := H.out.local' hx9 hst9 k19 (by omega) hr1 hgB hsB
  exact ⟨_, rfl, r6, vt6, nk6, na6, AM6, q1, q2⟩
end
end Go.Proofs.YtahiaeaobbofbaaGreat
end
section
set_option linter.unusedVariables false
namespace Go.Proofs.YtahiaeaobbofbaaGreat
open Go.RowKit
def stA (K : SC) : Nat → CS
  | 0 => s00
  | 1 => useS K s00 (0, 0)
  | 2 => useS K (useS K s00 (0, 0)) (0, 1)
  | _ => useS K (useS K (useS K s00 (0, 0)) (0, 1)) (0, 0)
theorem stA_1 (K : SC) (h : K.most = 1) : stA K 1 = ⟨1, [(0, 0)], [0], 0, 1, 0, 1, [], 1⟩ := by
  simp [stA, useS, roomS, addT, s00, h]
  decide
theorem stA_2 (K : SC) (h : K.most = 1) : stA K 2 = ⟨2, [(0, 0), (0, 1)], [1], 0, 2, 1, 1, [], 2⟩ := by
  have e : (((0 : Int), (0 : Int)) == (0, 1)) = false := by decide
  have h1 : stA K 2 = useS K (stA K 1) (0, 1) := rfl
  rw [h1, stA_1 K h]
  simp [useS, roomS, addT, h, List.idxOf_cons, e]
theorem stA_3 (K : SC) (h : K.most = 1) : stA K 3 = ⟨3, [(0, 0), (0, 1)], [0], 0, 3, 2, 1, [], 3⟩ := by
  have e : (((0 : Int), (0 : Int)) == (0, 1)) = false := by decide
  have h1 : stA K 3 = useS K (stA K 2) (0, 0) := rfl
  rw [h1, stA_2 K h]
  simp [useS, roomS, addT, h]
theorem stA_step (K : SC) (k : Nat) (hk : k < 3) : useS K (stA K k) (0, if k = 1 then 1 else 0) = stA K (k + 1) := by
  obtain rfl | rfl | rfl : k = 0 ∨ k = 1 ∨ k = 2 := by omega
  all_goals rfl
/-- The example's image. -/
def imX : Im := ⟨4, 2, 1, [0, 0, 0, 0, 0, 0, 0, 0]⟩
theorem imX_new : newC [imX] 2 2 = 0 := by decide
theorem imX_VT (K : SC) (h1 : K.ims = [imX]) (h2 : K.tw = 2) (h3 : K.th = 2) (k : Nat) : VT K.ims K.tw K.th (0, if k = 1 then 1 else 0) := by
  rw [h1, h2, h3]
  refine ⟨0, by simp, rfl, ?_, ?_⟩
  · show (0 : Int) ≤ if k = 1 then 1 else 0
    split <;> omega
  · show (if k = 1 then (1 : Int) else 0) < grN 4 2 * grN 2 2
    have e : grN 4 2 * grN 2 2 = 2 := by decide
    rw [e]
    split <;> omega
theorem stA_end (K : SC) (h : K.most = 1) : stV (stA K 3) = #[.int .i64 0, .int .i64 3, .int .i64 2, .int .i64 1] := by
  rw [stA_3 K h]
theorem imX_at {w : World} {g0 g1 : Nat} (k0 : Bk w g0 5 (Array.replicate 8 (.int .u8 0))) (k1 : Bk w g1 44 #[.int .i64 4, .int .i64 2, .int .i64 1, .slice (some ⟨g0, 0, none⟩) 8 8]) : ImsAt w 0 (some ⟨g1, 0, none⟩) [imX] := by
  refine ⟨[[.int .i64 4, .int .i64 2, .int .i64 1, .slice (some ⟨g0, 0, none⟩) 8 8]], ?_, rfl, fun i hi hi' => ?_⟩
  · have : Rd w w.heap.size (some ⟨g1, 0, none⟩) [.int .i64 4, .int .i64 2, .int .i64 1, .slice (some ⟨g0, 0, none⟩) 8 8] := fun k hk => ⟨g1, 0, rfl, k1.lt, by rw [Nat.zero_add, k1.cell]; simp [List.getElem?_eq_getElem hk]⟩
    exact this.rdl
  · obtain rfl : i = 0 := by simp at hi; omega
    refine ⟨some ⟨g0, 0, none⟩, 8, rfl, Nat.le_refl 8, ?_⟩
    have : Rd w w.heap.size (some ⟨g0, 0, none⟩) (imX.px.map (Value.int .u8)) := fun k hk => ⟨g0, 0, rfl, k0.lt, by
      rw [Nat.zero_add, k0.cell, show (Array.replicate 8 (Value.int .u8 0)) = (imX.px.map (Value.int .u8)).toArray by rfl]
      simp [List.getElem?_eq_getElem hk]⟩
    exact this.rdl
theorem eql_stX (w : World) : (binOp .eql 39 (.agg #[.int .i64 0, .int .i64 3, .int .i64 2, .int .i64 1]) (.agg #[.int .i64 0, .int .i64 3, .int .i64 2, .int .i64 1])).run Tryz.prog w = .ok (.bool true) w := by
  simp [go_sem, Tryz.underlying39]
set_option maxRecDepth 100000 in
set_option maxHeartbeats 16000000 in
theorem alive42 (w : World) : Calls Tryz.prog 13 #[] w fun e w' => e = .returned (.bool true) ∧ Below w.heap.size w w' := by
  have hmk := fun w => run_make1 (P := Tryz.prog) (t := 42) (e := 5) (z := .int .u8 0) (bytes := 1) Tryz.underlying42 u8_info rfl 8 8 rfl (by omega) (by omega) w
  have hL := ((Lie.start w).alloc (Array.replicate 8 (.int .u8 0)) 5).alloc #[.int .i64 4, .int .i64 2, .int .i64 1, .slice (some ⟨w.heap.size, 0, none⟩) 8 8] 44
  simp only [World.size_alloc] at hL
  have hnew := snew [imX] (some ⟨w.heap.size + 1, 0, none⟩) 1 1 0 2 2 _ rfl (imX_at (hL.k 1 (by simp)) (hL.k 0 (by simp))) (by omega) (by intro m hm; simp at hm; subst hm; decide)
  have hb1 := hL.bel
  clear hL
  go_enter Tryz.func13, Tryz.ntmps13
  go_upto_region 2 with (go_at_call 5; (with_reducible refine hnew.mono ?_); rintro e w2 ⟨hb2, hq⟩; rw [imX_new] at hq; obtain ⟨hq, _⟩ | ⟨_, gs, v, rfl, hgs, kS, hI⟩ := hq; · exact absurd rfl hq)
  have hck : ∀ m ∈ [imX], checkC m.W m.H m.C m.px.length = 0 := by intro m hm; simp at hm; subst hm; decide
  obtain ⟨A, c, rfl, _⟩ := hI.form
  have hN := cnew_ok gs 1 w2 (by omega)
  go_upto_region 3 with (go_at_call 6; (with_reducible refine hN.mono ?_); rintro e w3 ⟨rfl, hw3⟩; replace hw3 := Lib.hid hw3)
  obtain ⟨r, hx3⟩ := CaP.start (most := 1) kS hI hgs rfl (by simp) hck (by omega) (by omega) hw3.out
  obtain ⟨lo, hloE⟩ : ∃ lo, ((w.alloc (.cells (Array.replicate 8 (.int .u8 0)) 5)).alloc (.cells #[.int .i64 4, .int .i64 2, .int .i64 1, .slice (some ⟨w.heap.size, 0, none⟩) 8 8] 44)).heap.size = lo := ⟨_, rfl⟩
  rw [hloE] at hx3
  have hb3 : Below w2.heap.size w2 w3 := by
    rw [hw3.out]
    exact ((((Below.refl _ w2).alloc (Nat.le_refl _) _).alloc (by simp) _).alloc (by simp; omega) _).alloc (by simp; omega) _
  have hbw3 : Below w.heap.size w w3 := (hb1.trans (hb2.mono hb1.size)).trans (hb3.mono (by have := hb1.size; have := hb2.size; omega))
  clear hw3 kS hI hnew hN hmk hb3
  obtain ⟨K, hKE⟩ : ∃ K : SC, (⟨[imX], A, [imX].length, c, 2, 2, gs, w2.heap.size + 3, 1, lo⟩ : SC) = K := ⟨_, rfl⟩
  have K1 : K.ims = [imX] := by rw [← hKE]
  have K2 : K.tw = 2 := by rw [← hKE]
  have K3 : K.th = 2 := by rw [← hKE]
  have K4 : K.most = 1 := by rw [← hKE]
  have K5 : K.gc = w2.heap.size + 3 := by rw [← hKE]
  have K8 : w.heap.size ≤ K.lo := by rw [← hKE]; show w.heap.size ≤ lo; rw [← hloE]; exact hb1.size
  have K6 : K.lo ≤ w3.heap.size := by
    have h8 : gs < w3.heap.size := hx3.so.lt
    rw [hloE] at hgs
    rw [← hKE]
    exact Nat.le_trans hgs (Nat.le_of_lt h8)
  rw [hKE] at hx3
  rw [← K5]
  clear hKE hloE K5 hck hgs hb1 hb2
  have kI := Bk.new w3 3 #[.int .i64 0, .int .i64 1, .int .i64 0]
  have hb4 : Below w3.heap.size w3 (w3.alloc (.cells #[.int .i64 0, .int .i64 1, .int .i64 0] 3)) := (Below.refl _ _).alloc (Nat.le_refl _) _
  have hx4 := hx3.nx hb4
  have hrI : r w3.heap.size = 0 := hx3.fresh _ (Nat.le_refl _)
  go_upto_region 4 with fail
  obtain ⟨w4, hw4⟩ : ∃ w4, w3.alloc (.cells #[.int .i64 0, .int .i64 1, .int .i64 0] 3) = w4 := ⟨_, rfl⟩
  rw [hw4] at kI hb4 hx4
  try rw [hw4]
  have hbw4 := hbw3.trans (hb4.mono hbw3.size)
  obtain ⟨g3, hg3⟩ : ∃ g3, w3.heap.size = g3 := ⟨_, rfl⟩
  have K7 : K.lo ≤ w4.heap.size := Nat.le_trans K6 hb4.size
  rw [hg3] at kI hrI
  try rw [hg3]
  clear hw4 hg3 hb4 hx3 K6
  generalize w2.heap.size = kb at *
  go_wp2_with fail
  go_loopw [21] (fun i wr => ∃ (k : Nat) (r' : Nat → Nat) (vt : Value) (nk na : Nat) (AM : Int → Option Value), k ≤ 3 ∧ i = .int .i64 k ∧ CaP K (5 * k) (stA K k) r' wr kb (kb + 1) (kb + 2) vt (.slice none 0 0) nk na AM ∧ Step r w4 r' wr) (fun i _ => 3 - (intOf i).toNat)
  case atStart => exact ⟨0, r, _, _, _, _, by omega, rfl, hx4, Step.refl _ _⟩
  case round =>
    obtain ⟨k, r', vt, nk, na, AM, hk, rfl, hx, hst⟩ := hrel
    have kIr := hst.bk kI hrI
    by_cases hlt : k < 3
    · have hg := cget hx (by omega) (0, if k = 1 then 1 else 0) (by unfold R64; simp) (by unfold R64; simp only; split <;> omega) (imX_VT K K1 K2 K3 k) (Nat.le_trans K7 hst.size)
      rw [stA_step K k hlt] at hg
      have hc : wr.cell? ⟨g3, k, none⟩ = some (.int .i64 (if k = 1 then 1 else 0)) := by
        rw [kIr.cell]
        obtain rfl | rfl | rfl : k = 0 ∨ k = 1 ∨ k = 2 := by omega
        all_goals rfl
      simp only at hg
      generalize (if k = 1 then (1 : Int) else 0) = z at *
      have HST := Lib.hid hst
      have hltZ : (k : Int) < 3 := by omega
      clear hst kIr
      go_wp2_with (go_at_call 7; (with_reducible refine hg.mono ?_); rintro e w5 ⟨v5, rfl, r5, vt5, nk5, na5, AM5, hx5, hst5⟩)
      exact ⟨⟨k + 1, r5, vt5, nk5, na5, AM5, by omega, by go_num, by rw [Nat.mul_add]; exact hx5, HST.out.trans hst5⟩, by simp [intOf]; omega⟩
    · obtain rfl : k = 3 := by omega
      have hst9 := cstats hx
      rw [stA_end K K4] at hst9
      have hE := eql_stX
      have hbF : Below w.heap.size w wr := hst.below hbw4 hbw4.size (fun b hb => by have := hx4.ge b hb; omega)
      clear hst kIr hlt
      go_wp2_with (go_at_call 8; (with_reducible refine hst9.mono ?_); rintro e w5 ⟨rfl, hb5⟩)
      go_returns
      exact ⟨rfl, hbF.trans (hb5.mono hbF.size)⟩
end Go.Proofs.YtahiaeaobbofbaaGreat
end
section
set_option linter.unusedVariables false
namespace Go.Proofs.YtahiaeaobbofbaaGreat
open Go.RowKit
theorem co_int42 : Tryz.prog.cellsOf 3 = 1 := by kernel_rfl
theorem co_w42 : Tryz.prog.cellsOf 24 = 3 := by kernel_rfl
def enc3 (l : List (Int × Int × Int)) : List Value := l.flatMap fun t => [.int .i64 t.1, .int .i64 t.2.1, .int .i64 t.2.2]
set_option maxRecDepth 100000 in
theorem open_w42 {w : World} {cs : List Value} (h : Rv Tryz.prog w 24 cs) : ∃ a b c : Int, cs = [.int .i64 a, .int .i64 b, .int .i64 c] ∧ R64 a ∧ R64 b ∧ R64 c := by
  obtain ⟨hl, hf⟩ := rv_struct Tryz.underlying24 h
  rw [co_w42] at hl
  match cs, hl with
  | [v0, v1, v2], _ =>
    have g0 : Rv Tryz.prog w 3 (([v0, v1, v2].drop 0).take (Tryz.prog.cellsOf 3)) := hf 0 _ rfl
    have g1 : Rv Tryz.prog w 3 (([v0, v1, v2].drop 1).take (Tryz.prog.cellsOf 3)) := hf 1 _ rfl
    have g2 : Rv Tryz.prog w 3 (([v0, v1, v2].drop 2).take (Tryz.prog.cellsOf 3)) := hf 2 _ rfl
    rw [co_int42] at g0 g1 g2
    obtain ⟨a, e0, k0⟩ := rv_int Tryz.underlying3 g0
    obtain ⟨b, e1, k1⟩ := rv_int Tryz.underlying3 g1
    obtain ⟨c, e2, k2⟩ := rv_int Tryz.underlying3 g2
    simp at e0 e1 e2
    subst e0 e1 e2
    exact ⟨a, b, c, rfl, wf_i64 k0, wf_i64 k1, wf_i64 k2⟩
end Go.Proofs.YtahiaeaobbofbaaGreat
end
section
set_option linter.unusedVariables false
namespace Go.Proofs.YtahiaeaobbofbaaGreat
open Go.RowKit
def pxL (m : Im) (x y : Int) : List Int := (List.range m.C.toNat).map fun (ch : Nat) => m.px.getD ((y * m.W + x) * m.C + (ch : Int)).toNat 0
theorem pxV_eq (m : Im) (x y : Int) : pxV m x y = (pxL m x y).map (Value.int .u8) := by
  unfold pxV pxL
  rw [List.map_map]
  rfl
theorem pxL_len (m : Im) (x y : Int) : (pxL m x y).length = m.C.toNat := by unfold pxL; simp
/-- The image's own bytes at that pixel. -/
theorem px_rd {w : World} {B : Nat} {b o : Nat} {m : Im} {x y : Int} (hck : checkC m.W m.H m.C m.px.length = 0) (hx : 0 ≤ x ∧ x < m.W) (hy : 0 ≤ y ∧ y < m.H) (hr : Rd w B (some ⟨b, o, none⟩) (m.px.map (Value.int .u8))) :
    Rd w B (some ⟨b, o + ((y * m.W + x) * m.C).toNat, none⟩) ((pxL m x y).map (Value.int .u8)) := by
  obtain ⟨hf, hl⟩ := ck_parts hck
  obtain ⟨hcc, hw1, hw2, hh1, hh2, hp⟩ := fitsC_ok hf
  obtain ⟨r1, r2, r3⟩ := row_bd (C := m.C) (by omega) ⟨hw1, hw2⟩ ⟨hh1, hh2⟩ (a := x) (c := x + 1) ⟨by omega, by omega⟩ (by omega) (y := y) hy
  rw [show x + 1 - x = 1 by omega, Int.one_mul] at r3
  intro k hk
  rw [List.length_map, pxL_len] at hk
  have hkl : ((y * m.W + x) * m.C).toNat + k < (m.px.map (Value.int .u8)).length := by rw [List.length_map]; omega
  obtain ⟨b', o', e, h1, h2⟩ := hr (((y * m.W + x) * m.C).toNat + k) hkl
  injection e with e
  injection e with e1 e2
  subst e1; subst e2
  refine ⟨b, o + ((y * m.W + x) * m.C).toNat, rfl, h1, ?_⟩
  rw [Nat.add_assoc, h2]
  simp only [List.getElem_map]
  unfold pxL
  simp only [List.getElem_map, List.getElem_range]
  rw [List.length_map] at hkl
  rw [show ((y * m.W + x) * m.C + (k : Int)).toNat = ((y * m.W + x) * m.C).toNat + k by omega, List.getD_eq_getElem?_getD, List.getElem?_eq_getElem hkl]
  rfl
end Go.Proofs.YtahiaeaobbofbaaGreat
end
