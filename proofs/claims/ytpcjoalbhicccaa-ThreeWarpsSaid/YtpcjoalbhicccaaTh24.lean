/- All three passes. -/
import Derived.Test.YtpcjoalbhicccaaTh23
set_option linter.unusedVariables false
namespace Go.Proofs.Ytpcjoalbhicccaa
open Go.RowKit
abbrev CellAt (w : World) (g i : Nat) (v : Value) : Prop := w.cell? ⟨g, i, none⟩ = some v
theorem keepW {w w' : World} {B g g' b o gr : Nat} {x y z u v0 v1 v2 v3 v4 p0 p1 p2 p3 r0 r1 r2 r3 : Value}
    (h1 : w.cell? ⟨g, 0, none⟩ = some x ∧ w.cell? ⟨g, 1, none⟩ = some y ∧ w.cell? ⟨g, 2, none⟩ = some z ∧ w.cell? ⟨g, 3, none⟩ = some u) (hg : g < B)
    (k0 : w.cell? ⟨g', 0, none⟩ = some v0 ∧ w.cell? ⟨g', 1, none⟩ = some v1 ∧ w.cell? ⟨g', 2, none⟩ = some v2 ∧ w.cell? ⟨g', 3, none⟩ = some v3 ∧ w.cell? ⟨g', 4, none⟩ = some v4) (hg' : g' < B)
    (c : w.cell? ⟨b, o, none⟩ = some p0 ∧ w.cell? ⟨b, o + 1, none⟩ = some p1 ∧ w.cell? ⟨b, o + 2, none⟩ = some p2 ∧ w.cell? ⟨b, o + 3, none⟩ = some p3) (hb : b < B)
    (r : w.cell? ⟨gr, 0, none⟩ = some r0 ∧ w.cell? ⟨gr, 1, none⟩ = some r1 ∧ w.cell? ⟨gr, 2, none⟩ = some r2 ∧ w.cell? ⟨gr, 3, none⟩ = some r3) (hr : gr < B) (h : Below B w w') :
    (w'.cell? ⟨g, 0, none⟩ = some x ∧ w'.cell? ⟨g, 1, none⟩ = some y ∧ w'.cell? ⟨g, 2, none⟩ = some z ∧ w'.cell? ⟨g, 3, none⟩ = some u) ∧ (w'.cell? ⟨g', 0, none⟩ = some v0 ∧ w'.cell? ⟨g', 1, none⟩ = some v1 ∧ w'.cell? ⟨g', 2, none⟩ = some v2 ∧ w'.cell? ⟨g', 3, none⟩ = some v3 ∧ w'.cell? ⟨g', 4, none⟩ = some v4) ∧ (w'.cell? ⟨b, o, none⟩ = some p0 ∧ w'.cell? ⟨b, o + 1, none⟩ = some p1 ∧ w'.cell? ⟨b, o + 2, none⟩ = some p2 ∧ w'.cell? ⟨b, o + 3, none⟩ = some p3) ∧ (w'.cell? ⟨gr, 0, none⟩ = some r0 ∧ w'.cell? ⟨gr, 1, none⟩ = some r1 ∧ w'.cell? ⟨gr, 2, none⟩ = some r2 ∧ w'.cell? ⟨gr, 3, none⟩ = some r3) ∧ Below B w w' :=
  ⟨⟨(h.cell (by exact hg)).trans h1.1, (h.cell (by exact hg)).trans h1.2.1, (h.cell (by exact hg)).trans h1.2.2.1, (h.cell (by exact hg)).trans h1.2.2.2⟩,
   ⟨(h.cell (by exact hg')).trans k0.1, (h.cell (by exact hg')).trans k0.2.1, (h.cell (by exact hg')).trans k0.2.2.1, (h.cell (by exact hg')).trans k0.2.2.2.1, (h.cell (by exact hg')).trans k0.2.2.2.2⟩,
   ⟨(h.cell (by exact hb)).trans c.1, (h.cell (by exact hb)).trans c.2.1, (h.cell (by exact hb)).trans c.2.2.1, (h.cell (by exact hb)).trans c.2.2.2⟩,
   ⟨(h.cell (by exact hr)).trans r.1, (h.cell (by exact hr)).trans r.2.1, (h.cell (by exact hr)).trans r.2.2.1, (h.cell (by exact hr)).trans r.2.2.2⟩, h⟩
theorem keepX {w w' : World} {B g b o gr : Nat} {x y z u v0 v1 v2 v3 p0 p1 p2 p3 r0 r1 r2 r3 : Value}
    (h1 : w.cell? ⟨g, 0, none⟩ = some x ∧ w.cell? ⟨g, 1, none⟩ = some y ∧ w.cell? ⟨g, 2, none⟩ = some z ∧ w.cell? ⟨g, 3, none⟩ = some u)
    (k0 : w.cell? ⟨g, 4, none⟩ = some v0 ∧ w.cell? ⟨g, 5, none⟩ = some v1 ∧ w.cell? ⟨g, 6, none⟩ = some v2 ∧ w.cell? ⟨g, 7, none⟩ = some v3) (hg : g < B)
    (c : w.cell? ⟨b, o, none⟩ = some p0 ∧ w.cell? ⟨b, o + 1, none⟩ = some p1 ∧ w.cell? ⟨b, o + 2, none⟩ = some p2 ∧ w.cell? ⟨b, o + 3, none⟩ = some p3) (hb : b < B)
    (r : w.cell? ⟨gr, 0, none⟩ = some r0 ∧ w.cell? ⟨gr, 1, none⟩ = some r1 ∧ w.cell? ⟨gr, 2, none⟩ = some r2 ∧ w.cell? ⟨gr, 3, none⟩ = some r3) (hr : gr < B) (h : Below B w w') :
    (w'.cell? ⟨g, 0, none⟩ = some x ∧ w'.cell? ⟨g, 1, none⟩ = some y ∧ w'.cell? ⟨g, 2, none⟩ = some z ∧ w'.cell? ⟨g, 3, none⟩ = some u) ∧ (w'.cell? ⟨g, 4, none⟩ = some v0 ∧ w'.cell? ⟨g, 5, none⟩ = some v1 ∧ w'.cell? ⟨g, 6, none⟩ = some v2 ∧ w'.cell? ⟨g, 7, none⟩ = some v3) ∧ (w'.cell? ⟨b, o, none⟩ = some p0 ∧ w'.cell? ⟨b, o + 1, none⟩ = some p1 ∧ w'.cell? ⟨b, o + 2, none⟩ = some p2 ∧ w'.cell? ⟨b, o + 3, none⟩ = some p3) ∧ (w'.cell? ⟨gr, 0, none⟩ = some r0 ∧ w'.cell? ⟨gr, 1, none⟩ = some r1 ∧ w'.cell? ⟨gr, 2, none⟩ = some r2 ∧ w'.cell? ⟨gr, 3, none⟩ = some r3) ∧ Below B w w' :=
  ⟨⟨(h.cell (by exact hg)).trans h1.1, (h.cell (by exact hg)).trans h1.2.1, (h.cell (by exact hg)).trans h1.2.2.1, (h.cell (by exact hg)).trans h1.2.2.2⟩,
   ⟨(h.cell (by exact hg)).trans k0.1, (h.cell (by exact hg)).trans k0.2.1, (h.cell (by exact hg)).trans k0.2.2.1, (h.cell (by exact hg)).trans k0.2.2.2⟩,
   ⟨(h.cell (by exact hb)).trans c.1, (h.cell (by exact hb)).trans c.2.1, (h.cell (by exact hb)).trans c.2.2.1, (h.cell (by exact hb)).trans c.2.2.2⟩,
   ⟨(h.cell (by exact hr)).trans r.1, (h.cell (by exact hr)).trans r.2.1, (h.cell (by exact hr)).trans r.2.2.1, (h.cell (by exact hr)).trans r.2.2.2⟩, h⟩
theorem keepY {w w' : World} {B g b o gr : Nat} {x y z u p0 p1 p2 p3 r0 r1 r2 r3 : Value}
    (h1 : w.cell? ⟨g, 0, none⟩ = some x ∧ w.cell? ⟨g, 1, none⟩ = some y ∧ w.cell? ⟨g, 2, none⟩ = some z ∧ w.cell? ⟨g, 3, none⟩ = some u) (hg : g < B)
    (c : w.cell? ⟨b, o, none⟩ = some p0 ∧ w.cell? ⟨b, o + 1, none⟩ = some p1 ∧ w.cell? ⟨b, o + 2, none⟩ = some p2 ∧ w.cell? ⟨b, o + 3, none⟩ = some p3) (hb : b < B)
    (r : w.cell? ⟨gr, 0, none⟩ = some r0 ∧ w.cell? ⟨gr, 1, none⟩ = some r1 ∧ w.cell? ⟨gr, 2, none⟩ = some r2 ∧ w.cell? ⟨gr, 3, none⟩ = some r3) (hr : gr < B) (h : Below B w w') :
    (w'.cell? ⟨g, 0, none⟩ = some x ∧ w'.cell? ⟨g, 1, none⟩ = some y ∧ w'.cell? ⟨g, 2, none⟩ = some z ∧ w'.cell? ⟨g, 3, none⟩ = some u) ∧ (w'.cell? ⟨b, o, none⟩ = some p0 ∧ w'.cell? ⟨b, o + 1, none⟩ = some p1 ∧ w'.cell? ⟨b, o + 2, none⟩ = some p2 ∧ w'.cell? ⟨b, o + 3, none⟩ = some p3) ∧ (w'.cell? ⟨gr, 0, none⟩ = some r0 ∧ w'.cell? ⟨gr, 1, none⟩ = some r1 ∧ w'.cell? ⟨gr, 2, none⟩ = some r2 ∧ w'.cell? ⟨gr, 3, none⟩ = some r3) :=
  ⟨⟨(h.cell (by exact hg)).trans h1.1, (h.cell (by exact hg)).trans h1.2.1, (h.cell (by exact hg)).trans h1.2.2.1, (h.cell (by exact hg)).trans h1.2.2.2⟩,
   ⟨(h.cell (by exact hb)).trans c.1, (h.cell (by exact hb)).trans c.2.1, (h.cell (by exact hb)).trans c.2.2.1, (h.cell (by exact hb)).trans c.2.2.2⟩,
   ⟨(h.cell (by exact hr)).trans r.1, (h.cell (by exact hr)).trans r.2.1, (h.cell (by exact hr)).trans r.2.2.1, (h.cell (by exact hr)).trans r.2.2.2⟩⟩
theorem keepZ {w' : World} {g b o gr gs : Nat} {x y z u p0 p1 p2 p3 r0 r1 r2 r3 : Value}
    (h : (w'.cell? ⟨g, 0, none⟩ = some x ∧ w'.cell? ⟨g, 1, none⟩ = some y ∧ w'.cell? ⟨g, 2, none⟩ = some z ∧ w'.cell? ⟨g, 3, none⟩ = some u) ∧ (w'.cell? ⟨b, o, none⟩ = some p0 ∧ w'.cell? ⟨b, o + 1, none⟩ = some p1 ∧ w'.cell? ⟨b, o + 2, none⟩ = some p2 ∧ w'.cell? ⟨b, o + 3, none⟩ = some p3) ∧ (w'.cell? ⟨gr, 0, none⟩ = some r0 ∧ w'.cell? ⟨gr, 1, none⟩ = some r1 ∧ w'.cell? ⟨gr, 2, none⟩ = some r2 ∧ w'.cell? ⟨gr, 3, none⟩ = some r3))
    (hg : g ≠ gs) (hb : b ≠ gs) (hr : gr ≠ gs) (d0 d1 d2 d3 : Value) :
    (((((w'.setCell ⟨gs, 0, none⟩ d0).setCell ⟨gs, 1, none⟩ d1).setCell ⟨gs, 2, none⟩ d2).setCell ⟨gs, 3, none⟩ d3).cell? ⟨g, 0, none⟩ = some x ∧ ((((w'.setCell ⟨gs, 0, none⟩ d0).setCell ⟨gs, 1, none⟩ d1).setCell ⟨gs, 2, none⟩ d2).setCell ⟨gs, 3, none⟩ d3).cell? ⟨g, 1, none⟩ = some y ∧ ((((w'.setCell ⟨gs, 0, none⟩ d0).setCell ⟨gs, 1, none⟩ d1).setCell ⟨gs, 2, none⟩ d2).setCell ⟨gs, 3, none⟩ d3).cell? ⟨g, 2, none⟩ = some z ∧ ((((w'.setCell ⟨gs, 0, none⟩ d0).setCell ⟨gs, 1, none⟩ d1).setCell ⟨gs, 2, none⟩ d2).setCell ⟨gs, 3, none⟩ d3).cell? ⟨g, 3, none⟩ = some u) ∧
    (((((w'.setCell ⟨gs, 0, none⟩ d0).setCell ⟨gs, 1, none⟩ d1).setCell ⟨gs, 2, none⟩ d2).setCell ⟨gs, 3, none⟩ d3).cell? ⟨b, o, none⟩ = some p0 ∧ ((((w'.setCell ⟨gs, 0, none⟩ d0).setCell ⟨gs, 1, none⟩ d1).setCell ⟨gs, 2, none⟩ d2).setCell ⟨gs, 3, none⟩ d3).cell? ⟨b, o + 1, none⟩ = some p1 ∧ ((((w'.setCell ⟨gs, 0, none⟩ d0).setCell ⟨gs, 1, none⟩ d1).setCell ⟨gs, 2, none⟩ d2).setCell ⟨gs, 3, none⟩ d3).cell? ⟨b, o + 2, none⟩ = some p2 ∧ ((((w'.setCell ⟨gs, 0, none⟩ d0).setCell ⟨gs, 1, none⟩ d1).setCell ⟨gs, 2, none⟩ d2).setCell ⟨gs, 3, none⟩ d3).cell? ⟨b, o + 3, none⟩ = some p3) ∧
    (((((w'.setCell ⟨gs, 0, none⟩ d0).setCell ⟨gs, 1, none⟩ d1).setCell ⟨gs, 2, none⟩ d2).setCell ⟨gs, 3, none⟩ d3).cell? ⟨gr, 0, none⟩ = some r0 ∧ ((((w'.setCell ⟨gs, 0, none⟩ d0).setCell ⟨gs, 1, none⟩ d1).setCell ⟨gs, 2, none⟩ d2).setCell ⟨gs, 3, none⟩ d3).cell? ⟨gr, 1, none⟩ = some r1 ∧ ((((w'.setCell ⟨gs, 0, none⟩ d0).setCell ⟨gs, 1, none⟩ d1).setCell ⟨gs, 2, none⟩ d2).setCell ⟨gs, 3, none⟩ d3).cell? ⟨gr, 2, none⟩ = some r2 ∧ ((((w'.setCell ⟨gs, 0, none⟩ d0).setCell ⟨gs, 1, none⟩ d1).setCell ⟨gs, 2, none⟩ d2).setCell ⟨gs, 3, none⟩ d3).cell? ⟨gr, 3, none⟩ = some r3) := by
  have e : ∀ k : Addr, k.block ≠ gs → ((((w'.setCell ⟨gs, 0, none⟩ d0).setCell ⟨gs, 1, none⟩ d1).setCell ⟨gs, 2, none⟩ d2).setCell ⟨gs, 3, none⟩ d3).cell? k = w'.cell? k := fun k hk => by
    rw [World.cell?_setCell_other _ _ _ _ (fun e => hk (by rw [← e])), World.cell?_setCell_other _ _ _ _ (fun e => hk (by rw [← e])), World.cell?_setCell_other _ _ _ _ (fun e => hk (by rw [← e])), World.cell?_setCell_other _ _ _ _ (fun e => hk (by rw [← e]))]
  obtain ⟨⟨a0, a1, a2, a3⟩, ⟨b0, b1, b2, b3⟩, ⟨c0, c1, c2, c3⟩⟩ := h
  exact ⟨⟨(e _ hg).trans a0, (e _ hg).trans a1, (e _ hg).trans a2, (e _ hg).trans a3⟩, ⟨(e _ hb).trans b0, (e _ hb).trans b1, (e _ hb).trans b2, (e _ hb).trans b3⟩, ⟨(e _ hr).trans c0, (e _ hr).trans c1, (e _ hr).trans c2, (e _ hr).trans c3⟩⟩
theorem allocs3 (w : World) (c1 c2 c3 : Array Value) (t1 t2 t3 : TypeId) :
    let W3 := ((w.alloc (.cells c1 t1)).alloc (.cells c2 t2)).alloc (.cells c3 t3)
    Bk W3 w.heap.size t1 c1 ∧ Bk W3 (w.heap.size + 1) t2 c2 ∧ Bk W3 (w.heap.size + 2) t3 c3 ∧ Below w.heap.size w W3 ∧ W3.heap.size = w.heap.size + 3 := by
  intro W3
  refine ⟨((Bk.new w t1 c1).alloc _).alloc _, ?_, ?_, ?_, by simp [W3]⟩
  · simpa using ((Bk.new (w.alloc (.cells c1 t1)) t2 c2).alloc (.cells c3 t3))
  · simpa using (Bk.new ((w.alloc (.cells c1 t1)).alloc (.cells c2 t2)) t3 c3)
  · show Below w.heap.size w _
    go_grown
/-- what the three passes make. -/
def p1B (P : List Int) (W H : Int) (C : Nat) (m a b c d p s X0 Y0 : Int) (w1 h1 : Nat) : List Int := (plsP X0 Y0 w1 h1).flatMap (fun q => pxl P W H C m a b c d (q.1.1 + mv p s q.1.2) q.1.2)
set_option maxRecDepth 100000 in
set_option maxHeartbeats 4000000 in
theorem warp_ok (W H : Int) (C : Nat) (A A2 : Option Addr) (n cp c2 : Nat) (P : List Int) (m a b c d p q r s X0 X1 Y0 Y1 : Int) (wd ht w1 h1 : Nat) (w : World) {B : Nat} (hC : C4 w B A2 p q r s) (hB : B ≤ w.heap.size) (k : ThrOk W H C n m p q r s wd ht X0 X1 Y0 Y1)
    (hP : P.length = n) (hr : Rd w B A (P.map (Value.int .u8))) (hcp : n ≤ cp) (hw1 : X0 + w1 = X1) (hh1 : Y0 + h1 = Y1) (kp : bdI 262144 p) (ks : bdI 32768 s) (hto : ¬ emptyR X0 Y0 X1 Y1) (hsm : (h1 * w1) * C ≤ 17179869184)
    (hc1 : canC w1 h1 C (h1 * w1 * C) X0 Y0 X1 Y1 q r s X0 0 X1 ht = 0) (ho1 : ∀ t ∈ plsP X0 0 w1 ht, hasB X0 Y0 X1 Y1 t.1.1 (t.1.2 + mv q r t.1.1) = true)
    (hc2 : canC w1 ht C (ht * w1 * C) X0 0 X1 ht p r s 0 0 wd ht = 0) (ho2 : ∀ t ∈ plsP 0 0 wd ht, hasB X0 0 X1 ht (t.1.1 + mv p s t.1.2) t.1.2 = true) :
    Calls Try.prog 18 #[imgV W H C A n cp, .slice A2 4 c2, .int .i64 wd, .int .i64 ht, bordV m a b c d] w fun e w' =>
      ∃ v, e = .returned (okV wd ht C v) ∧ w'.ownsRow w.heap.size 5 1 v (ht * wd * C) ((outP (outP (p1B P W H C m a b c d p s X0 Y0 w1 h1) X0 Y0 w1 C (fun t => (t.1.1, t.1.2 + mv q r t.1.1)) (plsP X0 0 w1 ht)) X0 0 w1 C (fun t => (t.1.1 + mv p s t.1.2, t.1.2)) (plsP 0 0 wd ht)).map (Value.int .u8)) ∧ Below w.heap.size w w' := by
  have hThr := fun (w' : World) (hC' : C4 w' B A2 p q r s) (hB' : B ≤ w'.heap.size) => thr_ok W H C A A2 n cp c2 m a b c d p q r s wd ht X0 X1 Y0 Y1 w' hC' hB' k
  have hWn := fun (w' : World) (hC' : C4 w' B A2 p q r s) (hB' : B ≤ w'.heap.size) => win_ok A2 c2 p q r s wd ht X0 X1 Y0 Y1 w' hC' hB' k.nbad k.win
  have hSrc := fun (w' : World) (hr' : Rd w' B A (P.map (Value.int .u8))) (hB' : B ≤ w'.heap.size) => source_any W H C A n cp P m a b c d X0 Y0 X1 Y1 p r s w1 h1 w' k.chk k.md hP hr' hB' hcp kp ks hto hw1 hh1 hsm
  go_enter Try.func18, Try.ntmps18
  obtain ⟨k5, k9, k10, hbz, hs3⟩ := allocs3 w #[.int .i64 W, .int .i64 H, .int .i64 C, .slice A n cp] #[.int .i64 m, .int .u8 a, .int .u8 b, .int .u8 c, .int .u8 d] #[.int .i64 0, .int .i64 0, .int .i64 0, .slice none 0 0] 24 42 24
  go_wp2_with fail
  refine (hThr _ (hC.below hbz hB) (Nat.le_trans hB hbz.size)).mono ?_
  rintro e wa ⟨rfl, hba⟩
  replace k5 := k5.nx hba
  replace k9 := k9.nx hba
  replace k10 := k10.nx hba
  have hbzA := hbz.trans (hba.mono (by simp <;> omega))
  have hza := hba.size
  rw [hs3] at hza
  clear hba hbz hs3 hThr
  go_wp2_with fail
  refine (hWn _ (hC.below hbzA hB) (Nat.le_trans hB hbzA.size)).mono ?_
  rintro e wb ⟨rfl, hbb⟩
  replace k5 := (k5.nx hbb)
  replace k9 := (k9.nx hbb)
  replace k10 := (k10.nx hbb)
  have hbzB := hbzA.trans (hbb.mono hbzA.size)
  have hzb := hbb.size
  clear hbb hbzA hWn
  have kA := (Bk.new wb 26 (rectA X0 0 X1 ht)).alloc (.cells (rectA X0 Y0 X1 Y1) 26)
  have kB := Bk.new (wb.alloc (.cells (rectA X0 0 X1 ht) 26)) 26 (rectA X0 Y0 X1 Y1)
  simp only [World.size_alloc] at kB
  replace k5 := (k5.alloc (.cells (rectA X0 0 X1 ht) 26)).alloc (.cells (rectA X0 Y0 X1 Y1) 26)
  replace k9 := (k9.alloc (.cells (rectA X0 0 X1 ht) 26)).alloc (.cells (rectA X0 Y0 X1 Y1) 26)
  replace k10 := (k10.alloc (.cells (rectA X0 0 X1 ht) 26)).alloc (.cells (rectA X0 Y0 X1 Y1) 26)
  have hbzC := (hbzB.alloc hbzB.size (.cells (rectA X0 0 X1 ht) 26)).alloc (by have := hbzB.size; simp; omega) (.cells (rectA X0 Y0 X1 Y1) 26)
  go_upto_region 5 with fail
  generalize (wb.alloc (.cells (rectA X0 0 X1 ht) 26)).alloc (.cells (rectA X0 Y0 X1 Y1) 26) = w3 at *
  have hC3 := hC.below hbzC hB
  have hB3 := Nat.le_trans hB hbzC.size
  have hr3 := hr.below' hbzC hB
  have HC := Lib.hid hC3
  obtain ⟨bo, oo, rfl, hbo, hcc⟩ := hC3
  have i4 := k5.cell4
  have d5 := bord_cells k9
  have rA := kA.cell4
  have rB := kB.cell4
  have hl5 := k5.lt
  have hl9 := k9.lt
  have hlA := kA.lt
  have hlB := kB.lt
  have hbo3 : bo < w3.heap.size := by omega
  obtain ⟨hc0, hc1', hc2', hc3⟩ := hcc
  obtain ⟨i0, i1, i2, i3⟩ := i4
  obtain ⟨d0, d1, d2, d3, d4⟩ := d5
  obtain ⟨rB0, rB1, rB2, rB3⟩ := rB
  go_cut [16] (fun u wx => ∃ (g : Nat) (A9 : Option Addr) (c9 : Nat), u = .pointer (some ⟨g, 0, none⟩) ∧ w3.heap.size ≤ g ∧ Bk wx g 57 #[.int .i64 w1, .int .i64 h1, .int .i64 C, .slice A9 (h1 * w1 * C) c9, .int .i64 X0, .int .i64 Y0, .int .i64 X1, .int .i64 Y1] ∧ wx.ownsRow w3.heap.size 5 1 (.slice A9 (h1 * w1 * C) c9) (h1 * w1 * C) ((p1B P W H C m a b c d p s X0 Y0 w1 h1).map (Value.int .u8)) ∧ Below w3.heap.size w3 wx)
  case first =>
    go_region_held3 (fun w' => (w'.cell? ⟨w.heap.size, 0, none⟩ = some (.int .i64 W) ∧ w'.cell? ⟨w.heap.size, 1, none⟩ = some (.int .i64 H) ∧ w'.cell? ⟨w.heap.size, 2, none⟩ = some (.int .i64 C) ∧ w'.cell? ⟨w.heap.size, 3, none⟩ = some (.slice A n cp)) ∧ (w'.cell? ⟨w.heap.size + 1, 0, none⟩ = some (.int .i64 m) ∧ w'.cell? ⟨w.heap.size + 1, 1, none⟩ = some (.int .u8 a) ∧ w'.cell? ⟨w.heap.size + 1, 2, none⟩ = some (.int .u8 b) ∧ w'.cell? ⟨w.heap.size + 1, 3, none⟩ = some (.int .u8 c) ∧ w'.cell? ⟨w.heap.size + 1, 4, none⟩ = some (.int .u8 d)) ∧ (w'.cell? ⟨bo, oo, none⟩ = some (.int .i64 p) ∧ w'.cell? ⟨bo, oo + 1, none⟩ = some (.int .i64 q) ∧ w'.cell? ⟨bo, oo + 2, none⟩ = some (.int .i64 r) ∧ w'.cell? ⟨bo, oo + 3, none⟩ = some (.int .i64 s)) ∧ (w'.cell? ⟨wb.heap.size + 1, 0, none⟩ = some (.int .i64 X0) ∧ w'.cell? ⟨wb.heap.size + 1, 1, none⟩ = some (.int .i64 Y0) ∧ w'.cell? ⟨wb.heap.size + 1, 2, none⟩ = some (.int .i64 X1) ∧ w'.cell? ⟨wb.heap.size + 1, 3, none⟩ = some (.int .i64 Y1)) ∧ Below w3.heap.size w3 w')
      (first
        | with_reducible exact keepW ⟨i0, i1, i2, i3⟩ hl5 ⟨d0, d1, d2, d3, d4⟩ hl9 ⟨hc0, hc1', hc2', hc3⟩ hbo3 ⟨rB0, rB1, rB2, rB3⟩ hlB hbs
        | (refine keepW ⟨i0, i1, i2, i3⟩ hl5 ⟨d0, d1, d2, d3, d4⟩ hl9 ⟨hc0, hc1', hc2', hc3⟩ hbo3 ⟨rB0, rB1, rB2, rB3⟩ hlB ?_; (first | done | with_reducible exact Below.alloc hbs hzs _ | with_reducible exact below_of_gb hbs (set8 hK5 _ _ _ _ _ _ _ _).2 (Nat.le_refl _) hzs | with_reducible exact (below_of_gb hbs (set8 hK5 _ _ _ _ _ _ _ _).2 (Nat.le_refl _) hzs).drew | go_grown)))
      ((go_at_call 38; (with_reducible refine (hSrc _ (hr3.below' (by go_grown) hB3) (by first | exact hB3 | (simp; omega))).mono ?_); rintro e ws ⟨vs, rfl, howns, hbs'⟩; obtain ⟨A9, c9, rfl, _, _, _, _⟩ := own_form howns; have hbs : Below w3.heap.size w3 ws := Below.trans (by go_grown) (hbs'.mono (by simp)); have hzs := hbs.size; (try (have hK5 : Bk ws w3.heap.size 57 #[.int .i64 0, .int .i64 0, .int .i64 0, .slice none 0 0, .int .i64 0, .int .i64 0, .int .i64 0, .int .i64 0] := (Bk.new w3.drew 57 #[.int .i64 0, .int .i64 0, .int .i64 0, .slice none 0 0, .int .i64 0, .int .i64 0, .int .i64 0, .int .i64 0]).nx hbs'; obtain ⟨s0, s1, s2, s3, s4, s5, s6, s7⟩ := can_cells hK5; have f0 := hK5.frozen 0; have f1 := hK5.frozen 1; have f2 := hK5.frozen 2; have f3 := hK5.frozen 3; have f4 := hK5.frozen 4; have f5 := hK5.frozen 5; have f6 := hK5.frozen 6; have f7 := hK5.frozen 7))))
    · rename_i hHeld
      clear hHeld
      go_wp2_with fail
      go_meet
      exact ⟨_, _, _, rfl, hzs, Bk.new ws _ _, own_base (howns.alloc _) (by show w3.heap.size ≤ w3.heap.size; omega), Below.alloc hbs hzs _⟩
    · rename_i hHeld
      clear hHeld
      go_wp2_with fail
      go_meet
      have hs8 := set8 hK5 (.int .i64 w1) (.int .i64 h1) (.int .i64 C) (.slice A9 (h1 * w1 * C) c9) (.int .i64 X0) (.int .i64 Y0) (.int .i64 X1) (.int .i64 Y1)
      exact ⟨_, _, _, rfl, Nat.le_refl _, hs8.1, own_base (own_kept2 howns hs8.2 (by show w3.heap.size < _; simp)) (by simp), below_of_gb hbs hs8.2 (Nat.le_refl _) hzs⟩
  case rest =>
    obtain ⟨g, A9, c9, rfl, hgw, hKg, hown, hbx⟩ := hcut
    obtain ⟨w4, rfl⟩ : ∃ w4 : World, w4 = wc := ⟨_, rfl⟩
    have hzx := hbx.size
    have kA4 := kA.below hbx hlA
    have k104 := k10.below hbx k10.lt
    have hbz4 := hbzC.trans (hbx.mono hbzC.size)
    have hc0x := (hbx.cell (p := ⟨bo, oo, none⟩) hbo3).trans hc0
    have hc1x := (hbx.cell (p := ⟨bo, oo + 1, none⟩) hbo3).trans hc1'
    have hc2x := (hbx.cell (p := ⟨bo, oo + 2, none⟩) hbo3).trans hc2'
    have hc3x := (hbx.cell (p := ⟨bo, oo + 3, none⟩) hbo3).trans hc3
    have hbo4 : bo < w4.heap.size := by omega
    have hltA := kA4.lt
    have hlt10 := k104.lt
    have hlg := hKg.lt
    clear i0 i1 i2 i3 d0 d1 d2 d3 d4 rB0 rB1 rB2 rB3 hc0 hc1' hc2' hc3 k5 k9 k10 kA kB hl5 hl9 hlA hlB hSrc hr3 hbzC hbo3 rA
    obtain ⟨A9', c9', e9, hn9, _, hR9, hlen9⟩ := own_form hown
    injection e9 with e9a _ e9c
    subst e9a
    subst e9c
    have hPl : (p1B P W H C m a b c d p s X0 Y0 w1 h1).length = h1 * w1 * C := by simpa using hlen9
    have hAl := fun (w' : World) (hr' : Rd w' w4.heap.size A9 ((p1B P W H C m a b c d p s X0 Y0 w1 h1).map (Value.int .u8))) (hB' : w4.heap.size ≤ w'.heap.size) => (along_ok w1 h1 C A9 (h1 * w1 * C) c9 (p1B P W H C m a b c d p s X0 Y0 w1 h1) X0 Y0 X1 Y1 q r s X0 0 X1 ht w1 ht w' hc1 hPl hr' hB' hn9 hw1 (by omega)).mono
      (R' := fun e w'' => ∃ v, e = .returned (okV w1 ht C v) ∧ w''.ownsRow w'.heap.size 5 1 v (ht * w1 * C) ((outP (p1B P W H C m a b c d p s X0 Y0 w1 h1) X0 Y0 w1 C (fun t => (t.1.1, t.1.2 + mv q r t.1.1)) (plsP X0 0 w1 ht)).map (Value.int .u8)) ∧ Below w'.heap.size w' w'')
      (fun e w'' h => by
        rcases h with ⟨v, h1, _, h2, h3⟩ | ⟨_, ⟨t, h1, h2⟩, _⟩
        · exact ⟨v, h1, h2, h3⟩
        · rw [ho1 t h1] at h2; cases h2)
    generalize hP1 : p1B P W H C m a b c d p s X0 Y0 w1 h1 = P1 at *
    have HP1 := Lib.hid hP1
    clear hP1
    obtain ⟨e0, e1, e2, e3, e4, e5, e6, e7⟩ := can_cells hKg
    obtain ⟨rA0, rA1, rA2, rA3⟩ := kA4.cell4
    clear ho1
    go_upto_region 6 with fail
    go_cut [17, 18] (fun u v wx => ∃ (g2 : Nat) (A8 : Option Addr) (c8 : Nat), u = .pointer (some ⟨g2, 0, none⟩) ∧ v = .int .i64 0 ∧ w4.heap.size ≤ g2 ∧ Bk wx g2 24 #[.int .i64 w1, .int .i64 ht, .int .i64 C, .slice A8 (ht * w1 * C) c8] ∧ wx.ownsRow w4.heap.size 5 1 (.slice A8 (ht * w1 * C) c8) (ht * w1 * C) ((outP P1 X0 Y0 w1 C (fun t => (t.1.1, t.1.2 + mv q r t.1.1)) (plsP X0 0 w1 ht)).map (Value.int .u8)) ∧ Below w4.heap.size w4 wx)
    case first =>
      go_region_held3 (fun w' => ((w'.cell? ⟨g, 0, none⟩ = some (.int .i64 w1) ∧ w'.cell? ⟨g, 1, none⟩ = some (.int .i64 h1) ∧ w'.cell? ⟨g, 2, none⟩ = some (.int .i64 C) ∧ w'.cell? ⟨g, 3, none⟩ = some (.slice A9 (h1 * w1 * C) c9)) ∧ (w'.cell? ⟨g, 4, none⟩ = some (.int .i64 X0) ∧ w'.cell? ⟨g, 5, none⟩ = some (.int .i64 Y0) ∧ w'.cell? ⟨g, 6, none⟩ = some (.int .i64 X1) ∧ w'.cell? ⟨g, 7, none⟩ = some (.int .i64 Y1)) ∧ (w'.cell? ⟨bo, oo, none⟩ = some (.int .i64 p) ∧ w'.cell? ⟨bo, oo + 1, none⟩ = some (.int .i64 q) ∧ w'.cell? ⟨bo, oo + 2, none⟩ = some (.int .i64 r) ∧ w'.cell? ⟨bo, oo + 3, none⟩ = some (.int .i64 s)) ∧ (w'.cell? ⟨wb.heap.size, 0, none⟩ = some (.int .i64 X0) ∧ w'.cell? ⟨wb.heap.size, 1, none⟩ = some (.int .i64 0) ∧ w'.cell? ⟨wb.heap.size, 2, none⟩ = some (.int .i64 X1) ∧ w'.cell? ⟨wb.heap.size, 3, none⟩ = some (.int .i64 ht)) ∧ Below w4.heap.size w4 w'))
        (first
          | with_reducible exact keepX ⟨e0, e1, e2, e3⟩ ⟨e4, e5, e6, e7⟩ hlg ⟨hc0x, hc1x, hc2x, hc3x⟩ hbo4 ⟨rA0, rA1, rA2, rA3⟩ hltA hbs
          | (refine keepX ⟨e0, e1, e2, e3⟩ ⟨e4, e5, e6, e7⟩ hlg ⟨hc0x, hc1x, hc2x, hc3x⟩ hbo4 ⟨rA0, rA1, rA2, rA3⟩ hltA ?_; (first | done | with_reducible exact Below.alloc hbs hzs _ | with_reducible exact below_of_gb hbs (gb4 ws _ _ _ _ _) (Nat.le_refl _) hzs | go_grown)))
        ((go_at_call 10; (with_reducible refine (hAl _ (hR9.below (by go_grown)) (by first | exact Nat.le_refl _ | simp)).mono ?_); rintro e ws ⟨vs, rfl, howns, hbs'⟩; obtain ⟨A8, c8, rfl, _, _, _, _⟩ := own_form howns; have hbs : Below w4.heap.size w4 ws := Below.trans (by go_grown) (hbs'.mono (by simp)); have hzs := hbs.size; (try (have hK5 : Bk ws w4.heap.size 24 #[.int .i64 0, .int .i64 0, .int .i64 0, .slice none 0 0] := (Bk.new w4.drew 24 #[.int .i64 0, .int .i64 0, .int .i64 0, .slice none 0 0]).nx hbs'; obtain ⟨s0, s1, s2, s3⟩ := hK5.cell4; have f0 := hK5.frozen 0; have f1 := hK5.frozen 1; have f2 := hK5.frozen 2; have f3 := hK5.frozen 3))))
      · rename_i hHeld
        clear hHeld
        go_wp2_with fail
        go_meet
        exact ⟨_, _, _, rfl, rfl, hzs, Bk.new ws _ _, own_base (howns.alloc _) (by show w4.heap.size ≤ w4.heap.size; omega), Below.alloc hbs hzs _⟩
      · rename_i hHeld
        clear hHeld
        go_wp2_with fail
        go_meet
        exact ⟨_, _, _, rfl, rfl, Nat.le_refl _, hK5.set4 _ _ _ _, own_base (own_kept2 howns (gb4 ws _ _ _ _ _) (by show w4.heap.size < _; simp)) (by simp), below_of_gb hbs (gb4 ws _ _ _ _ _) (Nat.le_refl _) hzs⟩
    case rest =>
      obtain ⟨g2, A8, c8, rfl, rfl, hgw2, hKg2, hown2, hbx2⟩ := hcut
      have hz2 := hbx2.size
      have kA5 := kA4.below hbx2 hltA
      have k105 := k104.below hbx2 hlt10
      have hbz5 := hbz4.trans (hbx2.mono hbz4.size)
      have hc0y := (hbx2.cell (p := ⟨bo, oo, none⟩) hbo4).trans hc0x
      have hc1y := (hbx2.cell (p := ⟨bo, oo + 1, none⟩) hbo4).trans hc1x
      have hc2y := (hbx2.cell (p := ⟨bo, oo + 2, none⟩) hbo4).trans hc2x
      have hc3y := (hbx2.cell (p := ⟨bo, oo + 3, none⟩) hbo4).trans hc3x
      have hbo5 : bo < wc.heap.size := by omega
      have hltA5 := kA5.lt
      have hltt := k105.lt
      have hlg2 := hKg2.lt
      clear e0 e1 e2 e3 e4 e5 e6 e7 rA0 rA1 rA2 rA3 hc0x hc1x hc2x hc3x kA4 k104 hKg hlg hltA hbo4 hbz4 hAl hR9 hlen9 hPl hown
      obtain ⟨A8', c8', e8, hn8, _, hR8, hlen8⟩ := own_form hown2
      injection e8 with e8a _ e8c
      subst e8a
      subst e8c
      generalize hP2 : outP P1 X0 Y0 w1 C (fun t => (t.1.1, t.1.2 + mv q r t.1.1)) (plsP X0 0 w1 ht) = P2 at *
      have HP2 := Lib.hid hP2
      clear hP2
      have hPl2 : P2.length = ht * w1 * C := by simpa using hlen8
      have hAc := fun (w' : World) (hr' : Rd w' wc.heap.size A8 (P2.map (Value.int .u8))) (hB' : wc.heap.size ≤ w'.heap.size) => (across_ok w1 ht C A8 (ht * w1 * C) c8 P2 X0 0 X1 ht p r s 0 0 wd ht wd ht w' hc2 hPl2 hr' hB' hn8 (by omega) (by omega)).mono
        (R' := fun e w'' => ∃ v, e = .returned (okV wd ht C v) ∧ w''.ownsRow w'.heap.size 5 1 v (ht * wd * C) ((outP P2 X0 0 w1 C (fun t => (t.1.1 + mv p s t.1.2, t.1.2)) (plsP 0 0 wd ht)).map (Value.int .u8)) ∧ Below w'.heap.size w' w'')
        (fun e w'' h => by
          rcases h with ⟨v, h1, _, h2, h3⟩ | ⟨_, ⟨t, h1, h2⟩, _⟩
          · exact ⟨v, h1, h2, h3⟩
          · rw [ho2 t h1] at h2; cases h2)
      generalize hP3 : outP P2 X0 0 w1 C (fun t => (t.1.1 + mv p s t.1.2, t.1.2)) (plsP 0 0 wd ht) = P3 at *
      have HP3 := Lib.hid hP3
      clear hP3
      clear ho2
      obtain ⟨e0, e1, e2, e3⟩ := hKg2.cell4
      obtain ⟨rA0, rA1, rA2, rA3⟩ := kA5.cell4
      have hn1 : g2 ≠ w.heap.size + 2 := by omega
      have hn2 : bo ≠ w.heap.size + 2 := by omega
      have hn3 : wb.heap.size ≠ w.heap.size + 2 := by omega
      go_upto_region 9 with fail
      go_region_held3 (fun w' => ((w'.cell? ⟨g2, 0, none⟩ = some (.int .i64 w1) ∧ w'.cell? ⟨g2, 1, none⟩ = some (.int .i64 ht) ∧ w'.cell? ⟨g2, 2, none⟩ = some (.int .i64 C) ∧ w'.cell? ⟨g2, 3, none⟩ = some (.slice A8 (ht * w1 * C) c8)) ∧ (w'.cell? ⟨bo, oo, none⟩ = some (.int .i64 p) ∧ w'.cell? ⟨bo, oo + 1, none⟩ = some (.int .i64 q) ∧ w'.cell? ⟨bo, oo + 2, none⟩ = some (.int .i64 r) ∧ w'.cell? ⟨bo, oo + 3, none⟩ = some (.int .i64 s)) ∧ (w'.cell? ⟨wb.heap.size, 0, none⟩ = some (.int .i64 X0) ∧ w'.cell? ⟨wb.heap.size, 1, none⟩ = some (.int .i64 0) ∧ w'.cell? ⟨wb.heap.size, 2, none⟩ = some (.int .i64 X1) ∧ w'.cell? ⟨wb.heap.size, 3, none⟩ = some (.int .i64 ht))))
        (first
          | with_reducible exact keepY ⟨e0, e1, e2, e3⟩ hlg2 ⟨hc0y, hc1y, hc2y, hc3y⟩ hbo5 ⟨rA0, rA1, rA2, rA3⟩ hltA5 hbs
          | with_reducible exact keepZ (keepY ⟨e0, e1, e2, e3⟩ hlg2 ⟨hc0y, hc1y, hc2y, hc3y⟩ hbo5 ⟨rA0, rA1, rA2, rA3⟩ hltA5 hbs) hn1 hn2 hn3 _ _ _ _
          | (refine keepY ⟨e0, e1, e2, e3⟩ hlg2 ⟨hc0y, hc1y, hc2y, hc3y⟩ hbo5 ⟨rA0, rA1, rA2, rA3⟩ hltA5 ?_; go_grown))
        ((go_at_call 9; (with_reducible refine (hAc _ (hR8.below (by go_grown)) (by first | exact Nat.le_refl _ | simp)).mono ?_); rintro e ws ⟨vs, rfl, howns, hbs'⟩; obtain ⟨A7, c7, rfl, _, _, _, _⟩ := own_form howns; have hbs : Below wc.heap.size wc ws := Below.trans (by go_grown) (hbs'.mono (by simp)); have k10s := k105.below hbs hltt; obtain ⟨s0, s1, s2, s3⟩ := k10s.cell4; have f0 := k10s.frozen 0; have f1 := k10s.frozen 1; have f2 := k10s.frozen 2; have f3 := k10s.frozen 3))
      all_goals
        rename_i hHeld
        clear hHeld
        go_wp2_with fail
        refine bodyPost_ret (res_img_tmp rfl (k10s.set4 _ _ _ _) rfl) rfl ?_
        have hbz6 := hbz5.trans (hbs.mono hbz5.size)
        rw [HP1.out, HP2.out, HP3.out]
        exact ⟨_, rfl, own_base (own_kept2 howns (gb4 ws _ _ _ _ _) (by show w.heap.size + 2 < wc.heap.size; omega)) (by show w.heap.size ≤ wc.heap.size; exact hbz5.size), below_of_gb hbz6 (gb4 ws _ _ _ _ _) (by omega) hbz6.size⟩
end Go.Proofs.Ytpcjoalbhicccaa
