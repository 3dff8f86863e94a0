/- near.By, of a source's image. -/
import Derived.Test.YthgcfahacoonaaaGreatSP4
import Derived.Laws.EntriesVeiled
set_option linter.unusedVariables false
namespace Go.Proofs.YthgcfahacoonaaaGreat
open Go.RowKit
theorem eql_get (F : Fn) (bs fr : Array Value) (w : World) : (binOp .eql 78 (.func F bs fr) .nilFunc).run Tryz.prog w = .ok (.bool false) w := by
  first | kernel_rfl | rfl
theorem co1_u8 : (Tryz.prog.info? 5).map (·.size) = some 1 := by kernel_rfl
/-- The function that tells an image's pixels. -/
abbrev getV (v : Value) (k W H mo c0 c1 c2 c3 : Int) : Value := .func (.func 26) #[.agg (vwA v k W H mo c0 c1 c2 c3)] #[]
/-- A place's byte row, of one's own. -/
theorem take_splice {L : List Int} {C n : Nat} (h1 : C ≤ n) (hl : L.length = n) : splice (List.replicate C (Value.int .u8 0)) 0 ((L.take C).map (Value.int .u8)) = (L.take C).map (Value.int .u8) := by
  have h2 : ((L.take C).map (Value.int .u8)).length = C := by simp; omega
  unfold splice
  simp
  omega
theorem rd_add {w : World} {B : Nat} {A : Option Addr} {xs : List Value} (h : Rd w B A xs) (k : Nat) (h0 : 0 < (xs.take k).length) : ∃ ad, A = some ad ∧ ∀ j v, (xs.take k)[j]? = some v → w.cell? (ad.add j) = some v := by
  have hx : 0 < xs.length := by rw [List.length_take] at h0; omega
  obtain ⟨b, o, rfl, _, _⟩ := h.get 0 hx
  refine ⟨_, rfl, fun j v hj => ?_⟩
  obtain ⟨hjl, hju⟩ := List.getElem?_eq_some_iff.1 hj
  have hjx : j < xs.length := by simp at hjl; omega
  obtain ⟨b', o', e, _, hc⟩ := h.get j hjx
  injection e with e; injection e with e1 e2
  subst e1; subst e2
  rw [addo, hc, ← hju]
  simp
set_option maxRecDepth 100000 in
set_option maxHeartbeats 8000000 in
theorem nearBy_any {ims : List Im} {A : Option Addr} {n c lo : Nat} {w : World} (hn : ims.length = n) (hA : ImsAt w lo A ims) (k : Nat) (hk : k < ims.length) (hck : checkC ims[k].W ims[k].H ims[k].C ims[k].px.length = 0) (mo c0 c1 c2 c3 u v : Int) (C : Nat) (hC : ims[k].C = C)
    (hu : -70368744177664 ≤ u ∧ u ≤ 70368744177664) (hv : -70368744177664 ≤ v ∧ v ≤ 70368744177664) :
    Calls Tryz.prog 54 #[getV (.slice A n c) k ims[k].W ims[k].H mo c0 c1 c2 c3, .int .i64 C, .int .i64 u, .int .i64 v] w (OwnU (pxM ims[k] mo c0 c1 c2 c3 ((u + 32768) / 65536) ((v + 32768) / 65536)) w) := by
  obtain ⟨hf, hl⟩ := ck_parts hck
  obtain ⟨hc, hw1, hw2, hh1, hh2, hp⟩ := fitsC_ok hf
  have hct : ims[k].C.toNat = C := by omega
  have HLn := Lib.hid (show (pxM ims[k] mo c0 c1 c2 c3 ((u + 32768) / 65536) ((v + 32768) / 65536)).length = C from (pxl_len (n := ims[k].px.length) rfl (by rw [hl]; rw [show ((ims[k].C.toNat : Nat) : Int) = ims[k].C by omega]) ⟨hw1, hw2⟩ ⟨hh1, hh2⟩ (by omega)).trans hct)
  have hP := fun (w' : World) (hb : Below w.heap.size w w') => vpix_any (c := c) hn (hA.nx hb (Nat.le_refl _)) k hk hck mo c0 c1 c2 c3 ((u + 32768) / 65536) ((v + 32768) / 65536) ⟨by omega, by omega⟩ ⟨by omega, by omega⟩
  have iu : inF u = true := inF_iff.2 hu
  have iv : inF v = true := inF_iff.2 hv
  have hin := fun (w' : World) => near_in u w'
  have hin2 := fun (w' : World) => near_in v w'
  rw [iu] at hin
  rw [iv] at hin2
  have hx1 := fun (w' : World) => near_index u w' hu.1 hu.2
  have hx2 := fun (w' : World) => near_index v w' hv.1 hv.2
  have hmk := fun W => run_make1 (P := Tryz.prog) Tryz.underlying22 u8_info rfl (C : Int) C rfl (by omega) (by omega) W
  have hC1 : ¬ ((C : Int) < 1) := by omega
  have hc4 : C ≤ 4 := by omega
  clear hf hl hp hu hv iu iv
  generalize (u + 32768) / 65536 = x at *
  generalize (v + 32768) / 65536 = y at *
  generalize ims[k] = m at *
  have HCT := Lib.hid hct
  have hq := eql_get (.func 26) #[.agg (vwA (.slice A n c) k m.W m.H mo c0 c1 c2 c3)] #[]
  have hb0 := (Below.refl w.heap.size w).alloc (Nat.le_refl _) (.cells (Array.replicate C (.int .u8 0)) 5)
  clear hct hC hc hck hw1 hw2 hh1 hh2 hA hn
  generalize m.W = W at *
  generalize m.H = H at *
  have hK0 := Bk.new w 5 (Array.replicate C (.int .u8 0))
  go_enter Tryz.func54, Tryz.ntmps54
  go_wp2_with (first
    | (go_at_call 100; (with_reducible refine (hin _).mono ?_); rintro e w1 ⟨rfl, rfl⟩)
    | (go_at_call 100; (with_reducible refine (hin2 _).mono ?_); rintro e w1 ⟨rfl, rfl⟩)
    | (go_at_call 101; (with_reducible refine (hx1 _).mono ?_); rintro e w1 ⟨rfl, rfl⟩)
    | (go_at_call 101; (with_reducible refine (hx2 _).mono ?_); rintro e w1 ⟨rfl, rfl⟩)
    | (go_at_call 26; (with_reducible refine (hP _ hb0).mono ?_); rintro e w3 ⟨A3, n3, c3', L3, rfl, hL3, hr3, hC3, hn3, hc3, ht3, hb3⟩; rw [HCT.out] at hC3 ht3; have hK3 := hK0.nx hb3; have hb3' := hb0.trans (hb3.mono hb0.size); have hK3' : w3.heap[w.heap.size]? = some (.cells (List.replicate C (.int .u8 0)).toArray 5 (0, 0)) := (by rw [List.toArray_replicate]; exact hK3); have hcl : ((L3.map (Value.int .u8)).take C).length = C := (by simp; omega))
    | (refine wpList_copy_splice rfl _ _ _ _ rfl 5 Tryz.underlying22 co1_u8 (some ⟨w.heap.size, 0, none⟩) A3 C C n3 c3' rfl rfl w.heap.size 0 (List.replicate C (.int .u8 0)) 5 hK3' ((L3.map (Value.int .u8)).take C) (by rw [hcl]; exact (Nat.min_eq_right hC3).symm) (fun h => ⟨rfl, rd_add hr3.rd C h⟩) (by rw [hcl]; simp) (fun v hv => by rw [← List.map_take] at hv; exact intsL _ v hv) w.heap.size w hb3' (Nat.le_refl _) ?_; intro w4 hK4 hb4))
  · skip
    go_returns
    have hK5 : Bk w4 w.heap.size 5 (((pxM m mo c0 c1 c2 c3 x y).map (Value.int .u8)).toArray) := by
      have := hK4.out
      rw [← List.map_take, take_splice hC3 hL3, ht3] at this
      exact this
    refine ⟨_, rfl, ?_, hb4⟩
    rw [HLn.out]
    simpa [HLn.out] using own_of_Bk (base := w.heap.size) hK5 C (by simp [HLn.out]) (by omega) (Nat.le_refl _)
end Go.Proofs.YthgcfahacoonaaaGreat
