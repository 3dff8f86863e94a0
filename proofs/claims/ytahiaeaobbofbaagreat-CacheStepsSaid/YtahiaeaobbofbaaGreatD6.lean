/- Several texts in one: The reference: a tile of right images. The reference: a tile of right images (the walk). The reference: a tile of right images that there is. -/
import Derived.Test.YtahiaeaobbofbaaGreatD4
import Derived.Test.YtahiaeaobbofbaaGreatD1
import Derived.Test.YtahiaeaobbofbaaGreatC9
import Derived.StillTailTactics
import Derived.Deep.RegionWith
import Derived.Deep.Cut
import Derived.Deep.DeepCutAuto
import Derived.Test.YtahiaeaobbofbaaGreatCA18
import Derived.BigRegion
import Derived.RegionTactic
import Derived.Test.YtahiaeaobbofbaaGreatQTail
import Derived.Lib.QuietBelow
import Derived.Deep.QuietTactic
section
set_option linter.unusedVariables false
namespace Go.Proofs.YtahiaeaobbofbaaGreat
open Go.RowKit
theorem res_cct {P : Program} {fn : Func} {p q r : Tmp} {ty ty2 : TypeId} (h : fn.results = #[.cell p ty, .cell q ty2, .tmp r]) {tmps : Array Value} {w : World} {g g2 : Nat} {t t2 : TypeId} {cs cs2 : Array Value} (hK : Bk w g t cs) (hK2 : Bk w g2 t2 cs2) {d d2 : TypeDesc}
    (hp : tmps.getD p undef = .pointer (some ⟨g, 0, none⟩)) (hu : P.underlying ty = some d) (hd : (match d with | .struct _ | .array _ _ => true | _ => false) = true) (hi : (P.info? ty).map (·.size) = some cs.size)
    (hp2 : tmps.getD q undef = .pointer (some ⟨g2, 0, none⟩)) (hu2 : P.underlying ty2 = some d2) (hd2 : (match d2 with | .struct _ | .array _ _ => true | _ => false) = true) (hi2 : (P.info? ty2).map (·.size) = some cs2.size) :
    (results fn tmps).run P w = .ok (.tuple #[.agg cs, .agg cs2, tmps.getD r undef]) w := by
  have hp' : tmps[p]?.getD undef = .pointer (some ⟨g, 0, none⟩) := by simpa using hp
  have hp2' : tmps[q]?.getD undef = .pointer (some ⟨g2, 0, none⟩) := by simpa using hp2
  simp [results, h, hp', hp2', asAddr, run_loadVar_row w g t ty cs (0, 0) d hK hu hd hi, run_loadVar_row w g2 t2 ty2 cs2 (0, 0) d2 hK2 hu2 (by cases d2 <;> first | rfl | exact hd2) hi2]
def tlN (W H TW TH : Int) : Nat := (grN W TW * grN H TH).toNat
theorem rplaces_any (m : Im) (A : Option Addr) (cp : Nat) (tw th : Int) (w : World) (h0 : grC m.W m.H tw th = 0) :
    Calls Tryz.prog 39 #[.agg #[.int .i64 m.W, .int .i64 m.H, .int .i64 m.C, .slice A m.px.length cp], .int .i64 tw, .int .i64 th] w fun e w' => ∃ A' c', e = .returned (.slice A' (tlN m.W m.H tw th) c') ∧ w'.ownsRow w.heap.size 59 4 (.slice A' (tlN m.W m.H tw th) c') (tlN m.W m.H tw th) (encG m.W m.H tw th (tlN m.W m.H tw th)) ∧ Below w.heap.size w w' := by
  have hb0 := (Below.refl w.heap.size w).alloc (Nat.le_refl _) (.cells #[.int .i64 m.W, .int .i64 m.H, .int .i64 m.C, .slice A m.px.length cp] 44)
  have hT := rtiles_any m.W m.H tw th (w.alloc (.cells #[.int .i64 m.W, .int .i64 m.H, .int .i64 m.C, .slice A m.px.length cp] 44)) h0
  change Calls _ _ _ _ fun e w' => ∃ v, e = .returned v ∧ w'.ownsRow _ _ _ v (tlN m.W m.H tw th) (encG m.W m.H tw th (tlN m.W m.H tw th)) ∧ _ at hT
  generalize tlN m.W m.H tw th = N at *
  generalize encG m.W m.H tw th N = L at *
  clear h0
  go_enter Tryz.func39, Tryz.ntmps39
  go_wp2_with (go_at_call 58; (with_reducible refine hT.mono ?_); rintro e w1 ⟨v, rfl, ho, hb⟩)
  go_returns
  obtain ⟨A', c', rfl, _⟩ := own_form ho
  exact ⟨A', c', rfl, own_base ho hb0.size, hb0.trans (hb.mono hb0.size)⟩
theorem encG_get (W H TW TH : Int) (N k : Nat) (hk : k < N) (j : Nat) (hj : j < 4) : (encG W H TW TH N)[k * 4 + j]? = (tlR W H TW TH k)[j]? := by
  induction N with
  | zero => omega
  | succ N ih =>
    rw [encG_succ]
    have hl : (encG W H TW TH N).length = N * 4 := by
      clear ih hk
      induction N with
      | zero => rfl
      | succ N ih => rw [encG_succ, List.length_append, ih]; simp [tlR]; omega
    by_cases e : k < N
    · rw [List.getElem?_append_left (by omega)]; exact ih e
    · obtain rfl : k = N := by omega
      rw [List.getElem?_append_right (by omega), hl, show k * 4 + j - k * 4 = j by omega]
      simp
theorem rd_tlR {w : World} {B : Nat} {A : Option Addr} {W H TW TH : Int} {N : Nat} (h : Rd w B A (encG W H TW TH N)) (k : Nat) (hk : k < N) : ∃ b o, A = some ⟨b, o, none⟩ ∧ b < B ∧ w.cell? ⟨b, o + k * 4, none⟩ = some (.int .i64 (tlX W TW k)) ∧ w.cell? ⟨b, o + k * 4 + 1, none⟩ = some (.int .i64 (tlY W TW TH k)) ∧ w.cell? ⟨b, o + k * 4 + 2, none⟩ = some (.int .i64 (min (tlX W TW k + TW) W)) ∧ w.cell? ⟨b, o + k * 4 + 3, none⟩ = some (.int .i64 (min (tlY W TW TH k + TH) H)) := by
  have hg : ∀ j v, j < 4 → (tlR W H TW TH k)[j]? = some v → ∃ b o, A = some ⟨b, o, none⟩ ∧ b < B ∧ w.cell? ⟨b, o + k * 4 + j, none⟩ = some v := fun j v hj hv => by
    have h1 := encG_get W H TW TH N k hk j hj
    rw [hv] at h1
    have hlt : k * 4 + j < (encG W H TW TH N).length := by
      rcases Nat.lt_or_ge (k * 4 + j) (encG W H TW TH N).length with h | h
      · exact h
      · rw [List.getElem?_eq_none h] at h1; cases h1
    obtain ⟨b, o, rfl, hb, hc⟩ := h.get _ hlt
    rw [List.getElem?_eq_getElem hlt] at h1
    injection h1 with h1
    exact ⟨b, o, rfl, hb, by rw [Nat.add_assoc, hc, h1]⟩
  obtain ⟨b, o, rfl, hb, c0⟩ := hg 0 _ (by omega) rfl
  obtain ⟨b1, o1, e1, _, c1⟩ := hg 1 _ (by omega) rfl
  obtain ⟨b2, o2, e2, _, c2⟩ := hg 2 _ (by omega) rfl
  obtain ⟨b3, o3, e3, _, c3⟩ := hg 3 _ (by omega) rfl
  injection e1 with e1; injection e1 with e11 e12; subst e11; subst e12
  injection e2 with e2; injection e2 with e21 e22; subst e21; subst e22
  injection e3 with e3; injection e3 with e31 e32; subst e31; subst e32
  exact ⟨b, o, rfl, hb, c0, c1, c2, c3⟩
end Go.Proofs.YtahiaeaobbofbaaGreat
end
section
set_option linter.unusedVariables false
namespace Go.Proofs.YtahiaeaobbofbaaGreat
open Go.RowKit
set_option maxRecDepth 100000 in
set_option maxHeartbeats 4000000 in
theorem rtile_out (ims : List Im) (A : Option Addr) (n c : Nat) (tw th k i : Int) (w : World) (hn : ims.length = n) (hA : ImsAt w 0 A ims)
    (hck : ∀ m ∈ ims, checkC m.W m.H m.C m.px.length = 0) (htw : (1 ≤ tw ∧ tw ≤ 4096) ∧ (1 ≤ th ∧ th ≤ 4096)) (hno : ¬ VT ims tw th (k, i)) :
    Calls Tryz.prog 14 #[.slice A n c, .int .i64 tw, .int .i64 th, .agg (tiA k i)] w fun e w' => e = .returned (.tuple #[rc_rect4 0 0 0 0, .agg im0A, .bool false]) ∧ Below w.heap.size w w' := by
  have hL := (((Lie.start w).alloc (tiA k i) 48).alloc (rc_rectA 0 0 0 0) 59).alloc im0A 44
  simp only [World.size_alloc] at hL
  have k0 : Bk _ w.heap.size 48 (tiA k i) := hL.k 2 (by simp)
  have k1 : Bk _ (w.heap.size + 1) 59 (rc_rectA 0 0 0 0) := hL.k 1 (by simp)
  have k2 : Bk _ (w.heap.size + 1 + 1) 44 im0A := hL.k 0 (by simp)
  have hb0 := hL.bel
  have hA0 := hA.nx hb0 (Nat.le_refl _)
  obtain ⟨y0, y1⟩ := k0.cell2
  by_cases hk : 0 ≤ k ∧ k < n
  · obtain ⟨j, rfl⟩ : ∃ j : Nat, k = j := ⟨k.toNat, by omega⟩
    have hj : j < ims.length := by omega
    have hjn : (j : Int) < (n : Int) := hk.2
    have hj0 : ¬ (j : Int) < 0 := by omega
    have hjn2 : ¬ (j : Int) ≥ (n : Int) := by omega
    have hckj := hck _ (List.getElem_mem hj)
    have hi : i < 0 ∨ (tlN ims[j].W ims[j].H tw th : Int) ≤ i := by
      rcases Int.lt_or_le i 0 with h | h
      · exact .inl h
      · right
        apply Classical.byContradiction
        intro h2
        refine hno ⟨j, hj, rfl, h, ?_⟩
        unfold tlN at h2
        simp only
        omega
    obtain ⟨hf, hpl⟩ := ck_parts hckj
    obtain ⟨hcc, hw1, hw2, hh1, hh2, hpp⟩ := fitsC_ok hf
    have hg0 : grC ims[j].W ims[j].H tw th = 0 := grC_zero.2 ⟨⟨hw1, hw2⟩, ⟨hh1, hh2⟩, htw.1, htw.2⟩
    have hPl := fun Ai cI w' => rplaces_any ims[j] Ai cI tw th w' hg0
    obtain ⟨bI, oI, Ai, ci, rfl, _, hbi, q0, q1, q2, q3, hci, hri⟩ := hA0.get j hj
    generalize ims[j] = m at *
    generalize tlN m.W m.H tw th = N at *
    generalize encG m.W m.H tw th N = L at *
    clear hn hA hck htw hno hf hpl hw1 hw2 hh1 hh2 hpp hg0 hckj hA0 hk hci hri
    rcases (show i < 0 ∨ (¬ i < 0 ∧ (N : Int) ≤ i) by omega) with h | ⟨h, h'⟩
    · clear hi
      go_enter Tryz.func14, Tryz.ntmps14
      go_upto_region 4 with (go_at_call 39; (with_reducible refine (hPl _ _ _).mono ?_); rintro e w1 ⟨A', c', rfl, _, hb1⟩)
      have k01 := k0.nx hb1
      have k11 := k1.nx hb1
      have k21 := k2.nx hb1
      have hb01 := hb0.trans (hb1.mono hb0.size)
      obtain ⟨z0, z1⟩ := k01.cell2
      clear k0 k1 k2 hL hb0 hb1 y0 y1
      go_wp2_with (first
        | (refine stB (ty := 59) (cells := rc_rectA 0 0 0 0) rfl _ _ rfl k11 rfl rfl rc_rect_size rfl (by simp [Value.oneCell']) ?_; intro w2 k12 hg2 hs2; have k22 := k21.grown hg2 (by simp))
        | (refine stB (ty := 44) (cells := im0A) rfl _ _ rfl k22 rfl rfl img_size rfl (by simp [Value.oneCell']) ?_; intro w3 k23 hg3 hs3; have k13 := k12.grown hg3 (by simp)))
      refine bodyPost_ret (res_cct rfl k13 k23 rfl Tryz.underlying59 rfl rc_rect_size rfl Tryz.underlying44 rfl img_size) rfl ?_
      exact ⟨rfl, below_grown (below_grown hb01 hg2 (by omega) hb01.size) hg3 (by omega) (Nat.le_trans hb01.size hg2.size)⟩
    · have h2 : i ≥ (N : Int) := h'
      clear hi h'
      go_enter Tryz.func14, Tryz.ntmps14
      go_upto_region 4 with (go_at_call 39; (with_reducible refine (hPl _ _ _).mono ?_); rintro e w1 ⟨A', c', rfl, _, hb1⟩)
      have k01 := k0.nx hb1
      have k11 := k1.nx hb1
      have k21 := k2.nx hb1
      have hb01 := hb0.trans (hb1.mono hb0.size)
      obtain ⟨z0, z1⟩ := k01.cell2
      clear k0 k1 k2 hL hb0 hb1 y0 y1
      go_wp2_with (first
        | (refine stB (ty := 59) (cells := rc_rectA 0 0 0 0) rfl _ _ rfl k11 rfl rfl rc_rect_size rfl (by simp [Value.oneCell']) ?_; intro w2 k12 hg2 hs2; have k22 := k21.grown hg2 (by simp))
        | (refine stB (ty := 44) (cells := im0A) rfl _ _ rfl k22 rfl rfl img_size rfl (by simp [Value.oneCell']) ?_; intro w3 k23 hg3 hs3; have k13 := k12.grown hg3 (by simp)))
      refine bodyPost_ret (res_cct rfl k13 k23 rfl Tryz.underlying59 rfl rc_rect_size rfl Tryz.underlying44 rfl img_size) rfl ?_
      exact ⟨rfl, below_grown (below_grown hb01 hg2 (by omega) hb01.size) hg3 (by omega) (Nat.le_trans hb01.size hg2.size)⟩
  · clear hA0 hA hn hck
    rcases (show k < 0 ∨ (¬ k < 0 ∧ k ≥ n) by omega) with h | ⟨h, h'⟩
    all_goals
      clear hk
      obtain ⟨z0, z1⟩ := k0.cell2
      clear y0 y1
      go_enter Tryz.func14, Tryz.ntmps14
      go_wp2_with (first
        | (refine stB (ty := 59) (cells := rc_rectA 0 0 0 0) rfl _ _ rfl k1 rfl rfl rc_rect_size rfl (by simp [Value.oneCell']) ?_; intro w2 k12 hg2 hs2; have k22 := k2.grown hg2 (by simp))
        | (refine stB (ty := 44) (cells := im0A) rfl _ _ rfl k22 rfl rfl img_size rfl (by simp [Value.oneCell']) ?_; intro w3 k23 hg3 hs3; have k13 := k12.grown hg3 (by simp)))
      refine bodyPost_ret (res_cct rfl k13 k23 rfl Tryz.underlying59 rfl rc_rect_size rfl Tryz.underlying44 rfl img_size) rfl ?_
      exact ⟨rfl, below_grown (below_grown hb0 hg2 (by omega) hb0.size) hg3 (by omega) (Nat.le_trans hb0.size hg2.size)⟩
end Go.Proofs.YtahiaeaobbofbaaGreat
end
section
set_option linter.unusedVariables false
namespace Go.Proofs.YtahiaeaobbofbaaGreat
open Go.RowKit
theorem Bk.set4I {w : World} {g : Nat} {t : TypeId} (h : Bk w g t im0A) (a b c d : Value) : Bk ((((w.setCell ⟨g, 0, none⟩ a).setCell ⟨g, 1, none⟩ b).setCell ⟨g, 2, none⟩ c).setCell ⟨g, 3, none⟩ d) g t #[a, b, c, d] := by simpa using (((h.set 0 a).set 1 b).set 2 c).set 3 d
theorem own_far4 {w : World} {base n size : Nat} {e : TypeId} {v : Value} {xs : List Value} (h : w.ownsRow base e size v n xs) (g : Nat) (a b c d : Value) (hp : ∀ q, v.ownBlock = some q → q ≠ g) : ((((w.setCell ⟨g, 0, none⟩ a).setCell ⟨g, 1, none⟩ b).setCell ⟨g, 2, none⟩ c).setCell ⟨g, 3, none⟩ d).ownsRow base e size v n xs :=
  own_far (own_far (own_far (own_far h ⟨g, 0, none⟩ a hp) ⟨g, 1, none⟩ b hp) ⟨g, 2, none⟩ c hp) ⟨g, 3, none⟩ d hp
/-- What a tile's image holds. -/
def tlPx (m : Im) (tw th : Int) (i : Int) : List Int := cropL m (tlX m.W tw i) (tlY m.W tw th i) (min (tlX m.W tw i + tw) m.W) (min (tlY m.W tw th i + th) m.H - tlY m.W tw th i).toNat
def RTileP (m : Im) (tw th i : Int) (w : World) (e : Ending) (w' : World) : Prop :=
  ∃ A c, e = .returned (.tuple #[.agg (tlR m.W m.H tw th i), .agg #[.int .i64 (min (tlX m.W tw i + tw) m.W - tlX m.W tw i), .int .i64 (min (tlY m.W tw th i + th) m.H - tlY m.W tw th i), .int .i64 m.C, .slice A (tlPx m tw th i).length c], .bool true]) ∧ Rd w' w'.heap.size A ((tlPx m tw th i).map (Value.int .u8)) ∧ Below w.heap.size w w'
set_option maxRecDepth 100000 in
set_option maxHeartbeats 16000000 in
theorem rtile_in (ims : List Im) (A : Option Addr) (n c : Nat) (tw th i : Int) (w : World) (hn : ims.length = n) (hA : ImsAt w 0 A ims)
    (hck : ∀ m ∈ ims, checkC m.W m.H m.C m.px.length = 0) (htw : (1 ≤ tw ∧ tw ≤ 4096) ∧ (1 ≤ th ∧ th ≤ 4096)) (j : Nat) (hj : j < ims.length) (hi : 0 ≤ i ∧ i < grN ims[j].W tw * grN ims[j].H th) :
    Calls Tryz.prog 14 #[.slice A n c, .int .i64 tw, .int .i64 th, .agg (tiA j i)] w (RTileP ims[j] tw th i w) := by
  have hL := (((Lie.start w).alloc (tiA j i) 48).alloc (rc_rectA 0 0 0 0) 59).alloc im0A 44
  simp only [World.size_alloc] at hL
  have k0 : Bk _ w.heap.size 48 (tiA j i) := hL.k 2 (by simp)
  have k1 : Bk _ (w.heap.size + 1) 59 (rc_rectA 0 0 0 0) := hL.k 1 (by simp)
  have k2 : Bk _ (w.heap.size + 1 + 1) 44 im0A := hL.k 0 (by simp)
  have hb0 := hL.bel
  have hA0 := hA.nx hb0 (Nat.le_refl _)
  obtain ⟨y0, y1⟩ := k0.cell2
  have hjn : (j : Int) < (n : Int) := by omega
  have hj0 : ¬ (j : Int) < 0 := by omega
  have hjn2 : ¬ (j : Int) ≥ (n : Int) := by omega
  have hckj := hck _ (List.getElem_mem hj)
  obtain ⟨hf, hpl⟩ := ck_parts hckj
  obtain ⟨hcc, hw1, hw2, hh1, hh2, hpp⟩ := fitsC_ok hf
  have hg0 : grC ims[j].W ims[j].H tw th = 0 := grC_zero.2 ⟨⟨hw1, hw2⟩, ⟨hh1, hh2⟩, htw.1, htw.2⟩
  have hPl := fun Ai cI w' => rplaces_any ims[j] Ai cI tw th w' hg0
  obtain ⟨⟨tx0, tx1⟩, ⟨ty0, ty1⟩, _⟩ := tl_xy hg0 hi
  have hgI := fun (w9 : World) (h9 : Below (((w.alloc (.cells (tiA j i) 48)).alloc (.cells (rc_rectA 0 0 0 0) 59)).alloc (.cells im0A 44)).heap.size (((w.alloc (.cells (tiA j i) 48)).alloc (.cells (rc_rectA 0 0 0 0) 59)).alloc (.cells im0A 44)) w9) => (hA0.nx h9 (Nat.le_refl _)).get j hj
  obtain ⟨bI, oI, Ai, ci, rfl, _, hbi, q0, q1, q2, q3, hci, hri⟩ := hA0.get j hj
  have hN : (i.toNat : Int) = i := by omega
  have hiN : i.toNat < tlN ims[j].W ims[j].H tw th := by unfold tlN; omega
  have hCr := fun (W : World) (hW : Below (((w.alloc (.cells (tiA j i) 48)).alloc (.cells (rc_rectA 0 0 0 0) 59)).alloc (.cells im0A 44)).heap.size (((w.alloc (.cells (tiA j i) 48)).alloc (.cells (rc_rectA 0 0 0 0) 59)).alloc (.cells im0A 44)) W) =>
    rcrop_in ims[j] Ai ci (tlX ims[j].W tw i) (tlY ims[j].W tw th i) (min (tlX ims[j].W tw i + tw) ims[j].W) (min (tlY ims[j].W tw th i + th) ims[j].H) W hckj ⟨tx0, by omega⟩ (by omega) ⟨ty0, by omega⟩ (by omega) hci ((hri.rd.below' hW (Nat.le_refl _)).more hW.size)
  have hrt := fun (W : World) (B : Nat) (A' : Option Addr) (hR : Rd W B A' (encG ims[j].W ims[j].H tw th (tlN ims[j].W ims[j].H tw th))) => rd_tlR hR i.toNat hiN
  simp only [hN] at hrt
  unfold CropP at hCr
  unfold RTileP tlPx tlR
  clear hf hpl hw1 hw2 hh1 hh2 hpp hcc hg0 htw hck hn hA hri hci tx0 tx1 ty0 ty1 hckj hgI hA0
  generalize tlX ims[j].W tw i = a at *
  generalize tlY ims[j].W tw th i = b at *
  generalize min (a + tw) ims[j].W = cc at *
  generalize min (b + th) ims[j].H = d at *
  generalize ims[j] = m at *
  generalize cropL m a b cc (d - b).toNat = cl at *
  generalize encG m.W m.H tw th (tlN m.W m.H tw th) = L at *
  generalize tlN m.W m.H tw th = N at *
  have h0i : ¬ i < 0 := by omega
  have hiN2 : ¬ i ≥ (N : Int) := by omega
  have hi0 : 0 ≤ i := hi.1
  have hiN3 : i < (N : Int) := by omega
  have HN := Lib.hid hN
  clear hN hi hj hL
  go_enter Tryz.func14, Tryz.ntmps14
  go_upto_region 1 with fail
  generalize ((w.alloc (.cells (tiA j i) 48)).alloc (.cells (rc_rectA 0 0 0 0) 59)).alloc (.cells im0A 44) = w1 at *
  go_upto_region 4 with (go_at_call 39; (with_reducible refine (hPl _ _ _).mono ?_); rintro e w2 ⟨A', c', rfl, ho, hb2⟩)
  have k02 := k0.nx hb2
  have k12 := k1.nx hb2
  have k22 := k2.nx hb2
  obtain ⟨z0, z1⟩ := k02.cell2
  obtain ⟨bR, oR, rfl, hbR, r0, r1, r2, r3⟩ := hrt _ _ _ (Rd.of_own ho)
  have hzi : bI < w1.heap.size := hbi
  have q0' := (hb2.cell (p := ⟨bI, oI + j * 4, none⟩) hzi).trans q0
  have q1' := (hb2.cell (p := ⟨bI, oI + j * 4 + 1, none⟩) hzi).trans q1
  have q2' := (hb2.cell (p := ⟨bI, oI + j * 4 + 2, none⟩) hzi).trans q2
  have q3' := (hb2.cell (p := ⟨bI, oI + j * 4 + 3, none⟩) hzi).trans q3
  have hzi2 : bI < w2.heap.size := Nat.lt_of_lt_of_le hzi hb2.size
  have hz7 : w.heap.size < w2.heap.size := k02.lt
  have hb02 := hb0.trans (hb2.mono hb0.size)
  obtain ⟨g7, hg7⟩ : ∃ g7, w.heap.size = g7 := ⟨_, rfl⟩
  have HG7 := Lib.hid hg7
  rw [hg7] at k02 z0 z1 hz7
  go_upto_region 6 with fail
  clear hg7
  have hS : ∀ W, Below w2.heap.size w2 W → ((W.cell? ⟨g7, 0, none⟩ = some (.int .i64 (j : Int)) ∧ W.cell? ⟨g7, 1, none⟩ = some (.int .i64 i)) ∧ (W.cell? ⟨bI, oI + j * 4, none⟩ = some (.int .i64 m.W) ∧ W.cell? ⟨bI, oI + j * 4 + 1, none⟩ = some (.int .i64 m.H) ∧ W.cell? ⟨bI, oI + j * 4 + 2, none⟩ = some (.int .i64 m.C) ∧ W.cell? ⟨bI, oI + j * 4 + 3, none⟩ = some (.slice Ai m.px.length ci)) ∧
      (W.cell? ⟨bR, oR + i.toNat * 4, none⟩ = some (.int .i64 a) ∧ W.cell? ⟨bR, oR + i.toNat * 4 + 1, none⟩ = some (.int .i64 b) ∧ W.cell? ⟨bR, oR + i.toNat * 4 + 2, none⟩ = some (.int .i64 cc) ∧ W.cell? ⟨bR, oR + i.toNat * 4 + 3, none⟩ = some (.int .i64 d))) := fun W hW =>
    ⟨⟨(hW.cell hz7).trans z0, (hW.cell hz7).trans z1⟩, ⟨(hW.cell hzi2).trans q0', (hW.cell hzi2).trans q1', (hW.cell hzi2).trans q2', (hW.cell hzi2).trans q3'⟩, ⟨(hW.cell hbR).trans r0, (hW.cell hbR).trans r1, (hW.cell hbR).trans r2, (hW.cell hbR).trans r3⟩⟩
  have S0 := hS _ (Below.refl w2.heap.size w2).drew
  have hCr2 := fun (W : World) (hW : Below w2.heap.size w2 W) => hCr W (hb2.trans (hW.mono hb2.size))
  clear hCr hPl ho hrt q0 q1 q2 q3 q0' q1' q2' q3' r0 r1 r2 r3 z0 z1 y0 y1 k0 k1 k2
  try simp only [Act.put]
  go_cut [12, 13] (fun p q wx => ∃ g12 A9 c9, p = .pointer (some ⟨g12, 0, none⟩) ∧ q = .int .i64 0 ∧ w2.heap.size ≤ g12 ∧ Bk wx g12 44 #[.int .i64 (cc - a), .int .i64 (d - b), .int .i64 m.C, .slice A9 cl.length c9] ∧ wx.ownsRow w2.heap.size 5 1 (.slice A9 cl.length c9) cl.length (cl.map (Value.int .u8)) ∧ Below w2.heap.size w2 wx)
  case first =>
    go_region_held3 (fun W => ((W.cell? ⟨g7, 0, none⟩ = some (.int .i64 (j : Int)) ∧ W.cell? ⟨g7, 1, none⟩ = some (.int .i64 i)) ∧ (W.cell? ⟨bI, oI + j * 4, none⟩ = some (.int .i64 m.W) ∧ W.cell? ⟨bI, oI + j * 4 + 1, none⟩ = some (.int .i64 m.H) ∧ W.cell? ⟨bI, oI + j * 4 + 2, none⟩ = some (.int .i64 m.C) ∧ W.cell? ⟨bI, oI + j * 4 + 3, none⟩ = some (.slice Ai m.px.length ci)) ∧
      (W.cell? ⟨bR, oR + i.toNat * 4, none⟩ = some (.int .i64 a) ∧ W.cell? ⟨bR, oR + i.toNat * 4 + 1, none⟩ = some (.int .i64 b) ∧ W.cell? ⟨bR, oR + i.toNat * 4 + 2, none⟩ = some (.int .i64 cc) ∧ W.cell? ⟨bR, oR + i.toNat * 4 + 3, none⟩ = some (.int .i64 d))))
      (first | exact S0 | exact hS _ hB8 | assumption | exact hS _ (by go_grown))
      (first
        | (go_at_call 40; (with_reducible refine (hCr2 _ (by go_grown)).mono ?_); rintro e w8 ⟨v8, rfl, ho8, hb8⟩; obtain ⟨A8, c8, rfl, _⟩ := own_form ho8; have hB8 := below_then (w := w2) hb8 (by go_grown);
           (first
             | (have kN8 := (show Bk (w2.alloc (.cells im0A 44)).drew w2.heap.size 44 im0A from Bk.new w2 _ _).nx hb8; obtain ⟨x0, x1, x2, x3⟩ := kN8.cell4; have f0 := kN8.frozen 0; have f1 := kN8.frozen 1; have f2 := kN8.frozen 2; have f3 := kN8.frozen 3; have hz8 := kN8.lt)
             | (have kN8 := Bk.new w8 44 im0A; obtain ⟨x0, x1, x2, x3⟩ := kN8.cell4; have f0 := kN8.frozen 0; have f1 := kN8.frozen 1; have f2 := kN8.frozen 2; have f3 := kN8.frozen 3; have hz8 := hB8.size))))
    all_goals
      have hz88 := hB8.size
      have hge8 := own_ge ho8
      have kR := kN8.set4I (.int .i64 (cc - a)) (.int .i64 (d - b)) (.int .i64 m.C) (.slice A8 cl.length c8)
      go_wp2_with fail
      go_meet
      first
        | exact ⟨_, A8, c8, rfl, rfl, hz88, Bk.new w8 _ _, own_below (own_base ho8 (by simp)) ((Below.refl _ _).alloc (Nat.le_refl _) _) (Nat.le_refl _), Below.alloc hB8 hz88 _⟩
        | exact ⟨_, A8, c8, rfl, rfl, Nat.le_refl _, kR, own_far4 (own_base ho8 (by simp)) _ _ _ _ _ (fun q hq => by have := hge8 q hq; simp at this; omega), (((hB8.setCell (Nat.le_refl _) _).setCell (Nat.le_refl _) _).setCell (Nat.le_refl _) _).setCell (Nat.le_refl _) _⟩
  case rest =>
    obtain ⟨g12, A9, c9, rfl, rfl, hg12, kG, how, hbx⟩ := hcut
    obtain ⟨we, hwe⟩ : ∃ we : World, we = wc := ⟨_, rfl⟩
    subst hwe
    have k1e := k12.nx hbx
    have k2e := k22.nx hbx
    obtain ⟨⟨z0, z1⟩, ⟨_, _, _, _⟩, ⟨r0, r1, r2, r3⟩⟩ := hS _ hbx
    obtain ⟨x0, x1, x2, x3⟩ := kG.cell4
    have hb0e := hb02.trans (hbx.mono hb02.size)
    have hge := own_ge how
    have hz22 := k22.lt
    have hG7 := HG7.out
    rw [HG7.out] at k1e k2e hz22
    have hgw : w.heap.size = g7 := HG7.out
    obtain ⟨a0, a1, a2, a3⟩ := k1e.cell4
    obtain ⟨c0, c1, c2, c3⟩ := k2e.cell4
    have f0 := k1e.frozen 0
    have f1 := k1e.frozen 1
    have f2 := k1e.frozen 2
    have f3 := k1e.frozen 3
    have h0 := k2e.frozen 0
    have h1 := k2e.frozen 1
    have h2 := k2e.frozen 2
    have h3 := k2e.frozen 3
    have hne1 : g12 ≠ g7 + 1 := by omega
    have hne2 : g12 ≠ g7 + 1 + 1 := by omega
    clear hS S0 hCr2 k12 k22 k02
    go_upto_region 7 with fail
    go_region
    have k14 := ((((k1e.set4 (.int .i64 a) (.int .i64 b) (.int .i64 cc) (.int .i64 d)).far (p := ⟨g7 + 1 + 1, 0, none⟩) (by simp) (.int .i64 (cc - a))).far (p := ⟨g7 + 1 + 1, 1, none⟩) (by simp) (.int .i64 (d - b))).far (p := ⟨g7 + 1 + 1, 2, none⟩) (by simp) (.int .i64 m.C)).far (p := ⟨g7 + 1 + 1, 3, none⟩) (by simp) (.slice A9 cl.length c9)
    have k24 := ((((k2e.far (p := ⟨g7 + 1, 0, none⟩) (by simp) (.int .i64 a)).far (p := ⟨g7 + 1, 1, none⟩) (by simp) (.int .i64 b)).far (p := ⟨g7 + 1, 2, none⟩) (by simp) (.int .i64 cc)).far (p := ⟨g7 + 1, 3, none⟩) (by simp) (.int .i64 d)).set4I (.int .i64 (cc - a)) (.int .i64 (d - b)) (.int .i64 m.C) (.slice A9 cl.length c9)
    have ho4 := own_far4 (own_far4 how (g7 + 1) (.int .i64 a) (.int .i64 b) (.int .i64 cc) (.int .i64 d) (fun q hq => by have := hge q hq; omega)) (g7 + 1 + 1) (.int .i64 (cc - a)) (.int .i64 (d - b)) (.int .i64 m.C) (.slice A9 cl.length c9) (fun q hq => by have := hge q hq; omega)
    have hbE : Below w.heap.size w _ := ((((((((hb0e.setCell (p := ⟨g7 + 1, 0, none⟩) (by simp; omega) (.int .i64 a)).setCell (p := ⟨g7 + 1, 1, none⟩) (by simp; omega) (.int .i64 b)).setCell (p := ⟨g7 + 1, 2, none⟩) (by simp; omega) (.int .i64 cc)).setCell (p := ⟨g7 + 1, 3, none⟩) (by simp; omega) (.int .i64 d)).setCell (p := ⟨g7 + 1 + 1, 0, none⟩) (by simp; omega) (.int .i64 (cc - a))).setCell (p := ⟨g7 + 1 + 1, 1, none⟩) (by simp; omega) (.int .i64 (d - b))).setCell (p := ⟨g7 + 1 + 1, 2, none⟩) (by simp; omega) (.int .i64 m.C)).setCell (p := ⟨g7 + 1 + 1, 3, none⟩) (by simp; omega) (.slice A9 cl.length c9)).drew
    have ho5 := own_below ho4 (Below.refl _ _).drew (Nat.le_refl _)
    replace k14 := k14.nx (Below.refl _ _).drew
    replace k24 := k24.nx (Below.refl _ _).drew
    clear a0 a1 a2 a3 c0 c1 c2 c3 f0 f1 f2 f3 h0 h1 h2 h3 k1e k2e how hb0e
    go_wp2_with fail
    refine bodyPost_ret (res_cct rfl k14 k24 rfl Tryz.underlying59 rfl rc_rect_size rfl Tryz.underlying44 rfl img_size) rfl ?_
    exact ⟨A9, c9, rfl, Rd.of_own ho5, hbE⟩
end Go.Proofs.YtahiaeaobbofbaaGreat
end
