/- SampleSources: walked, up to the copies. -/
import Derived.Test.YtnnbpmlllidkiaaSSA
import Derived.Test.YtnnbpmlllidkiaaSSB
import Derived.Test.YtnnbpmlllidkiaaSSD
import Derived.Test.YtnnbpmlllidkiaaSSE
import Derived.Test.YtnnbpmlllidkiaaQTail
import Derived.Lib.QuietBelow
import Derived.Deep.DeepCutAuto
import Derived.StillTailTactics
set_option linter.unusedVariables false
namespace Go.Proofs.Ytnnbpmlllidkiaa
open Go.RowKit
theorem Rd.of_bk {w : World} {g : Nat} {t : TypeId} {cs : Array Value} (h : Bk w g t cs) : Rd w w.heap.size (some ⟨g, 0, none⟩) cs.toList := fun k hk => ⟨g, 0, rfl, h.lt, by rw [h.cell, Nat.zero_add]; simp at hk; simp [hk]⟩
abbrev howA (kk nn m c0 c1 c2 c3 : Int) : Array Value := #[.int .i64 kk, .int .i64 nn, .int .i64 m, .int .u8 c0, .int .u8 c1, .int .u8 c2, .int .u8 c3]
abbrev p3A (x y z : Int) : Array Value := #[.int .i64 x, .int .i64 y, .int .i64 z]
/-- What Of has answered, while other blocks change. -/
def SrcQ (ims : List Im) (hi : Nat) (s : Value) (w : World) : Prop := (imagesC ims ≠ 0 ∧ s = .nilIface) ∨ (imagesC ims = 0 ∧ ∃ A c, s = .iface 52 (.slice A ims.length c) ∧ ImsAt w hi A ims)
theorem SrcQ.btw {ims : List Im} {lo hi : Nat} {s : Value} {w w' : World} (h : SrcQ ims hi s w) (hb : Btw lo hi w w') : SrcQ ims hi s w' := by
  rcases h with h | ⟨h, A, c, e, hA⟩
  · exact .inl h
  · exact .inr ⟨h, A, c, e, hA.btw (a := 0) hb⟩
theorem OfP.src {ims : List Im} {w w' : World} {e : Ending} (h : OfP ims w e w') : ∃ s, e = .returned (.tuple #[s, .int .i64 (imagesC ims)]) ∧ SrcQ ims w.heap.size s w' ∧ Below w.heap.size w w' := by
  obtain ⟨hb, ⟨h1, h2⟩ | ⟨h1, v, h2, h3⟩⟩ := h
  · exact ⟨_, h2, .inl ⟨h1, rfl⟩, hb⟩
  · obtain ⟨A, c, rfl, _, _, hA⟩ := h3.form
    exact ⟨_, by rw [h2, h1], .inr ⟨h1, A, c, rfl, hA⟩, hb⟩
theorem Bk.cell7 {w : World} {g : Nat} {t : TypeId} {v0 v1 v2 v3 v4 v5 v6 : Value} (h : Bk w g t #[v0, v1, v2, v3, v4, v5, v6]) : w.cell? ⟨g, 0, none⟩ = some v0 ∧ w.cell? ⟨g, 1, none⟩ = some v1 ∧ w.cell? ⟨g, 2, none⟩ = some v2 ∧ w.cell? ⟨g, 3, none⟩ = some v3 ∧ w.cell? ⟨g, 4, none⟩ = some v4 ∧ w.cell? ⟨g, 5, none⟩ = some v5 ∧ w.cell? ⟨g, 6, none⟩ = some v6 :=
  ⟨by rw [h.cell]; rfl, by rw [h.cell]; rfl, by rw [h.cell]; rfl, by rw [h.cell]; rfl, by rw [h.cell]; rfl, by rw [h.cell]; rfl, by rw [h.cell]; rfl⟩
/-- What stays behind the copies. -/
structure SrcW (w : World) (kk nn m c0 c1 c2 c3 p0 p1 p2 : Int) (ims : List Im) (hi : Nat) (s : Value) (wx : World) : Prop where
  bel : Below w.heap.size w wx
  k4 : Bk wx w.heap.size 27 (howA kk nn m c0 c1 c2 c3)
  k5 : Bk wx (w.heap.size + 1) 28 (p3A p0 p1 p2)
  q : SrcQ ims hi s wx
theorem SrcW.nx {w : World} {kk nn m c0 c1 c2 c3 p0 p1 p2 : Int} {ims : List Im} {hi : Nat} {s : Value} {wx wy : World} (h : SrcW w kk nn m c0 c1 c2 c3 p0 p1 p2 ims hi s wx) (hb : Below wx.heap.size wx wy) : SrcW w kk nn m c0 c1 c2 c3 p0 p1 p2 ims hi s wy :=
  ⟨h.bel.trans (hb.mono h.bel.size), h.k4.nx hb, h.k5.nx hb, h.q.btw (lo := 0) (Btw.of_below hb (Nat.zero_le _))⟩
/-- The copies so far. -/
def CopyS (ims : List Im) (n : Nat) (w1 : World) (v i : Value) (wr : World) : Prop := ∃ k : Nat, k ≤ n ∧ i = .int .i64 k ∧ ImsOwn wr w1.heap.size v (ims.take k) ∧ Below w1.heap.size w1 wr
set_option maxRecDepth 100000 in
set_option maxHeartbeats 16000000 in
theorem src_walk (ims : List Im) (A : Option Addr) (n c : Nat) (kk nn m c0 c1 c2 c3 p0 p1 p2 : Int) (w : World) (hn : ims.length = n) (hA : ImsAt w 0 A ims) (hok : ∀ m ∈ ims, ImOk m) (hnc : n ≤ c) (hcm : c ≤ maxLen) :
    Calls Try.prog 3 #[.slice A n c, .agg (howA kk nn m c0 c1 c2 c3), .agg (p3A p0 p1 p2)] w fun e w' => e = .returned (.bool true) ∧ Below w.heap.size w w' := by
  unfold maxLen at hcm
  have hF := fun w' (hA : ImsAt w' 0 A ims) => few_any ims A n c 0 w' hn hA (by omega)
  have hb0 : Below w.heap.size w ((w.alloc (.cells (howA kk nn m c0 c1 c2 c3) 27)).alloc (.cells (p3A p0 p1 p2) 28)) := ((Below.refl _ w).alloc (Nat.le_refl _) _).alloc (by simp) _
  have k4 := (Bk.new w 27 (howA kk nn m c0 c1 c2 c3)).alloc (.cells (p3A p0 p1 p2) 28)
  have k5 := Bk.new (w.alloc (.cells (howA kk nn m c0 c1 c2 c3) 27)) 28 (p3A p0 p1 p2)
  have hz5 : (w.alloc (.cells (howA kk nn m c0 c1 c2 c3) 27)).heap.size = w.heap.size + 1 := by simp
  rw [hz5] at k5
  have hA0 := hA.nx hb0 (Nat.le_refl _)
  clear hz5
  go_enter Try.func3, Try.ntmps3
  go_upto_region 1 with fail
  generalize (w.alloc (.cells (howA kk nn m c0 c1 c2 c3) 27)).alloc (.cells (p3A p0 p1 p2) 28) = w0 at *
  have hF0 := hF w0 hA0
  clear hF
  have hz0 := hb0.size
  cases hq : (fewB ims && decide ((n : Int) ≤ 8)) with
  | false =>
    rw [hq] at hF0
    go_wp2_with (go_at_call 4; (with_reducible refine hF0.mono ?_); rintro e w1 ⟨rfl, hb1⟩)
    go_returns
    exact ⟨rfl, hb0.trans (hb1.mono hz0)⟩
  | true =>
    rw [hq] at hF0
    have hn8 : n ≤ 8 := by simp at hq; omega
    have hpx : ∀ m ∈ ims, m.px.length ≤ 3000 := fun m hm => by
      have h1 : fewB ims = true := by simp at hq; exact hq.1
      have := List.all_eq_true.1 h1 m hm
      simp at this; omega
    clear hq
    go_upto_region 3 with (go_at_call 4; (with_reducible refine hF0.mono ?_); rintro e w1 ⟨rfl, hb1⟩)
    have hA1 := hA0.nx hb1 (Nat.le_refl _)
    have k41 := k4.nx hb1
    have k51 := k5.nx hb1
    have hb01 := hb0.trans (hb1.mono hz0)
    clear hF0 hA0 k4 k5 hb0 hb1
    go_wp2_with fail
    go_loopw [7, 31] (fun v i wr => CopyS ims n w1 v i wr) (fun _ i _ => n - (intOf i).toNat)
    case atStart => exact ⟨0, by omega, rfl, by simpa using ImsOwn.nil w1 w1.heap.size, Below.refl _ _⟩
    case round =>
      obtain ⟨k, hk, rfl, hown, hbel⟩ := hrel
      by_cases hlt : k < n
      · have hk2 : k < ims.length := by omega
        obtain ⟨b, o, Ai, ci, rfl, _, hbw', q0, q1, q2, q3, hci, hri⟩ := (hA1.nx hbel (Nat.le_refl _)).get k hk2
        have hpl := hpx ims[k] (List.getElem_mem hk2)
        have HT := Lib.hid (List.take_succ_eq_append_getElem hk2)
        have hlt4 : (ims.take k).length = k := by simp; omega
        have HL4 := Lib.hid hlt4
        clear hlt4
        generalize ims[k] = im at *
        have hbw2 := hbel.size
        go_upto_region 7 with fail
        have hb2 : Below wr.heap.size wr (wr.alloc (.cells #[.int .i64 im.W, .int .i64 im.H, .int .i64 im.C, .slice Ai im.px.length ci] 32)) := (Below.refl _ _).alloc (Nat.le_refl _) _
        have kq := Bk.new wr 32 #[.int .i64 im.W, .int .i64 im.H, .int .i64 im.C, .slice Ai im.px.length ci]
        have hno := hown.nx hb2
        have hqv : ∀ b, u7.ownBlock = some b → b < wr.heap.size := fun b hb => by obtain ⟨xs, h1, _⟩ := hown; exact (h1.lt b hb).2
        have hr2 : Rd (wr.alloc (.cells #[.int .i64 im.W, .int .i64 im.H, .int .i64 im.C, .slice Ai im.px.length ci] 32)) (wr.alloc (.cells #[.int .i64 im.W, .int .i64 im.H, .int .i64 im.C, .slice Ai im.px.length ci] 32)).heap.size Ai (im.px.map (Value.int .u8)) := (hri.below hb2 (Nat.le_refl _)).rd
        have hb3 := hbel.trans (hb2.mono hbw2)
        generalize hqq : wr.heap.size = q at *
        generalize wr.alloc (.cells #[.int .i64 im.W, .int .i64 im.H, .int .i64 im.C, .slice Ai im.px.length ci] 32) = w2 at *
        clear hb2 hri q0 q1 q2 q3 hown hqq
        have hb3s := hb3.size
        obtain ⟨d0, d1, d2, d3⟩ := kq.cell4
        obtain ⟨xs, hx0, hx1, hx2⟩ := hno
        have hx := hx0
        rw [HL4.out] at hx
        have hownE : (w2.alloc (.cells #[] 5)).ownsRow w2.heap.size 5 1 (.slice (some ⟨w2.heap.size, 0, none⟩) 0 0) 0 [] := by
          simpa using own_of_Bk (base := w2.heap.size) (Bk.new w2 5 #[]) 0 rfl (by omega) (Nat.le_refl _)
        have hbE : Below w2.heap.size w2 (w2.alloc (.cells #[] 5)) := (Below.refl _ w2).alloc (Nat.le_refl _) _
        have hrE := hr2.alloc (Nat.le_refl _) (.cells #[] 5)
        go_region_held3 (fun w' => w'.cell? ⟨q, 0, none⟩ = some (.int .i64 im.W) ∧ w'.cell? ⟨q, 1, none⟩ = some (.int .i64 im.H) ∧ w'.cell? ⟨q, 2, none⟩ = some (.int .i64 im.C) ∧ w'.cell? ⟨q, 3, none⟩ = some (.slice Ai im.px.length ci)) (first | exact hS4 | exact hS7 | go_keep)
          (first
            | ((refine stepR (by rfl) _ _ _ (by rfl) Try.underlying30 u8_info rfl (by omega) (W := w2) (B := w2.heap.size) (by exact hownE) (by rfl) (by rfl) (by exact below_drewN hbE 1) (Nat.le_refl _) (by exact hbE.size) (by exact hrE) (by simp) (intsL im.px) (by omega) (by omega) ?_); (intro v4 w4 ho4 hb4 hs4 hg4 hn4; obtain ⟨A4, c4, rfl, _⟩ := own_form ho4; have hS4 := (kq.nx hb4).cell4; skip))
            | ((refine stepR (by rfl) _ _ _ (by rfl) Try.underlying22 img_info rfl (by omega) (W := w1) (B := w1.heap.size) (by exact (own_below hx hb4 (Nat.le_refl _)).alloc _) (by rfl) (by rfl) (by exact (hb3.trans (hb4.mono hb3s)).alloc (hb3.trans (hb4.mono hb3s)).size _) (Nat.le_refl _) (by exact ((hb3.trans (hb4.mono hb3s)).alloc (hb3.trans (hb4.mono hb3s)).size _).size) (by exact Rd.of_bk (Bk.new w4 _ _)) (by simp) (by simp [Value.oneCell']) (by omega) (by omega) ?_); (intro v7 w7 ho7 hb7 hs7 hg7 hn7; have hS7 := (Bk.grown ((kq.nx hb4).alloc _) hg7 (fun e => Nat.lt_irrefl q (hqv q e.symm))).cell4)))
        go_wp2_with fail
        have hno8 : ImsOwn w7 w1.heap.size v7 (ims.take k ++ [im]) := ImsOwn.snoc ((own_below hx0 hb4 (Nat.le_refl _)).alloc _) hx1 (fun i a b => by obtain ⟨s, e, ho⟩ := hx2 i a b; exact ⟨s, e, (own_below ho hb4 (Nat.le_refl _)).alloc _⟩) (own_base (by simpa using ho4.alloc _) hb3s) hg7 (by rw [HL4.out]; simpa using ho7)
        exact ⟨⟨k + 1, by omega, by go_num, by rw [HT.out]; exact hno8, hb7⟩, by simp [intOf]; omega⟩
      · obtain rfl : k = n := by omega
        rw [List.take_of_length_le (by omega)] at hown
        obtain ⟨A7, c7, rfl, _, _, hA7⟩ := hown.form
        have hO := of_ims ims A7 k c7 _ wr hn hA7 (by omega) (fun m hm => by have := hpx m hm; omega)
        have hL := hown.loose
        (try rw [hn] at hL)
        (try rw [hn] at hown)
        (try rw [hn])
        have HN := Lib.hid hn
        clear hlt hA7 hn
        go_upto_region 10 with (go_at_call 5; (with_reducible refine hO.mono ?_); rintro e w9 hOP; obtain ⟨s9, rfl, hQ9, hb9⟩ := hOP.src)
        have hL9 := hL.nx hb9
        have hA9 := hA1.nx (hbel.trans (hb9.mono hbel.size)) (Nat.le_refl _)
        have hbx := hbel.size
        have hb19 := hbel.trans (hb9.mono hbel.size)
        have h9s := hb9.size
        clear hO hL hb9 hA1 hOP hown hbel
        generalize hhi : wr.heap.size = hi at *
        have HHI := Lib.hid hhi
        clear hhi
        go_upto_block 2 with fail
        go_cut [57] (fun i wx => Btw w1.heap.size hi w9 wx)
        case first =>
          go_wp2_with fail
          go_loopw [57] (fun i wx => ∃ j : Nat, j ≤ k ∧ i = .int .i64 j ∧ Loose wx w1.heap.size hi (.slice A7 k c7) (ims.map fun m => m.px.length) ∧ Btw w1.heap.size hi w9 wx) (fun i _ => k - (intOf i).toNat)
          case atStart => exact ⟨0, by omega, rfl, hL9, Btw.refl _ _ _⟩
          case round =>
            obtain ⟨j, hj, rfl, hLj, hBj⟩ := hrel
            by_cases hlt : j < k
            · have hjl : j < (ims.map fun m => m.px.length).length := by have := HN.out; simp; omega
              obtain ⟨b, o, cc, a1, a2, a3, s, ev, q0, q1, q2, q3, hU⟩ := hLj.get j hjl
              injection ev with ev1 ev2 ev3
              subst ev1
              clear ev2 ev3
              generalize (ims.map fun m => m.px.length)[j] = Ln at *
              obtain ⟨As, cs, rfl, hcs, hcs2, _⟩ := hU.at
              unfold maxLen at hcs2
              go_upto_region 13 with fail
              have kb := Bk.new wr 32 #[.int .i64 a1, .int .i64 a2, .int .i64 a3, .slice As Ln cs]
              have hb1 : Below wr.heap.size wr (wr.alloc (.cells #[.int .i64 a1, .int .i64 a2, .int .i64 a3, .slice As Ln cs] 32)) := (Below.refl _ _).alloc (Nat.le_refl _) _
              have hL1 := hLj.nx hb1
              have hU1 := hU.nx hb1
              have hxs := hBj.bel.size
              have hB1 : Btw w1.heap.size hi w9 (wr.alloc (.cells #[.int .i64 a1, .int .i64 a2, .int .i64 a3, .slice As Ln cs] 32)) := hBj.trans (Btw.of_below hb1 (by omega))
              have hqx : hi ≤ wr.heap.size := by omega
              clear q0 q1 q2 q3 hLj hU hBj hb1 hjl
              generalize hqq : wr.heap.size = q at *
              generalize wr.alloc (.cells #[.int .i64 a1, .int .i64 a2, .int .i64 a3, .slice As Ln cs] 32) = wy at *
              have HQQ := Lib.hid hqq
              clear hqq
              go_wp2_with fail
              go_loopw [14] (fun i wz => ∃ t : Nat, t ≤ Ln ∧ i = .int .i64 t ∧ Loose wz w1.heap.size hi (.slice (some ⟨b, o, none⟩) k c7) (ims.map fun m => m.px.length) ∧ Btw w1.heap.size hi w9 wz ∧ U8Row wz w1.heap.size hi (.slice As Ln cs) Ln ∧ Bk wz q 32 #[.int .i64 a1, .int .i64 a2, .int .i64 a3, .slice As Ln cs]) (fun i _ => Ln - (intOf i).toNat)
              case atStart => exact ⟨0, by omega, rfl, hL1, hB1, hU1, kb⟩
              case round =>
                obtain ⟨t, ht, rfl, hLt, hBt, hUt, kt⟩ := hrel
                obtain ⟨d0, d1, d2, d3⟩ := kt.cell4
                by_cases htl : t < Ln
                · obtain ⟨A9, c9, e9, _, _, hat⟩ := hUt.at
                  injection e9 with e91 e92 e93
                  subst e91; subst e93
                  obtain ⟨b8, z8, rfl, hl8, hh8, hc8, hf8, cs8, hk8⟩ := hat t htl
                  clear hat
                  have ht0 : (0 : Int) ≤ (t : Int) := by omega
                  have ht1 : (t : Int) < (Ln : Int) := by omega
                  go_upto_region 16 with fail
                  go_still_tail 10, (by kernel_rfl)
                  have h1 := U8Row.set (w := wr.drew) hUt b8 t (bits .xor .u8 z8 255)
                  have h2 := Loose.set (w := wr.drew) hLt b8 t (bits .xor .u8 z8 255) ⟨cs8, hk8⟩
                  have h3 := (show Btw w1.heap.size hi w9 wr.drew from ⟨below_drewN hBt.bel 1, hBt.out⟩).trans (Btw.set (p := ⟨b8, t, none⟩) (.int .u8 (bits .xor .u8 z8 255)) hl8 hh8)
                  have h4 := Bk.far (w := wr.drew) kt (p := ⟨b8, t, none⟩) (by show q ≠ b8; omega) (.int .u8 (bits .xor .u8 z8 255))
                  go_wp2_with fail
                  exact ⟨⟨t + 1, by omega, by go_num, h2, h3, h1, h4⟩, by simp [intOf]; omega⟩
                · obtain rfl : t = Ln := by omega
                  go_wp2_with fail
                  exact ⟨⟨j + 1, by omega, by go_num, hLt, hBt⟩, by simp [intOf]; omega⟩
            · obtain rfl : j = k := by omega
              go_wp2_with fail
              go_meet
              exact hBj
        case rest =>
          have hb1c := hb19.trans hcut.bel
          have hSc : SrcW w kk nn m c0 c1 c2 c3 p0 p1 p2 ims hi s9 wc := ⟨hb01.trans (hb1c.mono hb01.size), k41.nx hb1c, k51.nx hb1c, hQ9.btw hcut⟩
          clear hcut hb1c hL9 hA9 hb19 hQ9 k41 k51 hb01 HHI h9s hbx hz0 hpx
          have hRI := fun w' (h : Below w.heap.size w w') => rimages_any ims A k c 0 w' HN.out (hA.nx h (Nat.le_refl _)) (by omega)
          have hq0 : ∀ w, (binOp .eql 34 .nilIface .nilIface).run Try.prog w = .ok (.bool true) w := fun w => by kernel_rfl
          have hK1 := fun w => kchk_any kk nn m c0 c1 c2 c3 w
          have hK2 := fun w => rkchk_any kk nn m c0 c1 c2 c3 w
          have hK3 := fun w => snew_nil kk nn m c0 c1 c2 c3 w
          rcases hSc.q with ⟨hcode, rfl⟩ | ⟨hcode, A9, c9, rfl, _⟩
          · generalize imagesC ims = code at *
            generalize kerC kk nn m = kc at *
            have hcb : (code != 0) = true := by simpa using hcode
            clear hcode
            go_upto_region 19 with (go_at_call 6; (with_reducible refine (hRI _ hSc.bel).mono ?_); rintro e wd ⟨rfl, hbd⟩; have hSd := hSc.nx hbd; obtain ⟨d0, d1, d2, d3, d4, d5, d6⟩ := hSd.k4.cell7)
            go_wp2_with (first
              | (go_at_call 7; (with_reducible refine (hK2 _).mono ?_); rintro e we ⟨rfl, hbe⟩; have hSe := hSd.nx hbe; obtain ⟨e0, e1, e2, e3, e4, e5, e6⟩ := hSe.k4.cell7)
              | (go_at_call 8; (with_reducible refine (hK3 _).mono ?_); rintro e wf ⟨rfl, hbf⟩; have hSf := hSe.nx hbf; obtain ⟨f0, f1, f2, f3, f4, f5, f6⟩ := hSf.k4.cell7)
              | (go_at_call 9; (with_reducible refine (hK1 _).mono ?_); rintro e wg ⟨rfl, hbg⟩; have hSg := hSf.nx hbg)
              | (go_at_call 10; (with_reducible refine (alive33 _).mono ?_); rintro e wh ⟨rfl, hbh⟩; have hSh := hSg.nx hbh))
            go_returns
            exact ⟨rfl, hSh.bel⟩
          · have hk0 : 0 < k := by
              have h1 := HN.out
              rcases Nat.eq_zero_or_pos k with h0 | h0
              · rw [h0] at h1
                rw [List.eq_nil_of_length_eq_zero h1] at hcode
                exact absurd hcode (by decide)
              · exact h0
            have hAll : ∀ m ∈ ims, checkC m.W m.H m.C m.px.length = 0 ∧ m.C = (im0 ims).C := by
              have hne : ims ≠ [] := fun e => by have h1 := HN.out; rw [e] at h1; simp at h1; omega
              rw [imagesC_eq hne] at hcode
              exact imsC_all hcode
            have hC0 : (im0 ims).C = (ims[0]'(by have := HN.out; omega)).C := by
              have h1 := HN.out
              cases ims with
              | nil => simp at h1; omega
              | cons a r => rfl
            rw [hcode] at hRI
            rw [hcode]
            have hQ0 : ∀ wx, SrcW w kk nn m c0 c1 c2 c3 p0 p1 p2 ims hi (.iface 52 (.slice A9 ims.length c9)) wx → ImsAt wx hi A9 ims := fun wx h => by
              rcases h.q with ⟨h1, h2⟩ | ⟨_, A', c', e, hA'⟩
              · cases h2
              · injection e with _ e; injection e with e1 e2 e3; rw [e1]; exact hA'
            have hqe := fun w => eql_src (.slice A9 ims.length c9) w
            rw [HN.out] at hQ0 hqe hSc
            (try rw [HN.out])
            have HC := Lib.hid hcode
            have HC0 := Lib.hid hC0
            have HALL := Lib.hid hAll
            clear hcode hC0 hAll
            go_upto_region 19 with (go_at_call 6; (with_reducible refine (hRI _ hSc.bel).mono ?_); rintro e wd ⟨rfl, hbd⟩; have hSd := hSc.nx hbd; obtain ⟨d0, d1, d2, d3, d4, d5, d6⟩ := hSd.k4.cell7)
            clear hRI hSc
            go_upto_region 25 with (first
              | (go_at_call 7; (with_reducible refine (hK2 _).mono ?_); rintro e we ⟨rfl, hbe⟩; have hSe := hSd.nx hbe; obtain ⟨e0, e1, e2, e3, e4, e5, e6⟩ := hSe.k4.cell7)
              | (go_at_call 8; (with_reducible refine (hK3 _).mono ?_); rintro e wf ⟨rfl, hbf⟩; have hSf := hSe.nx hbf; obtain ⟨f0, f1, f2, f3, f4, f5, f6⟩ := hSf.k4.cell7)
              | (go_at_call 9; (with_reducible refine (hK1 _).mono ?_); rintro e wg ⟨rfl, hbg⟩; have hSg := hSf.nx hbg))
            clear d0 d1 d2 d3 d4 d5 d6 e0 e1 e2 e3 e4 e5 e6 f0 f1 f2 f3 f4 f5 f6 hK1 hK2 hK3 hSd hSe hSf hbd hbe hbf hbg
            obtain ⟨d0, d1, d2, d3, d4, d5, d6⟩ := hSg.k4.cell7
            have hNew : Calls Try.prog 8 #[.iface 52 (.slice A9 k c9), .int .i64 kk, .int .i64 nn, boV m c0 c1 c2 c3] wg fun e w' => ∃ x, e = .returned (.tuple #[x, .int .i64 (kerC kk nn m)]) ∧ (((kerC kk nn m != 0) = true ∧ x = .pointer none) ∨ ((kerC kk nn m != 0) = false ∧ ∃ g, x = .pointer (some ⟨g, 0, none⟩))) ∧ Below wg.heap.size wg w' := by
              by_cases hkc : kerC kk nn m = 0
              · refine (snew_ok _ kk nn m c0 c1 c2 c3 wg hkc).mono ?_
                rintro e w' ⟨g, nm, fb, fr, rfl, _, _, _, hb⟩
                exact ⟨_, by rw [hkc], .inr ⟨by rw [hkc]; rfl, g, rfl⟩, hb⟩
              · refine (snew_bad _ kk nn m c0 c1 c2 c3 wg hkc).mono ?_
                rintro e w' ⟨rfl, hb⟩
                exact ⟨_, rfl, .inl ⟨by simpa using hkc, rfl⟩, hb⟩
            generalize kerC kk nn m = kc at *
            go_upto_region 26 with (go_at_call 8; (with_reducible refine hNew.mono ?_); rintro e wh ⟨x, rfl, hx, hbh⟩)
            have hSh := hSg.nx hbh
            clear hNew d0 d1 d2 d3 d4 d5 d6 hSg hbh
            have hL := fun w => (levels_any A9 k c9 w).mono (R' := fun e w' => e = .returned (.int .i64 (k : Nat)) ∧ w' = w) fun _ _ ⟨a, b⟩ => ⟨a, b.symm⟩
            have hCh := fun nq => (channels_any (c := c9) (w := wh.drewN nq) HN.out (hQ0 _ (hSh.nx (below_drewN (Below.refl _ _) nq))) hk0).mono (R' := fun e w' => e = .returned (.int .i64 (im0 ims).C) ∧ w' = wh.drewN nq) fun _ _ ⟨a, b⟩ => ⟨a, b.symm⟩
            have hml := fun w => me_levels (.slice A9 k c9) w
            have hmc := fun w => me_channels (.slice A9 k c9) w
            have hkI : (0 : Int) < (k : Int) := by omega
            obtain ⟨b, o, A0, ci, rfl, _, _, _, _, hz2, _⟩ := (hA.nx hSh.bel (Nat.le_refl _)).get 0 (by have := HN.out; omega)
            rw [← HC0.out, show o + 0 * 4 + 2 = o + 2 by omega] at hz2
            generalize (im0 ims).C = C0 at *
            rcases hx with ⟨hkb, rfl⟩ | ⟨hkb, g, rfl⟩
            all_goals
              go_quiet ((first
                | (go_at_call 79; exact Calls.quiet_of_same (hL _))
                | (go_at_call 78; exact Calls.quiet_of_same (hCh _))))
              have hSi := hSh.nx (below_drewN (Below.refl _ wh) nq)
              generalize wh.drewN nq = wi at *
              clear hCh hL hml hmc hz2 hSh
              obtain ⟨g0, g1, g2⟩ := hSi.k5.cell3
              have hms := fun w => me_size (.slice A9 k c9) w
              have hmr := fun w => me_read (.slice A9 k c9) w
              rcases (show (p0 < 0 ∨ (k : Int) ≤ p0) ∨ (0 ≤ p0 ∧ p0 < k) by omega) with hp | ⟨hp1, hp2⟩
              · have hSz := fun w => size_out p0 A9 k c9 w hp
                have hRd := fun w => read_far p0 p1 p2 A9 k c9 w hp
                rcases (show p0 < 0 ∨ (0 ≤ p0 ∧ (k : Int) ≤ p0) by omega) with hp1 | ⟨hp1, hp2⟩
                all_goals
                  clear hp
                  go_wp2_with (first
                    | (go_at_call 81; (with_reducible refine (hSz _).mono ?_); rintro e wj ⟨rfl, rfl⟩)
                    | (go_at_call 80; (with_reducible refine (hRd _).mono ?_); rintro e wj ⟨rfl, rfl⟩)
                    | (go_at_call 10; (with_reducible refine (alive33 _).mono ?_); rintro e wj ⟨rfl, hbj⟩))
                  go_returns
                  exact ⟨rfl, (hSi.nx hbj).bel⟩
              · obtain ⟨z, rfl⟩ : ∃ z : Nat, p0 = z := ⟨p0.toNat, by omega⟩
                have hzk : z < ims.length := by have := HN.out; omega
                obtain ⟨b', o', Ai, cI, e', _, hbw, q0, q1, q2, q3, hci, hri⟩ := hA.get z hzk
                injection e' with e'; injection e' with e1 e2
                subst e1; subst e2
                have hck := (HALL.out ims[z] (List.getElem_mem hzk)).1
                have hq : ∀ wx, Below w.heap.size w wx → wx.cell? ⟨b, o + z * 4, none⟩ = some (.int .i64 ims[z].W) ∧ wx.cell? ⟨b, o + z * 4 + 1, none⟩ = some (.int .i64 ims[z].H) ∧ wx.cell? ⟨b, o + z * 4 + 2, none⟩ = some (.int .i64 ims[z].C) ∧ wx.cell? ⟨b, o + z * 4 + 3, none⟩ = some (.slice Ai ims[z].px.length cI) ∧ RdL wx 0 Ai (ims[z].px.map (Value.int .u8)) := fun wx hb => ⟨(hb.cell (p := ⟨b, _, none⟩) hbw).trans q0, (hb.cell (p := ⟨b, _, none⟩) hbw).trans q1, (hb.cell (p := ⟨b, _, none⟩) hbw).trans q2, (hb.cell (p := ⟨b, _, none⟩) hbw).trans q3, hri.below hb (Nat.le_refl _)⟩
                have hSz : Calls Try.prog 81 #[.slice A9 k c9, .int .i64 (z : Nat)] wi fun e w' => e = .returned (.tuple #[.int .i64 ims[z].W, .int .i64 ims[z].H]) ∧ Below wi.heap.size wi w' := (size_in HN.out (hQ0 _ hSi) z hzk).mono fun e w' ⟨he, q, hw⟩ => ⟨he, by rw [hw]; exact below_drewN (Below.refl _ _) q⟩
                by_cases hio : p1 < 0 ∨ ims[z].W ≤ p1 ∨ p2 < 0 ∨ ims[z].H ≤ p2
                · have hRd := fun wj (h : SrcW w kk nn m c0 c1 c2 c3 (z : Nat) p1 p2 ims hi (.iface 52 (.slice A9 k c9)) wj) => read_out (c := c9) HN.out (hQ0 _ h) z hzk p1 p2 hio
                  have hPl := fun w => rplace_out ims[z] Ai cI p1 p2 w hck hio
                  have hm1 : decide ((-1 : Int) < 0) = true := by decide
                  generalize (-1 : Int) = mn at hPl hm1
                  generalize ims[z] = mz at *
                  clear q0 q1 q2 q3 hio hci hri hck
                  have hz0 : (0 : Int) ≤ (z : Int) := by omega
                  go_upto_region 33 with (first
                    | (go_at_call 81; (with_reducible refine hSz.mono ?_); rintro e wj ⟨rfl, hbj⟩; have hSj := hSi.nx hbj; obtain ⟨g30, g31, g32⟩ := hSj.k5.cell3)
                    | (go_at_call 80; (with_reducible refine (hRd _ hSj).mono ?_); rintro e wk ⟨rfl, hbk⟩; have hSk := hSj.nx hbk; obtain ⟨g40, g41, g42⟩ := hSk.k5.cell3; obtain ⟨r0, r1, r2, r3, _⟩ := hq _ hSk.bel))
                  go_still_tail 8, (by kernel_rfl)
                  go_upto_region 36 with (go_at_call 11; (with_reducible refine (hPl _).mono ?_); rintro e wl ⟨rfl, hbl⟩; have hSl := (hSk.nx (below_drewN (Below.refl _ wk) 1)).nx hbl; obtain ⟨s0, s1, s2, s3, _⟩ := hq _ hSl.bel)
                  clear hSz hRd hPl hq s0 s1 s2 s3 r0 r1 r2 r3 g0 g1 g2 g30 g31 g32 g40 g41 g42
                  refine wp_region_quiet_below (by kernel_rfl) (by kernel_rfl) ?_
                  repeat (first
                    | go_big_quiet_step (with_reducible exact quiet_below (alive33 _))
                    | quiet_step (with_reducible exact quiet_below (alive33 _)))
                  refine wpQuiet_nil ?_
                  intro _ hw'
                  obtain ⟨⟨d9, os⟩, hw''⟩ := hw'
                  subst hw''
                  have hS9 := hSl.nx (below_regrown wl d9 os)
                  generalize Go.Sort.grow (redrawn wl d9) os = wx at *
                  go_wp2_with fail
                  go_returns
                  exact ⟨rfl, hS9.bel⟩
                · have hx1 : 0 ≤ p1 ∧ p1 < ims[z].W := by omega
                  have hy1 : 0 ≤ p2 ∧ p2 < ims[z].H := by omega
                  have hRd := fun wj (h : SrcW w kk nn m c0 c1 c2 c3 (z : Nat) p1 p2 ims hi (.iface 52 (.slice A9 k c9)) wj) => read_in (c := c9) HN.out (hQ0 _ h) z hzk p1 p2 hck hx1 hy1
                  have hPl := fun w => rplace_in ims[z] Ai cI p1 p2 w hck hx1 hy1
                  obtain ⟨zz, q, Cn, hat, et, et2, et3, hle, hz0', hz1', hC1, hC2, hC3, hpe, hpl, hpx⟩ := pxB_parts hck hx1 hy1
                  generalize ims[z] = mz at *
                  rw [hat] at hPl
                  have hbo : ∃ b2 o2, Ai = some ⟨b2, o2, none⟩ := by
                    obtain ⟨b2, o2, e, _⟩ := hri.rd.get 0 (by simp; omega)
                    exact ⟨b2, o2, e⟩
                  obtain ⟨b2, o2, rfl⟩ := hbo
                  have v4 : wrap64 (zz + mz.C) = zz + mz.C := IntWalk.wrap64_in _ ⟨by omega, by omega⟩
                  have hac : q + Cn ≤ cI := by omega
                  have hzc : 0 ≤ zz + mz.C := by omega
                  have hif : (cI = q) = False := by simp; omega
                  have hq0' : q + Cn - q = Cn := by omega
                  have hnl : decide (zz < 0) = false := by simp; omega
                  have HPE := Lib.hid hpe
                  have HPL := Lib.hid hpl
                  clear q0 q1 q2 q3 hio hci hri hck hat hle hpe hpl hpx hx1 hy1
                  have hz0 : (0 : Int) ≤ (z : Int) := by omega
                  go_upto_region 33 with (first
                    | (go_at_call 81; (with_reducible refine hSz.mono ?_); rintro e wj ⟨rfl, hbj⟩; have hSj := hSi.nx hbj; obtain ⟨g30, g31, g32⟩ := hSj.k5.cell3)
                    | (go_at_call 80; (with_reducible refine (hRd _ hSj).mono ?_); rintro e wk ⟨v5, rfl, ho5, hbk⟩; obtain ⟨A5, c5, rfl, _, _, hr5, _⟩ := own_form ho5; have hSk := hSj.nx hbk; obtain ⟨g40, g41, g42⟩ := hSk.k5.cell3; obtain ⟨r0, r1, r2, r3, _⟩ := hq _ hSk.bel))
                  rw [HPL.out]
                  go_still_tail 8, (by kernel_rfl)
                  go_upto_region 36 with (go_at_call 11; (with_reducible refine (hPl _).mono ?_); rintro e wl ⟨rfl, hbl⟩; have hSl := (hSk.nx (below_drewN (Below.refl _ wk) 1)).nx hbl; obtain ⟨s0, s1, s2, s3, s4⟩ := hq _ hSl.bel)
                  have hr6 : Rd wl wl.heap.size A5 ((pxB mz p1 p2).map (Value.int .u8)) := ((hr5.below' (below_drewN (Below.refl wk.heap.size wk) 1) (Nat.le_refl _)).below' hbl (Nat.le_refl _)).more hbl.size
                  have hSm : ∀ (d : Nat) (os : Array Obj), Calls Try.prog 12 #[.slice A5 Cn c5, .slice (some ⟨b2, o2 + q, none⟩) Cn (cI - q)] (Go.Sort.grow (redrawn wl d) os) fun e w' => e = .returned (.bool true) ∧ Below (Go.Sort.grow (redrawn wl d) os).heap.size (Go.Sort.grow (redrawn wl d) os) w' := fun d os => by
                    have hbr := below_regrown wl d os
                    obtain ⟨b3, o3, e3, h⟩ := same_px (w := Go.Sort.grow (redrawn wl d) os) (c5 := c5) (ci := cI) (q := q) (Cn := Cn) (m := mz) (x := p1) (y := p2) (A5 := A5) ((hr6.below' hbr (Nat.le_refl _)).more hbr.size) HPL.out ⟨b2, o2, rfl⟩ (s4.below hbr (Nat.le_refl _)) HPE.out
                    injection e3 with e3; injection e3 with e31 e32
                    subst e31; subst e32
                    exact h
                  have t2 := fun (n : Nat) (os : Array Obj) => cell_regrown s2 n os
                  have t3 := fun (n : Nat) (os : Array Obj) => cell_regrown s3 n os
                  clear hSz hRd hPl r0 r1 r2 r3 g0 g1 g2 g30 g31 g32 g40 g41 g42 s0 s1 s2 s3 s4 hr5 hr6 ho5
                  refine wp_region_quiet_below (by kernel_rfl) (by kernel_rfl) ?_
                  repeat (first
                    | go_big_quiet_step ((first | with_reducible exact quiet_below (hSm _ _) | with_reducible exact quiet_below (alive33 _)))
                    | quiet_step ((first | with_reducible exact quiet_below (hSm _ _) | with_reducible exact quiet_below (alive33 _))))
                  refine wpQuiet_nil ?_
                  intro _ hw'
                  obtain ⟨⟨d9, os⟩, hw''⟩ := hw'
                  subst hw''
                  have hS9 := hSl.nx (below_regrown wl d9 os)
                  generalize Go.Sort.grow (redrawn wl d9) os = wx at *
                  go_wp2_with fail
                  go_returns
                  exact ⟨rfl, hS9.bel⟩
end Go.Proofs.Ytnnbpmlllidkiaa
