/- sample.Of. -/
import Derived.Test.YtahiaeaobbofbaaGreatSS3
import Derived.Deep.Cut
import Derived.Deep.CutBlock
set_option linter.unusedVariables false
namespace Go.Proofs.YtahiaeaobbofbaaGreat
open Go.RowKit
theorem img_info : (Tryz.prog.info? 44).map (fun i => (i.zero, i.size, i.bytes)) = some (some (.agg #[.int .i64 0, .int .i64 0, .int .i64 0, .slice none 0 0]), 4, 48) := by kernel_rfl
/-- What Of answers. -/
def OfP (ims : List Im) (w : World) (e : Ending) (w' : World) : Prop := Below w.heap.size w w' ∧ ((imagesC ims ≠ 0 ∧ e = .returned (.tuple #[.nilIface, .int .i64 (imagesC ims)])) ∨ (imagesC ims = 0 ∧ ∃ v, e = .returned (.tuple #[.iface 101 v, .int .i64 0]) ∧ ImsOwn w' w.heap.size v ims))
set_option maxRecDepth 100000 in
set_option maxHeartbeats 8000000 in
theorem of_ims (ims : List Im) (A : Option Addr) (n c lo : Nat) (w : World) (hn : ims.length = n) (hA : ImsAt w lo A ims) (hb : n ≤ 100000) (hpx : ∀ m ∈ ims, m.px.length ≤ 1000000000) :
    Calls Tryz.prog 27 #[.slice A n c] w (OfP ims w) := by
  rcases Nat.eq_zero_or_pos n with h0 | h0
  · subst h0
    obtain rfl : ims = [] := List.eq_nil_of_length_eq_zero hn
    go_enter Tryz.func27, Tryz.ntmps27
    go_wp2_with fail
    go_returns
    exact ⟨Below.refl _ _, .inl ⟨by decide, rfl⟩⟩
  · have hne : ims ≠ [] := by intro e; rw [e] at hn; simp at hn; omega
    have hI := imagesC_eq hne
    have hC0 : (im0 ims).C = ims[0].C := by
      cases ims with
      | nil => exact absurd rfl hne
      | cons a r => rfl
    obtain ⟨b, o, A0, c0, rfl, _, hbw, _, _, hz2, _⟩ := hA.get 0 (by omega)
    rw [← hC0, show o + 0 * 4 + 2 = o + 2 by omega] at hz2
    clear hC0
    generalize hCC : (im0 ims).C = C0 at *
    have HI := Lib.hid hI
    clear hI hCC hne
    have hnb : ((n : Int) == 0) = false := by simp; omega
    have hn0 : (0 : Int) < (n : Int) := by omega
    go_enter Tryz.func27, Tryz.ntmps27
    go_wp2_with fail
    go_loopw [4, 13] (fun v i wr => ∃ k : Nat, k ≤ n ∧ i = .int .i64 k ∧ ImsOwn wr w.heap.size v (ims.take k) ∧ Below w.heap.size w wr ∧ imsC C0 ims = imsC C0 (ims.drop k)) (fun _ i _ => n - (intOf i).toNat)
    case atStart => exact ⟨0, by omega, rfl, by simpa using ImsOwn.nil w w.heap.size, Below.refl _ _, by simp⟩
    case round =>
      obtain ⟨k, hk, rfl, hown, hbel, hdr⟩ := hrel
      have HD := Lib.hid hdr
      clear hdr hnb
      by_cases hlt : k < n
      · have hk2 : k < ims.length := by omega
        have HS := Lib.hid (imsC_step (C0 := C0) hk2)
        obtain ⟨b', o', Ai, ci, e', _, _, q0, q1, q2, q3, hci, hri⟩ := (hA.nx hbel (Nat.le_refl _)).get k hk2
        injection e' with e'; injection e' with e1 e2
        subst e1; subst e2
        have hz2' := (hbel.cell (p := ⟨b, o + 2, none⟩) hbw).trans hz2
        have hpl := hpx ims[k] (List.getElem_mem hk2)
        have HT := Lib.hid (List.take_succ_eq_append_getElem hk2)
        generalize ims[k] = m at *
        have hlt4 : (ims.take k).length = k := by simp; omega
        have HL4 := Lib.hid hlt4
        clear hlt4
        have hbw2 := hbel.size
        have hIC := fun w => icheck_any m.W m.H m.C Ai m.px.length ci w
        generalize checkC m.W m.H m.C m.px.length = ck at *
        go_upto_region 7 with fail
        have hb1 : Below wr.heap.size wr (wr.alloc (.cells #[.int .i64 m.W, .int .i64 m.H, .int .i64 m.C, .slice Ai m.px.length ci] 44)) := (Below.refl _ _).alloc (Nat.le_refl _) _
        have kq := Bk.new wr 44 #[.int .i64 m.W, .int .i64 m.H, .int .i64 m.C, .slice Ai m.px.length ci]
        generalize wr.alloc (.cells #[.int .i64 m.W, .int .i64 m.H, .int .i64 m.C, .slice Ai m.px.length ci] 44) = w1 at *
        obtain ⟨d0, d1, d2, d3⟩ := kq.cell4
        clear q0 q1 q2 q3
        by_cases hck : ck = 0
        · have hcb : (ck != 0) = false := by simpa using hck
          have HCK := Lib.hid hck
          clear hck
          go_upto_region 10 with (go_at_call 50; (with_reducible refine (hIC _).mono ?_); rintro e w2 ⟨rfl, hb2⟩)
          have hb3 := hb1.trans (hb2.mono hb1.size)
          have kq2 := kq.nx hb2
          obtain ⟨d0, d1, d2, d3⟩ := kq2.cell4
          have hz3 := (hb3.cell (p := ⟨b, o + 2, none⟩) (Nat.lt_of_lt_of_le hbw hbw2)).trans hz2'
          have hqlt := kq2.lt
          clear hIC hb1 hb2 hz2' kq
          by_cases hcc : m.C = C0
          · have hcd : (m.C != C0) = false := by simpa using hcc
            have HCC := Lib.hid hcc
            clear hcc
            have hr2 : Rd w2 w2.heap.size Ai (m.px.map (Value.int .u8)) := (hri.below hb3 (Nat.le_refl _)).rd
            have hCl := fun nq => cloneu_any m.px Ai m.px.length ci (w2.drewN nq) rfl hpl (hr2.drewN nq) (Nat.le_refl _)
            have hno := hown.nx hb3
            clear hri hr2
            go_quiet ((fail))
            go_upto_region 13 with (go_at_call 28; (with_reducible refine (hCl _).mono ?_); rintro e w4 ⟨s4, rfl, ho4, hb4⟩; obtain ⟨A4, c4, rfl, _⟩ := own_form ho4; have kq4 := (kq2.drewN nq).nx hb4; obtain ⟨d40, d41, d42, d43⟩ := kq4.cell4; have f4 := kq4.frozen 3)
            have hz4 := hb4.size
            have hsz : (w2.drewN nq).heap.size = w2.heap.size := rfl
            have ho5 := own_far ho4 ⟨wr.heap.size, 3, none⟩ (.slice A4 m.px.length c4) (fun g hg => by have := (ho4.lt g hg).1; show g ≠ wr.heap.size; intro e; omega)
            have kq5 := kq4.set 3 (.slice A4 m.px.length c4)
            have hno4 := (hno.nx (below_drewN (Below.refl _ _) nq)).nx hb4
            have hb5 : Below wr.heap.size wr (w4.setCell ⟨wr.heap.size, 3, none⟩ (.slice A4 m.px.length c4)) := ((below_drewN hb3 nq).trans (hb4.mono (by omega))).setCell (by simp) _
            have hno5 := hown.nx hb5
            have hs5 : wr.heap.size < (w4.setCell ⟨wr.heap.size, 3, none⟩ (.slice A4 m.px.length c4)).heap.size := by simp [World.setCell]; omega
            have HSZ := Lib.hid hsz
            clear hsz d0 d1 d2 d3 d40 d41 d42 d43 f4 hno4 ho4 hb4 hb3 kq2 kq4 hz3 hno hz4 hCl
            generalize w4.setCell ⟨wr.heap.size, 3, none⟩ (.slice A4 m.px.length c4) = w5 at *
            obtain ⟨d0, d1, d2, d3⟩ := kq5.cell4
            have hb6 := hbel.trans (hb5.mono hbw2)
            have hb6s := hb6.size
            obtain ⟨xs5, hx50, hx51, hx52⟩ := hno5
            have hx5 := hx50
            rw [HL4.out] at hx5
            go_wp2_with (at_builtin; go_loud (refine app1o rfl _ _ _ rfl Tryz.underlying101 img_info rfl (by omega) hx5 rfl rfl hb6 (Nat.le_refl _) hb6s rfl (by simp [Value.oneCell']) (by omega) (by omega) ?_); intro v' w7 ho7 hb7 hs7 hg7 _)
            have hok : imsC C0 ims = imsC C0 (ims.drop (k + 1)) := by rw [HD.out, HS.out, if_neg (by rw [HCK.out]; simp), if_neg (by rw [HCC.out]; simp)]
            have ho5' : w5.ownsRow w.heap.size 5 1 (.slice A4 m.px.length c4) m.px.length (m.px.map (Value.int .u8)) := own_base ho5 (by have := HSZ.out; omega)
            have hno8 : ImsOwn w7 w.heap.size v' (ims.take k ++ [m]) := ImsOwn.snoc hx50 hx51 hx52 ho5' hg7 (by rw [HL4.out]; exact ho7)
            refine ⟨⟨k + 1, by omega, by go_num, by rw [HT.out]; exact hno8, hb7, hok⟩, by simp [intOf]; omega⟩
          · have hcd : (m.C != C0) = true := by simpa using hcc
            go_quiet ((fail))
            go_wp2_with fail
            go_returns
            have hz0 : imagesC ims = 10 := by rw [HI.out, HD.out, HS.out, if_neg (by rw [HCK.out]; simp), if_pos hcc]
            exact ⟨hbel.trans ((below_drewN hb3 _).mono hbw2), .inl ⟨by rw [hz0]; decide, by rw [hz0]; rfl⟩⟩
        · have hcb : (ck != 0) = true := by simpa using hck
          have HCK := Lib.hid hck
          clear hck
          go_wp2_with (go_at_call 50; (with_reducible refine (hIC _).mono ?_); rintro e w2 ⟨rfl, hb2⟩)
          go_returns
          have hz0 : imagesC ims = ck := by rw [HI.out, HD.out, HS.out, if_pos HCK.out]
          exact ⟨hbel.trans ((hb1.trans (hb2.mono hb1.size)).mono hbw2), .inl ⟨by rw [hz0]; exact HCK.out, by rw [hz0]; rfl⟩⟩
      · obtain rfl : k = n := by omega
        have hz := HD.out
        rw [List.drop_of_length_le (by omega)] at hz
        rw [List.take_of_length_le (by omega)] at hown
        have hz0 : imagesC ims = 0 := by rw [HI.out, hz]; rfl
        have HZ := Lib.hid hz0
        clear hz hz0
        go_wp2_with fail
        go_returns
        exact ⟨hbel, .inr ⟨HZ.out, _, rfl, hown⟩⟩
end Go.Proofs.YtahiaeaobbofbaaGreat
