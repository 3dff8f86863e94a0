/- chain.Cost: what several warps cost. -/
import Derived.Test.YtfkifghfaaeoiaaGreatCC1
set_option linter.unusedVariables false
namespace Go.Proofs.YtfkifghfaaeoiaaGreat
open Go.RowKit
/-- What several warps cost, told. -/
def costV (r : Int × Nat × Int) : Value := .tuple #[.int .i64 r.1, .int .i64 r.2.1, .int .i64 r.2.2]
set_option maxRecDepth 100000 in
set_option maxHeartbeats 16000000 in
theorem ccost_any (ws : List Wp) (A : Option Addr) (n c : Nat) (w : World) (hn : ws.length = n) (hA : WpsAt w w.heap.size A ws) (hb : n ≤ 20) :
    Calls Tryz.prog 4 #[.slice A n c] w fun e w' => e = .returned (costV (wpsR 0 0 ws)) ∧ Below w.heap.size w w' := by
  go_enter Tryz.func4, Tryz.ntmps4
  go_wp2_with fail
  go_loopw [5, 12] (fun sv iv wr => ∃ (k : Nat) (s : Int), k ≤ n ∧ iv = .int .i64 k ∧ sv = .int .i64 s ∧ (0 ≤ s ∧ s ≤ k * 1073741824) ∧ Below w.heap.size w wr ∧ wpsR 0 0 ws = wpsR s k (ws.drop k)) (fun _ iv _ => n - (intOf iv).toNat)
  case atStart => exact ⟨0, 0, by omega, rfl, rfl, ⟨by omega, by omega⟩, Below.refl _ _, by simp⟩
  case round =>
    obtain ⟨k, s, hk, rfl, rfl, ⟨hs0, hs1⟩, hbel, hdr⟩ := hrel
    have HD := Lib.hid hdr
    clear hdr
    by_cases hlt : k < n
    · have hk2 : k < ws.length := by omega
      have HS := Lib.hid (wpsR_step (s := s) hk2)
      have hKb := wpK_bd (m := ws[k])
      have hA' := hA.below hbel
      obtain ⟨b, o, Ai, ci, rfl, hbw, hcell, hci, hcm, hri⟩ := hA'.get k hk2
      have hbw2 := hbel.size
      generalize ws[k] = m at *
      have hri0 : Rd wr wr.heap.size Ai (m.l.map (Value.int .i64)) := hri.more hbw2
      have hMc := fun (w' : World) (hb' : Below wr.heap.size wr w') => mcost_any m.k Ai m.l.length ci m.W m.H m.kn m.n m.mo m.c0 m.c1 m.c2 m.c3 m.mi (xC m.k m.l m.W m.H) w'
        (fun w'' hb'' => xcheck_any m.k Ai m.l.length ci m.W m.H _ _ _ _ w'' ((newIs_any m.k m.l Ai m.l.length ci m.W m.H wr rfl hci hcm hri0).nx (hb'.trans (hb''.mono hb'.size))))
      have h0 := hcell 0 (by omega)
      have h1 := hcell 1 (by omega)
      have h2 := hcell 2 (by omega)
      have h3 := hcell 3 (by omega)
      have h4 := hcell 4 (by omega)
      have h5 := hcell 5 (by omega)
      have h6 := hcell 6 (by omega)
      have h7 := hcell 7 (by omega)
      have h8 := hcell 8 (by omega)
      have h9 := hcell 9 (by omega)
      have h10 := hcell 10 (by omega)
      have h11 := hcell 11 (by omega)
      simp at h0 h1 h2 h3 h4 h5 h6 h7 h8 h9 h10 h11
      change ∀ w', Below wr.heap.size wr w' → Calls _ _ _ w' fun e w'' => e = .returned (.tuple #[.int .i64 (if wpC m = 0 then wpK m else 0), .int .i64 (wpC m)]) ∧ _ at hMc
      have hL := (Lie.start wr).alloc (wrA m.k Ai m.l.length ci m.W m.H m.kn m.n m.mo m.c0 m.c1 m.c2 m.c3 m.mi) 33
      clear hcell hri hri0
      by_cases hz : wpC m = 0
      · have hkb := hKb hz
        rw [if_pos hz, hz] at hMc
        have v1 : wrap64 (s + wpK m) = s + wpK m := IntWalk.wrap64_in _ ⟨by omega, by omega⟩
        have HE := Lib.hid (HD.out.trans (HS.out.trans (if_neg (fun h => h hz))))
        clear hz hKb HD HS
        generalize wpK m = z at *
        go_wp2_with (go_at_call 8; (with_reducible refine (hMc _ hL.bel).mono ?_); rintro e w2 ⟨rfl, hb2⟩; have hL2 := hL.nx hb2)
        exact ⟨⟨k + 1, s + z, by omega, by go_num, rfl, ⟨by omega, by omega⟩, hbel.trans (hL2.bel.mono hbw2), HE.out⟩, by simp [intOf]; omega⟩
      · rw [if_neg hz] at hMc
        have HE := Lib.hid (HD.out.trans (HS.out.trans (if_pos hz)))
        have hzb : (wpC m != 0) = true := by simpa using hz
        clear hz hKb HD HS
        generalize wpC m = z at *
        go_wp2_with (go_at_call 8; (with_reducible refine (hMc _ hL.bel).mono ?_); rintro e w2 ⟨rfl, hb2⟩; have hL2 := hL.nx hb2)
        go_returns
        exact ⟨by rw [HE.out]; rfl, hbel.trans (hL2.bel.mono hbw2)⟩
    · obtain rfl : k = n := by omega
      have hz := HD.out
      rw [List.drop_of_length_le (by omega)] at hz
      have HZ := Lib.hid hz
      clear hz
      go_wp2_with fail
      go_returns
      exact ⟨by rw [HZ.out]; rfl, hbel⟩
end Go.Proofs.YtfkifghfaaeoiaaGreat
