/- Several texts in one: Commands as texts: small contracts; the table of forms. Commands as texts: what is a command, of the example; its words. Commands: commands of so many numbers. Commands: the program's commands of so many numbers. Commands: forms of transforms, names of kinds. Commands: names of kinds. Commands: the place of a text among others. -/
import Derived.Test.YtgohbkkeppknoaaGreatDoorCmdParsesZz7
import Derived.Test.YtgohbkkeppknoaaGreatDoorCmdParsesZz1
import Derived.Test.YtgohbkkeppknoaaGreatDoorCmdParsesZz13
import Derived.Test.YtgohbkkeppknoaaGreatDoorCmdParsesZz21
import Derived.Deep.QuietTactic
import Derived.BigQuiet
import Derived.Laws.EntriesVeiled
import Derived.Deep.Cut
import Derived.Deep.DeepCutAuto
section
set_option linter.unusedVariables false
namespace Go.Proofs.YtgohbkkeppknoaaGreatDoor
open Go.RowKit
theorem cm50_size : (Tryz.prog.info? 26).map (·.size) = some 3 := by kernel_rfl
theorem cr50_size : (Tryz.prog.info? 30).map (·.size) = some 3 := by kernel_rfl
theorem fo50_size : (Tryz.prog.info? 69).map (·.size) = some 4 := by kernel_rfl
abbrev cmA (op k : Int) (A : Option Addr) (n c : Nat) : Array Value := #[.int .i64 op, .int .i64 k, .slice A n c]
abbrev cm0 : Array Value := #[.int .i64 0, .int .i64 0, .slice none 0 0]
set_option maxRecDepth 100000 in
set_option maxHeartbeats 4000000 in
theorem own50_any (op k : Int) (A : Option Addr) (n c : Nat) (w : World) : Calls Tryz.prog 10 #[.agg (cmA op k A n c)] w fun e w' => e = .returned (.agg (cmA op k A n c)) ∧ Below w.heap.size w w' := by
  have hL := ((Lie.start w).alloc (cmA op k A n c) 26).alloc cm0 30
  simp only [World.size_alloc] at hL
  have k0 : Bk _ w.heap.size 26 (cmA op k A n c) := hL.k 1 (by simp)
  have hK : Bk _ (w.heap.size + 1) 30 cm0 := hL.k 0 (by simp)
  obtain ⟨c0, c1, c2⟩ := k0.cell3
  have hb := hL.bel
  go_enter Tryz.func10, Tryz.ntmps10
  go_wp2_with (refine stB (ty := 30) (cells := cmA op k A n c) rfl _ _ rfl hK rfl rfl cr50_size rfl (by simp [Value.oneCell']) ?_; intro w' hK' hg' _)
  refine bodyPost_ret (res_cell rfl hK' rfl Tryz.underlying30 rfl cr50_size) rfl ?_
  exact ⟨rfl, below_of_gb hb hg' (by omega) hb.size⟩
set_option maxRecDepth 100000 in
set_option maxHeartbeats 4000000 in
theorem same50_any (op k : Int) (l : List Int) (A A' : Option Addr) (n c c' : Nat) (w : World) {B B' : Nat} (hn : l.length = n) (hr : Rd w B A (l.map (Value.int .i64))) (hr' : Rd w B' A' (l.map (Value.int .i64))) (hB : B ≤ w.heap.size) (hB' : B' ≤ w.heap.size) (hb : n ≤ 1000000) :
    Calls Tryz.prog 9 #[.agg (cmA op k A n c), .agg (cmA op k A' n c')] w fun e w' => e = .returned (.bool true) ∧ Below w.heap.size w w' := by
  have hL := ((Lie.start w).alloc (cmA op k A n c) 30).alloc (cmA op k A' n c') 30
  simp only [World.size_alloc] at hL
  have hr1 := (hr.alloc hB (.cells (cmA op k A n c) 30)).alloc (by simp; omega) (.cells (cmA op k A' n c') 30)
  have hr2 := (hr'.alloc hB' (.cells (cmA op k A n c) 30)).alloc (by simp; omega) (.cells (cmA op k A' n c') 30)
  have k0 : Bk _ w.heap.size 30 (cmA op k A n c) := hL.k 1 (by simp)
  have k1 : Bk _ (w.heap.size + 1) 30 (cmA op k A' n c') := hL.k 0 (by simp)
  obtain ⟨c0, c1, c2⟩ := k0.cell3
  obtain ⟨d0, d1, d2⟩ := k1.cell3
  clear hr hr' k0 k1
  go_enter Tryz.func9, Tryz.ntmps9
  go_wp2_with fail
  generalize (w.alloc (.cells (cmA op k A n c) 30)).alloc (.cells (cmA op k A' n c') 30) = w2 at *
  go_loopw [5] (fun i wr => ∃ k : Nat, k ≤ n ∧ i = .int .i64 k ∧ ∃ q, wr = w2.drewN q) (fun i _ => n - (intOf i).toNat)
  case atStart => exact ⟨0, by omega, rfl, 0, rfl⟩
  case round =>
    obtain ⟨k, hk, rfl, q, rfl⟩ := hrel
    by_cases hlt : k < n
    · have hk2 : k < l.length := by omega
      obtain ⟨b, o, rfl, hbb, hc0⟩ := hr1.get k (by simp [hk2])
      obtain ⟨b', o', rfl, hbb', hc1⟩ := hr2.get k (by simp [hk2])
      rw [List.getElem_map] at hc0 hc1
      generalize l[k] = x at *
      go_wp2_with fail
      go_quiet ((fail))
      go_wp2_with fail
      refine ⟨⟨k + 1, by omega, by go_num, _, rfl⟩, by simp [intOf]; omega⟩
    · obtain rfl : k = n := by omega
      go_wp2_with fail
      go_returns
      exact ⟨rfl, below_drewN hL.bel q⟩
set_option maxRecDepth 100000 in
set_option maxHeartbeats 4000000 in
theorem small45 (z : Int) (hz : z = 4 ∨ z = 5) (w : World) : Calls Tryz.prog 325 #[.int .i64 z] w fun e w' => e = .returned (.string ⟨#[(z + 48).toNat.toUInt8]⟩) ∧ w = w' := by
  rcases hz with rfl | rfl
  all_goals
    go_enter Tryz.func325, Tryz.ntmps325
    go_wp2_with fail
    go_returns
    exact ⟨rfl, rfl⟩
set_option maxRecDepth 100000 in
set_option maxHeartbeats 4000000 in
theorem fmti45 (z : Int) (hz : z = 4 ∨ z = 5) (w : World) : Calls Tryz.prog 270 #[.int .i64 z, .int .i64 10] w fun e w' => e = .returned (.string ⟨#[(z + 48).toNat.toUInt8]⟩) ∧ w = w' := by
  have hS := small45 z hz w
  obtain ⟨s, hs⟩ : ∃ s, ByteArray.mk #[(z + 48).toNat.toUInt8] = s := ⟨_, rfl⟩
  rw [hs] at hS ⊢
  have h0 : 0 ≤ z := by omega
  have h1 : z < 100 := by omega
  clear hz hs
  go_enter Tryz.func270, Tryz.ntmps270
  go_wp2_with (go_at_call 325; (with_reducible refine hS.mono ?_); rintro e w3 ⟨rfl, rfl⟩)
  go_returns
  exact ⟨rfl, rfl⟩
set_option maxRecDepth 100000 in
set_option maxHeartbeats 4000000 in
theorem fmt45 (z : Int) (hz : z = 4 ∨ z = 5) (w : World) : Calls Tryz.prog 194 #[.int .i64 z, .int .i64 10] w fun e w' => e = .returned (.string ⟨#[(z + 48).toNat.toUInt8]⟩) ∧ w = w' := by
  have hS := fmti45 z hz w
  obtain ⟨s, hs⟩ : ∃ s, ByteArray.mk #[(z + 48).toNat.toUInt8] = s := ⟨_, rfl⟩
  rw [hs] at hS ⊢
  clear hz hs
  go_enter Tryz.func194, Tryz.ntmps194
  go_wp2_with (go_at_call 270; (with_reducible refine hS.mono ?_); rintro e w3 ⟨rfl, rfl⟩)
  go_returns
  exact ⟨rfl, rfl⟩
set_option maxRecDepth 100000 in
set_option maxHeartbeats 4000000 in
theorem whole45 (z : Int) (hz : z = 4 ∨ z = 5) (w : World) : Calls Tryz.prog 208 #[.int .i64 z] w fun e w' => e = .returned (.string ⟨#[(z + 48).toNat.toUInt8]⟩) ∧ w = w' := by
  have hS := fmt45 z hz w
  obtain ⟨s, hs⟩ : ∃ s, ByteArray.mk #[(z + 48).toNat.toUInt8] = s := ⟨_, rfl⟩
  rw [hs] at hS ⊢
  clear hz hs
  go_enter Tryz.func208, Tryz.ntmps208
  go_wp2_with (go_at_call 194; (with_reducible refine hS.mono ?_); rintro e w3 ⟨rfl, rfl⟩)
  go_returns
  exact ⟨rfl, rfl⟩
abbrev formsA : Array Value := #[.string ⟨#[108, 111, 97, 100]⟩, .int .i64 1, .func (.func 62) #[] #[], .func (.func 63) #[.int .i64 1] #[],
  .string ⟨#[115, 105, 122, 101]⟩, .int .i64 2, .func (.func 62) #[] #[], .func (.func 63) #[.int .i64 2] #[],
  .string ⟨#[107, 101, 114, 110, 101, 108]⟩, .int .i64 3, .func (.func 64) #[] #[], .func (.func 65) #[.agg #[.int .i64 3, .int .i64 1]] #[],
  .string ⟨#[98, 111, 114, 100, 101, 114]⟩, .int .i64 4, .func (.func 66) #[] #[], .func (.func 65) #[.agg #[.int .i64 0, .int .i64 4]] #[],
  .string ⟨#[109, 105, 112, 115]⟩, .int .i64 5, .func (.func 62) #[] #[], .func (.func 63) #[.int .i64 1] #[],
  .string ⟨#[116, 105, 108, 101]⟩, .int .i64 6, .func (.func 62) #[] #[], .func (.func 63) #[.int .i64 2] #[],
  .string ⟨#[99, 97, 99, 104, 101]⟩, .int .i64 7, .func (.func 62) #[] #[], .func (.func 63) #[.int .i64 1] #[],
  .string ⟨#[111, 114, 100, 101, 114]⟩, .int .i64 8, .func (.func 67) #[] #[], .func (.func 65) #[.agg #[.int .i64 5, .int .i64 1]] #[],
  .string ⟨#[115, 97, 118, 101]⟩, .int .i64 10, .func (.func 68) #[] #[], .func (.func 63) #[.int .i64 0] #[],
  .string ⟨#[116, 105, 110, 116]⟩, .int .i64 11, .func (.func 62) #[] #[], .func (.func 63) #[.int .i64 1] #[],
  .string ⟨#[99, 114, 111, 112]⟩, .int .i64 12, .func (.func 62) #[] #[], .func (.func 63) #[.int .i64 4] #[],
  .string ⟨#[98, 117, 100, 103, 101, 116]⟩, .int .i64 13, .func (.func 62) #[] #[], .func (.func 63) #[.int .i64 1] #[]]
set_option maxRecDepth 100000 in
set_option maxHeartbeats 4000000 in
theorem forms_any (w : World) : Calls Tryz.prog 25 #[] w fun e w' => e = .returned (.slice (some ⟨w.heap.size, 0, none⟩) 12 12) ∧ Lie w [(w.heap.size, 69, formsA)] w' := by
  go_enter Tryz.func25, Tryz.ntmps25
  go_wp2_with fail
  go_returns
  exact ⟨rfl, (Lie.start w).alloc formsA 69⟩
end Go.Proofs.YtgohbkkeppknoaaGreatDoor
end
section
set_option linter.unusedVariables false
namespace Go.Proofs.YtgohbkkeppknoaaGreatDoor
open Go.RowKit
theorem numof_any (z k : Int) (w : World) : Calls Tryz.prog 63 #[.int .i64 z, .int .i64 k] w fun e w' => e = .returned (.int .i64 z) ∧ w = w' := by
  go_enter Tryz.func63, Tryz.ntmps63
  go_wp2_with fail
  go_returns
  exact ⟨rfl, rfl⟩
set_option maxRecDepth 100000 in
set_option maxHeartbeats 4000000 in
theorem kinds6 (s f g : Value) (w : World) : Calls Tryz.prog 41 #[.agg #[s, .int .i64 6, f, g]] w fun e w' => e = .returned (.tuple #[.int .i64 0, .int .i64 0]) ∧ Below w.heap.size w w' := by
  have hb := (Below.refl w.heap.size w).alloc (Nat.le_refl _) (.cells #[s, .int .i64 6, f, g] 69)
  have hK := Bk.new w 69 #[s, .int .i64 6, f, g]
  have c1 := (hK.cell 1).trans (show _ = some (.int .i64 6) from rfl)
  go_enter Tryz.func41, Tryz.ntmps41
  go_wp2_with fail
  go_returns
  exact ⟨rfl, hb⟩
set_option maxRecDepth 100000 in
set_option maxHeartbeats 16000000 in
theorem right6 (A : Option Addr) (c : Nat) (w : World) : Calls Tryz.prog 11 #[.agg (cmA 6 0 A 2 c)] w fun e w' => e = .returned (.bool true) ∧ Below w.heap.size w w' := by
  have hL0 := (Lie.start w).alloc (cmA 6 0 A 2 c) 26
  have hF := fun w' => forms_any w'
  have hU := fun (s f g : Value) w' => kinds6 s f g w'
  have hN := fun w' => numof_any 2 0 w'
  have k0 : Bk _ w.heap.size 26 (cmA 6 0 A 2 c) := hL0.k 0 (by simp)
  obtain ⟨c0, c1, c2⟩ := k0.cell3
  go_enter Tryz.func11, Tryz.ntmps11
  go_wp2_with (go_at_call 25; (with_reducible refine (hF _).mono ?_); rintro e w1 ⟨rfl, hL1⟩)
  have kf := hL1.k 0 (by simp)
  have hb1 := hL1.bel
  simp only [World.size_alloc, List.getElem_cons_zero] at kf
  obtain ⟨g, hg⟩ : ∃ g, w.heap.size + 1 = g := ⟨_, rfl⟩
  simp only [hg] at kf ⊢
  have hgw : w.heap.size < g := by omega
  have hL2 : Lie w [(g, 69, formsA), (w.heap.size, 26, cmA 6 0 A 2 c)] w1 := ⟨(hL0.nx hb1).bel, fun x hx => by
    rcases List.mem_cons.1 hx with rfl | hx
    · exact kf
    · rcases List.mem_cons.1 hx with rfl | hx
      · exact (hL0.nx hb1).k 0 (by simp)
      · cases hx⟩
  clear hL1 hL0 hb1 k0 kf c0 c1 c2 hF
  go_loopw [28] (fun i wr => ∃ k : Nat, k ≤ 5 ∧ i = .int .i64 k ∧ Lie w [(g, 69, formsA), (w.heap.size, 26, cmA 6 0 A 2 c)] wr) (fun i _ => 12 - (intOf i).toNat)
  case atStart => exact ⟨0, by omega, rfl, hL2⟩
  case round =>
    clear hL2
    obtain ⟨k, hk, rfl, hL⟩ := hrel
    have kf : Bk wr g 69 formsA := hL.k 0 (by simp)
    have k0 : Bk wr w.heap.size 26 (cmA 6 0 A 2 c) := hL.k 1 (by simp)
    have hsz := hL.sz
    have hnew := Bk.new wr 69 #[.string ⟨#[]⟩, .int .i64 0, .nilFunc, .nilFunc]
    have hLn := hL.alloc #[.string ⟨#[]⟩, .int .i64 0, .nilFunc, .nilFunc] 69
    have hgl := kf.lt
    have h0l := k0.lt
    have hne : ∀ x ∈ [(g, 69, formsA), (w.heap.size, 26, cmA 6 0 A 2 c)], x.1 ≠ wr.heap.size := by simp; omega
    obtain ⟨c0, c1, c2⟩ := k0.cell3
    rcases (show k = 0 ∨ k = 1 ∨ k = 2 ∨ k = 3 ∨ k = 4 ∨ k = 5 by omega) with rfl | rfl | rfl | rfl | rfl | rfl
    · have e0 := (kf.cell 0).trans (show _ = some (.string ⟨#[108, 111, 97, 100]⟩) from rfl)
      have e1 := (kf.cell 1).trans (show _ = some (.int .i64 1) from rfl)
      have e2 := (kf.cell 2).trans (show _ = some (.func (.func 62) #[] #[]) from rfl)
      have e3 := (kf.cell 3).trans (show _ = some (.func (.func 63) #[.int .i64 1] #[]) from rfl)
      go_wp2_with (refine stB (ty := 69) (cells := #[.string ⟨#[108, 111, 97, 100]⟩, .int .i64 1, .func (.func 62) #[] #[], .func (.func 63) #[.int .i64 1] #[]]) rfl _ _ rfl hnew rfl rfl fo50_size rfl (by simp [Value.oneCell']) ?_; intro w3 hK3 hg3 hs3; have hL3 := hLn.set hg3 hK3 hsz hne; obtain ⟨f0, f1, f2, f3⟩ := hK3.cell4; have k03 : Bk w3 w.heap.size 26 (cmA 6 0 A 2 c) := hL3.k 2 (by simp); obtain ⟨s0, s1, s2⟩ := k03.cell3)
      exact ⟨⟨1, by omega, by go_num, hL3.sub (by simp)⟩, by simp [intOf]⟩
    · have e0 := (kf.cell 4).trans (show _ = some (.string ⟨#[115, 105, 122, 101]⟩) from rfl)
      have e1 := (kf.cell 5).trans (show _ = some (.int .i64 2) from rfl)
      have e2 := (kf.cell 6).trans (show _ = some (.func (.func 62) #[] #[]) from rfl)
      have e3 := (kf.cell 7).trans (show _ = some (.func (.func 63) #[.int .i64 2] #[]) from rfl)
      go_wp2_with (refine stB (ty := 69) (cells := #[.string ⟨#[115, 105, 122, 101]⟩, .int .i64 2, .func (.func 62) #[] #[], .func (.func 63) #[.int .i64 2] #[]]) rfl _ _ rfl hnew rfl rfl fo50_size rfl (by simp [Value.oneCell']) ?_; intro w3 hK3 hg3 hs3; have hL3 := hLn.set hg3 hK3 hsz hne; obtain ⟨f0, f1, f2, f3⟩ := hK3.cell4; have k03 : Bk w3 w.heap.size 26 (cmA 6 0 A 2 c) := hL3.k 2 (by simp); obtain ⟨s0, s1, s2⟩ := k03.cell3)
      exact ⟨⟨2, by omega, by go_num, hL3.sub (by simp)⟩, by simp [intOf]⟩
    · have e0 := (kf.cell 8).trans (show _ = some (.string ⟨#[107, 101, 114, 110, 101, 108]⟩) from rfl)
      have e1 := (kf.cell 9).trans (show _ = some (.int .i64 3) from rfl)
      have e2 := (kf.cell 10).trans (show _ = some (.func (.func 64) #[] #[]) from rfl)
      have e3 := (kf.cell 11).trans (show _ = some (.func (.func 65) #[.agg #[.int .i64 3, .int .i64 1]] #[]) from rfl)
      go_wp2_with (refine stB (ty := 69) (cells := #[.string ⟨#[107, 101, 114, 110, 101, 108]⟩, .int .i64 3, .func (.func 64) #[] #[], .func (.func 65) #[.agg #[.int .i64 3, .int .i64 1]] #[]]) rfl _ _ rfl hnew rfl rfl fo50_size rfl (by simp [Value.oneCell']) ?_; intro w3 hK3 hg3 hs3; have hL3 := hLn.set hg3 hK3 hsz hne; obtain ⟨f0, f1, f2, f3⟩ := hK3.cell4; have k03 : Bk w3 w.heap.size 26 (cmA 6 0 A 2 c) := hL3.k 2 (by simp); obtain ⟨s0, s1, s2⟩ := k03.cell3)
      exact ⟨⟨3, by omega, by go_num, hL3.sub (by simp)⟩, by simp [intOf]⟩
    · have e0 := (kf.cell 12).trans (show _ = some (.string ⟨#[98, 111, 114, 100, 101, 114]⟩) from rfl)
      have e1 := (kf.cell 13).trans (show _ = some (.int .i64 4) from rfl)
      have e2 := (kf.cell 14).trans (show _ = some (.func (.func 66) #[] #[]) from rfl)
      have e3 := (kf.cell 15).trans (show _ = some (.func (.func 65) #[.agg #[.int .i64 0, .int .i64 4]] #[]) from rfl)
      go_wp2_with (refine stB (ty := 69) (cells := #[.string ⟨#[98, 111, 114, 100, 101, 114]⟩, .int .i64 4, .func (.func 66) #[] #[], .func (.func 65) #[.agg #[.int .i64 0, .int .i64 4]] #[]]) rfl _ _ rfl hnew rfl rfl fo50_size rfl (by simp [Value.oneCell']) ?_; intro w3 hK3 hg3 hs3; have hL3 := hLn.set hg3 hK3 hsz hne; obtain ⟨f0, f1, f2, f3⟩ := hK3.cell4; have k03 : Bk w3 w.heap.size 26 (cmA 6 0 A 2 c) := hL3.k 2 (by simp); obtain ⟨s0, s1, s2⟩ := k03.cell3)
      exact ⟨⟨4, by omega, by go_num, hL3.sub (by simp)⟩, by simp [intOf]⟩
    · have e0 := (kf.cell 16).trans (show _ = some (.string ⟨#[109, 105, 112, 115]⟩) from rfl)
      have e1 := (kf.cell 17).trans (show _ = some (.int .i64 5) from rfl)
      have e2 := (kf.cell 18).trans (show _ = some (.func (.func 62) #[] #[]) from rfl)
      have e3 := (kf.cell 19).trans (show _ = some (.func (.func 63) #[.int .i64 1] #[]) from rfl)
      go_wp2_with (refine stB (ty := 69) (cells := #[.string ⟨#[109, 105, 112, 115]⟩, .int .i64 5, .func (.func 62) #[] #[], .func (.func 63) #[.int .i64 1] #[]]) rfl _ _ rfl hnew rfl rfl fo50_size rfl (by simp [Value.oneCell']) ?_; intro w3 hK3 hg3 hs3; have hL3 := hLn.set hg3 hK3 hsz hne; obtain ⟨f0, f1, f2, f3⟩ := hK3.cell4; have k03 : Bk w3 w.heap.size 26 (cmA 6 0 A 2 c) := hL3.k 2 (by simp); obtain ⟨s0, s1, s2⟩ := k03.cell3)
      exact ⟨⟨5, by omega, by go_num, hL3.sub (by simp)⟩, by simp [intOf]⟩
    · have e0 := (kf.cell 20).trans (show _ = some (.string ⟨#[116, 105, 108, 101]⟩) from rfl)
      have e1 := (kf.cell 21).trans (show _ = some (.int .i64 6) from rfl)
      have e2 := (kf.cell 22).trans (show _ = some (.func (.func 62) #[] #[]) from rfl)
      have e3 := (kf.cell 23).trans (show _ = some (.func (.func 63) #[.int .i64 2] #[]) from rfl)
      go_upto_region 8 with (first
        | (refine stB (ty := 69) (cells := #[.string ⟨#[116, 105, 108, 101]⟩, .int .i64 6, .func (.func 62) #[] #[], .func (.func 63) #[.int .i64 2] #[]]) rfl _ _ rfl hnew rfl rfl fo50_size rfl (by simp [Value.oneCell']) ?_; intro w3 hK3 hg3 hs3; have hL3 := hLn.set hg3 hK3 hsz hne; obtain ⟨f0, f1, f2, f3⟩ := hK3.cell4; have k03 : Bk w3 w.heap.size 26 (cmA 6 0 A 2 c) := hL3.k 2 (by simp); obtain ⟨s0, s1, s2⟩ := k03.cell3)
        | (refine ldB rfl _ _ rfl hK3 rfl Tryz.underlying69 rfl fo50_size ?_)
        | (go_at_call 41; (with_reducible refine (hU _ _ _ _).mono ?_); rintro e w4 ⟨rfl, hb4⟩; have hL4 := hL3.nx hb4; have k4 : Bk w4 w.heap.size 26 (cmA 6 0 A 2 c) := hL4.k 2 (by simp); have kn : Bk w4 wr.heap.size 69 #[.string ⟨#[116, 105, 108, 101]⟩, .int .i64 6, .func (.func 62) #[] #[], .func (.func 63) #[.int .i64 2] #[]] := hL4.k 0 (by simp); obtain ⟨t0, t1, t2⟩ := k4.cell3; obtain ⟨u0, u1, u2, u3⟩ := kn.cell4))
      clear c0 c1 c2 s0 s1 s2 f0 f1 f2 f3 e0 e1 e2 e3 hnew hLn hU
      have v0 := fun (n : Nat) (os : Array Obj) => cell_regrown t0 n os
      have v1 := fun (n : Nat) (os : Array Obj) => cell_regrown t1 n os
      have v2 := fun (n : Nat) (os : Array Obj) => cell_regrown t2 n os
      have v3 := fun (n : Nat) (os : Array Obj) => cell_regrown u3 n os
      refine wp_region_quiet_below (by kernel_rfl) (by kernel_rfl) ?_
      repeat (first
        | go_big_quiet_step (with_reducible exact quiet_eq (hN _))
        | quiet_step (with_reducible exact quiet_eq (hN _)))
      refine wpQuiet_nil ?_
      intro _ hw'
      obtain ⟨⟨d9, os⟩, hw''⟩ := hw'
      subst hw''
      have hL9 := hL4.nx (below_regrown w4 d9 os)
      generalize Go.Sort.grow (redrawn w4 d9) os = wx at *
      go_wp2_with fail
      go_returns
      exact ⟨rfl, hL9.bel⟩
end Go.Proofs.YtgohbkkeppknoaaGreatDoor
end
section
set_option linter.unusedVariables false
namespace Go.Proofs.YtgohbkkeppknoaaGreatDoor
open Go.RowKit
theorem own_gb50 {w w' : World} {base : Nat} {e : TypeId} {size n : Nat} {v : Value} {xs : List Value} {row : Option Nat} (h : w.ownsRow base e size v n xs) (hg : w.grownBy w' row) (hne : ∀ b, v.ownBlock = some b → some b ≠ row) : w'.ownsRow base e size v n xs := by
  refine ⟨h.1, ?_⟩
  rcases h.2 with h2 | ⟨g, cap, cur, hv, hg2, hh, r⟩
  · exact .inl h2
  · exact .inr ⟨g, cap, cur, hv, hg2, by rw [hg.block g (Bk.lt hh) (hne g (by rw [hv]; rfl))]; exact hh, r⟩
/-- Which numbers, of so many words; and what is wrong. -/
def madeO (f : List UInt8) (n : Int) (ws : List ByteArray) : Option (List Int) := if (ws.length : Int) = n then numsF f ws else none
def madeC (f : List UInt8) (n : Int) (ws : List ByteArray) : Int := if (ws.length : Int) = n then (if (numsF f ws).isSome then 0 else 10) else 12
/-- A command as a function's answer: its cells, and the code. -/
def CmdIs (o : Option (List Int)) (op k : Int) (cs : Array Value) (base : Nat) (w : World) : Prop := match o with
  | none => cs = cm0
  | some L => ∃ A c, cs = cmA op k A L.length c ∧ w.ownsRow base 2 1 (.slice A L.length c) L.length (L.map (Value.int .i64))
set_option maxRecDepth 100000 in
set_option maxHeartbeats 8000000 in
theorem rmade_any (op k n : Int) (A : Option Addr) (c : Nat) (ws : List ByteArray) (f : ByteArray) (hf : f.size ≤ 10000000) (w : World) (hw : WdsOk w A ws) : Calls Tryz.prog 34 #[.int .i64 op, .int .i64 k, .slice A ws.length c, .int .i64 n, .string f] w fun e w' => ∃ cs, e = .returned (.tuple #[.agg cs, .int .i64 (madeC (bl f) n ws)]) ∧ CmdIs (madeO (bl f) n ws) op k cs w.heap.size w' ∧ Below w.heap.size w w' := by
  have hL := (Lie.start w).alloc cm0 30
  have hK : Bk _ w.heap.size 30 cm0 := hL.k 0 (by simp)
  have hlw := hw.n
  by_cases hn : (ws.length : Int) = n
  · subst hn
    have hws : WdsOk (w.alloc (.cells cm0 30)) A ws := ⟨(hw.rd.alloc (Nat.le_refl _) _).more (by simp), hw.sz, hw.n⟩
    have hN := rnums_any A c ws f hf _ hws
    cases ho : numsF (bl f) ws with
    | none =>
      have HC : Hid (madeC (bl f) ws.length ws = 10 ∧ madeO (bl f) ws.length ws = none) := by
        show _ ∧ _
        unfold madeC madeO
        rw [if_pos rfl, if_pos rfl, ho]
        exact ⟨rfl, rfl⟩
      rw [ho] at hN
      unfold NumsV at hN
      simp only [Option.isSome_none] at hN
      clear ho hws
      go_enter Tryz.func34, Tryz.ntmps34
      go_wp2_with (first
        | (go_at_call 76; (with_reducible refine hN.mono ?_); rintro e w1 ⟨v1, rfl, rfl, hb1⟩; have hL1 := hL.nx hb1; have hK1 : Bk w1 w.heap.size 30 cm0 := hL1.k 0 (by simp))
        | (refine stB (ty := 30) (cells := cm0) rfl _ _ rfl hK1 rfl rfl cr50_size rfl (by simp [Value.oneCell']) ?_; intro w' hK' hg' _))
      refine bodyPost_ret (res_cell_tmp rfl hK' rfl Tryz.underlying30 rfl cr50_size) rfl ?_
      exact ⟨cm0, by rw [HC.out.1]; rfl, by rw [HC.out.2]; rfl, below_of_gb hL1.bel hg' (Nat.le_refl _) hL1.bel.size⟩
    | some L =>
      have HC : Hid (madeC (bl f) ws.length ws = 0 ∧ madeO (bl f) ws.length ws = some L) := by
        show _ ∧ _
        unfold madeC madeO
        rw [if_pos rfl, if_pos rfl, ho]
        exact ⟨rfl, rfl⟩
      rw [ho] at hN
      unfold NumsV at hN
      simp only [Option.isSome_some] at hN
      clear ho hws
      go_enter Tryz.func34, Tryz.ntmps34
      go_wp2_with (first
        | (go_at_call 76; (with_reducible refine hN.mono ?_); rintro e w1 ⟨v1, rfl, hown, hb1⟩; have hL1 := hL.nx hb1; have hK1 : Bk w1 w.heap.size 30 cm0 := hL1.k 0 (by simp); obtain ⟨A1, q1, rfl, hq1, _⟩ := own_form hown)
        | (refine stB (ty := 30) (cells := cmA op k A1 L.length q1) rfl _ _ rfl hK1 rfl rfl cr50_size rfl (by simp [Value.oneCell']) ?_; intro w' hK' hg' _))
      refine bodyPost_ret (res_cell_tmp rfl hK' rfl Tryz.underlying30 rfl cr50_size) rfl ?_
      exact ⟨_, by rw [HC.out.1]; rfl, by rw [HC.out.2]; exact ⟨A1, q1, rfl, own_base (own_gb50 hown hg' (fun b hb e => by have := own_ge hown b hb; injection e with e; simp at this; omega)) (by simp)⟩, below_of_gb hL1.bel hg' (Nat.le_refl _) hL1.bel.size⟩
  · have HC : Hid (madeC (bl f) n ws = 12 ∧ madeO (bl f) n ws = none) := by
      show _ ∧ _
      unfold madeC madeO
      rw [if_neg hn, if_neg hn]
      exact ⟨rfl, rfl⟩
    have hb : (((ws.length : Nat) : Int) != n) = true := by simpa using hn
    clear hn
    go_enter Tryz.func34, Tryz.ntmps34
    go_wp2_with (refine stB (ty := 30) (cells := cm0) rfl _ _ rfl hK rfl rfl cr50_size rfl (by simp [Value.oneCell']) ?_; intro w' hK' hg' _)
    refine bodyPost_ret (res_cell_tmp rfl hK' rfl Tryz.underlying30 rfl cr50_size) rfl ?_
    exact ⟨cm0, by rw [HC.out.1]; rfl, by rw [HC.out.2]; rfl, below_of_gb hL.bel hg' (Nat.le_refl _) hL.bel.size⟩
end Go.Proofs.YtgohbkkeppknoaaGreatDoor
end
section
set_option linter.unusedVariables false
namespace Go.Proofs.YtgohbkkeppknoaaGreatDoor
open Go.RowKit
theorem cc50_size : (Tryz.prog.info? 26).map (·.size) = some 3 := by kernel_rfl
set_option maxRecDepth 100000 in
set_option maxHeartbeats 8000000 in
theorem cmade_any (op k n : Int) (A : Option Addr) (c : Nat) (ws : List ByteArray) (f : ByteArray) (hf : f.size ≤ 10000000) (w : World) (hw : WdsOk w A ws) (hl : LaidT w) : Calls Tryz.prog 30 #[.agg (cmA op k none 0 0), .slice A ws.length c, .int .i64 n, .string f] w fun e w' => ∃ cs, e = .returned (.tuple #[.agg cs, .int .i64 (madeC (bl f) n ws)]) ∧ CmdIs (madeO (bl f) n ws) op k cs w.heap.size w' ∧ Below w.heap.size w w' := by
  have hL := ((Lie.start w).alloc (cmA op k none 0 0) 26).alloc cm0 26
  simp only [World.size_alloc] at hL
  have hK : Bk _ (w.heap.size + 1) 26 cm0 := hL.k 0 (by simp)
  have hlw := hw.n
  by_cases hn : (ws.length : Int) = n
  · subst hn
    have hws : WdsOk ((w.alloc (.cells (cmA op k none 0 0) 26)).alloc (.cells cm0 26)) A ws := ⟨(hw.rd.below hL.bel).more hL.bel.size, hw.sz, hw.n⟩
    have hN := cnums_any A c ws f hf _ hws (hl.nx hL.bel)
    cases ho : numsF (bl f) ws with
    | none =>
      have HC : Hid (madeC (bl f) ws.length ws = 10 ∧ madeO (bl f) ws.length ws = none) := by
        show _ ∧ _
        unfold madeC madeO
        rw [if_pos rfl, if_pos rfl, ho]
        exact ⟨rfl, rfl⟩
      rw [ho] at hN
      unfold NumsV at hN
      simp only [Option.isSome_none] at hN
      clear ho hws
      go_enter Tryz.func30, Tryz.ntmps30
      go_wp2_with (first
        | (go_at_call 74; (with_reducible refine hN.mono ?_); rintro e w1 ⟨v1, rfl, rfl, hb1⟩; have hL1 := hL.nx hb1; have hK1 : Bk w1 (w.heap.size + 1) 26 cm0 := hL1.k 0 (by simp))
        | (refine stB (ty := 26) (cells := cm0) rfl _ _ rfl hK1 rfl rfl cc50_size rfl (by simp [Value.oneCell']) ?_; intro w' hK' hg' _))
      refine bodyPost_ret (res_cell_tmp rfl hK' rfl Tryz.underlying26 rfl cc50_size) rfl ?_
      exact ⟨cm0, by rw [HC.out.1]; rfl, by rw [HC.out.2]; rfl, below_of_gb hL1.bel hg' (by omega) hL1.bel.size⟩
    | some L =>
      have HC : Hid (madeC (bl f) ws.length ws = 0 ∧ madeO (bl f) ws.length ws = some L) := by
        show _ ∧ _
        unfold madeC madeO
        rw [if_pos rfl, if_pos rfl, ho]
        exact ⟨rfl, rfl⟩
      rw [ho] at hN
      unfold NumsV at hN
      simp only [Option.isSome_some] at hN
      clear ho hws
      go_enter Tryz.func30, Tryz.ntmps30
      go_upto_region 6 with (first
        | (go_at_call 74; (with_reducible refine hN.mono ?_); rintro e w1 ⟨v1, rfl, hown, hb1⟩; have hL1 := hL.nx hb1; have hK1 : Bk w1 (w.heap.size + 1) 26 cm0 := hL1.k 0 (by simp); have hK4 : Bk w1 w.heap.size 26 (cmA op k none 0 0) := hL1.k 1 (by simp); obtain ⟨A1, q1, rfl, hq1, _⟩ := own_form hown))
      have hbase : ((w.alloc (.cells (cmA op k none 0 0) 26)).alloc (.cells cm0 26)).heap.size = w.heap.size + 2 := by simp
      rw [hbase] at hown
      have d2 := hK4.cell 2
      have f2 := hK4.frozen 2
      have K4s : Bk (w1.setCell ⟨w.heap.size, 2, none⟩ (.slice A1 L.length q1)) w.heap.size 26 (cmA op k A1 L.length q1) := hK4.set 2 _
      have K8s := hK1.far (p := ⟨w.heap.size, 2, none⟩) (by simp) (.slice A1 L.length q1)
      have hbs : Below w.heap.size w (w1.setCell ⟨w.heap.size, 2, none⟩ (.slice A1 L.length q1)) := hL1.bel.setCell (p := ⟨w.heap.size, 2, none⟩) (by show _ ≤ w.heap.size; omega) _
      have hos := own_far hown ⟨w.heap.size, 2, none⟩ (.slice A1 L.length q1) (fun g hg e => by have := own_ge hown g hg; simp only at e; omega)
      clear hN hL hL1 hK hK1 hK4 hb1
      go_wp2_with (first
        | (refine ldB rfl _ _ rfl K4s rfl Tryz.underlying26 rfl cc50_size ?_)
        | (refine stB (ty := 26) (cells := cmA op k A1 L.length q1) rfl _ _ rfl K8s rfl rfl cc50_size rfl (by simp [Value.oneCell']) ?_; intro w' hK' hg' _))
      refine bodyPost_ret (res_cell_tmp rfl hK' rfl Tryz.underlying26 rfl cc50_size) rfl ?_
      exact ⟨_, by rw [HC.out.1]; rfl, by rw [HC.out.2]; exact ⟨A1, q1, rfl, own_base (own_gb50 hos hg' (fun b hb e => by have := own_ge hown b hb; injection e with e; omega)) (by omega)⟩, below_of_gb hbs hg' (by omega) hbs.size⟩
  · have HC : Hid (madeC (bl f) n ws = 12 ∧ madeO (bl f) n ws = none) := by
      show _ ∧ _
      unfold madeC madeO
      rw [if_neg hn, if_neg hn]
      exact ⟨rfl, rfl⟩
    have hb : (((ws.length : Nat) : Int) != n) = true := by simpa using hn
    clear hn
    go_enter Tryz.func30, Tryz.ntmps30
    go_wp2_with (refine stB (ty := 26) (cells := cm0) rfl _ _ rfl hK rfl rfl cc50_size rfl (by simp [Value.oneCell']) ?_; intro w' hK' hg' _)
    refine bodyPost_ret (res_cell_tmp rfl hK' rfl Tryz.underlying26 rfl cc50_size) rfl ?_
    exact ⟨cm0, by rw [HC.out.1]; rfl, by rw [HC.out.2]; rfl, below_of_gb hL.bel hg' (by omega) hL.bel.size⟩
end Go.Proofs.YtgohbkkeppknoaaGreatDoor
end
section
set_option linter.unusedVariables false
namespace Go.Proofs.YtgohbkkeppknoaaGreatDoor
open Go.RowKit
def formL (k : Int) : List UInt8 := if k = 1 then List.replicate 6 112 else if k = 2 then List.replicate 9 112 else if k = 3 then [112, 112, 119, 112, 112, 112, 112] else if k = 4 then [119, 119, 119, 119] else if k = 5 then [112, 112, 119, 119] else if k = 6 then [119, 119, 119] else []
set_option maxRecDepth 100000 in
set_option maxHeartbeats 4000000 in
theorem rform_any (k : Int) (hk : 1 ≤ k ∧ k ≤ 6) (w : World) : Calls Tryz.prog 38 #[.int .i64 k] w fun e w' => e = .returned (strV (formL k)) ∧ Below w.heap.size w w' := by
  rcases (show k = 1 ∨ k = 2 ∨ k = 3 ∨ k = 4 ∨ k = 5 ∨ k = 6 by omega) with rfl | rfl | rfl | rfl | rfl | rfl
  all_goals
    go_enter Tryz.func38, Tryz.ntmps38
    go_wp2
    go_returns
    exact ⟨rfl, by first | exact (Below.refl _ _).alloc (Nat.le_refl _) _ | exact Below.refl _ _ | go_grown⟩
def cntL (k : Int) : Int := if k = 1 then 6 else if k = 2 then 9 else if k = 3 then 7 else if k = 5 then 4 else if k = 6 then 3 else 0
set_option maxRecDepth 100000 in
set_option maxHeartbeats 4000000 in
theorem rcount_k (k : Int) (hk : 1 ≤ k ∧ k ≤ 6) (w : World) : Calls Tryz.prog 37 #[.int .i64 k] w fun e w' => e = .returned (.int .i64 (cntL k)) ∧ Below w.heap.size w w' := by
  rcases (show k = 1 ∨ k = 2 ∨ k = 3 ∨ k = 4 ∨ k = 5 ∨ k = 6 by omega) with rfl | rfl | rfl | rfl | rfl | rfl
  all_goals
    go_enter Tryz.func37, Tryz.ntmps37
    go_wp2
    go_returns
    exact ⟨rfl, by first | exact (Below.refl _ _).alloc (Nat.le_refl _) _ | exact Below.refl _ _ | go_grown⟩
end Go.Proofs.YtgohbkkeppknoaaGreatDoor
end
section
set_option linter.unusedVariables false
namespace Go.Proofs.YtgohbkkeppknoaaGreatDoor
open Go.RowKit
def nm24 (k : Int) : List UInt8 := if k = 1 then [97, 102, 102, 105, 110, 101] else if k = 2 then [104, 111, 109, 111, 103] else if k = 3 then [108, 101, 110, 115] else if k = 4 then [109, 101, 115, 104] else if k = 5 then [115, 104, 101, 97, 114] else if k = 6 then [116, 117, 114, 110] else []
set_option maxRecDepth 100000 in
set_option maxHeartbeats 4000000 in
theorem rname24 (k : Int) (w : World) : Calls Tryz.prog 36 #[.int .i64 k] w fun e w' => e = .returned (strV (nm24 k)) ∧ Below w.heap.size w w' := by
  by_cases hk : 1 ≤ k ∧ k ≤ 6
  · rcases (show k = 1 ∨ k = 2 ∨ k = 3 ∨ k = 4 ∨ k = 5 ∨ k = 6 by omega) with rfl | rfl | rfl | rfl | rfl | rfl
    all_goals
      go_enter Tryz.func36, Tryz.ntmps36
      go_wp2
      go_returns
      exact ⟨rfl, by first | exact (Below.refl _ _).alloc (Nat.le_refl _) _ | exact Below.refl _ _ | go_grown⟩
  · have HN : Hid (nm24 k = []) := by
      show _ = _
      unfold nm24
      rw [if_neg (by omega), if_neg (by omega), if_neg (by omega), if_neg (by omega), if_neg (by omega), if_neg (by omega)]
    rcases (show k < 1 ∨ (1 ≤ k ∧ 6 < k) by omega) with h | ⟨h, h2⟩
    all_goals
      clear hk
      go_enter Tryz.func36, Tryz.ntmps36
      go_wp2
      go_returns
      exact ⟨by rw [HN.out]; rfl, by first | exact Below.refl _ _ | go_grown⟩
def nm33 (k : Int) : List UInt8 := if k = 0 then [110, 101, 97, 114] else if k = 1 then [108, 105, 110, 101, 97, 114] else if k = 2 then [99, 117, 98, 105, 99] else if k = 3 then [115, 117, 112, 101, 114] else []
set_option maxRecDepth 100000 in
set_option maxHeartbeats 4000000 in
theorem rname33 (k : Int) (w : World) : Calls Tryz.prog 77 #[.int .i64 k] w fun e w' => e = .returned (strV (nm33 k)) ∧ Below w.heap.size w w' := by
  by_cases hk : 0 ≤ k ∧ k ≤ 3
  · rcases (show k = 0 ∨ k = 1 ∨ k = 2 ∨ k = 3 by omega) with rfl | rfl | rfl | rfl
    all_goals
      go_enter Tryz.func77, Tryz.ntmps77
      go_wp2
      go_returns
      exact ⟨rfl, by first | exact (Below.refl _ _).alloc (Nat.le_refl _) _ | exact Below.refl _ _ | go_grown⟩
  · have HN : Hid (nm33 k = []) := by
      show _ = _
      unfold nm33
      rw [if_neg (by omega), if_neg (by omega), if_neg (by omega), if_neg (by omega)]
    rcases (show k < 0 ∨ (0 ≤ k ∧ 3 < k) by omega) with h | ⟨h, h2⟩
    all_goals
      clear hk
      go_enter Tryz.func77, Tryz.ntmps77
      go_wp2
      go_returns
      exact ⟨by rw [HN.out]; rfl, by first | exact Below.refl _ _ | go_grown⟩
def nm10 (k : Int) : List UInt8 := if k = 0 then [115, 116, 114, 97, 105, 103, 104, 116] else if k = 1 then [98, 97, 99, 107] else if k = 2 then [99, 111, 108, 117, 109, 110, 115] else if k = 3 then [115, 110, 97, 107, 101] else if k = 4 then [115, 112, 105, 114, 97, 108] else if k = 5 then [109, 105, 120, 101, 100] else []
set_option maxRecDepth 100000 in
set_option maxHeartbeats 4000000 in
theorem rname10 (k : Int) (w : World) : Calls Tryz.prog 78 #[.int .i64 k] w fun e w' => e = .returned (strV (nm10 k)) ∧ Below w.heap.size w w' := by
  by_cases hk : 0 ≤ k ∧ k ≤ 5
  · rcases (show k = 0 ∨ k = 1 ∨ k = 2 ∨ k = 3 ∨ k = 4 ∨ k = 5 by omega) with rfl | rfl | rfl | rfl | rfl | rfl
    all_goals
      go_enter Tryz.func78, Tryz.ntmps78
      go_wp2
      go_returns
      exact ⟨rfl, by first | exact (Below.refl _ _).alloc (Nat.le_refl _) _ | exact Below.refl _ _ | go_grown⟩
  · have HN : Hid (nm10 k = []) := by
      show _ = _
      unfold nm10
      rw [if_neg (by omega), if_neg (by omega), if_neg (by omega), if_neg (by omega), if_neg (by omega), if_neg (by omega)]
    rcases (show k < 0 ∨ (0 ≤ k ∧ 5 < k) by omega) with h | ⟨h, h2⟩
    all_goals
      clear hk
      go_enter Tryz.func78, Tryz.ntmps78
      go_wp2
      go_returns
      exact ⟨by rw [HN.out]; rfl, by first | exact Below.refl _ _ | go_grown⟩
def nm17 (k : Int) : List UInt8 := if k = 1 then [112, 103, 109] else if k = 2 then [112, 112, 109] else if k = 3 then [98, 109, 112, 50, 52] else if k = 4 then [98, 109, 112, 51, 50] else []
set_option maxRecDepth 100000 in
set_option maxHeartbeats 4000000 in
theorem rname17 (k : Int) (w : World) : Calls Tryz.prog 79 #[.int .i64 k] w fun e w' => e = .returned (strV (nm17 k)) ∧ Below w.heap.size w w' := by
  by_cases hk : 1 ≤ k ∧ k ≤ 4
  · rcases (show k = 1 ∨ k = 2 ∨ k = 3 ∨ k = 4 by omega) with rfl | rfl | rfl | rfl
    all_goals
      go_enter Tryz.func79, Tryz.ntmps79
      go_wp2
      go_returns
      exact ⟨rfl, by first | exact (Below.refl _ _).alloc (Nat.le_refl _) _ | exact Below.refl _ _ | go_grown⟩
  · have HN : Hid (nm17 k = []) := by
      show _ = _
      unfold nm17
      rw [if_neg (by omega), if_neg (by omega), if_neg (by omega), if_neg (by omega)]
    rcases (show k < 1 ∨ (1 ≤ k ∧ 4 < k) by omega) with h | ⟨h, h2⟩
    all_goals
      clear hk
      go_enter Tryz.func79, Tryz.ntmps79
      go_wp2
      go_returns
      exact ⟨by rw [HN.out]; rfl, by first | exact Below.refl _ _ | go_grown⟩
end Go.Proofs.YtgohbkkeppknoaaGreatDoor
end
section
set_option linter.unusedVariables false
namespace Go.Proofs.YtgohbkkeppknoaaGreatDoor
open Go.RowKit
/-- The first place of s among ws, or -1. -/
def idxS : List ByteArray → ByteArray → Int
  | [], _ => -1
  | b :: r, s => if bl s = bl b then 0 else if idxS r s < 0 then -1 else idxS r s + 1
theorem idxS_ge : ∀ (ws : List ByteArray) (s : ByteArray), -1 ≤ idxS ws s
  | [], _ => by simp [idxS]
  | b :: r, s => by
    have := idxS_ge r s
    unfold idxS
    split
    · omega
    · split <;> omega
theorem idxS_hit : ∀ (ws : List ByteArray) (s : ByteArray) (k : Nat) (h : k < ws.length), (∀ j (hj : j < k), bl s ≠ bl (ws[j]'(by omega))) → bl s = bl ws[k] → idxS ws s = k
  | b :: r, s, 0, h, h1, h2 => by unfold idxS; rw [if_pos (show bl s = bl b from h2)]; rfl
  | b :: r, s, k + 1, h, h1, h2 => by
    have h0 : bl s ≠ bl b := h1 0 (by omega)
    have ih := idxS_hit r s k (by simpa using h) (fun j hj => h1 (j + 1) (by omega)) h2
    unfold idxS
    rw [if_neg h0, ih, if_neg (by omega)]
    omega
theorem idxS_no : ∀ (ws : List ByteArray) (s : ByteArray), (∀ j (hj : j < ws.length), bl s ≠ bl ws[j]) → idxS ws s = -1
  | [], s, _ => rfl
  | b :: r, s, h1 => by
    have h0 : bl s ≠ bl b := h1 0 (by simp)
    have ih := idxS_no r s (fun j hj => h1 (j + 1) (by simpa using hj))
    unfold idxS
    rw [if_neg h0, ih, if_pos (by omega)]
theorem str_eqD (a b : ByteArray) : (a.toList == b.toList) = decide (bl a = bl b) := by
  rw [ByteArray.toList_eq, ByteArray.toList_eq, Bool.eq_iff_iff]
  simp [bl]
end Go.Proofs.YtgohbkkeppknoaaGreatDoor
end
