/- ages: All. -/
import Derived.Test.YtiefhmbffmphdaaAG23
import Derived.Test.YtiefhmbffmphdaaAG25
set_option linter.unusedVariables false
namespace Go.Proofs.Ytiefhmbffmphdaa
open Go.RowKit
theorem ptrs_map (a : Nat → Nat) (n : Nat) : ptrs a n = ((List.range n).map a).map fun b => Value.pointer (some ⟨b, 0, none⟩) := by
  unfold ptrs; rw [List.map_map]; rfl
theorem clone_all {F : Nat → Prop} {w : World} {g : Nat} {A : Option Addr} {n c : Nat} {mv : Value} {now : Int} {a : Nat → Nat} {K W : Nat → Int} (h : Hw F w g A n c mv now a K W) (hn : n ≤ 1000000) :
    Calls Try.prog 22 #[.slice A n c] w fun e w' => ∃ v, e = .returned v ∧ w'.ownsRow w.heap.size 45 1 v n (ptrs a n) ∧ Below w.heap.size w w' := by
  rcases h.row.2 with ⟨e0, e1⟩ | ⟨r, cap, cur, e, _⟩
  · injection e0 with h1 h2 h3
    subst h1 h2 h3
    refine (clone_nil w).mono ?_
    rintro e w' ⟨rfl, rfl⟩
    exact ⟨_, rfl, World.ownsRow_nil _ _ _ _, Below.refl _ _⟩
  · injection e with e1 e2 e3
    subst e1 e3
    rw [ptrs_map]
    exact clone_th _ r 0 n _ w (by simp) hn (by rw [← ptrs_map]; exact Rd.of_own h.row) (Nat.le_refl _)
set_option maxRecDepth 100000 in
set_option maxHeartbeats 8000000 in
theorem all_walk {F : Nat → Prop} {w : World} {g : Nat} {A : Option Addr} {n c : Nat} {mv : Value} {now : Int} {a : Nat → Nat} {K W : Nat → Int} {s : List Nat} (h : Hw F w g A n c mv now a K W) (hS : AgS K W now a n s) (hn : n ≤ 1000000) :
    Calls Try.prog 15 #[.pointer (some ⟨g, 0, none⟩)] w (OwnI (s.map K) w) := by
  have hC := clone_all h hn
  have HH := Lib.hid h
  have hgl := h.hg.lt
  obtain ⟨c0, c1, c2⟩ := h.hg.cell3
  clear c1 c2 h
  go_enter Try.func15, Try.ntmps15
  go_upto_region 4 with (go_at_call 22; (with_reducible refine hC.mono ?_); rintro e w1 ⟨v1, rfl, hown1, hbel1⟩)
  have hbw1 := hbel1.size
  have hSo := sort_th (w := w1) (v := v1) (a := a) (K := K) (W := W) (fun j hj => (HH.out.th j hj).nx hbel1) (fun j hj => (HH.out.th j hj).lt) hbw1 hn hown1
  clear hC hown1 c0
  go_upto_region 5 with (go_at_call 23; (with_reducible refine hSo.mono ?_); rintro e w2 ⟨rfl, l, hlp, hls, hown2, hbel2⟩)
  have hl := ag_all hS hlp hls
  subst hl
  have hbel := hbel1.trans hbel2
  have HL := Lib.hid hS.len
  have hll : l.length ≤ n := Nat.le_of_eq hS.len
  have hll2 : n ≤ l.length := Nat.le_of_eq hS.len.symm
  have hth : ∀ k (hk : k < l.length), ∃ j, j < n ∧ a j = l[k] := fun k hk => (hS.mem _).1 (List.getElem_mem hk)
  obtain ⟨A2, cc, rfl, _, _, hrd, _⟩ := own_form hown2
  clear hSo hlp hls hown2 hS
  have hbw2 := hbel.size
  go_wp2_with fail
  go_loopw [4, 18] (fun v i wr => ∃ k : Nat, k ≤ n ∧ i = .int .i64 k ∧ wr.ownsRow w2.heap.size 3 1 v k ((l.take k).map fun b => Value.int .i64 (K b)) ∧ Below w2.heap.size w2 wr) (fun _ i _ => n - (intOf i).toNat)
  case atStart => exact ⟨0, by omega, rfl, by simpa using World.ownsRow_nil _ _ _ _, Below.refl _ _⟩
  case round =>
    obtain ⟨k, hk, rfl, hown, hbl⟩ := hrel
    by_cases hlt : k < n
    · have hk2 : k < l.length := by omega
      obtain ⟨b, o, rfl, hbb, hc0⟩ := (hrd.below hbl).get k (by simp [hk2])
      rw [List.getElem_map] at hc0
      obtain ⟨j, hj, hje⟩ := hth k hk2
      have hts : l.take (k + 1) = l.take k ++ [l[k]] := List.take_succ_eq_append_getElem hk2
      have HT := Lib.hid hts
      clear hts
      have kb : Bk wr (a j) 48 #[.int .i64 (K (a j)), .int .i64 (W (a j)), .int .i64 (j : Nat)] := (((HH.out.th j hj).nx hbel).nx hbl)
      rw [hje] at kb
      generalize l[k] = x at *
      obtain ⟨d0, d1, d2⟩ := kb.cell3
      have hbw := hbl.size
      clear hje kb d1 d2 hth
      go_wp2_with (at_builtin; refine app1 rfl _ _ _ rfl Try.underlying30 int_info rfl (by omega) rfl rfl hown hbl (Nat.le_refl _) hbw rfl (by simp [Value.oneCell']) (by omega) (by omega) ?_; intro v' w' hown' hbel' _ _ _; clear hown)
      refine ⟨⟨k + 1, by omega, by go_num, ?_, hbel'⟩, by simp [intOf]; omega⟩
      rw [HT.out, List.map_append]
      exact hown'
    · obtain rfl : k = n := by omega
      rw [List.take_of_length_le (by omega)] at hown
      go_wp2_with fail
      go_returns
      refine ⟨_, rfl, ?_, hbel.trans (hbl.mono hbw2)⟩
      rw [List.length_map, HL.out, List.map_map]
      exact own_base hown hbw2
end Go.Proofs.Ytiefhmbffmphdaa
