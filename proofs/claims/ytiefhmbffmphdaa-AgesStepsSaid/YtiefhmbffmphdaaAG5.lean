/- A row of things: Push. -/
import Derived.Test.YtiefhmbffmphdaaAG4
set_option linter.unusedVariables false
namespace Go.Proofs.Ytiefhmbffmphdaa
open Go.RowKit
theorem pt_info : (Try.prog.info? 45).map (fun i => (i.zero, i.size, i.bytes)) = some (some (.pointer none), 1, 8) := by kernel_rfl
theorem ptrs_snoc (a : Nat → Nat) (n q : Nat) : ptrs a n ++ (#[.pointer (some ⟨q, 0, none⟩)] : Array Value).toList = ptrs (fun j => if j = n then q else a j) (n + 1) := by
  unfold ptrs
  rw [List.range_succ, List.map_append]
  congr 1
  · apply List.map_congr_left
    intro j hj
    have := List.mem_range.1 hj
    show _ = Value.pointer (some ⟨if j = n then q else a j, 0, none⟩)
    rw [if_neg (by omega)]
  · simp
/-- app1, the owner first. -/
theorem app1o {P : Program} {ops : Array Oper} {rest : List Oper} {o : Oper} {a : Act} {Q : Exit → Act → World → Prop} (hgd : o.guard = none) (s x : Operand) (t : TypeId)
    (ho : o.op = .call { callee := .builtin .append, args := #[s, x], argTypes := #[t, t] })
    {e : TypeId} {z : Value} {size bytes : Nat} (ht : P.underlying t = some (.slice e)) (hi : (P.info? e).map (fun i => (i.zero, i.size, i.bytes)) = some (some z, size, bytes)) (hzs : z.cells.size = size) (hsz : 0 < size)
    {w W : World} {B base n : Nat} {v : Value} {xs : List Value} {cs : Array Value} (hown : w.ownsRow base e size v n xs) (hs : a.eval s = v) (hx : a.eval x = .slice (some ⟨w.heap.size, 0, none⟩) 1 1)
    (hbel : Below B W w) (hB : B ≤ base) (hbase : base ≤ w.heap.size) (hcs : cs.size = size) (h1 : ∀ u ∈ cs.toList, u.oneCell' = true)
    (hbytes : (n + 1) * bytes ≤ 140737488355328) (h63 : n + 1 ≤ 9223372036854775807)
    (h : ∀ v' w', w'.ownsRow base e size v' (n + 1) (xs ++ cs.toList) → Below B W w' → w.heap.size < w'.heap.size → w.grownBy w' v.ownBlock → (v'.ownBlock = v.ownBlock ∨ v'.ownBlock = some (w.heap.size + 1)) → wpList P ops Q rest (a.put o.dst v') w') :
    wpList P ops Q (o :: rest) a (w.alloc (.cells cs e)) := app1 hgd s x t ho ht hi hzs hsz hs hx hown hbel hB hbase hcs h1 hbytes h63 h
set_option maxRecDepth 100000 in
set_option maxHeartbeats 8000000 in
theorem rpush_any {F : Nat → Prop} {w : World} {g : Nat} {A : Option Addr} {n c : Nat} {mv : Value} {now : Int} {a : Nat → Nat} {K W : Nat → Int} (h : Hw F w g A n c mv now a K W) (q : Nat) (z : Int) (hq : Bk w q 48 #[.int .i64 (K q), .int .i64 (W q), .int .i64 z]) (hqn : ∀ j, j < n → a j ≠ q) (hn : n ≤ 1000000) :
    Calls Try.prog 67 #[.pointer (some ⟨g, 0, none⟩), .iface 45 (.pointer (some ⟨q, 0, none⟩))] w fun e w' => e = .returned (.tuple #[]) ∧ ∃ A' c' F', Hw F' w' g A' (n + 1) c' mv now (fun j => if j = n then q else a j) K W ∧ (∀ i, F' i → F i ∨ i = q ∨ w.heap.size ≤ i) ∧ Only (fun i => F i ∨ i = q) w w' := by
  have HH := Lib.hid h
  obtain ⟨c0, c1, c2⟩ := h.hg.cell3
  obtain ⟨d0, d1, d2⟩ := hq.cell3
  have f2 := hq.frozen 2
  have hgq : g ≠ q := fun e => by have h1 := h.hg; rw [e] at h1; exact absurd (bk_type h1 hq) (by decide)
  have hta : ∀ w', (Instr.typeAssert (.iface 45 (.pointer (some ⟨q, 0, none⟩))) 20 45 true).run Try.prog w' = .ok (.tuple #[.pointer (some ⟨q, 0, none⟩), .bool true]) w' := fun w' => by kernel_rfl
  go_enter Try.func67, Try.ntmps67
  go_upto_region 3 with fail
  have hrq : ∀ b, (Value.slice A n c).ownBlock = some b → b ≠ q ∧ b ≠ g := fun b hb => by
    rcases h.row.2 with ⟨e, _⟩ | ⟨r, cap, cur, e, _, hh, _⟩
    · rw [e] at hb; cases hb
    · rw [e] at hb; injection hb with hb; subst hb
      exact ⟨fun e => by rw [show r = q from e] at hh; exact absurd (bk_type hq hh) (by decide), fun e => by rw [show r = g from e] at hh; exact absurd (bk_type h.hg hh) (by decide)⟩
  have ho1 : (w.setCell ⟨q, 2, none⟩ (.int .i64 (n : Nat))).ownsRow 0 45 1 (.slice A n c) n (ptrs a n) := own_far h.row _ _ (fun b hb => (hrq b hb).1)
  have k1 : Bk (w.setCell ⟨q, 2, none⟩ (.int .i64 (n : Nat))) q 48 #[.int .i64 (K q), .int .i64 (W q), .int .i64 (n : Nat)] := hq.set 2 _
  have kg1 : Bk (w.setCell ⟨q, 2, none⟩ (.int .i64 (n : Nat))) g 29 #[.slice A n c, mv, .int .i64 now] := h.hg.far (by simpa using hgq) _
  have hth1 : ∀ j, j < n → Bk (w.setCell ⟨q, 2, none⟩ (.int .i64 (n : Nat))) (a j) 48 #[.int .i64 (K (a j)), .int .i64 (W (a j)), .int .i64 (j : Nat)] := fun j hj => (h.th j hj).far (by simpa using hqn j hj) _
  have hO1 : Only (fun i => F i ∨ i = q) w (w.setCell ⟨q, 2, none⟩ (.int .i64 (n : Nat))) := only_gb (gb_set1 w ⟨q, 2, none⟩ _) (.inr rfl)
  have hs1 : (w.setCell ⟨q, 2, none⟩ (.int .i64 (n : Nat))).heap.size = w.heap.size := by simp [World.setCell]
  clear c0 c1 c2 d0 d1 d2 f2 hta hq h
  generalize w.setCell ⟨q, 2, none⟩ (.int .i64 (n : Nat)) = w1 at *
  have HS1 := Lib.hid hs1
  clear hs1
  obtain ⟨c0, c1, c2⟩ := kg1.cell3
  have hlg := kg1.lt
  go_wp2_with (at_builtin; go_loud (refine app1o rfl _ _ _ rfl Try.underlying26 pt_info rfl (by omega) ho1 rfl rfl (Below.refl 0 w1) (Nat.le_refl _) (Nat.zero_le _) rfl (by simp [Value.oneCell']) (by omega) (by omega) ?_); intro v' w5 ho5 hb5 hs5 hg5 hn5; have kg5 : Bk w5 g 29 #[.slice A n c, mv, .int .i64 now] := (hg5.block g hlg (fun e => (hrq g e.symm).2 rfl)).trans kg1; obtain ⟨e0, e1, e2⟩ := kg5.cell3; have fg := kg5.frozen 0; obtain ⟨A', c', rfl, hc1, hc2, _⟩ := own_form ho5)
  go_end0
  have hw5 := hs5
  have hvl := ho1.lt
  have hsz := HS1.out
  rw [ptrs_snoc] at ho5
  have hv5 := ho5.lt
  have hng : ∀ b, (Value.slice A' (n + 1) c').ownBlock = some b → b ≠ g := fun b hb e => by
    rcases hn5 with e5 | e5
    · rw [hb] at e5; exact (hrq b e5.symm).2 e
    · rw [hb] at e5; injection e5 with e5; omega
  have hg6 : (w5.setCell ⟨g, 0, none⟩ (.slice A' (n + 1) c')).heap.size = w5.heap.size := by simp [World.setCell]
  have hkq : ∀ b cs, Bk w1 b 48 cs → Bk (w5.setCell ⟨g, 0, none⟩ (.slice A' (n + 1) c')) b 48 cs := fun b cs hb => by
    have hb5' : Bk w5 b 48 cs := (hg5.block b hb.lt (fun e => by
      rcases ho1.2 with ⟨e1, _⟩ | ⟨r, cap, cur, e1, _, hh, _⟩
      · rw [e1] at e; cases e
      · rw [e1] at e; injection e with e; rw [show b = r from e] at hb; exact absurd (bk_type hb hh) (by decide))).trans hb
    exact hb5'.far (by simp; intro e; rw [e] at hb5'; exact absurd (bk_type hb5' kg5) (by decide)) _
  refine ⟨rfl, A', c', fun i => F i ∨ i = q ∨ w.heap.size ≤ i, ⟨kg5.set 0 _, own_far ho5 _ _ (fun b hb => hng b hb), ?_, ?_, .inl HH.out.fg, ?_, ?_⟩, fun i h => h, ?_⟩
  · intro j hj
    by_cases e : j = n
    · show Bk _ (if j = n then q else a j) _ _
      rw [if_pos e, e]; exact hkq q _ k1
    · show Bk _ (if j = n then q else a j) _ _
      rw [if_neg e]; exact hkq (a j) _ (hth1 j (by omega))
  · intro i j hi hj e
    have e' : (if i = n then q else a i) = (if j = n then q else a j) := e
    split at e' <;> split at e'
    · omega
    · exact absurd e'.symm (hqn j (by omega))
    · exact absurd e' (hqn i (by omega))
    · exact HH.out.inj i j (by omega) (by omega) e'
  · intro b hb
    rcases hn5 with e5 | e5
    · rw [hb] at e5; exact .inl (HH.out.fr b e5.symm)
    · rw [hb] at e5; injection e5 with e5; exact .inr (.inr (by omega))
  · intro j hj
    show F (if j = n then q else a j) ∨ _
    split
    · exact .inr (.inl rfl)
    · exact .inl (HH.out.ft j (by omega))
  · have hO5 : Only (fun i => F i ∨ i = q) w1 w5 := ⟨hb5, fun i hi hF => hg5.block i hi (fun e => hF (.inl (HH.out.fr i e.symm)))⟩
    exact (hO1.trans hO5 (fun i h => .inl h)).trans (only_gb (gb_set1 w5 ⟨g, 0, none⟩ _) (.inl HH.out.fg)) (fun i h => .inl h)
end Go.Proofs.Ytiefhmbffmphdaa
