/- Images of one's own, in a row of one's own; what is wrong with several. -/
import Derived.Test.YtahiaeaobbofbaaGreatSS2
import Derived.Deep.QuietTactic
import Derived.BigQuiet
set_option linter.unusedVariables false
namespace Go.Proofs.YtahiaeaobbofbaaGreat
open Go.RowKit
def imsC (C0 : Int) : List Im → Int
  | [] => 0
  | m :: r => if checkC m.W m.H m.C m.px.length ≠ 0 then checkC m.W m.H m.C m.px.length else if m.C ≠ C0 then 10 else imsC C0 r
def imagesC : List Im → Int
  | [] => 60
  | m :: r => imsC m.C (m :: r)
def im0 (ims : List Im) : Im := ims.headD ⟨0, 0, 0, []⟩
theorem imagesC_eq {ims : List Im} (h : ims ≠ []) : imagesC ims = imsC (im0 ims).C ims := by
  cases ims with
  | nil => exact absurd rfl h
  | cons m r => rfl
theorem imsC_step {C0 : Int} {ims : List Im} {k : Nat} (hk : k < ims.length) : imsC C0 (ims.drop k) = if checkC ims[k].W ims[k].H ims[k].C ims[k].px.length ≠ 0 then checkC ims[k].W ims[k].H ims[k].C ims[k].px.length else if ims[k].C ≠ C0 then 10 else imsC C0 (ims.drop (k + 1)) := by
  rw [List.drop_eq_getElem_cons hk]; rfl
/-- Right images are told so one by one. -/
theorem imsC_all {C0 : Int} : ∀ {ims : List Im}, imsC C0 ims = 0 → ∀ m ∈ ims, checkC m.W m.H m.C m.px.length = 0 ∧ m.C = C0
  | [], _, m, hm => by cases hm
  | a :: r, h, m, hm => by
    unfold imsC at h
    split at h
    · exact absurd h ‹_›
    · rename_i h1
      split at h
      · cases h
      · rename_i h2
        rcases List.mem_cons.1 hm with rfl | hm
        · exact ⟨by omega, by omega⟩
        · exact imsC_all h m hm
theorem own_gbr {w w' : World} {base : Nat} {e : TypeId} {size n : Nat} {v : Value} {xs : List Value} {row : Option Nat} (h : w.ownsRow base e size v n xs) (hg : w.grownBy w' row) (hne : ∀ b, v.ownBlock = some b → some b ≠ row) : w'.ownsRow base e size v n xs := by
  refine ⟨h.1, ?_⟩
  rcases h.2 with h2 | ⟨g, cap, cur, hv, hg2, hh, r⟩
  · exact .inl h2
  · exact .inr ⟨g, cap, cur, hv, hg2, by rw [hg.block g (Bk.lt hh) (hne g (by rw [hv]; rfl))]; exact hh, r⟩
/-- app1, the owner first. -/
theorem app1o {P : Program} {ops : Array Oper} {rest : List Oper} {o : Oper} {a : Act} {Q : Exit → Act → World → Prop} (hgd : o.guard = none) (s x : Operand) (t : TypeId)
    (ho : o.op = .call { callee := .builtin .append, args := #[s, x], argTypes := #[t, t] })
    {e : TypeId} {z : Value} {size bytes : Nat} (ht : P.underlying t = some (.slice e)) (hi : (P.info? e).map (fun i => (i.zero, i.size, i.bytes)) = some (some z, size, bytes)) (hzs : z.cells.size = size) (hsz : 0 < size)
    {w W : World} {B base n : Nat} {v : Value} {xs : List Value} {cs : Array Value} (hown : w.ownsRow base e size v n xs) (hs : a.eval s = v) (hx : a.eval x = .slice (some ⟨w.heap.size, 0, none⟩) 1 1)
    (hbel : Below B W w) (hB : B ≤ base) (hbase : base ≤ w.heap.size) (hcs : cs.size = size) (h1 : ∀ u ∈ cs.toList, u.oneCell' = true)
    (hbytes : (n + 1) * bytes ≤ 140737488355328) (h63 : n + 1 ≤ 9223372036854775807)
    (h : ∀ v' w', w'.ownsRow base e size v' (n + 1) (xs ++ cs.toList) → Below B W w' → w.heap.size < w'.heap.size → w.grownBy w' v.ownBlock → (v'.ownBlock = v.ownBlock ∨ v'.ownBlock = some (w.heap.size + 1)) → wpList P ops Q rest (a.put o.dst v') w') :
    wpList P ops Q (o :: rest) a (w.alloc (.cells cs e)) := app1 hgd s x t ho ht hi hzs hsz hs hx hown hbel hB hbase hcs h1 hbytes h63 h
/-- Own rows of unlike types lie in unlike blocks. -/
theorem own_ne {w : World} {b1 b2 s1 s2 n1 n2 : Nat} {e1 e2 : TypeId} {v1 v2 : Value} {xs1 xs2 : List Value} (h1 : w.ownsRow b1 e1 s1 v1 n1 xs1) (h2 : w.ownsRow b2 e2 s2 v2 n2 xs2) (hne : e1 ≠ e2) : ∀ b, v1.ownBlock = some b → some b ≠ v2.ownBlock := by
  intro b hb e
  rcases h1.2 with ⟨e0, _⟩ | ⟨g, cap, cur, hv, _, hh, _⟩
  · rw [e0] at hb; cases hb
  · rw [hv] at hb
    have hg : g = b := by simpa [Value.ownBlock] using hb
    subst hg
    exact Bk.ne_own (show Bk w g e1 cur from hh) h2 hne g e.symm rfl
/-- cs are the cells of an image with bytes of its own. -/
def ImOwn (w : World) (lo : Nat) (cs : List Value) (m : Im) : Prop := ∃ s : Value, cs = [.int .i64 m.W, .int .i64 m.H, .int .i64 m.C, s] ∧ w.ownsRow lo 5 1 s m.px.length (m.px.map (Value.int .u8))
/-- v is a row of one's own of images with bytes of their own. -/
def ImsOwn (w : World) (lo : Nat) (v : Value) (ims : List Im) : Prop := ∃ xs : List (List Value), w.ownsRow lo 44 4 v ims.length xs.flatten ∧ xs.length = ims.length ∧ ∀ (i : Nat) (h : i < ims.length) (h' : i < xs.length), ImOwn w lo xs[i] ims[i]
section
variable {w w' : World} {lo : Nat} {v : Value} {ims : List Im} {m : Im} {cs : List Value}
theorem ImsOwn.nx (h : ImsOwn w lo v ims) (hb : Below w.heap.size w w') : ImsOwn w' lo v ims := by
  obtain ⟨xs, h1, h2, h3⟩ := h
  exact ⟨xs, own_below h1 hb (Nat.le_refl _), h2, fun i a b => by obtain ⟨s, e, ho⟩ := h3 i a b; exact ⟨s, e, own_below ho hb (Nat.le_refl _)⟩⟩
theorem ImsOwn.nil (w : World) (lo : Nat) : ImsOwn w lo (.slice none 0 0) [] := ⟨[], World.ownsRow_nil _ _ _ _, rfl, fun i h _ => absurd h (by simp)⟩
theorem ImOwn.at (h : ImOwn w lo cs m) : ImAt w lo cs m := by
  obtain ⟨s, e, ho⟩ := h
  obtain ⟨A, c, rfl, hc, _⟩ := own_form ho
  exact ⟨A, c, e, hc, RdL.of_own ho⟩
theorem ImsOwn.form (h : ImsOwn w lo v ims) : ∃ A c, v = .slice A ims.length c ∧ ims.length ≤ c ∧ c ≤ maxLen ∧ ImsAt w lo A ims := by
  obtain ⟨xs, h1, h2, h3⟩ := h
  obtain ⟨A, c, rfl, hc, hm, _⟩ := own_form h1
  exact ⟨A, c, rfl, hc, hm, xs, RdL.of_own h1, h2, fun i a b => (h3 i a b).at⟩
/-- One more. -/
theorem ImsOwn.snoc {v' s : Value} {xs : List (List Value)} (h1 : w.ownsRow lo 44 4 v ims.length xs.flatten) (h2 : xs.length = ims.length) (h3 : ∀ (i : Nat) (h : i < ims.length) (h' : i < xs.length), ImOwn w lo xs[i] ims[i])
    (ho : w.ownsRow lo 5 1 s m.px.length (m.px.map (Value.int .u8))) (hg : w.grownBy w' v.ownBlock)
    (hv : w'.ownsRow lo 44 4 v' (ims.length + 1) (xs.flatten ++ [.int .i64 m.W, .int .i64 m.H, .int .i64 m.C, s])) : ImsOwn w' lo v' (ims ++ [m]) := by
  refine ⟨xs ++ [[.int .i64 m.W, .int .i64 m.H, .int .i64 m.C, s]], ?_, by simp [h2], ?_⟩
  · simpa using hv
  · intro i hi hi'
    by_cases hlt : i < ims.length
    · obtain ⟨s', e, ho'⟩ := h3 i hlt (by omega)
      refine ⟨s', ?_, ?_⟩
      · rw [List.getElem_append_left (by omega), List.getElem_append_left hlt]; exact e
      · rw [List.getElem_append_left hlt]
        exact own_gbr ho' hg (own_ne ho' h1 (by decide))
    · have hil : i = ims.length := by simp at hi; omega
      subst hil
      refine ⟨s, ?_, ?_⟩
      · rw [List.getElem_append_right (by omega), List.getElem_append_right (Nat.le_refl _)]; simp [h2]
      · rw [List.getElem_append_right (Nat.le_refl _)]; simp
        exact own_gbr ho hg (own_ne ho h1 (by decide))
end
end Go.Proofs.YtahiaeaobbofbaaGreat
