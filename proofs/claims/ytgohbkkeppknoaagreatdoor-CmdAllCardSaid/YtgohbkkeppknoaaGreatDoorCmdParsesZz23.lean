/- Several texts in one: Commands: slices.Index of texts. Commands: border's modes by name. Commands: orders by name. Commands: what words are, in plain Lean. -/
import Derived.Test.YtgohbkkeppknoaaGreatDoorCmdParsesZz22
section
set_option linter.unusedVariables false
namespace Go.Proofs.YtgohbkkeppknoaaGreatDoor
open Go.RowKit
set_option maxRecDepth 100000 in
set_option maxHeartbeats 8000000 in
theorem sidx_any (A : Option Addr) (c : Nat) (ws : List ByteArray) (s : ByteArray) (w : World) (hr : Rd w w.heap.size A (ws.map Value.string)) (hn : ws.length ≤ 1000000) : Calls Tryz.prog 117 #[.slice A ws.length c, .string s] w fun e w' => e = .returned (.int .i64 (idxS ws s)) ∧ w = w' := by
  go_enter Tryz.func117, Tryz.ntmps117
  go_wp2_with fail
  go_loopw [8] (fun iv wr => ∃ k : Nat, k ≤ ws.length ∧ iv = .int .i64 k ∧ Hid (∀ j (hj : j < k) (hw : j < ws.length), bl s ≠ bl ws[j]) ∧ w = wr) (fun iv _ => ws.length - (intOf iv).toNat)
  case atStart => exact ⟨0, by omega, rfl, fun j hj => absurd hj (by omega), rfl⟩
  case round =>
    obtain ⟨k, hk, rfl, hall, rfl⟩ := hrel
    by_cases hlt : k < ws.length
    · have hlt' : (k : Int) < (ws.length : Int) := by omega
      obtain ⟨bb, oo, rfl, hbw, hcc⟩ := hr k (by rw [List.length_map]; exact hlt)
      rw [List.getElem_map] at hcc
      have hcmp := str_eqD s ws[k]
      by_cases he : bl s = bl ws[k]
      · have HR := Lib.hid (idxS_hit ws s k hlt (fun j hj => hall.out j hj (by omega)) he)
        rw [decide_eq_true he] at hcmp
        clear he hall
        generalize ws[k] = S at *
        go_wp2_with fail
        go_returns
        exact ⟨by rw [HR.out]; rfl, rfl⟩
      · have HA : Hid (∀ j (hj : j < k + 1) (hw : j < ws.length), bl s ≠ bl ws[j]) := fun j hj hw => by
          rcases Nat.lt_or_ge j k with h | h
          · exact hall.out j h hw
          · obtain rfl : j = k := by omega
            exact he
        rw [decide_eq_false he] at hcmp
        clear he hall
        generalize ws[k] = S at *
        go_wp2_with fail
        exact ⟨⟨k + 1, by omega, by go_num, HA, trivial⟩, by simp [intOf]; omega⟩
    · obtain rfl : k = ws.length := by omega
      have HR := Lib.hid (idxS_no ws s (fun j hj => hall.out j hj hj))
      clear hall
      go_wp2_with fail
      go_returns
      exact ⟨by rw [HR.out]; rfl, rfl⟩
end Go.Proofs.YtgohbkkeppknoaaGreatDoor
end
section
set_option linter.unusedVariables false
namespace Go.Proofs.YtgohbkkeppknoaaGreatDoor
open Go.RowKit
theorem bk_rd50 {w : World} {g : Nat} {t : TypeId} {l : List Value} (h : Bk w g t l.toArray) : Rd w w.heap.size (some ⟨g, 0, none⟩) l := fun k hk => by
  refine ⟨g, 0, rfl, h.lt, ?_⟩
  rw [Nat.zero_add, h.cell]
  simp [hk]
def strB (l : List UInt8) : ByteArray := ⟨l.toArray⟩
def modeW : List ByteArray := [strB [99, 111, 110, 115, 116], strB [99, 108, 97, 109, 112], strB [119, 114, 97, 112], strB [109, 105, 114, 114, 111, 114]]
/-- A place as a kind: its number and whether there is one. -/
def kindV (i : Int) : Value := .tuple #[.int .i64 (max i 0), .bool (decide (0 ≤ i))]
theorem idx_cases (i : Int) (h : -1 ≤ i) : i = -1 ∨ 0 ≤ i := by omega
set_option maxRecDepth 100000 in
set_option maxHeartbeats 8000000 in
theorem cmode_any (s : ByteArray) (w : World) : Calls Tryz.prog 66 #[.string s] w fun e w' => e = .returned (kindV (idxS modeW s)) ∧ Below w.heap.size w w' := by
  have hb := (Below.refl w.heap.size w).alloc (Nat.le_refl _) (.cells (modeW.map Value.string).toArray 9)
  have hk : Bk _ w.heap.size 9 (modeW.map Value.string).toArray := Bk.new w 9 (modeW.map Value.string).toArray
  have hr : Rd (w.alloc (.cells (modeW.map Value.string).toArray 9)) (w.alloc (.cells (modeW.map Value.string).toArray 9)).heap.size (some ⟨w.heap.size, 0, none⟩) (modeW.map Value.string) := bk_rd50 (l := modeW.map Value.string) hk
  have hI := sidx_any (some ⟨w.heap.size, 0, none⟩) 4 modeW s _ hr (by simp [modeW])
  have hge := idxS_ge modeW s
  generalize idxS modeW s = i at *
  clear hr hk
  go_enter Tryz.func66, Tryz.ntmps66
  go_upto_region 2 with (go_at_call 117; refine Calls.mono (show Calls _ _ _ _ _ from hI) ?_; rintro e w1 ⟨rfl, rfl⟩)
  rcases idx_cases i hge with rfl | h0
  · go_wp2_with fail
    go_returns
    exact ⟨rfl, hb⟩
  · have h1 : max i 0 = i := by omega
    have HM : Hid (kindV i = .tuple #[.int .i64 i, .bool true]) := by show _ = _; unfold kindV; rw [h1, decide_eq_true h0]
    go_wp2_with fail
    go_returns
    exact ⟨by rw [HM.out]; rfl, hb⟩
end Go.Proofs.YtgohbkkeppknoaaGreatDoor
end
section
set_option linter.unusedVariables false
namespace Go.Proofs.YtgohbkkeppknoaaGreatDoor
open Go.RowKit
def permW : List ByteArray := [strB [115, 116, 114, 97, 105, 103, 104, 116], strB [98, 97, 99, 107], strB [99, 111, 108, 117, 109, 110, 115], strB [115, 110, 97, 107, 101], strB [115, 112, 105, 114, 97, 108], strB [109, 105, 120, 101, 100]]
abbrev permA : Array Value := (permW.map Value.string).toArray
theorem p6_size : (Tryz.prog.info? 166).map (·.size) = some 6 := by kernel_rfl
abbrev em6 : Array Value := Array.replicate 6 (.string ⟨#[]⟩)
set_option maxRecDepth 100000 in
set_option maxHeartbeats 8000000 in
theorem pnames_any (w : World) : Calls Tryz.prog 118 #[] w fun e w' => e = .returned (.agg permA) ∧ Below w.heap.size w w' := by
  have hL := (Lie.start w).alloc em6 166
  have hK : Bk _ w.heap.size 166 em6 := hL.k 0 (by simp)
  go_enter Tryz.func118, Tryz.ntmps118
  go_wp2_with (refine stB (ty := 166) (cells := permA) rfl _ _ rfl hK rfl rfl p6_size rfl (by simp [Value.oneCell', permA, permW]) ?_; intro w' hK' hg' _)
  refine bodyPost_ret (res_cell rfl hK' rfl Tryz.underlying166 rfl p6_size) rfl ?_
  exact ⟨rfl, below_of_gb hL.bel hg' (Nat.le_refl _) hL.bel.size⟩
set_option maxRecDepth 100000 in
set_option maxHeartbeats 8000000 in
theorem pkind_any (s : ByteArray) (w : World) : Calls Tryz.prog 67 #[.string s] w fun e w' => e = .returned (kindV (idxS permW s)) ∧ Below w.heap.size w w' := by
  have hN := pnames_any w
  have hge := idxS_ge permW s
  have hIx := fun (g : Nat) (w2 : World) (h : Rd w2 w2.heap.size (some ⟨g, 0, none⟩) (permW.map Value.string)) => sidx_any (some ⟨g, 0, none⟩) 6 permW s w2 h (by simp [permW])
  generalize idxS permW s = i at *
  go_enter Tryz.func67, Tryz.ntmps67
  go_upto_region 2 with (first
    | (go_at_call 118; (with_reducible refine hN.mono ?_); rintro e w1 ⟨rfl, hb1⟩; have hK1 := Bk.new w1 166 em6)
    | (refine stB (ty := 166) (cells := permA) rfl _ _ rfl hK1 rfl rfl p6_size rfl (by simp [Value.oneCell', permA, permW]) ?_; intro w2 hK2 hg2 hs2))
  have hb2 : Below w.heap.size w w2 := below_of_gb (hb1.alloc hb1.size _) hg2 hb1.size (hb1.alloc hb1.size _).size
  have hI := hIx w1.heap.size w2 (bk_rd50 hK2)
  clear hIx
  clear hN hb1 hK1 hg2 hs2 hK2
  rcases idx_cases i hge with rfl | h0
  · go_wp2_with (go_at_call 117; refine Calls.mono (show Calls _ _ _ _ _ from hI) ?_; rintro e w3 ⟨rfl, rfl⟩)
    go_returns
    exact ⟨rfl, hb2⟩
  · have h1 : max i 0 = i := by omega
    have HM : Hid (kindV i = .tuple #[.int .i64 i, .bool true]) := by show _ = _; unfold kindV; rw [h1, decide_eq_true h0]
    go_wp2_with (go_at_call 117; refine Calls.mono (show Calls _ _ _ _ _ from hI) ?_; rintro e w3 ⟨rfl, rfl⟩)
    go_returns
    exact ⟨by rw [HM.out]; rfl, hb2⟩
end Go.Proofs.YtgohbkkeppknoaaGreatDoor
end
section
set_option linter.unusedVariables false
namespace Go.Proofs.YtgohbkkeppknoaaGreatDoor
open Go.RowKit
def formW : List ByteArray := [strB [108, 111, 97, 100], strB [115, 105, 122, 101], strB [107, 101, 114, 110, 101, 108], strB [98, 111, 114, 100, 101, 114], strB [109, 105, 112, 115], strB [116, 105, 108, 101], strB [99, 97, 99, 104, 101], strB [111, 114, 100, 101, 114], strB [115, 97, 118, 101], strB [116, 105, 110, 116], strB [99, 114, 111, 112], strB [98, 117, 100, 103, 101, 116]]
def xfW : List ByteArray := [strB [97, 102, 102, 105, 110, 101], strB [104, 111, 109, 111, 103], strB [108, 101, 110, 115], strB [109, 101, 115, 104], strB [115, 104, 101, 97, 114], strB [116, 117, 114, 110]]
def plainW : List ByteArray := [strB [108, 111, 97, 100], strB [115, 105, 122, 101], strB [109, 105, 112, 115], strB [116, 105, 108, 101], strB [99, 97, 99, 104, 101], strB [116, 105, 110, 116], strB [99, 114, 111, 112], strB [98, 117, 100, 103, 101, 116]]
def fourW : List ByteArray := [strB [107, 101, 114, 110, 101, 108], strB [98, 111, 114, 100, 101, 114], strB [111, 114, 100, 101, 114], strB [115, 97, 118, 101]]
def kerW : List ByteArray := [strB [110, 101, 97, 114], strB [108, 105, 110, 101, 97, 114], strB [99, 117, 98, 105, 99], strB [115, 117, 112, 101, 114]]
def codW : List ByteArray := [strB [112, 103, 109], strB [112, 112, 109], strB [98, 109, 112, 50, 52], strB [98, 109, 112, 51, 50]]
/-- A command, or why there is none. -/
structure CmdR where
  op : Int
  k : Int
  L : Option (List Int)
  c : Int
def noR (c : Int) : CmdR := ⟨0, 0, none, c⟩
def mkR (op k : Int) (f : List UInt8) (n : Int) (ws : List ByteArray) : CmdR := ⟨op, k, madeO f n ws, madeC f n ws⟩
/-- The kind of a name, of the q-th command that has kinds. -/
def codI (s : ByteArray) : Int := if idxS codW s < 0 then -1 else idxS codW s + 1
def kndQ (q : Nat) (s : ByteArray) : Int := if q = 0 then idxS kerW s else if q = 1 then idxS modeW s else if q = 2 then idxS permW s else codI s
def opQ (q : Nat) : Int := if q = 0 then 3 else if q = 1 then 4 else if q = 2 then 8 else 10
def cntQ (q : Nat) (k : Int) : Nat := if q = 0 then (if k = 3 then 1 else 0) else if q = 1 then (if k = 0 then 4 else 0) else if q = 2 then (if k = 5 then 1 else 0) else 0
def opP (j : Nat) : Int := [1, 2, 5, 6, 7, 11, 12, 13].getD j 0
def cntP (j : Nat) : Nat := [1, 2, 1, 2, 1, 1, 4, 1].getD j 0
def prsQ1 (q : Nat) (s : ByteArray) (r : List ByteArray) : CmdR := if kndQ q s < 0 then noR 10 else mkR (opQ q) (kndQ q s) (whoL (cntQ q (kndQ q s))) (cntQ q (kndQ q s)) r
def prsQ (q : Nat) : List ByteArray → CmdR
  | [] => noR 12
  | s :: r => prsQ1 q s r
def cntX (k n : Int) : Int := if k = 4 then max n 4 else cntL k
def prs1 (s : ByteArray) (r : List ByteArray) : CmdR := if 0 ≤ idxS plainW s then mkR (opP (idxS plainW s).toNat) 0 (whoL (cntP (idxS plainW s).toNat)) (cntP (idxS plainW s).toNat) r
    else if 0 ≤ idxS xfW s then mkR 9 (idxS xfW s + 1) (formL (idxS xfW s + 1)) (cntX (idxS xfW s + 1) r.length) r
    else if idxS fourW s < 0 then noR 21 else prsQ (idxS fourW s).toNat r
def prs : List ByteArray → CmdR
  | [] => noR 60
  | s :: r => prs1 s r
theorem idxS_not (l : List ByteArray) (s : ByteArray) (h : ∀ b ∈ l, bl s ≠ bl b) : idxS l s = -1 := by
  induction l with
  | nil => rfl
  | cons b r ih =>
    unfold idxS
    rw [if_neg (h b (by simp)), ih (fun x hx => h x (by simp [hx])), if_pos (by omega)]
theorem bl_inj {s t : ByteArray} (h : bl s = bl t) : s = t := by
  cases s; cases t; simp [bl] at h; congr; 
theorem row_in {l : List ByteArray} {P : ByteArray → Prop} (s : ByteArray) (h : ∀ b ∈ l, P b) (h2 : (∀ b ∈ l, bl s ≠ bl b) → P s) : P s := by
  by_cases hs : ∃ b ∈ l, bl s = bl b
  · obtain ⟨b, hb, e⟩ := hs
    rw [bl_inj e]; exact h b hb
  · exact h2 (fun b hb e => hs ⟨b, hb, e⟩)
/-- Where a word stands among forms, transforms, plain commands, commands with kinds. -/
def rows4 : List (Int × Int × Int × Int) := [(0, -1, 0, -1), (1, -1, 1, -1), (2, -1, -1, 0), (3, -1, -1, 1), (4, -1, 2, -1), (5, -1, 3, -1), (6, -1, 4, -1), (7, -1, -1, 2), (8, -1, -1, 3), (9, -1, 5, -1), (10, -1, 6, -1), (11, -1, 7, -1), (-1, 0, -1, -1), (-1, 1, -1, -1), (-1, 2, -1, -1), (-1, 3, -1, -1), (-1, 4, -1, -1), (-1, 5, -1, -1), (-1, -1, -1, -1)]
theorem word_rows (s : ByteArray) : (idxS formW s, idxS xfW s, idxS plainW s, idxS fourW s) ∈ rows4 := by
  refine row_in (l := formW ++ xfW) (P := fun s => (idxS formW s, idxS xfW s, idxS plainW s, idxS fourW s) ∈ rows4) s ?_ ?_
  · decide +kernel
  · intro h
    have h1 : idxS formW s = -1 := idxS_not _ _ fun b hb => h b (List.mem_append.2 (.inl hb))
    have h2 : idxS xfW s = -1 := idxS_not _ _ fun b hb => h b (List.mem_append.2 (.inr hb))
    have hP : ∀ b ∈ plainW, b ∈ formW := by simp [plainW, formW]
    have hQ : ∀ b ∈ fourW, b ∈ formW := by simp [fourW, formW]
    have h3 : idxS plainW s = -1 := idxS_not _ _ fun b hb => h b (List.mem_append.2 (.inl (hP b hb)))
    have h4 : idxS fourW s = -1 := idxS_not _ _ fun b hb => h b (List.mem_append.2 (.inl (hQ b hb)))
    rw [h1, h2, h3, h4]
    decide +kernel
theorem idxS_lt : ∀ (l : List ByteArray) (s : ByteArray), idxS l s < l.length
  | [], s => by simp [idxS]
  | b :: r, s => by
    have := idxS_lt r s
    unfold idxS
    simp only [List.length_cons]
    split
    · omega
    · split <;> omega
theorem numsK_len (f : List UInt8) : ∀ (l : List (List UInt8)) (i : Nat) (acc L : List Int), numsK f i l (some acc) = some L → L.length = acc.length + l.length
  | [], i, acc, L, h => by simp [numsK] at h; simp [h]
  | b :: r, i, acc, L, h => by
    rw [numsK] at h
    cases hw : numW f i b with
    | none => rw [hw] at h; simp [numsK_none] at h
    | some x =>
      rw [hw] at h
      have := numsK_len f r (i + 1) (acc ++ [x]) L h
      simp at this ⊢
      omega
theorem numsF_len {f : List UInt8} {ws : List ByteArray} {L : List Int} (h : numsF f ws = some L) : L.length = ws.length := by
  have := numsK_len f _ _ _ _ h
  simpa using this
theorem madeO_len {f : List UInt8} {n : Int} {ws : List ByteArray} {L : List Int} (h : madeO f n ws = some L) : (L.length : Int) = n ∧ L.length = ws.length := by
  unfold madeO at h
  split at h
  · have := numsF_len h; omega
  · cases h
theorem made_c (f : List UInt8) (n : Int) (ws : List ByteArray) : (madeC f n ws = 0) ↔ (madeO f n ws).isSome = true := by
  unfold madeC madeO
  split
  · cases numsF f ws <;> simp
  · simp
def hiQ (q : Nat) : Int := if q = 0 then 3 else if q = 1 then 3 else if q = 2 then 5 else 4
def loQ (q : Nat) : Int := if q = 3 then 1 else 0
def okCm (op k : Int) (n : Nat) : Prop := (∃ j : Nat, j < 8 ∧ op = opP j ∧ k = 0 ∧ n = cntP j) ∨ (op = 9 ∧ 1 ≤ k ∧ k ≤ 6 ∧ ((k ≠ 4 ∧ (n : Int) = cntL k) ∨ (k = 4 ∧ 4 ≤ n))) ∨ (∃ q : Nat, q < 4 ∧ op = opQ q ∧ loQ q ≤ k ∧ k ≤ hiQ q ∧ n = cntQ q k)
theorem prs_c (ws : List ByteArray) : ((prs ws).c = 0) ↔ (prs ws).L.isSome = true := by
  rcases ws with _ | ⟨s, r⟩
  · simp [prs, noR]
  rw [show prs (s :: r) = prs1 s r from rfl]
  unfold prs1
  split
  · exact made_c _ _ _
  split
  · exact made_c _ _ _
  split
  · simp [noR]
  rcases r with _ | ⟨t, r⟩
  · simp [prsQ, noR]
  rw [show prsQ _ (t :: r) = prsQ1 _ t r from rfl]
  unfold prsQ1
  split
  · simp [noR]
  · exact made_c _ _ _
theorem kndQ_bd (q : Nat) (hq : q < 4) (t : ByteArray) (h : ¬ kndQ q t < 0) : loQ q ≤ kndQ q t ∧ kndQ q t ≤ hiQ q := by
  have h1 := idxS_lt kerW t
  have h2 := idxS_lt modeW t
  have h3 := idxS_lt permW t
  have h4 := idxS_lt codW t
  rw [show kerW.length = 4 from rfl] at h1
  rw [show modeW.length = 4 from rfl] at h2
  rw [show permW.length = 6 from rfl] at h3
  rw [show codW.length = 4 from rfl] at h4
  rcases (show q = 0 ∨ q = 1 ∨ q = 2 ∨ q = 3 by omega) with rfl | rfl | rfl | rfl
  · simp [kndQ, loQ, hiQ] at h ⊢; omega
  · simp [kndQ, loQ, hiQ] at h ⊢; omega
  · simp [kndQ, loQ, hiQ] at h ⊢; omega
  · simp only [kndQ, loQ, hiQ] at h ⊢
    simp only [codI] at h ⊢
    simp at h ⊢
    split at h
    · omega
    · rw [if_neg (by omega)]; omega
theorem prs_ok {ws : List ByteArray} {L : List Int} (h : (prs ws).L = some L) : okCm (prs ws).op (prs ws).k L.length := by
  rcases ws with _ | ⟨s, r⟩
  · simp [prs, noR] at h
  have g1 := idxS_lt plainW s
  have g2 := idxS_lt xfW s
  have g3 := idxS_lt fourW s
  rw [show plainW.length = 8 from rfl] at g1
  rw [show xfW.length = 6 from rfl] at g2
  rw [show fourW.length = 4 from rfl] at g3
  rw [show prs (s :: r) = prs1 s r from rfl] at h ⊢
  unfold prs1 at h ⊢
  by_cases c1 : 0 ≤ idxS plainW s
  · rw [if_pos c1] at h ⊢
    have := madeO_len (show madeO _ _ _ = some L from h)
    exact .inl ⟨_, by omega, rfl, rfl, by omega⟩
  rw [if_neg c1] at h ⊢
  by_cases c2 : 0 ≤ idxS xfW s
  · rw [if_pos c2] at h ⊢
    have hl := madeO_len (show madeO _ _ _ = some L from h)
    refine .inr (.inl ⟨rfl, ?_, ?_, ?_⟩)
    · show 1 ≤ idxS xfW s + 1; omega
    · show idxS xfW s + 1 ≤ 6; omega
    · show (idxS xfW s + 1 ≠ 4 ∧ (L.length : Int) = cntL (idxS xfW s + 1)) ∨ (idxS xfW s + 1 = 4 ∧ 4 ≤ L.length)
      by_cases h4 : idxS xfW s + 1 = 4
      · have := hl.1; unfold cntX at this; rw [if_pos h4] at this; right; omega
      · have := hl.1; unfold cntX at this; rw [if_neg h4] at this; exact .inl ⟨h4, this⟩
  rw [if_neg c2] at h ⊢
  by_cases c3 : idxS fourW s < 0
  · rw [if_pos c3] at h; simp [noR] at h
  rw [if_neg c3] at h ⊢
  rcases r with _ | ⟨t, r⟩
  · simp [prsQ, noR] at h
  rw [show prsQ _ (t :: r) = prsQ1 _ t r from rfl] at h ⊢
  unfold prsQ1 at h ⊢
  by_cases c4 : kndQ (idxS fourW s).toNat t < 0
  · rw [if_pos c4] at h; simp [noR] at h
  rw [if_neg c4] at h ⊢
  have hl := madeO_len (show madeO _ _ _ = some L from h)
  have hb := kndQ_bd (idxS fourW s).toNat (by omega) t c4
  exact .inr (.inr ⟨(idxS fourW s).toNat, by omega, rfl, hb.1, hb.2, by have := hl.1; exact Int.ofNat.inj this⟩)
end Go.Proofs.YtgohbkkeppknoaaGreatDoor
end
