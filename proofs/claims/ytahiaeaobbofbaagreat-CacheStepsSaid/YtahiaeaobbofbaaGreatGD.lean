/- Several texts in one: ages: All's comparison, its copy. ages: the reference's lists: Without, Touch, Has, Ints. ages: things sorted by when they were touched. ages: All. -/
import Derived.Test.YtahiaeaobbofbaaGreatGC
import Derived.Deep.QuietTactic
import Derived.BigQuiet
import Derived.Laws.Cover3
import Derived.Test.YtahiaeaobbofbaaGreatGA
import Derived.Test.YtahiaeaobbofbaaGreatAGS
import Derived.Shelf.SlSortCmp.Whole1
import Derived.Lib.OwnBridge
section
set_option linter.unusedVariables false
namespace Go.Proofs.YtahiaeaobbofbaaGreat
open Go.RowKit
def cmpI (x y : Int) : Int := if x < y then -1 else if y < x then 1 else 0
theorem nanI_any (x : Int) (w : World) : Calls Tryz.prog 97 #[.int .i64 x] w fun e w' => e = .returned (.bool false) ∧ w' = w := by
  go_enter Tryz.func97, Tryz.ntmps97
  go_wp2
  go_ret
  exact ⟨by simp, rfl⟩
set_option maxHeartbeats 1000000 in
theorem cmpI_any (x y : Int) (w : World) : Calls Tryz.prog 85 #[.int .i64 x, .int .i64 y] w fun e w' => e = .returned (.int .i64 (cmpI x y)) ∧ w' = w := by
  go_enter Tryz.func85, Tryz.ntmps85
  go_wp2_with (go_at_call 97; refine (nanI_any _ _).mono ?_; rintro e w' ⟨rfl, hw⟩; rw [hw])
  all_goals (go_ret; refine ⟨?_, rfl⟩; unfold cmpI; (repeat' split) <;> first | rfl | (exfalso; omega))
set_option maxHeartbeats 1000000 in
theorem older_any (a b : Nat) (ka ta pa kb tb pb : Int) (w : World) (ha : Bk w a 131 #[.int .i64 ka, .int .i64 ta, .int .i64 pa]) (hb : Bk w b 131 #[.int .i64 kb, .int .i64 tb, .int .i64 pb]) :
    Calls Tryz.prog 84 #[.pointer (some ⟨a, 0, none⟩), .pointer (some ⟨b, 0, none⟩)] w fun e w' => e = .returned (.int .i64 (cmpI ta tb)) ∧ ∃ q, w' = w.drewN q := by
  obtain ⟨c0, c1, c2⟩ := ha.cell3
  obtain ⟨d0, d1, d2⟩ := hb.cell3
  clear c0 c2 d0 d2
  have hcon := fun W' => cmpI_any ta tb W'
  generalize cmpI ta tb = r at hcon ⊢
  go_enter Tryz.func84, Tryz.ntmps84
  go_wp2_with fail
  go_quiet ((go_at_call 85; exact Calls.quiet_of_same (hcon _)))
  go_wp2_with fail
  go_ret
  exact ⟨rfl, _, rfl⟩
theorem ptr_one : ∀ (l : List Nat), ∀ u ∈ l.map (fun b => Value.pointer (some ⟨b, 0, none⟩)), u.oneCell' = true := by
  intro l u hu
  obtain ⟨b, _, rfl⟩ := List.mem_map.1 hu
  rfl
theorem eql_row (b o n cp : Nat) (w : World) : (binOp .eql 103 (.slice (some ⟨b, o, none⟩) n cp) (.slice none 0 0)).run Tryz.prog w = .ok (.bool false) w := by
  unfold binOp
  simp [run_equal_slice_nil w 103 128 _ _ _ Tryz.underlying103]
theorem clone_nil (w : World) : Calls Tryz.prog 82 #[.slice none 0 0] w fun e w' => e = .returned (.slice none 0 0) ∧ w = w' := by
  have hq : (binOp .eql 103 (.slice none 0 0) (.slice none 0 0)).run Tryz.prog w = .ok (.bool true) w := by
    unfold binOp
    simp [run_equal_slice_nil w 103 128 _ _ _ Tryz.underlying103]
  go_enter Tryz.func82, Tryz.ntmps82
  go_wp2_with fail
  go_returns
  exact ⟨rfl, rfl⟩
set_option maxRecDepth 100000 in
set_option maxHeartbeats 4000000 in
theorem clone_th (l : List Nat) (b o n cp : Nat) (w : World) {B : Nat} (hl : l.length = n) (hn : n ≤ 1000000) (hr : Rd w B (some ⟨b, o, none⟩) (l.map (fun b => Value.pointer (some ⟨b, 0, none⟩)))) (hB : B ≤ w.heap.size) :
    Calls Tryz.prog 82 #[.slice (some ⟨b, o, none⟩) n cp] w fun e w' => ∃ v, e = .returned v ∧ w'.ownsRow w.heap.size 128 1 v n (l.map (fun b => Value.pointer (some ⟨b, 0, none⟩))) ∧ Below w.heap.size w w' := by
  have hb0 := (Below.refl w.heap.size w).alloc (Nat.le_refl _) (.cells #[] 128)
  have hown0 : (w.alloc (.cells #[] 128)).ownsRow w.heap.size 128 1 (.slice (some ⟨w.heap.size, 0, none⟩) 0 0) 0 [] := by
    simpa using own_of_Bk (base := w.heap.size) (Bk.new w 128 #[]) 0 rfl (by omega) (Nat.le_refl _)
  have hr1 := hr.alloc hB (.cells #[] 128)
  have HLn := Lib.hid hl
  have hq := eql_row b o n cp
  clear hl
  go_enter Tryz.func82, Tryz.ntmps82
  go_wp2_with (at_builtin; refine appR rfl _ _ _ rfl Tryz.underlying103 pt_info rfl (by omega) rfl rfl hown0 hb0 (Nat.le_refl _) (by simp) hr1 (by simp [HLn.out]) (ptr_one l) (by omega) (by omega) ?_; intro v1 w1 hown1 hb1 _ _ _)
  go_returns
  rw [Nat.zero_add, List.nil_append] at hown1
  exact ⟨_, rfl, hown1, hb1⟩
end Go.Proofs.YtahiaeaobbofbaaGreat
end
section
set_option linter.unusedVariables false
namespace Go.Proofs.YtahiaeaobbofbaaGreat
open Go.RowKit
theorem int_info : (Tryz.prog.info? 3).map (fun i => (i.zero, i.size, i.bytes)) = some (some (.int .i64 0), 1, 8) := by kernel_rfl
/-- What answers a list of its own. -/
def OwnI (L : List Int) (w : World) (e : Ending) (w' : World) : Prop := ∃ v, e = .returned v ∧ w'.ownsRow w.heap.size 3 1 v L.length (L.map (Value.int .i64)) ∧ Below w.heap.size w w'
theorem fil_snoc (l : List Int) (z : Int) (k : Nat) (hk : k < l.length) : (l.take (k + 1)).filter (· ≠ z) = if l[k] = z then (l.take k).filter (· ≠ z) else (l.take k).filter (· ≠ z) ++ [l[k]] := by
  rw [List.take_succ_eq_append_getElem hk, List.filter_append]
  by_cases h : l[k] = z <;> simp [h]
theorem fil_has (l : List Int) (z : Int) : decide ((l.filter (· ≠ z)).length < l.length) = decide (z ∈ l) := by
  have : (l.filter (· ≠ z)).length < l.length ↔ z ∈ l := by
    induction l with
    | nil => simp
    | cons x xs ih =>
      have h1 : (xs.filter (· ≠ z)).length ≤ xs.length := List.length_filter_le _ _
      by_cases e : x = z
      · rw [List.filter_cons_of_neg (by simp [e]), List.length_cons]
        simp only [List.mem_cons, e, true_or, iff_true]; omega
      · rw [List.filter_cons_of_pos (by simp [e]), List.length_cons, List.length_cons, List.mem_cons]
        constructor
        · intro h; exact .inr (ih.1 (by omega))
        · rintro (h | h)
          · exact absurd h.symm e
          · have := ih.2 h; omega
  by_cases h : z ∈ l
  · rw [decide_eq_true h, decide_eq_true (this.2 h)]
  · rw [decide_eq_false h, decide_eq_false (fun e => h (this.1 e))]
end Go.Proofs.YtahiaeaobbofbaaGreat
end
section
set_option linter.unusedVariables false
namespace Go.Proofs.YtahiaeaobbofbaaGreat
open Go.RowKit Go.Sort Go.Lib Go.Shelf
theorem cmpI_lt {α : Type} (k : α → Int) (x y : α) : ltOf (fun x y => cmpI (k x) (k y)) x y = decide (k x < k y) := by
  unfold ltOf cmpI
  by_cases h1 : k x < k y
  · simp [h1]
  · by_cases h2 : k y < k x <;> simp [h1, h2]
theorem swoI {α : Type} (k : α → Int) : SWO (ltOf fun x y => cmpI (k x) (k y)) where
  irrefl x := by rw [cmpI_lt]; simp
  trans x y z h1 h2 := by rw [cmpI_lt] at *; simp at *; omega
  ntrans x y z h1 h2 := by rw [cmpI_lt] at *; simp at *; omega
theorem len_th (n : Nat) (hn : n ≤ 1000000) (w : World) : Calls Tryz.prog 96 #[.int .u64 (n : Int)] w fun e w' => e = .returned (.int .i64 (Lib.bitLen n : Nat)) ∧ w' = w := by
  have h := Any.bits_Len (SlLaysF0.n15.bits lenTh) (n : Int) w (by omega) (by omega)
  rwa [Int.toNat_natCast] at h
set_option maxHeartbeats 2000000 in
theorem ins_th0 (p : Option Addr) (cap : Nat) (fv : Value) (w : World) : Calls Tryz.prog 101 #[.slice p 0 cap, .int .i64 0, .int .i64 0, fv] w fun e w' => e = .returned (.tuple #[]) ∧ w' = w := by
  go_enter Tryz.func101, Tryz.ntmps101
  go_wp2
  refine wp_loop_rounds 1 ?_
  rw [rounds_succ]
  go_wp2
  go_end0
  exact ⟨rfl, rfl⟩
set_option maxHeartbeats 2000000 in
theorem pdq_th0 (p : Option Addr) (cap : Nat) (lim : Int) (fv : Value) (w : World) : Calls Tryz.prog 95 #[.slice p 0 cap, .int .i64 0, .int .i64 0, .int .i64 lim, fv] w fun e w' => e = .returned (.tuple #[]) ∧ w' = w := by
  go_enter Tryz.func95, Tryz.ntmps95
  go_wp2
  refine wp_loop_rounds 1 ?_
  rw [rounds_succ]
  go_wp2_with (go_at_call 101; refine (ins_th0 _ _ _ _).mono ?_; rintro e w' ⟨rfl, rfl⟩)
  (try simp only [Exit.inBlock, Exit.then]); refine bodyPost_ret (results_none rfl _ _ _) rfl ?_
  exact ⟨rfl, rfl⟩
theorem sort_th0 (p : Option Addr) (cap : Nat) (w : World) : Calls Tryz.prog 83 #[.slice p 0 cap, .func (.func 84) #[] #[]] w fun e w' => e = .returned (.tuple #[]) ∧ w' = w := by
  have hl := fun W => len_th 0 (by omega) W
  go_enter Tryz.func83, Tryz.ntmps83
  go_wp2_with (first | (go_at_call 96; refine (hl _).mono ?_; rintro e w' ⟨rfl, rfl⟩) | (go_at_call 95; refine (pdq_th0 _ _ _ _ _).mono ?_; rintro e w' ⟨rfl, rfl⟩))
  go_end0
  exact ⟨rfl, rfl⟩
/-- The order of things that lie. -/
theorem cmpLaysT {w : World} {n : Nat} [Inhabited (Fin n)] {a : Nat → Nat} {K W : Nat → Int} (hth : ∀ j, j < n → Bk w (a j) 131 #[.int .i64 (K (a j)), .int .i64 (W (a j)), .int .i64 (j : Nat)]) (g size : Nat) (hg : ∀ j, j < n → a j ≠ g) :
    CmpLays1 Tryz.prog 84 #[] (fun i : Fin n => Value.pointer (some ⟨a i, 0, none⟩)) (fun x y : Fin n => cmpI (W (a x)) (W (a y))) g 0 size w := by
  have hk : ∀ (m : Nat) (os : Array Obj) (dk : Array (Fin n)) (i : Fin n), Bk (sortWorld (fun i : Fin n => Value.pointer (some ⟨a i, 0, none⟩)) w g 0 m dk os) (a i) 131 #[.int .i64 (K (a i)), .int .i64 (W (a i)), .int .i64 (i : Nat)] := by
    intro m os dk i
    have h1 := hth i i.2
    have hl := h1.lt
    have hne := hg i i.2
    show (grow (putRow _ (Sort.ahead w m) g 0 dk) os).heap[a i]? = _
    rw [heap_grow_old _ _ (by simpa [putRow, mapBlock, Sort.ahead] using hl)]
    simp only [putRow, mapBlock, Sort.ahead, Array.getElem?_modify]
    rw [if_neg (by intro e; exact hne e.symm)]
    exact h1
  intro m os dk hs x y
  refine (older_any (a x) (a y) _ _ _ _ _ _ _ (hk m os dk x) (hk m os dk y)).mono ?_
  rintro e w' ⟨rfl, q, rfl⟩
  exact ⟨rfl, q, #[], by rw [grow_empty]⟩
set_option maxRecDepth 100000 in
set_option maxHeartbeats 4000000 in
theorem sort_th1 {w : World} {n : Nat} [Inhabited (Fin n)] {a : Nat → Nat} {K W : Nat → Int} (hth : ∀ j, j < n → Bk w (a j) 131 #[.int .i64 (K (a j)), .int .i64 (W (a j)), .int .i64 (j : Nat)]) (g cap : Nat) (hg : ∀ j, j < n → a j ≠ g) (hgl : g < w.heap.size) (hn : n ≤ 1000000)
    (d : Array (Fin n)) (hd : d.size = n) (hH : Holds (fun i : Fin n => Value.pointer (some ⟨a i, 0, none⟩)) w g 0 d) :
    Calls Tryz.prog 83 #[.slice (some ⟨g, 0, none⟩) n cap, .func (.func 84) #[] #[]] w fun e w' => e = .returned (.tuple #[]) ∧ ∃ (d' : Array (Fin n)) (q : Nat) (os : Array Obj), PermIn 0 n d d' ∧ SortedIn (ltOf fun x y : Fin n => cmpI (W (a x)) (W (a y))) 0 n d' ∧ w' = sortWorld (fun i : Fin n => Value.pointer (some ⟨a i, 0, none⟩)) w g 0 q d' os := by
  have eg : ∀ args w, (callFunc 84 args).run Tryz.prog w = .ok (.enter 84 args) w := enters_of Tryz.func84 (by kernel_rfl) rfl
  have hlim : Lib.bitLen n < 4611686018427387904 := Nat.lt_of_le_of_lt (Lib.bitLen_le n 62 (by omega) (by omega)) (by omega)
  have hp0 := Any.pdqsortCmpFunc_all (P := Tryz.prog) (ρ := sortTh_ren) sortTh (fun i : Fin n => Value.pointer (some ⟨a i, 0, none⟩)) (fun x y : Fin n => cmpI (W (a x)) (W (a y))) 84 #[] (swoI fun x : Fin n => W (a x)) g 0 cap d w eg (cmpLaysT hth g _ hg) ⟨fun _ => rfl, hH, hgl⟩ (d.size + 1) 0 d.size (Lib.bitLen d.size) d w (by omega) rfl (SW.start hH) (Nat.zero_le _) (Nat.le_refl _) (by omega) (by rw [hd]; exact hlim) (Or.inl rfl)
  have hps := pdq_sorts (ltOf fun x y : Fin n => cmpI (W (a x)) (W (a y))) (swoI fun x : Fin n => W (a x)) d 0 d.size (Lib.bitLen d.size) true true (Nat.zero_le _) (Nat.le_refl _) (Or.inl rfl)
  rw [hd] at hp0 hps
  generalize pdq (ltOf fun x y : Fin n => cmpI (W (a x)) (W (a y))) d 0 n (Lib.bitLen n) true true = d' at hp0 hps
  have hp : Calls Tryz.prog 95 #[.slice (some ⟨g, 0, none⟩) n cap, .int .i64 0, .int .i64 (n : Nat), .int .i64 (Lib.bitLen n : Nat), .func (.func 84) #[] #[]] w fun e w' => e = .returned (.tuple #[]) ∧ SW (fun i : Fin n => Value.pointer (some ⟨a i, 0, none⟩)) w g 0 d' w' := hp0
  have hl := fun W => len_th n hn W
  have wr : IntKind.u64.wrap (n : Int) = n := by simp [IntKind.wrap, IntKind.bits, IntKind.signed]; omega
  have HD := Lib.hid hd
  have HP := Lib.hid hps
  clear hp0 hth hH eg hps hd hlim hn
  go_enter Tryz.func83, Tryz.ntmps83
  go_wp2_with (first | (go_at_call 96; refine (hl _).mono ?_; rintro e w' ⟨rfl, rfl⟩) | (go_at_call 95; refine hp.mono ?_; rintro e w' ⟨rfl, q, os, rfl⟩))
  go_end0
  exact ⟨rfl, d', q, os, HP.out.1, HP.out.2, rfl⟩
theorem ext_all {α : Type} (d : Array α) (n : Nat) (h : d.size = n) : d.extract 0 n = d := by subst h; exact Array.extract_size
theorem sort_th {w : World} {base n : Nat} {v : Value} {a : Nat → Nat} {K W : Nat → Int} (hth : ∀ j, j < n → Bk w (a j) 131 #[.int .i64 (K (a j)), .int .i64 (W (a j)), .int .i64 (j : Nat)]) (hab : ∀ j, j < n → a j < base) (hB : base ≤ w.heap.size) (hn : n ≤ 1000000) (hown : w.ownsRow base 128 1 v n (ptrs a n)) :
    Calls Tryz.prog 83 #[v, .func (.func 84) #[] #[]] w fun e w' => e = .returned (.tuple #[]) ∧ ∃ l : List Nat, l.Perm ((List.range n).map a) ∧ l.Pairwise (fun x y => W x ≤ W y) ∧ w'.ownsRow base 128 1 v n (l.map fun b => Value.pointer (some ⟨b, 0, none⟩)) ∧ Go.RowKit.Below base w w' := by
  rcases Nat.eq_zero_or_pos n with rfl | h0
  · obtain ⟨A, c, rfl, _⟩ := own_form hown
    refine (sort_th0 A c w).mono ?_
    rintro e w' ⟨rfl, rfl⟩
    exact ⟨rfl, [], .refl _, .nil, hown, Below.refl _ _⟩
  · haveI : Inhabited (Fin n) := ⟨⟨0, h0⟩⟩
    have hzs : ptrs a n = (List.finRange n).map (fun i : Fin n => Value.pointer (some ⟨a i, 0, none⟩)) := by
      apply List.ext_getElem?
      intro j
      by_cases hj : j < n
      · rw [ptrs_get _ _ _ hj]; simp [hj]
      · rw [List.getElem?_eq_none (by rw [ptrs_len]; omega), List.getElem?_eq_none (by simp; omega)]
    rw [hzs] at hown
    have hv : v ≠ .slice none 0 0 := by
      intro e
      obtain ⟨A, c, e2, _⟩ := own_form hown
      rw [e] at e2; injection e2; omega
    obtain ⟨g, cap, rfl, hb, hgl, hnc, hcm, hl, hH⟩ := holds_of_ownsRow hown hv
    refine (sort_th1 hth g cap (fun j hj e => by have := hab j hj; omega) hgl hn (List.finRange n).toArray (by simp) hH).mono ?_
    rintro e w' ⟨rfl, d', q, os, hp, hs, rfl⟩
    have hsz : d'.size = n := by simpa using hp.1
    have hperm : d'.toList.Perm (List.finRange n) := by
      have h1 := hp.2.2
      rw [ext_all d' n hsz, ext_all (List.finRange n).toArray n (by simp)] at h1
      simpa using h1
    refine ⟨rfl, d'.toList.map fun i : Fin n => a i, ?_, ?_, ?_, ?_⟩
    · have h1 := hperm.map (fun i : Fin n => a i)
      have e1 : (List.finRange n).map (fun i : Fin n => a i) = (List.range n).map a := by
        apply List.ext_getElem?
        intro j
        by_cases hj : j < n
        · simp [hj]
        · rw [List.getElem?_eq_none (by simp; omega), List.getElem?_eq_none (by simp; omega)]
      rw [e1] at h1
      exact h1
    · rw [List.pairwise_map, List.pairwise_iff_getElem]
      intro i j hi hj hij
      have := hs i j (by omega) hij (by simpa [hsz] using hj)
      rw [cmpI_lt] at this
      have hi' : i < d'.size := by simpa using hi
      have hj' : j < d'.size := by simpa using hj
      simp [getElem!_pos, hi', hj'] at this
      simpa using this
    · have h1 := ownsRow_putRow (q := q) hown (ys := d'.toList) (by simpa using hsz) (Nat.le_refl n)
      rw [List.take_of_length_le (by simp [hsz])] at h1
      have h2 : (putRow (fun i : Fin n => Value.pointer (some ⟨a i, 0, none⟩)) (Sort.ahead w q) g 0 d').ownsRow base 128 1 (.slice (some ⟨g, 0, none⟩) n cap) n (d'.toList.map fun i : Fin n => Value.pointer (some ⟨a i, 0, none⟩)) := by simpa using h1
      rw [List.map_map]
      exact own_below h2 (B := (putRow (fun i : Fin n => Value.pointer (some ⟨a i, 0, none⟩)) (Sort.ahead w q) g 0 d').heap.size) ⟨rfl, rfl, rfl, by unfold sortWorld; simp, fun k hk => heap_grow_old _ _ hk⟩ (Nat.le_refl _)
    · have h1 := below_putRow (enc := fun i : Fin n => Value.pointer (some ⟨a i, 0, none⟩)) (q := q) (d := d') (Below.refl base w) hb
      exact h1.trans ⟨rfl, rfl, rfl, by unfold sortWorld; simp, fun k hk => heap_grow_old _ _ (by have := h1.size; omega)⟩
end Go.Proofs.YtahiaeaobbofbaaGreat
end
section
set_option linter.unusedVariables false
namespace Go.Proofs.YtahiaeaobbofbaaGreat
open Go.RowKit
theorem ptrs_map (a : Nat → Nat) (n : Nat) : ptrs a n = ((List.range n).map a).map fun b => Value.pointer (some ⟨b, 0, none⟩) := by
  unfold ptrs; rw [List.map_map]; rfl
theorem clone_all {F : Nat → Prop} {w : World} {g : Nat} {A : Option Addr} {n c : Nat} {mv : Value} {now : Int} {a : Nat → Nat} {K W : Nat → Int} (h : Hw F w g A n c mv now a K W) (hn : n ≤ 1000000) :
    Calls Tryz.prog 82 #[.slice A n c] w fun e w' => ∃ v, e = .returned v ∧ w'.ownsRow w.heap.size 128 1 v n (ptrs a n) ∧ Below w.heap.size w w' := by
  rcases h.row.2 with ⟨e0, e1⟩ | ⟨r, cap, cur, e, _⟩
  · injection e0 with h1 h2 h3
    subst h1 h2 h3
    refine (clone_nil w).mono ?_
    rintro e w' ⟨rfl, rfl⟩
    exact ⟨_, rfl, World.ownsRow_nil _ _ _ _, Below.refl _ _⟩
  · injection e with e1 e2 e3
    subst e1 e3
    rw [ptrs_map]
    exact clone_th _ r 0 n _ w (by simp) hn (by rw [← ptrs_map]; exact Rd.of_own h.row) (Nat.le_refl _)
set_option maxRecDepth 100000 in
set_option maxHeartbeats 8000000 in
theorem all_walk {F : Nat → Prop} {w : World} {g : Nat} {A : Option Addr} {n c : Nat} {mv : Value} {now : Int} {a : Nat → Nat} {K W : Nat → Int} {s : List Nat} (h : Hw F w g A n c mv now a K W) (hS : AgS K W now a n s) (hn : n ≤ 1000000) :
    Calls Tryz.prog 70 #[.pointer (some ⟨g, 0, none⟩)] w (OwnI (s.map K) w) := by
  have hC := clone_all h hn
  have HH := Lib.hid h
  have hgl := h.hg.lt
  obtain ⟨c0, c1, c2⟩ := h.hg.cell3
  clear c1 c2 h
  go_enter Tryz.func70, Tryz.ntmps70
  go_upto_region 4 with (go_at_call 82; (with_reducible refine hC.mono ?_); rintro e w1 ⟨v1, rfl, hown1, hbel1⟩)
  have hbw1 := hbel1.size
  have hSo := sort_th (w := w1) (v := v1) (a := a) (K := K) (W := W) (fun j hj => (HH.out.th j hj).nx hbel1) (fun j hj => (HH.out.th j hj).lt) hbw1 hn hown1
  clear hC hown1 c0
  go_upto_region 5 with (go_at_call 83; (with_reducible refine hSo.mono ?_); rintro e w2 ⟨rfl, l, hlp, hls, hown2, hbel2⟩)
  have hl := ag_all hS hlp hls
  subst hl
  have hbel := hbel1.trans hbel2
  have HL := Lib.hid hS.len
  have hll : l.length ≤ n := Nat.le_of_eq hS.len
  have hll2 : n ≤ l.length := Nat.le_of_eq hS.len.symm
  have hth : ∀ k (hk : k < l.length), ∃ j, j < n ∧ a j = l[k] := fun k hk => (hS.mem _).1 (List.getElem_mem hk)
  obtain ⟨A2, cc, rfl, _, _, hrd, _⟩ := own_form hown2
  clear hSo hlp hls hown2 hS
  have hbw2 := hbel.size
  go_wp2_with fail
  go_loopw [4, 18] (fun v i wr => ∃ k : Nat, k ≤ n ∧ i = .int .i64 k ∧ wr.ownsRow w2.heap.size 3 1 v k ((l.take k).map fun b => Value.int .i64 (K b)) ∧ Below w2.heap.size w2 wr) (fun _ i _ => n - (intOf i).toNat)
  case atStart => exact ⟨0, by omega, rfl, by simpa using World.ownsRow_nil _ _ _ _, Below.refl _ _⟩
  case round =>
    obtain ⟨k, hk, rfl, hown, hbl⟩ := hrel
    by_cases hlt : k < n
    · have hk2 : k < l.length := by omega
      obtain ⟨b, o, rfl, hbb, hc0⟩ := (hrd.below hbl).get k (by simp [hk2])
      rw [List.getElem_map] at hc0
      obtain ⟨j, hj, hje⟩ := hth k hk2
      have hts : l.take (k + 1) = l.take k ++ [l[k]] := List.take_succ_eq_append_getElem hk2
      have HT := Lib.hid hts
      clear hts
      have kb : Bk wr (a j) 131 #[.int .i64 (K (a j)), .int .i64 (W (a j)), .int .i64 (j : Nat)] := (((HH.out.th j hj).nx hbel).nx hbl)
      rw [hje] at kb
      generalize l[k] = x at *
      obtain ⟨d0, d1, d2⟩ := kb.cell3
      have hbw := hbl.size
      clear hje kb d1 d2 hth
      go_wp2_with (at_builtin; refine app1 rfl _ _ _ rfl Tryz.underlying89 int_info rfl (by omega) rfl rfl hown hbl (Nat.le_refl _) hbw rfl (by simp [Value.oneCell']) (by omega) (by omega) ?_; intro v' w' hown' hbel' _ _ _; clear hown)
      refine ⟨⟨k + 1, by omega, by go_num, ?_, hbel'⟩, by simp [intOf]; omega⟩
      rw [HT.out, List.map_append]
      exact hown'
    · obtain rfl : k = n := by omega
      rw [List.take_of_length_le (by omega)] at hown
      go_wp2_with fail
      go_returns
      refine ⟨_, rfl, ?_, hbel.trans (hbl.mono hbw2)⟩
      rw [List.length_map, HL.out, List.map_map]
      exact own_base hown hbw2
end Go.Proofs.YtahiaeaobbofbaaGreat
end
