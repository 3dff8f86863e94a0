/- ages: things sorted by when they were touched. -/
import Derived.Test.YtiefhmbffmphdaaAG22
import Derived.Test.YtiefhmbffmphdaaAGS
import Derived.Shelf.SlSortCmp.Whole1
import Derived.Lib.OwnBridge
set_option linter.unusedVariables false
namespace Go.Proofs.Ytiefhmbffmphdaa
open Go.RowKit Go.Sort Go.Lib Go.Shelf
theorem cmpI_lt {α : Type} (k : α → Int) (x y : α) : ltOf (fun x y => cmpI (k x) (k y)) x y = decide (k x < k y) := by
  unfold ltOf cmpI
  by_cases h1 : k x < k y
  · simp [h1]
  · by_cases h2 : k y < k x <;> simp [h1, h2]
theorem swoI {α : Type} (k : α → Int) : SWO (ltOf fun x y => cmpI (k x) (k y)) where
  irrefl x := by rw [cmpI_lt]; simp
  trans x y z h1 h2 := by rw [cmpI_lt] at *; simp at *; omega
  ntrans x y z h1 h2 := by rw [cmpI_lt] at *; simp at *; omega
theorem len_th (n : Nat) (hn : n ≤ 1000000) (w : World) : Calls Try.prog 29 #[.int .u64 (n : Int)] w fun e w' => e = .returned (.int .i64 (Lib.bitLen n : Nat)) ∧ w' = w := by
  have h := Any.bits_Len (SlLaysF0.n15.bits lenTh) (n : Int) w (by omega) (by omega)
  rwa [Int.toNat_natCast] at h
set_option maxHeartbeats 2000000 in
theorem ins_th0 (p : Option Addr) (cap : Nat) (fv : Value) (w : World) : Calls Try.prog 31 #[.slice p 0 cap, .int .i64 0, .int .i64 0, fv] w fun e w' => e = .returned (.tuple #[]) ∧ w' = w := by
  go_enter Try.func31, Try.ntmps31
  go_wp2
  refine wp_loop_rounds 1 ?_
  rw [rounds_succ]
  go_wp2
  go_end0
  exact ⟨rfl, rfl⟩
set_option maxHeartbeats 2000000 in
theorem pdq_th0 (p : Option Addr) (cap : Nat) (lim : Int) (fv : Value) (w : World) : Calls Try.prog 28 #[.slice p 0 cap, .int .i64 0, .int .i64 0, .int .i64 lim, fv] w fun e w' => e = .returned (.tuple #[]) ∧ w' = w := by
  go_enter Try.func28, Try.ntmps28
  go_wp2
  refine wp_loop_rounds 1 ?_
  rw [rounds_succ]
  go_wp2_with (go_at_call 31; refine (ins_th0 _ _ _ _).mono ?_; rintro e w' ⟨rfl, rfl⟩)
  (try simp only [Exit.inBlock, Exit.then]); refine bodyPost_ret (results_none rfl _ _ _) rfl ?_
  exact ⟨rfl, rfl⟩
theorem sort_th0 (p : Option Addr) (cap : Nat) (w : World) : Calls Try.prog 23 #[.slice p 0 cap, .func (.func 24) #[] #[]] w fun e w' => e = .returned (.tuple #[]) ∧ w' = w := by
  have hl := fun W => len_th 0 (by omega) W
  go_enter Try.func23, Try.ntmps23
  go_wp2_with (first | (go_at_call 29; refine (hl _).mono ?_; rintro e w' ⟨rfl, rfl⟩) | (go_at_call 28; refine (pdq_th0 _ _ _ _ _).mono ?_; rintro e w' ⟨rfl, rfl⟩))
  go_end0
  exact ⟨rfl, rfl⟩
/-- The order of things that lie. -/
theorem cmpLaysT {w : World} {n : Nat} [Inhabited (Fin n)] {a : Nat → Nat} {K W : Nat → Int} (hth : ∀ j, j < n → Bk w (a j) 48 #[.int .i64 (K (a j)), .int .i64 (W (a j)), .int .i64 (j : Nat)]) (g size : Nat) (hg : ∀ j, j < n → a j ≠ g) :
    CmpLays1 Try.prog 24 #[] (fun i : Fin n => Value.pointer (some ⟨a i, 0, none⟩)) (fun x y : Fin n => cmpI (W (a x)) (W (a y))) g 0 size w := by
  have hk : ∀ (m : Nat) (os : Array Obj) (dk : Array (Fin n)) (i : Fin n), Bk (sortWorld (fun i : Fin n => Value.pointer (some ⟨a i, 0, none⟩)) w g 0 m dk os) (a i) 48 #[.int .i64 (K (a i)), .int .i64 (W (a i)), .int .i64 (i : Nat)] := by
    intro m os dk i
    have h1 := hth i i.2
    have hl := h1.lt
    have hne := hg i i.2
    show (grow (putRow _ (Sort.ahead w m) g 0 dk) os).heap[a i]? = _
    rw [heap_grow_old _ _ (by simpa [putRow, mapBlock, Sort.ahead] using hl)]
    simp only [putRow, mapBlock, Sort.ahead, Array.getElem?_modify]
    rw [if_neg (by intro e; exact hne e.symm)]
    exact h1
  intro m os dk hs x y
  refine (older_any (a x) (a y) _ _ _ _ _ _ _ (hk m os dk x) (hk m os dk y)).mono ?_
  rintro e w' ⟨rfl, q, rfl⟩
  exact ⟨rfl, q, #[], by rw [grow_empty]⟩
set_option maxRecDepth 100000 in
set_option maxHeartbeats 4000000 in
theorem sort_th1 {w : World} {n : Nat} [Inhabited (Fin n)] {a : Nat → Nat} {K W : Nat → Int} (hth : ∀ j, j < n → Bk w (a j) 48 #[.int .i64 (K (a j)), .int .i64 (W (a j)), .int .i64 (j : Nat)]) (g cap : Nat) (hg : ∀ j, j < n → a j ≠ g) (hgl : g < w.heap.size) (hn : n ≤ 1000000)
    (d : Array (Fin n)) (hd : d.size = n) (hH : Holds (fun i : Fin n => Value.pointer (some ⟨a i, 0, none⟩)) w g 0 d) :
    Calls Try.prog 23 #[.slice (some ⟨g, 0, none⟩) n cap, .func (.func 24) #[] #[]] w fun e w' => e = .returned (.tuple #[]) ∧ ∃ (d' : Array (Fin n)) (q : Nat) (os : Array Obj), PermIn 0 n d d' ∧ SortedIn (ltOf fun x y : Fin n => cmpI (W (a x)) (W (a y))) 0 n d' ∧ w' = sortWorld (fun i : Fin n => Value.pointer (some ⟨a i, 0, none⟩)) w g 0 q d' os := by
  have eg : ∀ args w, (callFunc 24 args).run Try.prog w = .ok (.enter 24 args) w := enters_of Try.func24 (by kernel_rfl) rfl
  have hlim : Lib.bitLen n < 4611686018427387904 := Nat.lt_of_le_of_lt (Lib.bitLen_le n 62 (by omega) (by omega)) (by omega)
  have hp0 := Any.pdqsortCmpFunc_all (P := Try.prog) (ρ := sortTh_ren) sortTh (fun i : Fin n => Value.pointer (some ⟨a i, 0, none⟩)) (fun x y : Fin n => cmpI (W (a x)) (W (a y))) 24 #[] (swoI fun x : Fin n => W (a x)) g 0 cap d w eg (cmpLaysT hth g _ hg) ⟨fun _ => rfl, hH, hgl⟩ (d.size + 1) 0 d.size (Lib.bitLen d.size) d w (by omega) rfl (SW.start hH) (Nat.zero_le _) (Nat.le_refl _) (by omega) (by rw [hd]; exact hlim) (Or.inl rfl)
  have hps := pdq_sorts (ltOf fun x y : Fin n => cmpI (W (a x)) (W (a y))) (swoI fun x : Fin n => W (a x)) d 0 d.size (Lib.bitLen d.size) true true (Nat.zero_le _) (Nat.le_refl _) (Or.inl rfl)
  rw [hd] at hp0 hps
  generalize pdq (ltOf fun x y : Fin n => cmpI (W (a x)) (W (a y))) d 0 n (Lib.bitLen n) true true = d' at hp0 hps
  have hp : Calls Try.prog 28 #[.slice (some ⟨g, 0, none⟩) n cap, .int .i64 0, .int .i64 (n : Nat), .int .i64 (Lib.bitLen n : Nat), .func (.func 24) #[] #[]] w fun e w' => e = .returned (.tuple #[]) ∧ SW (fun i : Fin n => Value.pointer (some ⟨a i, 0, none⟩)) w g 0 d' w' := hp0
  have hl := fun W => len_th n hn W
  have wr : IntKind.u64.wrap (n : Int) = n := by simp [IntKind.wrap, IntKind.bits, IntKind.signed]; omega
  have HD := Lib.hid hd
  have HP := Lib.hid hps
  clear hp0 hth hH eg hps hd hlim hn
  go_enter Try.func23, Try.ntmps23
  go_wp2_with (first | (go_at_call 29; refine (hl _).mono ?_; rintro e w' ⟨rfl, rfl⟩) | (go_at_call 28; refine hp.mono ?_; rintro e w' ⟨rfl, q, os, rfl⟩))
  go_end0
  exact ⟨rfl, d', q, os, HP.out.1, HP.out.2, rfl⟩
theorem ext_all {α : Type} (d : Array α) (n : Nat) (h : d.size = n) : d.extract 0 n = d := by subst h; exact Array.extract_size
theorem sort_th {w : World} {base n : Nat} {v : Value} {a : Nat → Nat} {K W : Nat → Int} (hth : ∀ j, j < n → Bk w (a j) 48 #[.int .i64 (K (a j)), .int .i64 (W (a j)), .int .i64 (j : Nat)]) (hab : ∀ j, j < n → a j < base) (hB : base ≤ w.heap.size) (hn : n ≤ 1000000) (hown : w.ownsRow base 45 1 v n (ptrs a n)) :
    Calls Try.prog 23 #[v, .func (.func 24) #[] #[]] w fun e w' => e = .returned (.tuple #[]) ∧ ∃ l : List Nat, l.Perm ((List.range n).map a) ∧ l.Pairwise (fun x y => W x ≤ W y) ∧ w'.ownsRow base 45 1 v n (l.map fun b => Value.pointer (some ⟨b, 0, none⟩)) ∧ Go.RowKit.Below base w w' := by
  rcases Nat.eq_zero_or_pos n with rfl | h0
  · obtain ⟨A, c, rfl, _⟩ := own_form hown
    refine (sort_th0 A c w).mono ?_
    rintro e w' ⟨rfl, rfl⟩
    exact ⟨rfl, [], .refl _, .nil, hown, Below.refl _ _⟩
  · haveI : Inhabited (Fin n) := ⟨⟨0, h0⟩⟩
    have hzs : ptrs a n = (List.finRange n).map (fun i : Fin n => Value.pointer (some ⟨a i, 0, none⟩)) := by
      apply List.ext_getElem?
      intro j
      by_cases hj : j < n
      · rw [ptrs_get _ _ _ hj]; simp [hj]
      · rw [List.getElem?_eq_none (by rw [ptrs_len]; omega), List.getElem?_eq_none (by simp; omega)]
    rw [hzs] at hown
    have hv : v ≠ .slice none 0 0 := by
      intro e
      obtain ⟨A, c, e2, _⟩ := own_form hown
      rw [e] at e2; injection e2; omega
    obtain ⟨g, cap, rfl, hb, hgl, hnc, hcm, hl, hH⟩ := holds_of_ownsRow hown hv
    refine (sort_th1 hth g cap (fun j hj e => by have := hab j hj; omega) hgl hn (List.finRange n).toArray (by simp) hH).mono ?_
    rintro e w' ⟨rfl, d', q, os, hp, hs, rfl⟩
    have hsz : d'.size = n := by simpa using hp.1
    have hperm : d'.toList.Perm (List.finRange n) := by
      have h1 := hp.2.2
      rw [ext_all d' n hsz, ext_all (List.finRange n).toArray n (by simp)] at h1
      simpa using h1
    refine ⟨rfl, d'.toList.map fun i : Fin n => a i, ?_, ?_, ?_, ?_⟩
    · have h1 := hperm.map (fun i : Fin n => a i)
      have e1 : (List.finRange n).map (fun i : Fin n => a i) = (List.range n).map a := by
        apply List.ext_getElem?
        intro j
        by_cases hj : j < n
        · simp [hj]
        · rw [List.getElem?_eq_none (by simp; omega), List.getElem?_eq_none (by simp; omega)]
      rw [e1] at h1
      exact h1
    · rw [List.pairwise_map, List.pairwise_iff_getElem]
      intro i j hi hj hij
      have := hs i j (by omega) hij (by simpa [hsz] using hj)
      rw [cmpI_lt] at this
      have hi' : i < d'.size := by simpa using hi
      have hj' : j < d'.size := by simpa using hj
      simp [getElem!_pos, hi', hj'] at this
      simpa using this
    · have h1 := ownsRow_putRow (q := q) hown (ys := d'.toList) (by simpa using hsz) (Nat.le_refl n)
      rw [List.take_of_length_le (by simp [hsz])] at h1
      have h2 : (putRow (fun i : Fin n => Value.pointer (some ⟨a i, 0, none⟩)) (Sort.ahead w q) g 0 d').ownsRow base 45 1 (.slice (some ⟨g, 0, none⟩) n cap) n (d'.toList.map fun i : Fin n => Value.pointer (some ⟨a i, 0, none⟩)) := by simpa using h1
      rw [List.map_map]
      exact own_below h2 (B := (putRow (fun i : Fin n => Value.pointer (some ⟨a i, 0, none⟩)) (Sort.ahead w q) g 0 d').heap.size) ⟨rfl, rfl, rfl, by unfold sortWorld; simp, fun k hk => heap_grow_old _ _ hk⟩ (Nat.le_refl _)
    · have h1 := below_putRow (enc := fun i : Fin n => Value.pointer (some ⟨a i, 0, none⟩)) (q := q) (d := d') (Below.refl base w) hb
      exact h1.trans ⟨rfl, rfl, rfl, by unfold sortWorld; simp, fun k hk => heap_grow_old _ _ (by have := h1.size; omega)⟩
end Go.Proofs.Ytiefhmbffmphdaa
