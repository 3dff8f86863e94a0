/- Several texts in one: fix: the number in parts that a text is. (Printed by wip/tools/gennbr.py.) -/
import Derived.Test.YtgohbkkeppknoaaGreatDoorCmdParsesZz9
import Derived.Test.YtgohbkkeppknoaaGreatDoorCmdParsesZz12
import Derived.Test.YtgohbkkeppknoaaGreatDoorCmdParsesZz13
section
set_option linter.unusedVariables false
namespace Go.Proofs.YtgohbkkeppknoaaGreatDoor
open Go.RowKit Go.Sort
theorem okN_iff {l : List UInt8} : okN l = true ↔ l ≠ [] ∧ l.length ≤ 18 ∧ l.all isD = true := by
  unfold okN
  cases l with
  | nil => simp
  | cons b r => simp
theorem okT_iff {l : List UInt8} : okT l = true ↔ l ≠ [] ∧ l.length ≤ 16 ∧ l.all isD = true := by
  unfold okT
  rw [Bool.and_eq_true, okN_iff, decide_eq_true_iff]
  constructor
  · rintro ⟨⟨h1, h2, h3⟩, h4⟩
    exact ⟨h1, h4, h3⟩
  · rintro ⟨h1, h2, h3⟩
    exact ⟨⟨h1, by omega, h3⟩, h2⟩
theorem partZ_bd {t : List UInt8} (h : ∀ b ∈ t, isD b = true) : 0 ≤ partZ t ∧ partZ t < 65536 := by
  unfold partZ
  have := numV_lt t h
  have h2 : numV 0 t * 65536 / 10 ^ t.length < 65536 := by
    rw [Nat.div_lt_iff_lt_mul (Nat.pow_pos (by decide)), Nat.mul_comm 65536]
    exact Nat.mul_lt_mul_of_pos_right this (by decide)
  generalize numV 0 t * 65536 / 10 ^ t.length = q at *
  omega
theorem readO_none {l : List UInt8} (h : ¬ okP (cutD (unsg l)).1 (cutD (unsg l)).2) : readO l = none := by
  cases hr : readO l with
  | none => rfl
  | some x => exact absurd (readO_ok hr).1 h
theorem str_eqB (l : List UInt8) (s : ByteArray) : ((⟨l.toArray⟩ : ByteArray).toList == s.toList) = decide (l = bl s) := by
  rw [ByteArray.toList_eq, ByteArray.toList_eq, Bool.eq_iff_iff]
  simp [bl]
/-- How fix.Read ends, once its parts may be: what stands in the way, if anything. -/
theorem read_end (l : List UInt8) (z : Int) (hz : sgL l (headZ (cutD (unsg l)).1 (cutD (unsg l)).2) = z) :
    (¬ J64 z ∧ readO l = none) ∨ (J64 z ∧ in64 z ∧ showL z ≠ l ∧ readO l = none) ∨ (J64 z ∧ in64 z ∧ showL z = l ∧ readO l = some z) := by
  unfold readO
  rw [hz]
  have hj : J64 z ↔ in64 z := by unfold J64 in64; omega
  by_cases h1 : J64 z
  · have h2 := hj.1 h1
    by_cases h3 : showL z = l
    · exact .inr (.inr ⟨h1, h2, h3, if_pos ⟨h2, h3⟩⟩)
    · exact .inr (.inl ⟨h1, h2, h3, if_neg (fun h => h3 h.2)⟩)
  · exact .inl ⟨h1, if_neg (fun h => h1 (hj.2 h.1))⟩
theorem ten_g : Tryz.prog.globalNamed "internal/strconv.uint64pow10" = some 3 := by kernel_rfl
theorem TenT.nx {w w' : World} (h : TenT w) (hb : Below w.heap.size w w') : TenT w' := by
  unfold TenT Lib.TabIs World.var? at h ⊢
  rw [ten_g] at h ⊢
  simp only [Option.bind_some] at h ⊢
  have hlt : 3 < w.heap.size := by
    rcases Nat.lt_or_ge 3 w.heap.size with h' | h'
    · exact h'
    · rw [Array.getElem?_eq_none h'] at h; cases h
  rw [hb.block _ hlt]
  exact h
theorem wneg_any (z : Int) (w : World) (hz : Wd z) (hz2 : Wd (-z)) :
    Calls Tryz.prog 190 #[WV z] w fun e w' => e = .returned (.tuple #[WV (-z), .bool true]) ∧ Below w.heap.size w w' := by
  have hS := fun w' => wsub_any 0 z w' (by unfold Wd; omega) hz (by rw [Int.zero_sub]; exact hz2)
  have e0 : WV 0 = .agg #[.int .i64 0, .int .u64 0] := by show Value.agg #[.int .i64 (hi6 0), .int .u64 (lo6 0)] = _; rw [hi0, lo0]
  rw [e0, Int.zero_sub] at hS
  clear e0
  have hL := ((Lie.start w).alloc (wdA z) 243).alloc #[.int .i64 0, .int .u64 0] 243
  simp only [World.size_alloc] at hL
  clear hz hz2
  generalize hm : -z = m at *
  clear hm
  go_enter Tryz.func190, Tryz.ntmps190
  go_wp2_with (first | (go_at_call 266; (with_reducible refine (hS _).mono ?_); rintro e w1 ⟨rfl, hb1⟩; have hL1 := hL.nx hb1; have k1 : Bk w1 (w.heap.size + 1) 243 #[.int .i64 0, .int .u64 0] := hL1.k 0 (by simp)) | (refine stWd rfl _ _ rfl k1 rfl rfl rfl ?_; intro w8 k88 hg8 hs8))
  refine bodyPost_ret (res_wd_tmp rfl k88 rfl) rfl ?_
  exact ⟨rfl, below_of_gb hL1.bel hg8 (by omega) hL1.sz⟩
set_option maxRecDepth 100000 in
set_option maxHeartbeats 16000000 in
theorem fread_any (s : ByteArray) (hs : s.size ≤ 1000000) (w : World) (htab : TenT w) : Calls Tryz.prog 134 #[.string s] w fun e w' => e = .returned (.tuple #[.int .i64 ((readO (bl s)).getD 0), .bool (readO (bl s)).isSome]) ∧ Below w.heap.size w w' := by
  obtain ⟨l, hl⟩ : ∃ l, bl s = l := ⟨_, rfl⟩
  have hP : ∀ w', Calls Tryz.prog 183 #[.string s, .string ⟨#[45]⟩] w' fun e w'' => e = .returned (.tuple #[.string ⟨(unsg (bl s)).toArray⟩, .bool (neg? (bl s))]) ∧ w' = w'' := fun w' => cutP_any s w'
  have hul : (unsg l).length ≤ 1000000 := by
    have : (unsg l).length ≤ l.length := by unfold unsg; split <;> simp
    rw [← hl, bl_len] at this
    rw [← hl]
    omega
  have hC : ∀ w', Calls Tryz.prog 184 #[.string ⟨(unsg l).toArray⟩, .string ⟨#[46]⟩] w' fun e w'' => e = .returned (.tuple #[.string ⟨((cutD (unsg l)).1).toArray⟩, .string ⟨((cutD (unsg l)).2.getD []).toArray⟩, .bool (cutD (unsg l)).2.isSome]) ∧ RowKit.Below w'.heap.size w' w'' := fun w' => cutS_any ⟨(unsg l).toArray⟩ (by rw [str_size]; exact hul) w'
  rw [hl] at hP ⊢
  have hEnd := fun z hz => read_end l z hz
  have hNo := @readO_none l
  obtain ⟨H, O, hHO⟩ : ∃ H O, cutD (unsg l) = (H, O) := ⟨_, _, rfl⟩
  rw [hHO] at hC hNo
  simp only at hNo
  simp only [hHO] at hEnd
  have hN := fun w' => fnum_any ⟨H.toArray⟩ w'
  rw [bl_mk] at hN
  have hsg : ∀ z, sgL l z = if neg? l = true then -z else z := fun z => rfl
  have HSL := Lib.hid hl
  clear hul hHO hl hs
  generalize hng : neg? l = ng at *
  generalize (⟨(unsg l).toArray⟩ : ByteArray) = T at *
  simp only at hC
  cases hok : okN H with
  | false =>
    have hr := Lib.hid (hNo (fun h => by have := okN_iff.2 ⟨h.1, h.2.1, h.2.2.1⟩; rw [hok] at this; cases this))
    rw [hok, fnV_no hok] at hN
    clear hEnd hNo hsg hng
    generalize (⟨H.toArray⟩ : ByteArray) = HB at *
    generalize (⟨(O.getD []).toArray⟩ : ByteArray) = OB at *
    go_enter Tryz.func134, Tryz.ntmps134
    go_wp2_with (first
      | (go_at_call 183; (with_reducible refine (hP _).mono ?_); rintro e w1 ⟨rfl, rfl⟩)
      | (go_at_call 184; (with_reducible refine (hC _).mono ?_); rintro e w2 ⟨rfl, hb2⟩)
      | (go_at_call 185; (with_reducible refine (hN _).mono ?_); rintro e w3 ⟨rfl, hb3⟩))
    go_returns
    exact ⟨by rw [hr.out]; rfl, hb2.trans (hb3.mono hb2.size)⟩
  | true =>
    rw [hok, fnV_ok hok] at hN
    by_cases hbig : 140737488355328 < numV 0 H
    · have hr := Lib.hid (hNo (fun h => by have := h.2.2.2.1; omega))
      generalize numV 0 H = n at *
      have hlt : n < 18446744073709551616 ∨ True := .inr trivial
      clear hEnd hNo hsg hng hok hlt
      generalize (⟨H.toArray⟩ : ByteArray) = HB at *
      generalize (⟨(O.getD []).toArray⟩ : ByteArray) = OB at *
      go_enter Tryz.func134, Tryz.ntmps134
      go_wp2_with (first
        | (go_at_call 183; (with_reducible refine (hP _).mono ?_); rintro e w1 ⟨rfl, rfl⟩)
        | (go_at_call 184; (with_reducible refine (hC _).mono ?_); rintro e w2 ⟨rfl, hb2⟩)
        | (go_at_call 185; (with_reducible refine (hN _).mono ?_); rintro e w3 ⟨rfl, hb3⟩))
      go_returns
      exact ⟨by rw [hr.out]; rfl, hb2.trans (hb3.mono hb2.size)⟩
    · have hle : numV 0 H ≤ 140737488355328 := by omega
      obtain ⟨n, hn⟩ : ∃ n, numV 0 H = n := ⟨_, rfl⟩
      have hM := fun w' => wmul_any (n : Int) 65536 w' ⟨by omega, by omega⟩ ⟨by omega, by omega⟩
      rw [hn] at hN hle hbig
      have hz0 : headZ H none = (n : Int) * 65536 := by unfold headZ; rw [hn]; simp
      have hz1 : ∀ t, headZ H (some t) = (n : Int) * 65536 + partZ t := fun t => by unfold headZ; rw [hn]
      generalize hx : (n : Int) * 65536 = x at *
      have hxb : 0 ≤ x ∧ x ≤ 9223372036854775808 := by omega
      clear hx
      have hn63 : (n : Int) ≤ 9223372036854775807 := by omega
      cases O with
      | none =>
        rw [hz0] at hEnd
        clear hz0 hz1 hNo hok hn
        generalize (⟨H.toArray⟩ : ByteArray) = HB at *
        simp only [Option.getD_none, Option.isSome_none] at hC
        cases ng with
        | false =>
          have hE := hEnd x (by rw [hsg]; rfl)
          clear hEnd hsg
          rcases hE with ⟨hj, hr⟩ | ⟨hj, hi, hne, hr⟩ | ⟨hj, hi, hne, hr⟩
          · have hFt := fun w' => fits64_no x w' hj
            have HR := Lib.hid hr
            clear hr hj
            go_enter Tryz.func134, Tryz.ntmps134
            go_wp2_with (first
              | (go_at_call 183; (with_reducible refine (hP _).mono ?_); rintro e w1 ⟨rfl, rfl⟩)
              | (go_at_call 184; (with_reducible refine (hC _).mono ?_); rintro e w2 ⟨rfl, hb2⟩)
              | (go_at_call 185; (with_reducible refine (hN _).mono ?_); rintro e w3 ⟨rfl, hb3⟩; have hb23 := hb2.trans (hb3.mono hb2.size))
              | (go_at_call 186; (with_reducible refine (hM _).mono ?_); rintro e w4 ⟨rfl, hb4⟩; have hb24 := hb23.trans (hb4.mono hb23.size); have hz4 := hb24.size; have k4 := Bk.new w4 243 #[.int .i64 0, .int .u64 0]; have hb5 := hb24.alloc hb24.size (.cells #[.int .i64 0, .int .u64 0] 243))
              | (refine stWd rfl _ _ rfl k4 rfl rfl rfl ?_; intro w5 k5 hg5 hs5; have hb45 := below_of_gb hb5 hg5 hz4 hb5.size)
              | (go_at_call 187; (with_reducible refine (hPt _).mono ?_); rintro e w6 ⟨rfl, hb6⟩; have k6 := k5.nx hb6; have hb46 := hb45.trans (hb6.mono hb45.size))
              | (refine ldWd rfl _ rfl k5 rfl ?_)
              | (go_at_call 191; (with_reducible refine (hFt _).mono ?_); rintro e w9 ⟨rfl, hb9⟩; have hb49 := hb45.trans (hb9.mono hb45.size))
              | (go_at_call 192; (refine (hSh _ (htab.nx hb49)).mono ?_); rintro e wa ⟨rfl, hba⟩; have hb4a := hb49.trans (hba.mono hb49.size)))
            go_returns
            exact ⟨by rw [HR.out]; rfl, hb49⟩
          · have hFt := fun w' => fits64_yes x w' hj
            have hSh : ∀ w', TenT w' → Calls Tryz.prog 192 #[.int .i64 x] w' fun e w'' => e = .returned (.string ⟨(showL x).toArray⟩) ∧ RowKit.Below w'.heap.size w' w'' := fun w' ht => fshow_any x hi w' ht
            have hcmp := str_eqB (showL x) s
            rw [HSL.out, decide_eq_false (by exact hne)] at hcmp
            generalize (⟨(showL x).toArray⟩ : ByteArray) = SB at *
            have HR := Lib.hid hr
            clear hr hj hi hne
            go_enter Tryz.func134, Tryz.ntmps134
            go_wp2_with (first
              | (go_at_call 183; (with_reducible refine (hP _).mono ?_); rintro e w1 ⟨rfl, rfl⟩)
              | (go_at_call 184; (with_reducible refine (hC _).mono ?_); rintro e w2 ⟨rfl, hb2⟩)
              | (go_at_call 185; (with_reducible refine (hN _).mono ?_); rintro e w3 ⟨rfl, hb3⟩; have hb23 := hb2.trans (hb3.mono hb2.size))
              | (go_at_call 186; (with_reducible refine (hM _).mono ?_); rintro e w4 ⟨rfl, hb4⟩; have hb24 := hb23.trans (hb4.mono hb23.size); have hz4 := hb24.size; have k4 := Bk.new w4 243 #[.int .i64 0, .int .u64 0]; have hb5 := hb24.alloc hb24.size (.cells #[.int .i64 0, .int .u64 0] 243))
              | (refine stWd rfl _ _ rfl k4 rfl rfl rfl ?_; intro w5 k5 hg5 hs5; have hb45 := below_of_gb hb5 hg5 hz4 hb5.size)
              | (go_at_call 187; (with_reducible refine (hPt _).mono ?_); rintro e w6 ⟨rfl, hb6⟩; have k6 := k5.nx hb6; have hb46 := hb45.trans (hb6.mono hb45.size))
              | (refine ldWd rfl _ rfl k5 rfl ?_)
              | (go_at_call 191; (with_reducible refine (hFt _).mono ?_); rintro e w9 ⟨rfl, hb9⟩; have hb49 := hb45.trans (hb9.mono hb45.size))
              | (go_at_call 192; (refine (hSh _ (htab.nx hb49)).mono ?_); rintro e wa ⟨rfl, hba⟩; have hb4a := hb49.trans (hba.mono hb49.size)))
            go_returns
            exact ⟨by rw [HR.out]; rfl, hb4a⟩
          · have hFt := fun w' => fits64_yes x w' hj
            have hSh : ∀ w', TenT w' → Calls Tryz.prog 192 #[.int .i64 x] w' fun e w'' => e = .returned (.string ⟨(showL x).toArray⟩) ∧ RowKit.Below w'.heap.size w' w'' := fun w' ht => fshow_any x hi w' ht
            have hcmp := str_eqB (showL x) s
            rw [HSL.out, decide_eq_true (by exact hne)] at hcmp
            generalize (⟨(showL x).toArray⟩ : ByteArray) = SB at *
            have HR := Lib.hid hr
            clear hr hj hi hne
            go_enter Tryz.func134, Tryz.ntmps134
            go_wp2_with (first
              | (go_at_call 183; (with_reducible refine (hP _).mono ?_); rintro e w1 ⟨rfl, rfl⟩)
              | (go_at_call 184; (with_reducible refine (hC _).mono ?_); rintro e w2 ⟨rfl, hb2⟩)
              | (go_at_call 185; (with_reducible refine (hN _).mono ?_); rintro e w3 ⟨rfl, hb3⟩; have hb23 := hb2.trans (hb3.mono hb2.size))
              | (go_at_call 186; (with_reducible refine (hM _).mono ?_); rintro e w4 ⟨rfl, hb4⟩; have hb24 := hb23.trans (hb4.mono hb23.size); have hz4 := hb24.size; have k4 := Bk.new w4 243 #[.int .i64 0, .int .u64 0]; have hb5 := hb24.alloc hb24.size (.cells #[.int .i64 0, .int .u64 0] 243))
              | (refine stWd rfl _ _ rfl k4 rfl rfl rfl ?_; intro w5 k5 hg5 hs5; have hb45 := below_of_gb hb5 hg5 hz4 hb5.size)
              | (go_at_call 187; (with_reducible refine (hPt _).mono ?_); rintro e w6 ⟨rfl, hb6⟩; have k6 := k5.nx hb6; have hb46 := hb45.trans (hb6.mono hb45.size))
              | (refine ldWd rfl _ rfl k5 rfl ?_)
              | (go_at_call 191; (with_reducible refine (hFt _).mono ?_); rintro e w9 ⟨rfl, hb9⟩; have hb49 := hb45.trans (hb9.mono hb45.size))
              | (go_at_call 192; (refine (hSh _ (htab.nx hb49)).mono ?_); rintro e wa ⟨rfl, hba⟩; have hb4a := hb49.trans (hba.mono hb49.size)))
            go_returns
            exact ⟨by rw [HR.out]; rfl, hb4a⟩
        | true =>
          have hE := hEnd (-x) (by rw [hsg]; rfl)
          have hNg := fun w' => wneg_any x w' ⟨by omega, by omega⟩ ⟨by omega, by omega⟩
          clear hEnd hsg
          rcases hE with ⟨hj, hr⟩ | ⟨hj, hi, hne, hr⟩ | ⟨hj, hi, hne, hr⟩
          · have hFt := fun w' => fits64_no (-x) w' hj
            have HR := Lib.hid hr
            clear hr hj
            obtain ⟨y, hy⟩ : ∃ y, -x = y := ⟨_, rfl⟩
            rw [hy] at hFt hNg
            have HY := Lib.hid hy
            clear hy
            go_enter Tryz.func134, Tryz.ntmps134
            go_wp2_with (first
              | (go_at_call 183; (with_reducible refine (hP _).mono ?_); rintro e w1 ⟨rfl, rfl⟩)
              | (go_at_call 184; (with_reducible refine (hC _).mono ?_); rintro e w2 ⟨rfl, hb2⟩)
              | (go_at_call 185; (with_reducible refine (hN _).mono ?_); rintro e w3 ⟨rfl, hb3⟩; have hb23 := hb2.trans (hb3.mono hb2.size))
              | (go_at_call 186; (with_reducible refine (hM _).mono ?_); rintro e w4 ⟨rfl, hb4⟩; have hb24 := hb23.trans (hb4.mono hb23.size); have hz4 := hb24.size; have k4 := Bk.new w4 243 #[.int .i64 0, .int .u64 0]; have hb5 := hb24.alloc hb24.size (.cells #[.int .i64 0, .int .u64 0] 243))
              | (refine stWd rfl _ _ rfl k4 rfl rfl rfl ?_; intro w5 k5 hg5 hs5; have hb45 := below_of_gb hb5 hg5 hz4 hb5.size)
              | (go_at_call 187; (with_reducible refine (hPt _).mono ?_); rintro e w6 ⟨rfl, hb6⟩; have k6 := k5.nx hb6; have hb46 := hb45.trans (hb6.mono hb45.size))
              | (refine ldWd rfl _ rfl k5 rfl ?_)
              | (go_at_call 190; (with_reducible refine (hNg _).mono ?_); rintro e w7 ⟨rfl, hb7⟩; have k7 := k5.nx hb7; have hb47 := hb45.trans (hb7.mono hb45.size))
              | (refine stWd rfl _ _ rfl k7 rfl rfl rfl ?_; intro w8 k8 hg8 hs8; have hb48 := below_of_gb hb47 hg8 hz4 hb47.size)
              | (refine ldWd rfl _ rfl k8 rfl ?_)
              | (go_at_call 191; (with_reducible refine (hFt _).mono ?_); rintro e w9 ⟨rfl, hb9⟩; have hb49 := hb48.trans (hb9.mono hb48.size))
              | (go_at_call 192; (refine (hSh _ (htab.nx hb49)).mono ?_); rintro e wa ⟨rfl, hba⟩; have hb4a := hb49.trans (hba.mono hb49.size)))
            go_returns
            exact ⟨by rw [HR.out]; rfl, hb49⟩
          · have hFt := fun w' => fits64_yes (-x) w' hj
            have hSh : ∀ w', TenT w' → Calls Tryz.prog 192 #[.int .i64 (-x)] w' fun e w'' => e = .returned (.string ⟨(showL (-x)).toArray⟩) ∧ RowKit.Below w'.heap.size w' w'' := fun w' ht => fshow_any (-x) hi w' ht
            have hcmp := str_eqB (showL (-x)) s
            rw [HSL.out, decide_eq_false (by exact hne)] at hcmp
            generalize (⟨(showL (-x)).toArray⟩ : ByteArray) = SB at *
            have HR := Lib.hid hr
            clear hr hj hi hne
            obtain ⟨y, hy⟩ : ∃ y, -x = y := ⟨_, rfl⟩
            rw [hy] at hFt hNg hSh
            have HY := Lib.hid hy
            clear hy
            go_enter Tryz.func134, Tryz.ntmps134
            go_wp2_with (first
              | (go_at_call 183; (with_reducible refine (hP _).mono ?_); rintro e w1 ⟨rfl, rfl⟩)
              | (go_at_call 184; (with_reducible refine (hC _).mono ?_); rintro e w2 ⟨rfl, hb2⟩)
              | (go_at_call 185; (with_reducible refine (hN _).mono ?_); rintro e w3 ⟨rfl, hb3⟩; have hb23 := hb2.trans (hb3.mono hb2.size))
              | (go_at_call 186; (with_reducible refine (hM _).mono ?_); rintro e w4 ⟨rfl, hb4⟩; have hb24 := hb23.trans (hb4.mono hb23.size); have hz4 := hb24.size; have k4 := Bk.new w4 243 #[.int .i64 0, .int .u64 0]; have hb5 := hb24.alloc hb24.size (.cells #[.int .i64 0, .int .u64 0] 243))
              | (refine stWd rfl _ _ rfl k4 rfl rfl rfl ?_; intro w5 k5 hg5 hs5; have hb45 := below_of_gb hb5 hg5 hz4 hb5.size)
              | (go_at_call 187; (with_reducible refine (hPt _).mono ?_); rintro e w6 ⟨rfl, hb6⟩; have k6 := k5.nx hb6; have hb46 := hb45.trans (hb6.mono hb45.size))
              | (refine ldWd rfl _ rfl k5 rfl ?_)
              | (go_at_call 190; (with_reducible refine (hNg _).mono ?_); rintro e w7 ⟨rfl, hb7⟩; have k7 := k5.nx hb7; have hb47 := hb45.trans (hb7.mono hb45.size))
              | (refine stWd rfl _ _ rfl k7 rfl rfl rfl ?_; intro w8 k8 hg8 hs8; have hb48 := below_of_gb hb47 hg8 hz4 hb47.size)
              | (refine ldWd rfl _ rfl k8 rfl ?_)
              | (go_at_call 191; (with_reducible refine (hFt _).mono ?_); rintro e w9 ⟨rfl, hb9⟩; have hb49 := hb48.trans (hb9.mono hb48.size))
              | (go_at_call 192; (refine (hSh _ (htab.nx hb49)).mono ?_); rintro e wa ⟨rfl, hba⟩; have hb4a := hb49.trans (hba.mono hb49.size)))
            go_returns
            exact ⟨by rw [HR.out]; rfl, hb4a⟩
          · have hFt := fun w' => fits64_yes (-x) w' hj
            have hSh : ∀ w', TenT w' → Calls Tryz.prog 192 #[.int .i64 (-x)] w' fun e w'' => e = .returned (.string ⟨(showL (-x)).toArray⟩) ∧ RowKit.Below w'.heap.size w' w'' := fun w' ht => fshow_any (-x) hi w' ht
            have hcmp := str_eqB (showL (-x)) s
            rw [HSL.out, decide_eq_true (by exact hne)] at hcmp
            generalize (⟨(showL (-x)).toArray⟩ : ByteArray) = SB at *
            have HR := Lib.hid hr
            clear hr hj hi hne
            obtain ⟨y, hy⟩ : ∃ y, -x = y := ⟨_, rfl⟩
            rw [hy] at hFt hNg hSh
            have HY := Lib.hid hy
            clear hy
            go_enter Tryz.func134, Tryz.ntmps134
            go_wp2_with (first
              | (go_at_call 183; (with_reducible refine (hP _).mono ?_); rintro e w1 ⟨rfl, rfl⟩)
              | (go_at_call 184; (with_reducible refine (hC _).mono ?_); rintro e w2 ⟨rfl, hb2⟩)
              | (go_at_call 185; (with_reducible refine (hN _).mono ?_); rintro e w3 ⟨rfl, hb3⟩; have hb23 := hb2.trans (hb3.mono hb2.size))
              | (go_at_call 186; (with_reducible refine (hM _).mono ?_); rintro e w4 ⟨rfl, hb4⟩; have hb24 := hb23.trans (hb4.mono hb23.size); have hz4 := hb24.size; have k4 := Bk.new w4 243 #[.int .i64 0, .int .u64 0]; have hb5 := hb24.alloc hb24.size (.cells #[.int .i64 0, .int .u64 0] 243))
              | (refine stWd rfl _ _ rfl k4 rfl rfl rfl ?_; intro w5 k5 hg5 hs5; have hb45 := below_of_gb hb5 hg5 hz4 hb5.size)
              | (go_at_call 187; (with_reducible refine (hPt _).mono ?_); rintro e w6 ⟨rfl, hb6⟩; have k6 := k5.nx hb6; have hb46 := hb45.trans (hb6.mono hb45.size))
              | (refine ldWd rfl _ rfl k5 rfl ?_)
              | (go_at_call 190; (with_reducible refine (hNg _).mono ?_); rintro e w7 ⟨rfl, hb7⟩; have k7 := k5.nx hb7; have hb47 := hb45.trans (hb7.mono hb45.size))
              | (refine stWd rfl _ _ rfl k7 rfl rfl rfl ?_; intro w8 k8 hg8 hs8; have hb48 := below_of_gb hb47 hg8 hz4 hb47.size)
              | (refine ldWd rfl _ rfl k8 rfl ?_)
              | (go_at_call 191; (with_reducible refine (hFt _).mono ?_); rintro e w9 ⟨rfl, hb9⟩; have hb49 := hb48.trans (hb9.mono hb48.size))
              | (go_at_call 192; (refine (hSh _ (htab.nx hb49)).mono ?_); rintro e wa ⟨rfl, hba⟩; have hb4a := hb49.trans (hba.mono hb49.size)))
            go_returns
            exact ⟨by rw [HR.out]; show _ = Ending.returned (.tuple #[.int .i64 (-x), .bool true]); rw [HY.out]; rfl, hb4a⟩
      | some t =>
        have hPt := fun w' => fparts_any ⟨t.toArray⟩ w'
        rw [bl_mk] at hPt
        simp only [Option.getD_some, Option.isSome_some] at hC
        cases hot : okT t with
        | false =>
          have hr := Lib.hid (hNo (fun h => by have h5 := h.2.2.2.2 t rfl; have := okT_iff.2 h5; rw [hot] at this; cases this))
          have hv : fpV t = 0 := by unfold fpV; rw [hot]; rfl
          rw [hot, hv] at hPt
          clear hEnd hNo hsg hng hok hn hz0 hz1 hv
          generalize (⟨H.toArray⟩ : ByteArray) = HB at *
          generalize (⟨t.toArray⟩ : ByteArray) = OB at *
          go_enter Tryz.func134, Tryz.ntmps134
          go_wp2_with (first
            | (go_at_call 183; (with_reducible refine (hP _).mono ?_); rintro e w1 ⟨rfl, rfl⟩)
            | (go_at_call 184; (with_reducible refine (hC _).mono ?_); rintro e w2 ⟨rfl, hb2⟩)
            | (go_at_call 185; (with_reducible refine (hN _).mono ?_); rintro e w3 ⟨rfl, hb3⟩; have hb23 := hb2.trans (hb3.mono hb2.size))
            | (go_at_call 186; (with_reducible refine (hM _).mono ?_); rintro e w4 ⟨rfl, hb4⟩; have hb24 := hb23.trans (hb4.mono hb23.size); have k4 := Bk.new w4 243 #[.int .i64 0, .int .u64 0]; have hb5 := hb24.alloc hb24.size (.cells #[.int .i64 0, .int .u64 0] 243))
            | (refine stWd rfl _ _ rfl k4 rfl rfl rfl ?_; intro w5 k5 hg5 hs5; have hb45 := below_of_gb hb5 hg5 hb24.size hb5.size)
            | (go_at_call 187; (with_reducible refine (hPt _).mono ?_); rintro e w6 ⟨rfl, hb6⟩))
          go_returns
          exact ⟨by rw [hr.out]; rfl, hb45.trans (hb6.mono hb45.size)⟩
        | true =>
          have hv : fpV t = partZ t := by unfold fpV; rw [hot]; rfl
          have hpb := partZ_bd (okN_all (by unfold okT at hot; simp only [Bool.and_eq_true] at hot; exact hot.1))
          rw [hot, hv] at hPt
          rw [hz1] at hEnd
          clear hz1
          generalize partZ t = p at *
          clear hz0 hNo hok hn hot hv
          generalize (⟨H.toArray⟩ : ByteArray) = HB at *
          generalize (⟨t.toArray⟩ : ByteArray) = OB at *
          cases ng with
          | false =>
            have hE := hEnd (x + p) (by rw [hsg]; rfl)
            clear hEnd hsg
            rcases hE with ⟨hj, hr⟩ | ⟨hj, hi, hne, hr⟩ | ⟨hj, hi, hne, hr⟩
            · have hFt := fun w' => fits64_no (x + p) w' hj
              have HR := Lib.hid hr
              clear hr hj
              go_enter Tryz.func134, Tryz.ntmps134
              go_upto_region 11 with (first
                | (go_at_call 183; (with_reducible refine (hP _).mono ?_); rintro e w1 ⟨rfl, rfl⟩)
                | (go_at_call 184; (with_reducible refine (hC _).mono ?_); rintro e w2 ⟨rfl, hb2⟩)
                | (go_at_call 185; (with_reducible refine (hN _).mono ?_); rintro e w3 ⟨rfl, hb3⟩; have hb23 := hb2.trans (hb3.mono hb2.size))
                | (go_at_call 186; (with_reducible refine (hM _).mono ?_); rintro e w4 ⟨rfl, hb4⟩; have hb24 := hb23.trans (hb4.mono hb23.size); have hz4 := hb24.size; have k4 := Bk.new w4 243 #[.int .i64 0, .int .u64 0]; have hb5 := hb24.alloc hb24.size (.cells #[.int .i64 0, .int .u64 0] 243))
                | (refine stWd rfl _ _ rfl k4 rfl rfl rfl ?_; intro w5 k5 hg5 hs5; have hb45 := below_of_gb hb5 hg5 hz4 hb5.size)
                | (go_at_call 187; (with_reducible refine (hPt _).mono ?_); rintro e w6 ⟨rfl, hb6⟩; have k6 := k5.nx hb6; have hb46 := hb45.trans (hb6.mono hb45.size)))
              obtain ⟨a0, a1⟩ := k6.cell2
              have r0 := fun (n : Nat) (os : Array Obj) => cell_regrown a0 n os
              have r1 := fun (n : Nat) (os : Array Obj) => cell_regrown a1 n os
              have hO := fun (d : Nat) (os : Array Obj) => wof_any p (grow (redrawn w6 d) os) ⟨by omega, by omega⟩
              have hA := fun (d : Nat) (os : Array Obj) => wadd_any x p (grow (redrawn w6 d) os) ⟨by omega, by omega⟩ ⟨by omega, by omega⟩ ⟨by omega, by omega⟩
              clear a0 a1
              refine wp_region_quiet_late 5 6 (by kernel_rfl) (by kernel_rfl) ?_
              simp only [List.take_succ_cons, List.take_zero]
              repeat (first
                | go_big_quiet_step (first | with_reducible exact quiet_below (hO _ _) | with_reducible exact quiet_below (hA _ _))
                | quiet_step (first | with_reducible exact quiet_below (hO _ _) | with_reducible exact quiet_below (hA _ _)))
              refine wpQuiet_nil ?_
              intro _ hw'
              obtain ⟨⟨d9, os⟩, hw''⟩ := hw'
              subst hw''
              have hbx := below_regrown w6 d9 os
              generalize grow (redrawn w6 d9) os = wx at *
              have kx := k6.nx hbx
              have hbx4 := hb46.trans (hbx.mono hb46.size)
              clear r0 r1 hO hA
              show wpAny _ _ _ _ 3 _ _ _
              refine wpAny_ext (i := 5) _ _ _ _ _ rfl rfl rfl rfl rfl rfl (by kernel_rfl) (by kernel_rfl) (by kernel_rfl) (fun _ _ _ h => h) ?_
              refine wpAny_ext (i := 6) _ _ _ _ _ rfl rfl rfl rfl rfl rfl (by kernel_rfl) (by kernel_rfl) (by kernel_rfl) (fun _ _ _ h => h) ?_
              refine wpAny_tail 7 rfl (by kernel_rfl) ?_
              simp only [Act.put, List.setIfInBounds_toArray, List.set_cons_zero, List.set_cons_succ, List.drop_succ_cons, List.drop_zero, List.getElem_toArray, List.getElem_cons_succ, List.getElem_cons_zero]
              go_wp2_with (first
                | (refine stWd rfl _ _ rfl kx rfl rfl rfl ?_; intro wy ky hgy hsy; have hby := below_of_gb hbx4 hgy hz4 hbx4.size)
                | (refine ldWd rfl _ rfl ky rfl ?_)
                | (go_at_call 191; (with_reducible refine (hFt _).mono ?_); rintro e w9 ⟨rfl, hb9⟩; have hb49 := hby.trans (hb9.mono hby.size))
                | (go_at_call 192; (refine (hSh _ (htab.nx hb49)).mono ?_); rintro e wa ⟨rfl, hba⟩; have hb4a := hb49.trans (hba.mono hb49.size)))
              go_returns
              exact ⟨by rw [HR.out]; rfl, hb49⟩
            · have hFt := fun w' => fits64_yes (x + p) w' hj
              have hSh : ∀ w', TenT w' → Calls Tryz.prog 192 #[.int .i64 (x + p)] w' fun e w'' => e = .returned (.string ⟨(showL (x + p)).toArray⟩) ∧ RowKit.Below w'.heap.size w' w'' := fun w' ht => fshow_any (x + p) hi w' ht
              have hcmp := str_eqB (showL (x + p)) s
              rw [HSL.out, decide_eq_false (by exact hne)] at hcmp
              generalize (⟨(showL (x + p)).toArray⟩ : ByteArray) = SB at *
              have HR := Lib.hid hr
              clear hr hj hi hne
              go_enter Tryz.func134, Tryz.ntmps134
              go_upto_region 11 with (first
                | (go_at_call 183; (with_reducible refine (hP _).mono ?_); rintro e w1 ⟨rfl, rfl⟩)
                | (go_at_call 184; (with_reducible refine (hC _).mono ?_); rintro e w2 ⟨rfl, hb2⟩)
                | (go_at_call 185; (with_reducible refine (hN _).mono ?_); rintro e w3 ⟨rfl, hb3⟩; have hb23 := hb2.trans (hb3.mono hb2.size))
                | (go_at_call 186; (with_reducible refine (hM _).mono ?_); rintro e w4 ⟨rfl, hb4⟩; have hb24 := hb23.trans (hb4.mono hb23.size); have hz4 := hb24.size; have k4 := Bk.new w4 243 #[.int .i64 0, .int .u64 0]; have hb5 := hb24.alloc hb24.size (.cells #[.int .i64 0, .int .u64 0] 243))
                | (refine stWd rfl _ _ rfl k4 rfl rfl rfl ?_; intro w5 k5 hg5 hs5; have hb45 := below_of_gb hb5 hg5 hz4 hb5.size)
                | (go_at_call 187; (with_reducible refine (hPt _).mono ?_); rintro e w6 ⟨rfl, hb6⟩; have k6 := k5.nx hb6; have hb46 := hb45.trans (hb6.mono hb45.size)))
              obtain ⟨a0, a1⟩ := k6.cell2
              have r0 := fun (n : Nat) (os : Array Obj) => cell_regrown a0 n os
              have r1 := fun (n : Nat) (os : Array Obj) => cell_regrown a1 n os
              have hO := fun (d : Nat) (os : Array Obj) => wof_any p (grow (redrawn w6 d) os) ⟨by omega, by omega⟩
              have hA := fun (d : Nat) (os : Array Obj) => wadd_any x p (grow (redrawn w6 d) os) ⟨by omega, by omega⟩ ⟨by omega, by omega⟩ ⟨by omega, by omega⟩
              clear a0 a1
              refine wp_region_quiet_late 5 6 (by kernel_rfl) (by kernel_rfl) ?_
              simp only [List.take_succ_cons, List.take_zero]
              repeat (first
                | go_big_quiet_step (first | with_reducible exact quiet_below (hO _ _) | with_reducible exact quiet_below (hA _ _))
                | quiet_step (first | with_reducible exact quiet_below (hO _ _) | with_reducible exact quiet_below (hA _ _)))
              refine wpQuiet_nil ?_
              intro _ hw'
              obtain ⟨⟨d9, os⟩, hw''⟩ := hw'
              subst hw''
              have hbx := below_regrown w6 d9 os
              generalize grow (redrawn w6 d9) os = wx at *
              have kx := k6.nx hbx
              have hbx4 := hb46.trans (hbx.mono hb46.size)
              clear r0 r1 hO hA
              show wpAny _ _ _ _ 3 _ _ _
              refine wpAny_ext (i := 5) _ _ _ _ _ rfl rfl rfl rfl rfl rfl (by kernel_rfl) (by kernel_rfl) (by kernel_rfl) (fun _ _ _ h => h) ?_
              refine wpAny_ext (i := 6) _ _ _ _ _ rfl rfl rfl rfl rfl rfl (by kernel_rfl) (by kernel_rfl) (by kernel_rfl) (fun _ _ _ h => h) ?_
              refine wpAny_tail 7 rfl (by kernel_rfl) ?_
              simp only [Act.put, List.setIfInBounds_toArray, List.set_cons_zero, List.set_cons_succ, List.drop_succ_cons, List.drop_zero, List.getElem_toArray, List.getElem_cons_succ, List.getElem_cons_zero]
              go_wp2_with (first
                | (refine stWd rfl _ _ rfl kx rfl rfl rfl ?_; intro wy ky hgy hsy; have hby := below_of_gb hbx4 hgy hz4 hbx4.size)
                | (refine ldWd rfl _ rfl ky rfl ?_)
                | (go_at_call 191; (with_reducible refine (hFt _).mono ?_); rintro e w9 ⟨rfl, hb9⟩; have hb49 := hby.trans (hb9.mono hby.size))
                | (go_at_call 192; (refine (hSh _ (htab.nx hb49)).mono ?_); rintro e wa ⟨rfl, hba⟩; have hb4a := hb49.trans (hba.mono hb49.size)))
              go_returns
              exact ⟨by rw [HR.out]; rfl, hb4a⟩
            · have hFt := fun w' => fits64_yes (x + p) w' hj
              have hSh : ∀ w', TenT w' → Calls Tryz.prog 192 #[.int .i64 (x + p)] w' fun e w'' => e = .returned (.string ⟨(showL (x + p)).toArray⟩) ∧ RowKit.Below w'.heap.size w' w'' := fun w' ht => fshow_any (x + p) hi w' ht
              have hcmp := str_eqB (showL (x + p)) s
              rw [HSL.out, decide_eq_true (by exact hne)] at hcmp
              generalize (⟨(showL (x + p)).toArray⟩ : ByteArray) = SB at *
              have HR := Lib.hid hr
              clear hr hj hi hne
              go_enter Tryz.func134, Tryz.ntmps134
              go_upto_region 11 with (first
                | (go_at_call 183; (with_reducible refine (hP _).mono ?_); rintro e w1 ⟨rfl, rfl⟩)
                | (go_at_call 184; (with_reducible refine (hC _).mono ?_); rintro e w2 ⟨rfl, hb2⟩)
                | (go_at_call 185; (with_reducible refine (hN _).mono ?_); rintro e w3 ⟨rfl, hb3⟩; have hb23 := hb2.trans (hb3.mono hb2.size))
                | (go_at_call 186; (with_reducible refine (hM _).mono ?_); rintro e w4 ⟨rfl, hb4⟩; have hb24 := hb23.trans (hb4.mono hb23.size); have hz4 := hb24.size; have k4 := Bk.new w4 243 #[.int .i64 0, .int .u64 0]; have hb5 := hb24.alloc hb24.size (.cells #[.int .i64 0, .int .u64 0] 243))
                | (refine stWd rfl _ _ rfl k4 rfl rfl rfl ?_; intro w5 k5 hg5 hs5; have hb45 := below_of_gb hb5 hg5 hz4 hb5.size)
                | (go_at_call 187; (with_reducible refine (hPt _).mono ?_); rintro e w6 ⟨rfl, hb6⟩; have k6 := k5.nx hb6; have hb46 := hb45.trans (hb6.mono hb45.size)))
              obtain ⟨a0, a1⟩ := k6.cell2
              have r0 := fun (n : Nat) (os : Array Obj) => cell_regrown a0 n os
              have r1 := fun (n : Nat) (os : Array Obj) => cell_regrown a1 n os
              have hO := fun (d : Nat) (os : Array Obj) => wof_any p (grow (redrawn w6 d) os) ⟨by omega, by omega⟩
              have hA := fun (d : Nat) (os : Array Obj) => wadd_any x p (grow (redrawn w6 d) os) ⟨by omega, by omega⟩ ⟨by omega, by omega⟩ ⟨by omega, by omega⟩
              clear a0 a1
              refine wp_region_quiet_late 5 6 (by kernel_rfl) (by kernel_rfl) ?_
              simp only [List.take_succ_cons, List.take_zero]
              repeat (first
                | go_big_quiet_step (first | with_reducible exact quiet_below (hO _ _) | with_reducible exact quiet_below (hA _ _))
                | quiet_step (first | with_reducible exact quiet_below (hO _ _) | with_reducible exact quiet_below (hA _ _)))
              refine wpQuiet_nil ?_
              intro _ hw'
              obtain ⟨⟨d9, os⟩, hw''⟩ := hw'
              subst hw''
              have hbx := below_regrown w6 d9 os
              generalize grow (redrawn w6 d9) os = wx at *
              have kx := k6.nx hbx
              have hbx4 := hb46.trans (hbx.mono hb46.size)
              clear r0 r1 hO hA
              show wpAny _ _ _ _ 3 _ _ _
              refine wpAny_ext (i := 5) _ _ _ _ _ rfl rfl rfl rfl rfl rfl (by kernel_rfl) (by kernel_rfl) (by kernel_rfl) (fun _ _ _ h => h) ?_
              refine wpAny_ext (i := 6) _ _ _ _ _ rfl rfl rfl rfl rfl rfl (by kernel_rfl) (by kernel_rfl) (by kernel_rfl) (fun _ _ _ h => h) ?_
              refine wpAny_tail 7 rfl (by kernel_rfl) ?_
              simp only [Act.put, List.setIfInBounds_toArray, List.set_cons_zero, List.set_cons_succ, List.drop_succ_cons, List.drop_zero, List.getElem_toArray, List.getElem_cons_succ, List.getElem_cons_zero]
              go_wp2_with (first
                | (refine stWd rfl _ _ rfl kx rfl rfl rfl ?_; intro wy ky hgy hsy; have hby := below_of_gb hbx4 hgy hz4 hbx4.size)
                | (refine ldWd rfl _ rfl ky rfl ?_)
                | (go_at_call 191; (with_reducible refine (hFt _).mono ?_); rintro e w9 ⟨rfl, hb9⟩; have hb49 := hby.trans (hb9.mono hby.size))
                | (go_at_call 192; (refine (hSh _ (htab.nx hb49)).mono ?_); rintro e wa ⟨rfl, hba⟩; have hb4a := hb49.trans (hba.mono hb49.size)))
              go_returns
              exact ⟨by rw [HR.out]; rfl, hb4a⟩
          | true =>
            have hE := hEnd (-(x + p)) (by rw [hsg]; rfl)
            have hNg := fun w' => wneg_any (x + p) w' ⟨by omega, by omega⟩ ⟨by omega, by omega⟩
            clear hEnd hsg
            rcases hE with ⟨hj, hr⟩ | ⟨hj, hi, hne, hr⟩ | ⟨hj, hi, hne, hr⟩
            · have hFt := fun w' => fits64_no (-(x + p)) w' hj
              have HR := Lib.hid hr
              clear hr hj
              obtain ⟨y, hy⟩ : ∃ y, -(x + p) = y := ⟨_, rfl⟩
              rw [hy] at hFt hNg
              have HY := Lib.hid hy
              clear hy
              go_enter Tryz.func134, Tryz.ntmps134
              go_upto_region 11 with (first
                | (go_at_call 183; (with_reducible refine (hP _).mono ?_); rintro e w1 ⟨rfl, rfl⟩)
                | (go_at_call 184; (with_reducible refine (hC _).mono ?_); rintro e w2 ⟨rfl, hb2⟩)
                | (go_at_call 185; (with_reducible refine (hN _).mono ?_); rintro e w3 ⟨rfl, hb3⟩; have hb23 := hb2.trans (hb3.mono hb2.size))
                | (go_at_call 186; (with_reducible refine (hM _).mono ?_); rintro e w4 ⟨rfl, hb4⟩; have hb24 := hb23.trans (hb4.mono hb23.size); have hz4 := hb24.size; have k4 := Bk.new w4 243 #[.int .i64 0, .int .u64 0]; have hb5 := hb24.alloc hb24.size (.cells #[.int .i64 0, .int .u64 0] 243))
                | (refine stWd rfl _ _ rfl k4 rfl rfl rfl ?_; intro w5 k5 hg5 hs5; have hb45 := below_of_gb hb5 hg5 hz4 hb5.size)
                | (go_at_call 187; (with_reducible refine (hPt _).mono ?_); rintro e w6 ⟨rfl, hb6⟩; have k6 := k5.nx hb6; have hb46 := hb45.trans (hb6.mono hb45.size)))
              obtain ⟨a0, a1⟩ := k6.cell2
              have r0 := fun (n : Nat) (os : Array Obj) => cell_regrown a0 n os
              have r1 := fun (n : Nat) (os : Array Obj) => cell_regrown a1 n os
              have hO := fun (d : Nat) (os : Array Obj) => wof_any p (grow (redrawn w6 d) os) ⟨by omega, by omega⟩
              have hA := fun (d : Nat) (os : Array Obj) => wadd_any x p (grow (redrawn w6 d) os) ⟨by omega, by omega⟩ ⟨by omega, by omega⟩ ⟨by omega, by omega⟩
              clear a0 a1
              refine wp_region_quiet_late 5 6 (by kernel_rfl) (by kernel_rfl) ?_
              simp only [List.take_succ_cons, List.take_zero]
              repeat (first
                | go_big_quiet_step (first | with_reducible exact quiet_below (hO _ _) | with_reducible exact quiet_below (hA _ _))
                | quiet_step (first | with_reducible exact quiet_below (hO _ _) | with_reducible exact quiet_below (hA _ _)))
              refine wpQuiet_nil ?_
              intro _ hw'
              obtain ⟨⟨d9, os⟩, hw''⟩ := hw'
              subst hw''
              have hbx := below_regrown w6 d9 os
              generalize grow (redrawn w6 d9) os = wx at *
              have kx := k6.nx hbx
              have hbx4 := hb46.trans (hbx.mono hb46.size)
              clear r0 r1 hO hA
              show wpAny _ _ _ _ 3 _ _ _
              refine wpAny_ext (i := 5) _ _ _ _ _ rfl rfl rfl rfl rfl rfl (by kernel_rfl) (by kernel_rfl) (by kernel_rfl) (fun _ _ _ h => h) ?_
              refine wpAny_ext (i := 6) _ _ _ _ _ rfl rfl rfl rfl rfl rfl (by kernel_rfl) (by kernel_rfl) (by kernel_rfl) (fun _ _ _ h => h) ?_
              refine wpAny_tail 7 rfl (by kernel_rfl) ?_
              simp only [Act.put, List.setIfInBounds_toArray, List.set_cons_zero, List.set_cons_succ, List.drop_succ_cons, List.drop_zero, List.getElem_toArray, List.getElem_cons_succ, List.getElem_cons_zero]
              go_wp2_with (first
                | (refine stWd rfl _ _ rfl kx rfl rfl rfl ?_; intro wy ky hgy hsy; have hby := below_of_gb hbx4 hgy hz4 hbx4.size)
                | (refine ldWd rfl _ rfl ky rfl ?_)
                | (go_at_call 190; (with_reducible refine (hNg _).mono ?_); rintro e w7 ⟨rfl, hb7⟩; have k7 := ky.nx hb7; have hb47 := hby.trans (hb7.mono hby.size))
                | (refine stWd rfl _ _ rfl k7 rfl rfl rfl ?_; intro w8 k8 hg8 hs8; have hb48 := below_of_gb hb47 hg8 hz4 hb47.size)
                | (refine ldWd rfl _ rfl k8 rfl ?_)
                | (go_at_call 191; (with_reducible refine (hFt _).mono ?_); rintro e w9 ⟨rfl, hb9⟩; have hb49 := hb48.trans (hb9.mono hb48.size))
                | (go_at_call 192; (refine (hSh _ (htab.nx hb49)).mono ?_); rintro e wa ⟨rfl, hba⟩; have hb4a := hb49.trans (hba.mono hb49.size)))
              go_returns
              exact ⟨by rw [HR.out]; rfl, hb49⟩
            · have hFt := fun w' => fits64_yes (-(x + p)) w' hj
              have hSh : ∀ w', TenT w' → Calls Tryz.prog 192 #[.int .i64 (-(x + p))] w' fun e w'' => e = .returned (.string ⟨(showL (-(x + p))).toArray⟩) ∧ RowKit.Below w'.heap.size w' w'' := fun w' ht => fshow_any (-(x + p)) hi w' ht
              have hcmp := str_eqB (showL (-(x + p))) s
              rw [HSL.out, decide_eq_false (by exact hne)] at hcmp
              generalize (⟨(showL (-(x + p))).toArray⟩ : ByteArray) = SB at *
              have HR := Lib.hid hr
              clear hr hj hi hne
              obtain ⟨y, hy⟩ : ∃ y, -(x + p) = y := ⟨_, rfl⟩
              rw [hy] at hFt hNg hSh
              have HY := Lib.hid hy
              clear hy
              go_enter Tryz.func134, Tryz.ntmps134
              go_upto_region 11 with (first
                | (go_at_call 183; (with_reducible refine (hP _).mono ?_); rintro e w1 ⟨rfl, rfl⟩)
                | (go_at_call 184; (with_reducible refine (hC _).mono ?_); rintro e w2 ⟨rfl, hb2⟩)
                | (go_at_call 185; (with_reducible refine (hN _).mono ?_); rintro e w3 ⟨rfl, hb3⟩; have hb23 := hb2.trans (hb3.mono hb2.size))
                | (go_at_call 186; (with_reducible refine (hM _).mono ?_); rintro e w4 ⟨rfl, hb4⟩; have hb24 := hb23.trans (hb4.mono hb23.size); have hz4 := hb24.size; have k4 := Bk.new w4 243 #[.int .i64 0, .int .u64 0]; have hb5 := hb24.alloc hb24.size (.cells #[.int .i64 0, .int .u64 0] 243))
                | (refine stWd rfl _ _ rfl k4 rfl rfl rfl ?_; intro w5 k5 hg5 hs5; have hb45 := below_of_gb hb5 hg5 hz4 hb5.size)
                | (go_at_call 187; (with_reducible refine (hPt _).mono ?_); rintro e w6 ⟨rfl, hb6⟩; have k6 := k5.nx hb6; have hb46 := hb45.trans (hb6.mono hb45.size)))
              obtain ⟨a0, a1⟩ := k6.cell2
              have r0 := fun (n : Nat) (os : Array Obj) => cell_regrown a0 n os
              have r1 := fun (n : Nat) (os : Array Obj) => cell_regrown a1 n os
              have hO := fun (d : Nat) (os : Array Obj) => wof_any p (grow (redrawn w6 d) os) ⟨by omega, by omega⟩
              have hA := fun (d : Nat) (os : Array Obj) => wadd_any x p (grow (redrawn w6 d) os) ⟨by omega, by omega⟩ ⟨by omega, by omega⟩ ⟨by omega, by omega⟩
              clear a0 a1
              refine wp_region_quiet_late 5 6 (by kernel_rfl) (by kernel_rfl) ?_
              simp only [List.take_succ_cons, List.take_zero]
              repeat (first
                | go_big_quiet_step (first | with_reducible exact quiet_below (hO _ _) | with_reducible exact quiet_below (hA _ _))
                | quiet_step (first | with_reducible exact quiet_below (hO _ _) | with_reducible exact quiet_below (hA _ _)))
              refine wpQuiet_nil ?_
              intro _ hw'
              obtain ⟨⟨d9, os⟩, hw''⟩ := hw'
              subst hw''
              have hbx := below_regrown w6 d9 os
              generalize grow (redrawn w6 d9) os = wx at *
              have kx := k6.nx hbx
              have hbx4 := hb46.trans (hbx.mono hb46.size)
              clear r0 r1 hO hA
              show wpAny _ _ _ _ 3 _ _ _
              refine wpAny_ext (i := 5) _ _ _ _ _ rfl rfl rfl rfl rfl rfl (by kernel_rfl) (by kernel_rfl) (by kernel_rfl) (fun _ _ _ h => h) ?_
              refine wpAny_ext (i := 6) _ _ _ _ _ rfl rfl rfl rfl rfl rfl (by kernel_rfl) (by kernel_rfl) (by kernel_rfl) (fun _ _ _ h => h) ?_
              refine wpAny_tail 7 rfl (by kernel_rfl) ?_
              simp only [Act.put, List.setIfInBounds_toArray, List.set_cons_zero, List.set_cons_succ, List.drop_succ_cons, List.drop_zero, List.getElem_toArray, List.getElem_cons_succ, List.getElem_cons_zero]
              go_wp2_with (first
                | (refine stWd rfl _ _ rfl kx rfl rfl rfl ?_; intro wy ky hgy hsy; have hby := below_of_gb hbx4 hgy hz4 hbx4.size)
                | (refine ldWd rfl _ rfl ky rfl ?_)
                | (go_at_call 190; (with_reducible refine (hNg _).mono ?_); rintro e w7 ⟨rfl, hb7⟩; have k7 := ky.nx hb7; have hb47 := hby.trans (hb7.mono hby.size))
                | (refine stWd rfl _ _ rfl k7 rfl rfl rfl ?_; intro w8 k8 hg8 hs8; have hb48 := below_of_gb hb47 hg8 hz4 hb47.size)
                | (refine ldWd rfl _ rfl k8 rfl ?_)
                | (go_at_call 191; (with_reducible refine (hFt _).mono ?_); rintro e w9 ⟨rfl, hb9⟩; have hb49 := hb48.trans (hb9.mono hb48.size))
                | (go_at_call 192; (refine (hSh _ (htab.nx hb49)).mono ?_); rintro e wa ⟨rfl, hba⟩; have hb4a := hb49.trans (hba.mono hb49.size)))
              go_returns
              exact ⟨by rw [HR.out]; rfl, hb4a⟩
            · have hFt := fun w' => fits64_yes (-(x + p)) w' hj
              have hSh : ∀ w', TenT w' → Calls Tryz.prog 192 #[.int .i64 (-(x + p))] w' fun e w'' => e = .returned (.string ⟨(showL (-(x + p))).toArray⟩) ∧ RowKit.Below w'.heap.size w' w'' := fun w' ht => fshow_any (-(x + p)) hi w' ht
              have hcmp := str_eqB (showL (-(x + p))) s
              rw [HSL.out, decide_eq_true (by exact hne)] at hcmp
              generalize (⟨(showL (-(x + p))).toArray⟩ : ByteArray) = SB at *
              have HR := Lib.hid hr
              clear hr hj hi hne
              obtain ⟨y, hy⟩ : ∃ y, -(x + p) = y := ⟨_, rfl⟩
              rw [hy] at hFt hNg hSh
              have HY := Lib.hid hy
              clear hy
              go_enter Tryz.func134, Tryz.ntmps134
              go_upto_region 11 with (first
                | (go_at_call 183; (with_reducible refine (hP _).mono ?_); rintro e w1 ⟨rfl, rfl⟩)
                | (go_at_call 184; (with_reducible refine (hC _).mono ?_); rintro e w2 ⟨rfl, hb2⟩)
                | (go_at_call 185; (with_reducible refine (hN _).mono ?_); rintro e w3 ⟨rfl, hb3⟩; have hb23 := hb2.trans (hb3.mono hb2.size))
                | (go_at_call 186; (with_reducible refine (hM _).mono ?_); rintro e w4 ⟨rfl, hb4⟩; have hb24 := hb23.trans (hb4.mono hb23.size); have hz4 := hb24.size; have k4 := Bk.new w4 243 #[.int .i64 0, .int .u64 0]; have hb5 := hb24.alloc hb24.size (.cells #[.int .i64 0, .int .u64 0] 243))
                | (refine stWd rfl _ _ rfl k4 rfl rfl rfl ?_; intro w5 k5 hg5 hs5; have hb45 := below_of_gb hb5 hg5 hz4 hb5.size)
                | (go_at_call 187; (with_reducible refine (hPt _).mono ?_); rintro e w6 ⟨rfl, hb6⟩; have k6 := k5.nx hb6; have hb46 := hb45.trans (hb6.mono hb45.size)))
              obtain ⟨a0, a1⟩ := k6.cell2
              have r0 := fun (n : Nat) (os : Array Obj) => cell_regrown a0 n os
              have r1 := fun (n : Nat) (os : Array Obj) => cell_regrown a1 n os
              have hO := fun (d : Nat) (os : Array Obj) => wof_any p (grow (redrawn w6 d) os) ⟨by omega, by omega⟩
              have hA := fun (d : Nat) (os : Array Obj) => wadd_any x p (grow (redrawn w6 d) os) ⟨by omega, by omega⟩ ⟨by omega, by omega⟩ ⟨by omega, by omega⟩
              clear a0 a1
              refine wp_region_quiet_late 5 6 (by kernel_rfl) (by kernel_rfl) ?_
              simp only [List.take_succ_cons, List.take_zero]
              repeat (first
                | go_big_quiet_step (first | with_reducible exact quiet_below (hO _ _) | with_reducible exact quiet_below (hA _ _))
                | quiet_step (first | with_reducible exact quiet_below (hO _ _) | with_reducible exact quiet_below (hA _ _)))
              refine wpQuiet_nil ?_
              intro _ hw'
              obtain ⟨⟨d9, os⟩, hw''⟩ := hw'
              subst hw''
              have hbx := below_regrown w6 d9 os
              generalize grow (redrawn w6 d9) os = wx at *
              have kx := k6.nx hbx
              have hbx4 := hb46.trans (hbx.mono hb46.size)
              clear r0 r1 hO hA
              show wpAny _ _ _ _ 3 _ _ _
              refine wpAny_ext (i := 5) _ _ _ _ _ rfl rfl rfl rfl rfl rfl (by kernel_rfl) (by kernel_rfl) (by kernel_rfl) (fun _ _ _ h => h) ?_
              refine wpAny_ext (i := 6) _ _ _ _ _ rfl rfl rfl rfl rfl rfl (by kernel_rfl) (by kernel_rfl) (by kernel_rfl) (fun _ _ _ h => h) ?_
              refine wpAny_tail 7 rfl (by kernel_rfl) ?_
              simp only [Act.put, List.setIfInBounds_toArray, List.set_cons_zero, List.set_cons_succ, List.drop_succ_cons, List.drop_zero, List.getElem_toArray, List.getElem_cons_succ, List.getElem_cons_zero]
              go_wp2_with (first
                | (refine stWd rfl _ _ rfl kx rfl rfl rfl ?_; intro wy ky hgy hsy; have hby := below_of_gb hbx4 hgy hz4 hbx4.size)
                | (refine ldWd rfl _ rfl ky rfl ?_)
                | (go_at_call 190; (with_reducible refine (hNg _).mono ?_); rintro e w7 ⟨rfl, hb7⟩; have k7 := ky.nx hb7; have hb47 := hby.trans (hb7.mono hby.size))
                | (refine stWd rfl _ _ rfl k7 rfl rfl rfl ?_; intro w8 k8 hg8 hs8; have hb48 := below_of_gb hb47 hg8 hz4 hb47.size)
                | (refine ldWd rfl _ rfl k8 rfl ?_)
                | (go_at_call 191; (with_reducible refine (hFt _).mono ?_); rintro e w9 ⟨rfl, hb9⟩; have hb49 := hb48.trans (hb9.mono hb48.size))
                | (go_at_call 192; (refine (hSh _ (htab.nx hb49)).mono ?_); rintro e wa ⟨rfl, hba⟩; have hb4a := hb49.trans (hba.mono hb49.size)))
              go_returns
              exact ⟨by rw [HR.out]; show _ = Ending.returned (.tuple #[.int .i64 (-(x + p)), .bool true]); rw [HY.out]; rfl, hb4a⟩
end Go.Proofs.YtgohbkkeppknoaaGreatDoor
end
